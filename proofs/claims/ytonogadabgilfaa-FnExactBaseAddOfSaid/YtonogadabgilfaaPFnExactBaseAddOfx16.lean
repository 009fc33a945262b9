/- Laid by a program of this session (patch_print.py) out of the translation: plain functions and what the calls do. No condition. -/
import Derived.Test.YtonogadabgilfaaPFnExactBaseAddOfx0
import Derived.Test.YtonogadabgilfaaPFnExactBaseAddOfx7
import Derived.Test.YtonogadabgilfaaPFnExactBaseAddOfx9
import Derived.Test.YtonogadabgilfaaPFnExactBaseAddOfx14
import Derived.Test.YtonogadabgilfaaPFnExactBaseAddOfx15
namespace Go.Proofs.Ytonogadabgilfaa.PFnExactBaseAddOf
open Go.RowKit Go.Proofs.YtonogadabgilfaaW.PrintWords Go.Proofs.YtonogadabgilfaaW.PrintLast Go.Proofs.YtonogadabgilfaaW.PrintMore
attribute [local go_sem] max2_int min2_int max_two min_two max_three min_three max_four min_four   -- for this text's walks alone
set_option linter.unusedVariables false
set_option linter.unusedSimpArgs false

/-! ### impl_BaseAddOf: function 17 -/
def impl_BaseAddOf.f (k : Nat) (a0_0 : Int) (a0_1 : Int) (a0_2 : Int) (a0_3 : Int) (a0_4 : Int) (a0_5 : Int) (a0_6 : Int) (a0_7 : Int) (a0_8 : Int) (a0_9 : Int) (a0_10 : Int) (a0_11 : Int) (a0_12 : Int) (a0_13 : Int) (a0_14 : Int) (a0_15 : Int) (a0_16 : Int) (a0_17 : Int) (a0_18 : Int) : Option (Int × Bool × Int) := (impl_InstrOK.f k a0_0 a0_1 a0_2 a0_3 a0_4 a0_5 a0_6 a0_7 a0_8 a0_9 a0_10 a0_11 a0_12 a0_13 a0_14 a0_15 a0_16 a0_17 a0_18).bind fun t286 => (if t286 = true then ((impl_baseAddOf.f a0_0 a0_1 a0_2 a0_3 a0_4 a0_5 a0_6 a0_7 a0_8 a0_9 a0_10 a0_11 a0_12 a0_13 a0_14 a0_15 a0_16 a0_17 a0_18).bind fun bt287 => (some (bt287.1, bt287.2, 0))) else (some (0, false, 1)))
theorem impl_BaseAddOf.mono : ∀ a0 a1 a2 a3 a4 a5 a6 a7 a8 a9 a10 a11 a12 a13 a14 a15 a16 a17 a18 k, LeO (impl_BaseAddOf.f k a0 a1 a2 a3 a4 a5 a6 a7 a8 a9 a10 a11 a12 a13 a14 a15 a16 a17 a18) (impl_BaseAddOf.f (k + 1) a0 a1 a2 a3 a4 a5 a6 a7 a8 a9 a10 a11 a12 a13 a14 a15 a16 a17 a18) := by
 intro a0 a1 a2 a3 a4 a5 a6 a7 a8 a9 a10 a11 a12 a13 a14 a15 a16 a17 a18 k
 unfold impl_BaseAddOf.f
 repeat' first
   | (with_reducible exact impl_InstrOK.mono _ _ _ _ _ _ _ _ _ _ _ _ _ _ _ _ _ _ _ _)
   | (with_reducible exact LeO.refl _)
   | (with_reducible exact LeO.none _)
   | (with_reducible refine LeO.ite ?_ ?_)
   | (with_reducible refine LeO.bind ?_ (fun _ => ?_))
   | refine LeO.ite ?_ ?_
   | refine LeO.bind ?_ (fun _ => ?_)
set_option maxHeartbeats 8000000 in
set_option maxRecDepth 100000 in
theorem impl_BaseAddOf.calls (k : Nat) (a0_0 : Int) (a0_1 : Int) (a0_2 : Int) (a0_3 : Int) (a0_4 : Int) (a0_5 : Int) (a0_6 : Int) (a0_7 : Int) (a0_8 : Int) (a0_9 : Int) (a0_10 : Int) (a0_11 : Int) (a0_12 : Int) (a0_13 : Int) (a0_14 : Int) (a0_15 : Int) (a0_16 : Int) (a0_17 : Int) (a0_18 : Int) (r1 : Int) (r2 : Bool) (r3 : Int) (w : World) (HGL0 : PGlob w) (h : impl_BaseAddOf.f k a0_0 a0_1 a0_2 a0_3 a0_4 a0_5 a0_6 a0_7 a0_8 a0_9 a0_10 a0_11 a0_12 a0_13 a0_14 a0_15 a0_16 a0_17 a0_18 = some (r1, r2, r3)) :
  Calls Try.prog 17 #[.agg #[.int .i64 a0_0, .int .i64 a0_1, .int .i64 a0_2, .int .i64 a0_3, .int .i64 a0_4, .int .i64 a0_5, .int .i64 a0_6, .int .i64 a0_7, .int .i64 a0_8, .int .i64 a0_9, .int .i64 a0_10, .int .i64 a0_11, .int .i64 a0_12, .int .i64 a0_13, .int .i64 a0_14, .int .i64 a0_15, .int .i64 a0_16, .int .i64 a0_17, .int .i64 a0_18]] w fun e w' => e = .returned (.tuple #[.int .i64 r1, .bool r2, .int .i64 r3]) ∧ Below w.heap.size w w' := by
 have HGL := Aside0.mk HGL0
 clear HGL0
 have hu30 := Try.underlying30
 have HB := Aside0.mk (Below.refl w.heap.size w)
 have H : ((impl_InstrOK.f k a0_0 a0_1 a0_2 a0_3 a0_4 a0_5 a0_6 a0_7 a0_8 a0_9 a0_10 a0_11 a0_12 a0_13 a0_14 a0_15 a0_16 a0_17 a0_18).bind fun t286 => (if t286 = true then ((impl_baseAddOf.f a0_0 a0_1 a0_2 a0_3 a0_4 a0_5 a0_6 a0_7 a0_8 a0_9 a0_10 a0_11 a0_12 a0_13 a0_14 a0_15 a0_16 a0_17 a0_18).bind fun bt287 => (some (bt287.1, bt287.2, 0))) else (some (0, false, 1)))) = some (r1, r2, r3) := h
 clear h
 replace H := Option.bind_eq_some_iff.mp H
 obtain ⟨t286, A20, H⟩ := H
 replace H : (if t286 = true then ((impl_baseAddOf.f a0_0 a0_1 a0_2 a0_3 a0_4 a0_5 a0_6 a0_7 a0_8 a0_9 a0_10 a0_11 a0_12 a0_13 a0_14 a0_15 a0_16 a0_17 a0_18).bind fun bt287 => (some (bt287.1, bt287.2, 0))) else (some (0, false, 1))) = some (r1, r2, r3) := H
 have A2 := Aside0.mk A20
 clear A20
 by_cases c3 : t286 = true
 ·subst c3
  have H1 : ((impl_baseAddOf.f a0_0 a0_1 a0_2 a0_3 a0_4 a0_5 a0_6 a0_7 a0_8 a0_9 a0_10 a0_11 a0_12 a0_13 a0_14 a0_15 a0_16 a0_17 a0_18).bind fun bt287 => (some (bt287.1, bt287.2, 0))) = some (r1, r2, r3) := by rw [if_pos rfl] at H; exact H
  clear H
  have H := H1
  clear H1
  replace H := Option.bind_eq_some_iff.mp H
  obtain ⟨⟨t287, t288⟩, A40, H⟩ := H
  replace H : (some (t287, t288, 0)) = some (r1, r2, r3) := H
  have A4 := Aside0.mk A40
  clear A40
  simp only [Option.some.injEq, Prod.mk.injEq] at H
  obtain ⟨rfl, rfl, rfl⟩ := H
  go_enter Try.func17, Try.ntmps17
  go_wp2_with (first | ((with_reducible refine gate_dst (N := 7) rfl ?_); (try refine gate_guard (by rfl) ?_); refine ldw 30 (.tmp 1) rfl rfl rfl by56 Try.underlying30 rfl by4 ?_) | ((with_reducible refine gate_dst (N := 11) rfl ?_); (try refine gate_guard (by rfl) ?_); refine ldw 30 (.tmp 1) rfl rfl rfl by56 Try.underlying30 rfl by4 ?_) | ((with_reducible refine gate_dst (N := 1) rfl ?_); refine bx30 (w := w) (N := 1) rfl rfl rfl rfl by0 ?_; intro gb285 w5 n0_ BK285 GW285 GE285; clear HB; have HB := n0_; clear n0_; obtain ⟨hcz6_0, hcz6_1, hcz6_2, hcz6_3, hcz6_4, hcz6_5, hcz6_6, hcz6_7, hcz6_8, hcz6_9, hcz6_10, hcz6_11, hcz6_12, hcz6_13, hcz6_14, hcz6_15, hcz6_16, hcz6_17, hcz6_18⟩ := cs19 BK285.out) | ((with_reducible refine gate_callee (f := 42) rfl ?_); refine goesL_ (some 8) rfl rfl Try.func42 by4 rfl #[.agg #[.int .i64 a0_0, .int .i64 a0_1, .int .i64 a0_2, .int .i64 a0_3, .int .i64 a0_4, .int .i64 a0_5, .int .i64 a0_6, .int .i64 a0_7, .int .i64 a0_8, .int .i64 a0_9, .int .i64 a0_10, .int .i64 a0_11, .int .i64 a0_12, .int .i64 a0_13, .int .i64 a0_14, .int .i64 a0_15, .int .i64 a0_16, .int .i64 a0_17, .int .i64 a0_18]] rfl by1 ?_; (with_reducible refine (impl_InstrOK.calls (HGL0 := by23) k a0_0 a0_1 a0_2 a0_3 a0_4 a0_5 a0_6 a0_7 a0_8 a0_9 a0_10 a0_11 a0_12 a0_13 a0_14 a0_15 a0_16 a0_17 a0_18 true _ A2.out).mono ?_); rintro e w7 ⟨rfl, hb⟩; refine ⟨_, rfl, ?_⟩; have n0_ := Aside0.mk (blk_below by56 hb); have n1_ := Aside0.mk (below_step by77 hb); clear BK285; clear HB; have BK285 := n0_; have HB := n1_; clear n0_ n1_; (try clear hb); (try clear hb2); (try clear hk); (try clear hi); obtain ⟨hcz8_0, hcz8_1, hcz8_2, hcz8_3, hcz8_4, hcz8_5, hcz8_6, hcz8_7, hcz8_8, hcz8_9, hcz8_10, hcz8_11, hcz8_12, hcz8_13, hcz8_14, hcz8_15, hcz8_16, hcz8_17, hcz8_18⟩ := cs19 BK285.out) | ((with_reducible refine gate_callee (f := 53) rfl ?_); refine goesL_ (some 12) rfl rfl Try.func53 by4 rfl _ rfl by1 (Calls.mono (impl_baseAddOf.calls _ _ _ _ _ _ _ _ _ _ _ _ _ _ _ _ _ _ _ _ _ _ A4.out) ?_); rintro e w9 ⟨rfl, hb⟩; refine ⟨_, rfl, ?_⟩; have n0_ := Aside0.mk (blk_below by56 hb); have n1_ := Aside0.mk (below_step by77 hb); clear BK285; clear HB; have BK285 := n0_; have HB := n1_; clear n0_ n1_; (try clear hb); (try clear hb2); (try clear hk); (try clear hi)))
  go_ret3
  exact ⟨by first | rfl | (simp [errW_none, errW_some] <;> rfl) | (simp [*, errW_none, errW_some] <;> rfl), by repeat (first | (with_reducible first | exact HB.out | apply below_alloc | apply pw_below_drewN | apply below_drew1 | refine below_set ?_ GE285.out) | exact HB.out)⟩
 ·replace c3 := Bool.eq_false_iff.mpr c3
  subst c3
  have H1 : (some (0, false, 1)) = some (r1, r2, r3) := by rw [if_neg (show ¬ (false = true) by decide)] at H; exact H
  clear H
  have H := H1
  clear H1
  simp only [Option.some.injEq, Prod.mk.injEq] at H
  obtain ⟨rfl, rfl, rfl⟩ := H
  go_enter Try.func17, Try.ntmps17
  go_wp2_with (first | ((with_reducible refine gate_dst (N := 7) rfl ?_); (try refine gate_guard (by rfl) ?_); refine ldw 30 (.tmp 1) rfl rfl rfl by56 Try.underlying30 rfl by4 ?_) | ((with_reducible refine gate_dst (N := 11) rfl ?_); (try refine gate_guard (by rfl) ?_); refine ldw 30 (.tmp 1) rfl rfl rfl by56 Try.underlying30 rfl by4 ?_) | ((with_reducible refine gate_dst (N := 1) rfl ?_); refine bx30 (w := w) (N := 1) rfl rfl rfl rfl by0 ?_; intro gb285 w10 n0_ BK285 GW285 GE285; clear HB; have HB := n0_; clear n0_; obtain ⟨hcz11_0, hcz11_1, hcz11_2, hcz11_3, hcz11_4, hcz11_5, hcz11_6, hcz11_7, hcz11_8, hcz11_9, hcz11_10, hcz11_11, hcz11_12, hcz11_13, hcz11_14, hcz11_15, hcz11_16, hcz11_17, hcz11_18⟩ := cs19 BK285.out) | ((with_reducible refine gate_callee (f := 42) rfl ?_); refine goesL_ (some 8) rfl rfl Try.func42 by4 rfl #[.agg #[.int .i64 a0_0, .int .i64 a0_1, .int .i64 a0_2, .int .i64 a0_3, .int .i64 a0_4, .int .i64 a0_5, .int .i64 a0_6, .int .i64 a0_7, .int .i64 a0_8, .int .i64 a0_9, .int .i64 a0_10, .int .i64 a0_11, .int .i64 a0_12, .int .i64 a0_13, .int .i64 a0_14, .int .i64 a0_15, .int .i64 a0_16, .int .i64 a0_17, .int .i64 a0_18]] rfl by1 ?_; (with_reducible refine (impl_InstrOK.calls (HGL0 := by23) k a0_0 a0_1 a0_2 a0_3 a0_4 a0_5 a0_6 a0_7 a0_8 a0_9 a0_10 a0_11 a0_12 a0_13 a0_14 a0_15 a0_16 a0_17 a0_18 false _ A2.out).mono ?_); rintro e w12 ⟨rfl, hb⟩; refine ⟨_, rfl, ?_⟩; have n0_ := Aside0.mk (blk_below by56 hb); have n1_ := Aside0.mk (below_step by77 hb); clear BK285; clear HB; have BK285 := n0_; have HB := n1_; clear n0_ n1_; (try clear hb); (try clear hb2); (try clear hk); (try clear hi)))
  go_ret3
  exact ⟨by first | rfl | (simp [errW_none, errW_some] <;> rfl) | (simp [*, errW_none, errW_some] <;> rfl), by repeat (first | (with_reducible first | exact HB.out | apply below_alloc | apply pw_below_drewN | apply below_drew1 | refine below_set ?_ GE285.out) | exact HB.out)⟩

/-! ### laws_FnExactBaseAddOf: function 3 -/
def laws_FnExactBaseAddOf.f (k : Nat) (a0_0 : Int) (a0_1 : Int) (a0_2 : Int) (a0_3 : Int) (a0_4 : Int) (a0_5 : Int) (a0_6 : Int) (a0_7 : Int) (a0_8 : Int) (a0_9 : Int) (a0_10 : Int) (a0_11 : Int) (a0_12 : Int) (a0_13 : Int) (a0_14 : Int) (a0_15 : Int) (a0_16 : Int) (a0_17 : Int) (a0_18 : Int) : Option (Bool) := (laws_toInstr.f a0_0 a0_1 a0_2 a0_3 a0_4 a0_5 a0_6 a0_7 a0_8 a0_9 a0_10 a0_11 a0_12 a0_13 a0_14 a0_15 a0_16 a0_17 a0_18).bind fun bt290 => ((spec_BaseAddOf.f k bt290.1 bt290.2.1 bt290.2.2.1 bt290.2.2.2.1 bt290.2.2.2.2.1 bt290.2.2.2.2.2.1 bt290.2.2.2.2.2.2.1 bt290.2.2.2.2.2.2.2.1 bt290.2.2.2.2.2.2.2.2.1 bt290.2.2.2.2.2.2.2.2.2.1 bt290.2.2.2.2.2.2.2.2.2.2.1 bt290.2.2.2.2.2.2.2.2.2.2.2.1 bt290.2.2.2.2.2.2.2.2.2.2.2.2.1 bt290.2.2.2.2.2.2.2.2.2.2.2.2.2.1 bt290.2.2.2.2.2.2.2.2.2.2.2.2.2.2.1 bt290.2.2.2.2.2.2.2.2.2.2.2.2.2.2.2.1 bt290.2.2.2.2.2.2.2.2.2.2.2.2.2.2.2.2.1 bt290.2.2.2.2.2.2.2.2.2.2.2.2.2.2.2.2.2.1 bt290.2.2.2.2.2.2.2.2.2.2.2.2.2.2.2.2.2.2).bind fun bt309 => ((laws_toInstr.f a0_0 a0_1 a0_2 a0_3 a0_4 a0_5 a0_6 a0_7 a0_8 a0_9 a0_10 a0_11 a0_12 a0_13 a0_14 a0_15 a0_16 a0_17 a0_18).bind fun bt312 => ((impl_BaseAddOf.f k bt312.1 bt312.2.1 bt312.2.2.1 bt312.2.2.2.1 bt312.2.2.2.2.1 bt312.2.2.2.2.2.1 bt312.2.2.2.2.2.2.1 bt312.2.2.2.2.2.2.2.1 bt312.2.2.2.2.2.2.2.2.1 bt312.2.2.2.2.2.2.2.2.2.1 bt312.2.2.2.2.2.2.2.2.2.2.1 bt312.2.2.2.2.2.2.2.2.2.2.2.1 bt312.2.2.2.2.2.2.2.2.2.2.2.2.1 bt312.2.2.2.2.2.2.2.2.2.2.2.2.2.1 bt312.2.2.2.2.2.2.2.2.2.2.2.2.2.2.1 bt312.2.2.2.2.2.2.2.2.2.2.2.2.2.2.2.1 bt312.2.2.2.2.2.2.2.2.2.2.2.2.2.2.2.2.1 bt312.2.2.2.2.2.2.2.2.2.2.2.2.2.2.2.2.2.1 bt312.2.2.2.2.2.2.2.2.2.2.2.2.2.2.2.2.2.2).bind fun bt331 => (if bt331.1 = bt309.1 then (if (bt331.2.1 != bt309.2.1) = true then (some false) else (if bt331.2.2 = bt309.2.2 then (some true) else (some false))) else (some false)))))
theorem laws_FnExactBaseAddOf.mono : ∀ a0 a1 a2 a3 a4 a5 a6 a7 a8 a9 a10 a11 a12 a13 a14 a15 a16 a17 a18 k, LeO (laws_FnExactBaseAddOf.f k a0 a1 a2 a3 a4 a5 a6 a7 a8 a9 a10 a11 a12 a13 a14 a15 a16 a17 a18) (laws_FnExactBaseAddOf.f (k + 1) a0 a1 a2 a3 a4 a5 a6 a7 a8 a9 a10 a11 a12 a13 a14 a15 a16 a17 a18) := by
 intro a0 a1 a2 a3 a4 a5 a6 a7 a8 a9 a10 a11 a12 a13 a14 a15 a16 a17 a18 k
 unfold laws_FnExactBaseAddOf.f
 repeat' first
   | (with_reducible exact impl_BaseAddOf.mono _ _ _ _ _ _ _ _ _ _ _ _ _ _ _ _ _ _ _ _)
   | (with_reducible exact spec_BaseAddOf.mono _ _ _ _ _ _ _ _ _ _ _ _ _ _ _ _ _ _ _ _)
   | (with_reducible exact LeO.refl _)
   | (with_reducible exact LeO.none _)
   | (with_reducible refine LeO.ite ?_ ?_)
   | (with_reducible refine LeO.bind ?_ (fun _ => ?_))
   | refine LeO.ite ?_ ?_
   | refine LeO.bind ?_ (fun _ => ?_)
theorem laws_FnExactBaseAddOf.e0 {p : Prop} (h : p := by
 obtain rfl := Option.some.inj H
 go_enter Try.func3, Try.ntmps3
 go_wp2_with (first | ((with_reducible refine gate_dst (N := 10) rfl ?_); (try refine gate_guard (by rfl) ?_); refine ldw 25 (.tmp 1) rfl rfl rfl by33 Try.underlying25 rfl by4 ?_) | ((with_reducible refine gate_dst (N := 17) rfl ?_); (try refine gate_guard (by rfl) ?_); refine ldw 25 (.tmp 1) rfl rfl rfl by33 Try.underlying25 rfl by4 ?_) | ((with_reducible refine gate_dst (N := 1) rfl ?_); refine bx25 (w := w) (N := 1) rfl rfl rfl rfl by0 ?_; intro gb_y0 w_y1 n_y2 BK289 GW_y3 GE_y4; clear HB; have HB := n_y2; clear n_y2; obtain ⟨hcz_y5, hcz_y6, hcz_y7, hcz_y8, hcz_y9, hcz_y10, hcz_y11, hcz_y12, hcz_y13, hcz_y14, hcz_y15, hcz_y16, hcz_y17, hcz_y18, hcz_y19, hcz_y20, hcz_y21, hcz_y22, hcz_y23⟩ := cs19 BK289.out) | ((with_reducible refine gate_callee (f := 16) rfl ?_); refine goesL_ (some 11) rfl rfl Try.func16 by4 rfl _ rfl by1 (Calls.mono (laws_toInstr.calls _ _ _ _ _ _ _ _ _ _ _ _ _ _ _ _ _ _ _ _ _ _ _ _ _ _ _ _ _ _ _ _ _ _ _ _ _ _ _ A2.out) ?_); rintro e w_y24 ⟨rfl, hb⟩; refine ⟨_, rfl, ?_⟩; have n_y2 := Aside0.mk (blk_below by33 hb); have n_y25 := Aside0.mk (below_step by36 hb); clear BK289; clear HB; have BK289 := n_y2; have HB := n_y25; clear n_y2 n_y25; (try clear hb); (try clear hb2); (try clear hk); (try clear hi)) | ((with_reducible refine gate_callee (f := 15) rfl ?_); refine goesL_ (some 12) rfl rfl Try.func15 by4 rfl _ rfl by1 (Calls.mono (spec_BaseAddOf.calls _ _ _ _ _ _ _ _ _ _ _ _ _ _ _ _ _ _ _ _ _ _ _ _ A3.out) ?_); rintro e w_y26 ⟨rfl, hb⟩; refine ⟨_, rfl, ?_⟩; have n_y2 := Aside0.mk (blk_below by33 hb); have n_y25 := Aside0.mk (below_step by36 hb); clear BK289; clear HB; have BK289 := n_y2; have HB := n_y25; clear n_y2 n_y25; (try clear hb); (try clear hb2); (try clear hk); (try clear hi); obtain ⟨hcz_y27, hcz_y28, hcz_y29, hcz_y30, hcz_y31, hcz_y32, hcz_y33, hcz_y34, hcz_y35, hcz_y36, hcz_y37, hcz_y38, hcz_y39, hcz_y40, hcz_y41, hcz_y42, hcz_y43, hcz_y44, hcz_y45⟩ := cs19 BK289.out) | ((with_reducible refine gate_callee (f := 16) rfl ?_); refine goesL_ (some 18) rfl rfl Try.func16 by4 rfl _ rfl by1 (Calls.mono (laws_toInstr.calls _ _ _ _ _ _ _ _ _ _ _ _ _ _ _ _ _ _ _ _ _ _ _ _ _ _ _ _ _ _ _ _ _ _ _ _ _ _ _ A4.out) ?_); rintro e w_y46 ⟨rfl, hb⟩; refine ⟨_, rfl, ?_⟩; have n_y2 := Aside0.mk (blk_below by33 hb); have n_y25 := Aside0.mk (below_step by36 hb); clear BK289; clear HB; have BK289 := n_y2; have HB := n_y25; clear n_y2 n_y25; (try clear hb); (try clear hb2); (try clear hk); (try clear hi)) | ((with_reducible refine gate_callee (f := 17) rfl ?_); refine goesL_ (some 19) rfl rfl Try.func17 by4 rfl #[.agg #[.int .i64 t312, .int .i64 t313, .int .i64 t314, .int .i64 t315, .int .i64 t316, .int .i64 t317, .int .i64 t318, .int .i64 t319, .int .i64 t320, .int .i64 t321, .int .i64 t322, .int .i64 t323, .int .i64 t324, .int .i64 t325, .int .i64 t326, .int .i64 t327, .int .i64 t328, .int .i64 t329, .int .i64 t330]] rfl by1 ?_; (with_reducible refine (impl_BaseAddOf.calls (HGL0 := by23) k t312 t313 t314 t315 t316 t317 t318 t319 t320 t321 t322 t323 t324 t325 t326 t327 t328 t329 t330 t331 t332 t333 _ A5.out).mono ?_); rintro e w_y47 ⟨rfl, hb⟩; refine ⟨_, rfl, ?_⟩; have n_y2 := Aside0.mk (blk_below by33 hb); have n_y25 := Aside0.mk (below_step by36 hb); clear BK289; clear HB; have BK289 := n_y2; have HB := n_y25; clear n_y2 n_y25; (try clear hb); (try clear hb2); (try clear hk); (try clear hi)))
 go_ret
 exact ⟨by first | rfl | (simp [errW_none, errW_some] <;> rfl) | (simp [*, errW_none, errW_some] <;> rfl), by repeat (first | (with_reducible first | exact HB.out | apply below_alloc | apply pw_below_drewN | apply below_drew1 | refine below_set ?_ GE_y4.out) | exact HB.out)⟩) : p := h
set_option maxHeartbeats 8000000 in
set_option maxRecDepth 100000 in
theorem laws_FnExactBaseAddOf.calls (k : Nat) (a0_0 : Int) (a0_1 : Int) (a0_2 : Int) (a0_3 : Int) (a0_4 : Int) (a0_5 : Int) (a0_6 : Int) (a0_7 : Int) (a0_8 : Int) (a0_9 : Int) (a0_10 : Int) (a0_11 : Int) (a0_12 : Int) (a0_13 : Int) (a0_14 : Int) (a0_15 : Int) (a0_16 : Int) (a0_17 : Int) (a0_18 : Int) (r : Bool) (w : World) (HGL0 : PGlob w) (h : laws_FnExactBaseAddOf.f k a0_0 a0_1 a0_2 a0_3 a0_4 a0_5 a0_6 a0_7 a0_8 a0_9 a0_10 a0_11 a0_12 a0_13 a0_14 a0_15 a0_16 a0_17 a0_18 = some r) :
  Calls Try.prog 3 #[.agg #[.int .i64 a0_0, .int .i64 a0_1, .int .i64 a0_2, .int .i64 a0_3, .int .i64 a0_4, .int .i64 a0_5, .int .i64 a0_6, .int .i64 a0_7, .int .i64 a0_8, .int .i64 a0_9, .int .i64 a0_10, .int .i64 a0_11, .int .i64 a0_12, .int .i64 a0_13, .int .i64 a0_14, .int .i64 a0_15, .int .i64 a0_16, .int .i64 a0_17, .int .i64 a0_18]] w fun e w' => e = .returned (.bool r) ∧ Below w.heap.size w w' := by
 have HGL := Aside0.mk HGL0
 clear HGL0
 have hu25 := Try.underlying25
 have HB := Aside0.mk (Below.refl w.heap.size w)
 have H : ((laws_toInstr.f a0_0 a0_1 a0_2 a0_3 a0_4 a0_5 a0_6 a0_7 a0_8 a0_9 a0_10 a0_11 a0_12 a0_13 a0_14 a0_15 a0_16 a0_17 a0_18).bind fun bt290 => ((spec_BaseAddOf.f k bt290.1 bt290.2.1 bt290.2.2.1 bt290.2.2.2.1 bt290.2.2.2.2.1 bt290.2.2.2.2.2.1 bt290.2.2.2.2.2.2.1 bt290.2.2.2.2.2.2.2.1 bt290.2.2.2.2.2.2.2.2.1 bt290.2.2.2.2.2.2.2.2.2.1 bt290.2.2.2.2.2.2.2.2.2.2.1 bt290.2.2.2.2.2.2.2.2.2.2.2.1 bt290.2.2.2.2.2.2.2.2.2.2.2.2.1 bt290.2.2.2.2.2.2.2.2.2.2.2.2.2.1 bt290.2.2.2.2.2.2.2.2.2.2.2.2.2.2.1 bt290.2.2.2.2.2.2.2.2.2.2.2.2.2.2.2.1 bt290.2.2.2.2.2.2.2.2.2.2.2.2.2.2.2.2.1 bt290.2.2.2.2.2.2.2.2.2.2.2.2.2.2.2.2.2.1 bt290.2.2.2.2.2.2.2.2.2.2.2.2.2.2.2.2.2.2).bind fun bt309 => ((laws_toInstr.f a0_0 a0_1 a0_2 a0_3 a0_4 a0_5 a0_6 a0_7 a0_8 a0_9 a0_10 a0_11 a0_12 a0_13 a0_14 a0_15 a0_16 a0_17 a0_18).bind fun bt312 => ((impl_BaseAddOf.f k bt312.1 bt312.2.1 bt312.2.2.1 bt312.2.2.2.1 bt312.2.2.2.2.1 bt312.2.2.2.2.2.1 bt312.2.2.2.2.2.2.1 bt312.2.2.2.2.2.2.2.1 bt312.2.2.2.2.2.2.2.2.1 bt312.2.2.2.2.2.2.2.2.2.1 bt312.2.2.2.2.2.2.2.2.2.2.1 bt312.2.2.2.2.2.2.2.2.2.2.2.1 bt312.2.2.2.2.2.2.2.2.2.2.2.2.1 bt312.2.2.2.2.2.2.2.2.2.2.2.2.2.1 bt312.2.2.2.2.2.2.2.2.2.2.2.2.2.2.1 bt312.2.2.2.2.2.2.2.2.2.2.2.2.2.2.2.1 bt312.2.2.2.2.2.2.2.2.2.2.2.2.2.2.2.2.1 bt312.2.2.2.2.2.2.2.2.2.2.2.2.2.2.2.2.2.1 bt312.2.2.2.2.2.2.2.2.2.2.2.2.2.2.2.2.2.2).bind fun bt331 => (if bt331.1 = bt309.1 then (if (bt331.2.1 != bt309.2.1) = true then (some false) else (if bt331.2.2 = bt309.2.2 then (some true) else (some false))) else (some false)))))) = some r := h
 clear h
 replace H := Option.bind_eq_some_iff.mp H
 obtain ⟨⟨t290, t291, t292, t293, t294, t295, t296, t297, t298, t299, t300, t301, t302, t303, t304, t305, t306, t307, t308⟩, A20, H⟩ := H
 replace H : ((spec_BaseAddOf.f k t290 t291 t292 t293 t294 t295 t296 t297 t298 t299 t300 t301 t302 t303 t304 t305 t306 t307 t308).bind fun bt309 => ((laws_toInstr.f a0_0 a0_1 a0_2 a0_3 a0_4 a0_5 a0_6 a0_7 a0_8 a0_9 a0_10 a0_11 a0_12 a0_13 a0_14 a0_15 a0_16 a0_17 a0_18).bind fun bt312 => ((impl_BaseAddOf.f k bt312.1 bt312.2.1 bt312.2.2.1 bt312.2.2.2.1 bt312.2.2.2.2.1 bt312.2.2.2.2.2.1 bt312.2.2.2.2.2.2.1 bt312.2.2.2.2.2.2.2.1 bt312.2.2.2.2.2.2.2.2.1 bt312.2.2.2.2.2.2.2.2.2.1 bt312.2.2.2.2.2.2.2.2.2.2.1 bt312.2.2.2.2.2.2.2.2.2.2.2.1 bt312.2.2.2.2.2.2.2.2.2.2.2.2.1 bt312.2.2.2.2.2.2.2.2.2.2.2.2.2.1 bt312.2.2.2.2.2.2.2.2.2.2.2.2.2.2.1 bt312.2.2.2.2.2.2.2.2.2.2.2.2.2.2.2.1 bt312.2.2.2.2.2.2.2.2.2.2.2.2.2.2.2.2.1 bt312.2.2.2.2.2.2.2.2.2.2.2.2.2.2.2.2.2.1 bt312.2.2.2.2.2.2.2.2.2.2.2.2.2.2.2.2.2.2).bind fun bt331 => (if bt331.1 = bt309.1 then (if (bt331.2.1 != bt309.2.1) = true then (some false) else (if bt331.2.2 = bt309.2.2 then (some true) else (some false))) else (some false))))) = some r := H
 have A2 := Aside0.mk A20
 clear A20
 replace H := Option.bind_eq_some_iff.mp H
 obtain ⟨⟨t309, t310, t311⟩, A30, H⟩ := H
 replace H : ((laws_toInstr.f a0_0 a0_1 a0_2 a0_3 a0_4 a0_5 a0_6 a0_7 a0_8 a0_9 a0_10 a0_11 a0_12 a0_13 a0_14 a0_15 a0_16 a0_17 a0_18).bind fun bt312 => ((impl_BaseAddOf.f k bt312.1 bt312.2.1 bt312.2.2.1 bt312.2.2.2.1 bt312.2.2.2.2.1 bt312.2.2.2.2.2.1 bt312.2.2.2.2.2.2.1 bt312.2.2.2.2.2.2.2.1 bt312.2.2.2.2.2.2.2.2.1 bt312.2.2.2.2.2.2.2.2.2.1 bt312.2.2.2.2.2.2.2.2.2.2.1 bt312.2.2.2.2.2.2.2.2.2.2.2.1 bt312.2.2.2.2.2.2.2.2.2.2.2.2.1 bt312.2.2.2.2.2.2.2.2.2.2.2.2.2.1 bt312.2.2.2.2.2.2.2.2.2.2.2.2.2.2.1 bt312.2.2.2.2.2.2.2.2.2.2.2.2.2.2.2.1 bt312.2.2.2.2.2.2.2.2.2.2.2.2.2.2.2.2.1 bt312.2.2.2.2.2.2.2.2.2.2.2.2.2.2.2.2.2.1 bt312.2.2.2.2.2.2.2.2.2.2.2.2.2.2.2.2.2.2).bind fun bt331 => (if bt331.1 = t309 then (if (bt331.2.1 != t310) = true then (some false) else (if bt331.2.2 = t311 then (some true) else (some false))) else (some false)))) = some r := H
 have A3 := Aside0.mk A30
 clear A30
 replace H := Option.bind_eq_some_iff.mp H
 obtain ⟨⟨t312, t313, t314, t315, t316, t317, t318, t319, t320, t321, t322, t323, t324, t325, t326, t327, t328, t329, t330⟩, A40, H⟩ := H
 replace H : ((impl_BaseAddOf.f k t312 t313 t314 t315 t316 t317 t318 t319 t320 t321 t322 t323 t324 t325 t326 t327 t328 t329 t330).bind fun bt331 => (if bt331.1 = t309 then (if (bt331.2.1 != t310) = true then (some false) else (if bt331.2.2 = t311 then (some true) else (some false))) else (some false))) = some r := H
 have A4 := Aside0.mk A40
 clear A40
 replace H := Option.bind_eq_some_iff.mp H
 obtain ⟨⟨t331, t332, t333⟩, A50, H⟩ := H
 replace H : (if t331 = t309 then (if (t332 != t310) = true then (some false) else (if t333 = t311 then (some true) else (some false))) else (some false)) = some r := H
 have A5 := Aside0.mk A50
 clear A50
 by_cases c6 : t331 = t309
 ·rw [if_pos c6] at H
  have c6b0 : (t331 == t309) = true := beq_iff_eq.mpr c6
  have c6b1 : (t331 != t309) = false := bne_eq_false_iff_eq.mpr c6
  clear c6
  by_cases c7 : (t332 != t310) = true
  ·rw [if_pos c7] at H
   have c7b0 : (t332 != t310) = true := c7
   (try (have c7b1 : decide (t332 = t310) = false := by simpa using c7))
   (try (have c7b2 : (t332 == t310) = false := by simpa using c7))
   (try (have c7b3 : ¬ (t332 = t310) := by simpa using c7))
   clear c7
   exact laws_FnExactBaseAddOf.e0
  ·rw [if_neg c7] at H
   have c7b0 : (t332 != t310) = false := by simpa using c7
   (try (have c7b1 : decide (t332 = t310) = true := by simpa using c7))
   (try (have c7b2 : (t332 == t310) = true := by simpa using c7))
   clear c7
   by_cases c15 : t333 = t311
   ·rw [if_pos c15] at H
    have c15b0 : (t333 == t311) = true := beq_iff_eq.mpr c15
    have c15b1 : (t333 != t311) = false := bne_eq_false_iff_eq.mpr c15
    clear c15
    exact laws_FnExactBaseAddOf.e0
   ·rw [if_neg c15] at H
    have c15b0 : (t333 == t311) = false := beq_eq_false_iff_ne.mpr c15
    have c15b1 : (t333 != t311) = true := bne_iff_ne.mpr c15
    exact laws_FnExactBaseAddOf.e0
 ·rw [if_neg c6] at H
  have c6b0 : (t331 == t309) = false := beq_eq_false_iff_ne.mpr c6
  have c6b1 : (t331 != t309) = true := bne_iff_ne.mpr c6
  exact laws_FnExactBaseAddOf.e0

def ok23 (x : S23) : Prop := ((Lit.int .i64 x.f0).wf = true) ∧ ((Lit.int .i64 x.f1).wf = true) ∧ ((Lit.int .i64 x.f2).wf = true) ∧ ((Lit.int .i64 x.f3).wf = true) ∧ ((Lit.int .i64 x.f4).wf = true) ∧ ((Lit.int .i64 x.f5).wf = true) ∧ ((Lit.int .i64 x.f6).wf = true)
def ok25 (x : S25) : Prop := ((Lit.int .i64 x.f0).wf = true) ∧ ((Lit.int .i64 x.f1).wf = true) ∧ ((Lit.int .i64 x.f2).wf = true) ∧ ((Lit.int .i64 x.f3).wf = true) ∧ (ok23 x.f4) ∧ (ok23 x.f5) ∧ ((Lit.int .i64 x.f6).wf = true)
/-- THE ONE PURE STATEMENT of laws_FnExactBaseAddOf: yours. -/
def laws_FnExactBaseAddOf.Pure : Prop := ∀ (x0 : S25), ok25 x0 → ∃ k, laws_FnExactBaseAddOf.f k x0.f0 x0.f1 x0.f2 x0.f3 x0.f4.f0 x0.f4.f1 x0.f4.f2 x0.f4.f3 x0.f4.f4 x0.f4.f5 x0.f4.f6 x0.f5.f0 x0.f5.f1 x0.f5.f2 x0.f5.f3 x0.f5.f4 x0.f5.f5 x0.f5.f6 x0.f6 = some true
theorem laws_FnExactBaseAddOf.walk (P : laws_FnExactBaseAddOf.Pure) (x0 : S25) (w : World) (HGL0 : PGlob w) (okx0 : ok25 x0) :
  Calls Try.prog 3 #[.agg #[.int .i64 x0.f0, .int .i64 x0.f1, .int .i64 x0.f2, .int .i64 x0.f3, .int .i64 x0.f4.f0, .int .i64 x0.f4.f1, .int .i64 x0.f4.f2, .int .i64 x0.f4.f3, .int .i64 x0.f4.f4, .int .i64 x0.f4.f5, .int .i64 x0.f4.f6, .int .i64 x0.f5.f0, .int .i64 x0.f5.f1, .int .i64 x0.f5.f2, .int .i64 x0.f5.f3, .int .i64 x0.f5.f4, .int .i64 x0.f5.f5, .int .i64 x0.f5.f6, .int .i64 x0.f6]] w fun e w' => e = .returned (.bool true) ∧ Below w.heap.size w w' := by
 obtain ⟨k, h⟩ := P x0 okx0
 refine (laws_FnExactBaseAddOf.calls (HGL0 := HGL0) k x0.f0 x0.f1 x0.f2 x0.f3 x0.f4.f0 x0.f4.f1 x0.f4.f2 x0.f4.f3 x0.f4.f4 x0.f4.f5 x0.f4.f6 x0.f5.f0 x0.f5.f1 x0.f5.f2 x0.f5.f3 x0.f5.f4 x0.f5.f5 x0.f5.f6 x0.f6 true w h).mono ?_
 rintro e w' ⟨rfl, hd⟩
 exact ⟨rfl, hd⟩

end Go.Proofs.Ytonogadabgilfaa.PFnExactBaseAddOf

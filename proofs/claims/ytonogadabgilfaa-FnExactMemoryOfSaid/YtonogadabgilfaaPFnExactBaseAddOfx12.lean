/- Laid by a program of this session (patch_print.py) out of the translation: plain functions and what the calls do. No condition. -/
import Derived.Test.YtonogadabgilfaaPFnExactBaseAddOfx0
import Derived.Test.YtonogadabgilfaaPFnExactBaseAddOfx7
namespace Go.Proofs.Ytonogadabgilfaa.PFnExactBaseAddOf
open Go.RowKit Go.Proofs.YtonogadabgilfaaW.PrintWords Go.Proofs.YtonogadabgilfaaW.PrintLast Go.Proofs.YtonogadabgilfaaW.PrintMore
attribute [local go_sem] max2_int min2_int max_two min_two max_three min_three max_four min_four   -- for this text's walks alone
set_option linter.unusedVariables false
set_option linter.unusedSimpArgs false

/-! ### impl_fixedSize: function 175 -/
def impl_fixedSize.j0 : Nat → Int → Bool → Option (Int × Bool)
 | 0, _, _ => none
 | k + 1, x4, x5 => if x5 = true then (some (8, true)) else (if x4 = 33 then (some (0, true)) else (if x4 = 34 then (some (0, true)) else (if x4 = 37 then (some (0, true)) else (if x4 = 38 then (some (0, true)) else (if x4 = 43 then (some (0, true)) else (if x4 = 44 then (some (0, true)) else (some (0, false))))))))
def impl_fixedSize.f (k : Nat) (a0 : Int) : Option (Int × Bool) := if a0 = 29 then (impl_fixedSize.j0 k a0 (a0 == 29)) else (if a0 = 30 then (impl_fixedSize.j0 k a0 (a0 == 30)) else (if a0 = 31 then (impl_fixedSize.j0 k a0 (a0 == 31)) else (impl_fixedSize.j0 k a0 (a0 == 32))))
theorem impl_fixedSize.mono_l : ∀ k, (∀ y0 y1, LeO (impl_fixedSize.j0 k y0 y1) (impl_fixedSize.j0 (k + 1) y0 y1))
 | 0 => fun _ _ r h => by simp [impl_fixedSize.j0] at h
 | k + 1 => by
  have ih0 := impl_fixedSize.mono_l k
  ·intro y0 y1
   unfold impl_fixedSize.j0
   repeat' first
   | (with_reducible exact ih0 _ _)
   | (with_reducible exact LeO.refl _)
   | (with_reducible exact LeO.none _)
   | (with_reducible refine LeO.ite ?_ ?_)
   | (with_reducible refine LeO.bind ?_ (fun _ => ?_))
   | refine LeO.ite ?_ ?_
   | refine LeO.bind ?_ (fun _ => ?_)
theorem impl_fixedSize.mono : ∀ a0 k, LeO (impl_fixedSize.f k a0) (impl_fixedSize.f (k + 1) a0) := by
 intro a0 k
 have ih0 := impl_fixedSize.mono_l k
 unfold impl_fixedSize.f
 repeat' first
   | (with_reducible exact ih0 _ _)
   | (with_reducible exact LeO.refl _)
   | (with_reducible exact LeO.none _)
   | (with_reducible refine LeO.ite ?_ ?_)
   | (with_reducible refine LeO.bind ?_ (fun _ => ?_))
   | refine LeO.ite ?_ ?_
   | refine LeO.bind ?_ (fun _ => ?_)
theorem impl_fixedSize.e0 {p : Prop} (h : p := by
 simp only [Option.some.injEq, Prod.mk.injEq] at H
 obtain ⟨rfl, rfl⟩ := H
 go_wp2
 go_ret2
 exact ⟨by first | rfl | (simp; done) | (simp [*]; done), by repeat (first | exact Drawn0.refl _ | apply Drawn0.step)⟩) : p := h
set_option maxHeartbeats 8000000 in
set_option maxRecDepth 100000 in
theorem impl_fixedSize.calls (k : Nat) (a0 : Int) (r1 : Int) (r2 : Bool) (w : World) (h : impl_fixedSize.f k a0 = some (r1, r2)) :
  Calls Try.prog 175 #[.int .i64 a0] w fun e w' => e = .returned (.tuple #[.int .i64 r1, .bool r2]) ∧ Drawn0 w w' := by
 have H : (if a0 = 29 then (impl_fixedSize.j0 k a0 (a0 == 29)) else (if a0 = 30 then (impl_fixedSize.j0 k a0 (a0 == 30)) else (if a0 = 31 then (impl_fixedSize.j0 k a0 (a0 == 31)) else (impl_fixedSize.j0 k a0 (a0 == 32))))) = some (r1, r2) := h
 clear h
 have HC2 := Aside0.mk H
 clear H
 go_enter Try.func175, Try.ntmps175
 go_upto_if 5 with (fail)
 go_cut [5] (fun v5 wc => ∃ (kq : Nat) (x5_1 : Bool), v5 = .bool x5_1 ∧ Aside0 (impl_fixedSize.j0 kq a0 x5_1 = some (r1, r2)) ∧ Aside0 (kq ≤ k) ∧ Drawn0 w wc)
 case first =>
  have H := HC2.out
  clear HC2
  by_cases c3 : a0 = 29
  ·rw [if_pos c3] at H
   have c3b0 : (a0 == 29) = true := beq_iff_eq.mpr c3
   have c3b1 : (a0 != 29) = false := bne_eq_false_iff_eq.mpr c3
   clear c3
   (first | rw [c3b0] | (simp only [i64_w, i32_w]; rw [c3b0]) | rw [c3b1] | skip)
   have H' := Aside0.mk H
   clear H
   go_wp2
   go_meet
   case rel => exact ⟨_, ((a0 == 29)), by8, H', ⟨by first | omega | exact Nat.le_refl _⟩, by repeat (first | exact Drawn0.refl _ | apply Drawn0.step)⟩
  ·rw [if_neg c3] at H
   have c3b0 : (a0 == 29) = false := beq_eq_false_iff_ne.mpr c3
   have c3b1 : (a0 != 29) = true := bne_iff_ne.mpr c3
   (first | rw [c3b0] | (simp only [i64_w, i32_w]; rw [c3b0]) | rw [c3b1] | skip)
   by_cases c4 : a0 = 30
   ·rw [if_pos c4] at H
    have c4b0 : (a0 == 30) = true := beq_iff_eq.mpr c4
    have c4b1 : (a0 != 30) = false := bne_eq_false_iff_eq.mpr c4
    clear c4
    have H' := Aside0.mk H
    clear H
    go_wp2
    go_meet
    case rel => exact ⟨_, ((a0 == 30)), by8, H', ⟨by first | omega | exact Nat.le_refl _⟩, by repeat (first | exact Drawn0.refl _ | apply Drawn0.step)⟩
   ·rw [if_neg c4] at H
    have c4b0 : (a0 == 30) = false := beq_eq_false_iff_ne.mpr c4
    have c4b1 : (a0 != 30) = true := bne_iff_ne.mpr c4
    by_cases c5 : a0 = 31
    ·rw [if_pos c5] at H
     have c5b0 : (a0 == 31) = true := beq_iff_eq.mpr c5
     have c5b1 : (a0 != 31) = false := bne_eq_false_iff_eq.mpr c5
     clear c5
     have H' := Aside0.mk H
     clear H
     go_wp2
     go_meet
     case rel => exact ⟨_, ((a0 == 31)), by8, H', ⟨by first | omega | exact Nat.le_refl _⟩, by repeat (first | exact Drawn0.refl _ | apply Drawn0.step)⟩
    ·rw [if_neg c5] at H
     have c5b0 : (a0 == 31) = false := beq_eq_false_iff_ne.mpr c5
     have c5b1 : (a0 != 31) = true := bne_iff_ne.mpr c5
     have H' := Aside0.mk H
     clear H
     go_wp2
     go_meet
     case rel => exact ⟨_, ((a0 == 32)), by8, H', ⟨by first | omega | exact Nat.le_refl _⟩, by repeat (first | exact Drawn0.refl _ | apply Drawn0.step)⟩
 case rest =>
  clear HC2
  (try clear c1); (try clear c3); (try clear c3b0); (try clear c3b1); (try clear c4); (try clear c4b0); (try clear c4b1); (try clear c5); (try clear c5b0); (try clear c5b1)
  obtain ⟨kq, x5_1, rfl, HA, HJ1, ⟨mc1, rfl⟩⟩ := hcut
  cases kq with
  | zero => exact absurd HA.out (by simp [impl_fixedSize.j0])
  | succ kj1 =>
   have H := HA.out
   clear HA
   simp only [impl_fixedSize.j0] at H
   by_cases c6 : x5_1 = true
   ·subst c6
    have H1 : (some (8, true)) = some (r1, r2) := by rw [if_pos rfl] at H; exact H
    clear H
    have H := H1
    clear H1
    exact impl_fixedSize.e0
   ·replace c6 := Bool.eq_false_iff.mpr c6
    subst c6
    have H1 : (if a0 = 33 then (some (0, true)) else (if a0 = 34 then (some (0, true)) else (if a0 = 37 then (some (0, true)) else (if a0 = 38 then (some (0, true)) else (if a0 = 43 then (some (0, true)) else (if a0 = 44 then (some (0, true)) else (some (0, false)))))))) = some (r1, r2) := by rw [if_neg (show ¬ (false = true) by decide)] at H; exact H
    clear H
    have H := H1
    clear H1
    by_cases c7 : a0 = 33
    ·rw [if_pos c7] at H
     have c7b0 : (a0 == 33) = true := beq_iff_eq.mpr c7
     have c7b1 : (a0 != 33) = false := bne_eq_false_iff_eq.mpr c7
     clear c7
     exact impl_fixedSize.e0
    ·rw [if_neg c7] at H
     have c7b0 : (a0 == 33) = false := beq_eq_false_iff_ne.mpr c7
     have c7b1 : (a0 != 33) = true := bne_iff_ne.mpr c7
     by_cases c8 : a0 = 34
     ·rw [if_pos c8] at H
      have c8b0 : (a0 == 34) = true := beq_iff_eq.mpr c8
      have c8b1 : (a0 != 34) = false := bne_eq_false_iff_eq.mpr c8
      clear c8
      exact impl_fixedSize.e0
     ·rw [if_neg c8] at H
      have c8b0 : (a0 == 34) = false := beq_eq_false_iff_ne.mpr c8
      have c8b1 : (a0 != 34) = true := bne_iff_ne.mpr c8
      by_cases c9 : a0 = 37
      ·rw [if_pos c9] at H
       have c9b0 : (a0 == 37) = true := beq_iff_eq.mpr c9
       have c9b1 : (a0 != 37) = false := bne_eq_false_iff_eq.mpr c9
       clear c9
       exact impl_fixedSize.e0
      ·rw [if_neg c9] at H
       have c9b0 : (a0 == 37) = false := beq_eq_false_iff_ne.mpr c9
       have c9b1 : (a0 != 37) = true := bne_iff_ne.mpr c9
       by_cases c10 : a0 = 38
       ·rw [if_pos c10] at H
        have c10b0 : (a0 == 38) = true := beq_iff_eq.mpr c10
        have c10b1 : (a0 != 38) = false := bne_eq_false_iff_eq.mpr c10
        clear c10
        exact impl_fixedSize.e0
       ·rw [if_neg c10] at H
        have c10b0 : (a0 == 38) = false := beq_eq_false_iff_ne.mpr c10
        have c10b1 : (a0 != 38) = true := bne_iff_ne.mpr c10
        by_cases c11 : a0 = 43
        ·rw [if_pos c11] at H
         have c11b0 : (a0 == 43) = true := beq_iff_eq.mpr c11
         have c11b1 : (a0 != 43) = false := bne_eq_false_iff_eq.mpr c11
         clear c11
         exact impl_fixedSize.e0
        ·rw [if_neg c11] at H
         have c11b0 : (a0 == 43) = false := beq_eq_false_iff_ne.mpr c11
         have c11b1 : (a0 != 43) = true := bne_iff_ne.mpr c11
         by_cases c12 : a0 = 44
         ·rw [if_pos c12] at H
          have c12b0 : (a0 == 44) = true := beq_iff_eq.mpr c12
          have c12b1 : (a0 != 44) = false := bne_eq_false_iff_eq.mpr c12
          clear c12
          exact impl_fixedSize.e0
         ·rw [if_neg c12] at H
          have c12b0 : (a0 == 44) = false := beq_eq_false_iff_ne.mpr c12
          have c12b1 : (a0 != 44) = true := bne_iff_ne.mpr c12
          exact impl_fixedSize.e0

/-! ### impl_isWide: function 130 -/
def impl_isWide.f (k : Nat) (a0_0 : Int) (a0_1 : Int) (a0_2 : Int) (a0_3 : Int) (a0_4 : Int) (a0_5 : Int) (a0_6 : Int) (a0_7 : Int) (a0_8 : Int) (a0_9 : Int) (a0_10 : Int) (a0_11 : Int) (a0_12 : Int) (a0_13 : Int) (a0_14 : Int) (a0_15 : Int) (a0_16 : Int) (a0_17 : Int) (a0_18 : Int) : Option (Bool) := (impl_fixedSize.f k a0_0).bind fun bt245 => (if a0_1 = 8 then (some (!bt245.2)) else (some false))
theorem impl_isWide.mono : ∀ a0 a1 a2 a3 a4 a5 a6 a7 a8 a9 a10 a11 a12 a13 a14 a15 a16 a17 a18 k, LeO (impl_isWide.f k a0 a1 a2 a3 a4 a5 a6 a7 a8 a9 a10 a11 a12 a13 a14 a15 a16 a17 a18) (impl_isWide.f (k + 1) a0 a1 a2 a3 a4 a5 a6 a7 a8 a9 a10 a11 a12 a13 a14 a15 a16 a17 a18) := by
 intro a0 a1 a2 a3 a4 a5 a6 a7 a8 a9 a10 a11 a12 a13 a14 a15 a16 a17 a18 k
 unfold impl_isWide.f
 repeat' first
   | (with_reducible exact impl_fixedSize.mono _ _)
   | (with_reducible exact LeO.refl _)
   | (with_reducible exact LeO.none _)
   | (with_reducible refine LeO.ite ?_ ?_)
   | (with_reducible refine LeO.bind ?_ (fun _ => ?_))
   | refine LeO.ite ?_ ?_
   | refine LeO.bind ?_ (fun _ => ?_)
theorem impl_isWide.e0 {p : Prop} (h : p := by
 obtain rfl := Option.some.inj H
 go_enter Try.func130, Try.ntmps130
 go_wp2_with (first | ((with_reducible refine gate_dst (N := 1) rfl ?_); refine bx30 (w := w) (N := 1) rfl rfl rfl rfl by0 ?_; intro gb_y0 w_y1 n_y2 BK_y3 GW_y4 GE_y5; clear HB; have HB := n_y2; clear n_y2; have hcz_y6 := cz BK_y3.out 0 (.int .i64 a0_0); have hcz_y7 := cz BK_y3.out 1 (.int .i64 a0_1)) | ((with_reducible refine gate_callee (f := 175) rfl ?_); refine goesL_ (some 8) rfl rfl Try.func175 by4 rfl #[.int .i64 a0_0] rfl by1 ?_; (with_reducible refine (impl_fixedSize.calls k a0_0 t245 t246 _ A2.out).mono ?_); rintro e w' ⟨rfl, ⟨nd, rfl⟩⟩; refine ⟨_, rfl, ?_⟩))
 go_ret
 exact ⟨by first | rfl | (simp [errW_none, errW_some] <;> rfl) | (simp [*, errW_none, errW_some] <;> rfl), by repeat (first | (with_reducible first | exact HB.out | apply below_alloc | apply pw_below_drewN | apply below_drew1 | refine below_set ?_ GE_y5.out) | exact HB.out)⟩) : p := h
set_option maxHeartbeats 8000000 in
set_option maxRecDepth 100000 in
theorem impl_isWide.calls (k : Nat) (a0_0 : Int) (a0_1 : Int) (a0_2 : Int) (a0_3 : Int) (a0_4 : Int) (a0_5 : Int) (a0_6 : Int) (a0_7 : Int) (a0_8 : Int) (a0_9 : Int) (a0_10 : Int) (a0_11 : Int) (a0_12 : Int) (a0_13 : Int) (a0_14 : Int) (a0_15 : Int) (a0_16 : Int) (a0_17 : Int) (a0_18 : Int) (r : Bool) (w : World) (h : impl_isWide.f k a0_0 a0_1 a0_2 a0_3 a0_4 a0_5 a0_6 a0_7 a0_8 a0_9 a0_10 a0_11 a0_12 a0_13 a0_14 a0_15 a0_16 a0_17 a0_18 = some r) :
  Calls Try.prog 130 #[.agg #[.int .i64 a0_0, .int .i64 a0_1, .int .i64 a0_2, .int .i64 a0_3, .int .i64 a0_4, .int .i64 a0_5, .int .i64 a0_6, .int .i64 a0_7, .int .i64 a0_8, .int .i64 a0_9, .int .i64 a0_10, .int .i64 a0_11, .int .i64 a0_12, .int .i64 a0_13, .int .i64 a0_14, .int .i64 a0_15, .int .i64 a0_16, .int .i64 a0_17, .int .i64 a0_18]] w fun e w' => e = .returned (.bool r) ∧ Below w.heap.size w w' := by
 have hu30 := Try.underlying30
 have HB := Aside0.mk (Below.refl w.heap.size w)
 have H : ((impl_fixedSize.f k a0_0).bind fun bt245 => (if a0_1 = 8 then (some (!bt245.2)) else (some false))) = some r := h
 clear h
 replace H := Option.bind_eq_some_iff.mp H
 obtain ⟨⟨t245, t246⟩, A20, H⟩ := H
 replace H : (if a0_1 = 8 then (some (!t246)) else (some false)) = some r := H
 have A2 := Aside0.mk A20
 clear A20
 by_cases c3 : a0_1 = 8
 ·rw [if_pos c3] at H
  have c3b0 : (a0_1 == 8) = true := beq_iff_eq.mpr c3
  have c3b1 : (a0_1 != 8) = false := bne_eq_false_iff_eq.mpr c3
  clear c3
  exact impl_isWide.e0
 ·rw [if_neg c3] at H
  have c3b0 : (a0_1 == 8) = false := beq_eq_false_iff_ne.mpr c3
  have c3b1 : (a0_1 != 8) = true := bne_iff_ne.mpr c3
  exact impl_isWide.e0

/-! ### impl_isLowByte: function 178 -/
def impl_isLowByte.f (a0_0 : Int) (a0_1 : Int) (a0_2 : Int) (a0_3 : Int) (a0_4 : Int) (a0_5 : Int) (a0_6 : Int) (a1 : Int) : Option (Bool) := if a0_0 = 1 then (if a1 = 1 then ((impl_within.f a0_1 4 7).bind fun t248 => (some t248)) else (some false)) else (some false)
theorem impl_isLowByte.e0 {p : Prop} (h : p := by
 obtain rfl := Option.some.inj H
 go_enter Try.func178, Try.ntmps178
 go_wp2_with (first | ((with_reducible refine gate_dst (N := 2) rfl ?_); refine bx28 (w := w) (N := 2) rfl rfl rfl rfl by0 ?_; intro gb_y0 w_y1 n_y2 BK_y3 GW_y4 GE_y5; clear HB; have HB := n_y2; clear n_y2; have hcz_y6 := cz BK_y3.out 0 (.int .i64 a0_0); have hcz_y7 := cz BK_y3.out 1 (.int .i64 a0_1)))
 go_ret
 exact ⟨by first | rfl | (simp [errW_none, errW_some] <;> rfl) | (simp [*, errW_none, errW_some] <;> rfl), by repeat (first | (with_reducible first | exact HB.out | apply below_alloc | apply pw_below_drewN | apply below_drew1 | refine below_set ?_ GE_y5.out) | exact HB.out)⟩) : p := h
set_option maxHeartbeats 8000000 in
set_option maxRecDepth 100000 in
theorem impl_isLowByte.calls (a0_0 : Int) (a0_1 : Int) (a0_2 : Int) (a0_3 : Int) (a0_4 : Int) (a0_5 : Int) (a0_6 : Int) (a1 : Int) (r : Bool) (w : World) (h : impl_isLowByte.f a0_0 a0_1 a0_2 a0_3 a0_4 a0_5 a0_6 a1 = some r) :
  Calls Try.prog 178 #[.agg #[.int .i64 a0_0, .int .i64 a0_1, .int .i64 a0_2, .int .i64 a0_3, .int .i64 a0_4, .int .i64 a0_5, .int .i64 a0_6], .int .i64 a1] w fun e w' => e = .returned (.bool r) ∧ Below w.heap.size w w' := by
 have hu28 := Try.underlying28
 have HB := Aside0.mk (Below.refl w.heap.size w)
 have H : (if a0_0 = 1 then (if a1 = 1 then ((impl_within.f a0_1 4 7).bind fun t248 => (some t248)) else (some false)) else (some false)) = some r := h
 clear h
 by_cases c3 : a0_0 = 1
 ·rw [if_pos c3] at H
  have c3b0 : (a0_0 == 1) = true := beq_iff_eq.mpr c3
  have c3b1 : (a0_0 != 1) = false := bne_eq_false_iff_eq.mpr c3
  clear c3
  by_cases c4 : a1 = 1
  ·rw [if_pos c4] at H
   have c4b0 : (a1 == 1) = true := beq_iff_eq.mpr c4
   have c4b1 : (a1 != 1) = false := bne_eq_false_iff_eq.mpr c4
   clear c4
   replace H := Option.bind_eq_some_iff.mp H
   obtain ⟨t248, A50, H⟩ := H
   replace H : (some t248) = some r := H
   have A5 := Aside0.mk A50
   clear A50
   obtain rfl := Option.some.inj H
   go_enter Try.func178, Try.ntmps178
   go_wp2_with (first | ((with_reducible refine gate_dst (N := 2) rfl ?_); refine bx28 (w := w) (N := 2) rfl rfl rfl rfl by0 ?_; intro gb247 w6 n0_ BK247 GW247 GE247; clear HB; have HB := n0_; clear n0_; have hcz7_0 := cz BK247.out 0 (.int .i64 a0_0); have hcz7_1 := cz BK247.out 1 (.int .i64 a0_1)) | (go_at_call 58; (with_reducible refine (impl_within.calls a0_1 4 7 t248 _ A5.out).mono ?_); rintro e w' ⟨rfl, ⟨nd, rfl⟩⟩))
   go_ret
   exact ⟨by first | rfl | (simp [errW_none, errW_some] <;> rfl) | (simp [*, errW_none, errW_some] <;> rfl), by repeat (first | (with_reducible first | exact HB.out | apply below_alloc | apply pw_below_drewN | apply below_drew1 | refine below_set ?_ GE247.out) | exact HB.out)⟩
  ·rw [if_neg c4] at H
   have c4b0 : (a1 == 1) = false := beq_eq_false_iff_ne.mpr c4
   have c4b1 : (a1 != 1) = true := bne_iff_ne.mpr c4
   exact impl_isLowByte.e0
 ·rw [if_neg c3] at H
  have c3b0 : (a0_0 == 1) = false := beq_eq_false_iff_ne.mpr c3
  have c3b1 : (a0_0 != 1) = true := bne_iff_ne.mpr c3
  exact impl_isLowByte.e0

/-! ### impl_asksRex: function 137 -/
/-- A call of a function that has a body enters it. -/
theorem enters_body {P : Program} {f : FuncId} {fn : Func} {c : Code} (hf : P.funcs[f]? = some fn) (hname : (fn.name == "runtime.NumGoroutine") = false) (hb : fn.body = some c) (args : Array Value) (w : World) : (callFunc f args).run P w = .ok (.enter f args) w := by
 have h1 : fn.name ≠ "runtime.NumGoroutine" := by simpa using hname
 simp [callFunc, hf, h1, hb, mark]
def upV (a : Int) : Bool := decide (8 ≤ a) && decide (a ≤ 15)
theorem upV_eq (a : Int) : impl_within.f a 8 15 = some (upV a) := by
 unfold impl_within.f upV
 by_cases h : a ≥ 8
 ·rw [if_pos h]; simp [show 8 ≤ a from h]
 ·rw [if_neg h]; simp [show ¬ 8 ≤ a from h]
def lowV (a0_0 a0_1 a1 : Int) : Bool := a0_0 == 1 && (a1 == 1 && (decide (4 ≤ a0_1) && decide (a0_1 ≤ 7)))
theorem lowV_eq (a0_0 a0_1 a0_2 a0_3 a0_4 a0_5 a0_6 a1 : Int) : impl_isLowByte.f a0_0 a0_1 a0_2 a0_3 a0_4 a0_5 a0_6 a1 = some (lowV a0_0 a0_1 a1) := by
 unfold impl_isLowByte.f impl_within.f lowV
 by_cases c : a0_0 = 1 <;> by_cases d : a1 = 1 <;> by_cases h : a0_1 ≥ 4 <;> simp [c, d, h]
def rexV (a0_0 a0_1 a0_2 a0_3 a1 : Int) : Bool := if a0_0 = 1 then upV a0_1 || lowV a0_0 a0_1 a1 else if a0_0 = 2 then upV a0_2 || upV a0_3 else false
def impl_asksRex.f (a0_0 : Int) (a0_1 : Int) (a0_2 : Int) (a0_3 : Int) (a0_4 : Int) (a0_5 : Int) (a0_6 : Int) (a1 : Int) : Option (Bool) := some (rexV a0_0 a0_1 a0_2 a0_3 a1)
theorem upC (a : Int) (w : World) : Calls Try.prog 177 #[.int .i64 a] w fun e w' => e = .returned (.bool (upV a)) ∧ Drawn0 w w' := by
 have H := Aside0.mk (upV_eq a)
 go_enter Try.func177, Try.ntmps177
 go_wp2_with (go_at_call 58; (with_reducible refine (impl_within.calls _ _ _ _ _ H.out).mono ?_); rintro e w' ⟨rfl, ⟨nd, rfl⟩⟩)
 go_ret
 exact ⟨rfl, ⟨⟨_, rfl⟩⟩⟩
set_option maxHeartbeats 8000000 in
set_option maxRecDepth 100000 in
theorem impl_asksRex.calls (a0_0 : Int) (a0_1 : Int) (a0_2 : Int) (a0_3 : Int) (a0_4 : Int) (a0_5 : Int) (a0_6 : Int) (a1 : Int) (r : Bool) (w : World) (h : impl_asksRex.f a0_0 a0_1 a0_2 a0_3 a0_4 a0_5 a0_6 a1 = some r) :
  Calls Try.prog 137 #[.agg #[.int .i64 a0_0, .int .i64 a0_1, .int .i64 a0_2, .int .i64 a0_3, .int .i64 a0_4, .int .i64 a0_5, .int .i64 a0_6], .int .i64 a1] w fun e w' => e = .returned (.bool r) ∧ Below w.heap.size w w' := by
 have eg : ∀ args w, (callFunc 177 args).run Try.prog w = .ok (.enter 177 args) w := enters_body Try.func177 by4 rfl
 obtain rfl := Option.some.inj h
 clear h
 unfold rexV
 have H := Aside0.mk (lowV_eq a0_0 a0_1 a0_2 a0_3 a0_4 a0_5 a0_6 a1)
 by_cases c1 : a0_0 = 1
 ·subst c1
  cases hu : upV a0_1
  all_goals
   have hv := fun W => upC a0_1 W
   rw [hu] at hv
   have HV := Aside0.mk hv
   clear hv hu
   go_enter Try.func137, Try.ntmps137
   go_wp2_with (first | (go_at_call 178; (with_reducible refine (impl_isLowByte.calls _ _ _ _ _ _ _ _ _ _ H.out).mono ?_); rintro e w' ⟨rfl, hb⟩) | (go_at_call 177; refine (HV.out _).mono ?_; rintro e w' ⟨rfl, ⟨nd, rfl⟩⟩))
   go_ret
   refine ⟨by simp, ?_⟩
   first | ((refine below_then ?_ (by simp; try omega) hb); (repeat (first | exact Below.refl _ _ | apply below_alloc | apply pw_below_drewN | apply below_drew1)); done) | (repeat (first | exact Below.refl _ _ | apply below_alloc | apply pw_below_drewN | apply below_drew1))
 ·rw [if_neg c1]
  have c1b : (a0_0 == 1) = false := by simpa using c1
  by_cases c2 : a0_0 = 2
  ·subst c2
   clear c1
   cases hu : upV a0_2
   all_goals
    have hv := fun W => upC a0_2 W
    have hv3 := fun W => upC a0_3 W
    rw [hu] at hv
    have HV := Aside0.mk hv
    have HV3 := Aside0.mk hv3
    clear hv hu hv3
    go_enter Try.func137, Try.ntmps137
    go_wp2_with (first | (go_at_call 177; refine (HV.out _).mono ?_; rintro e w' ⟨rfl, ⟨nd, rfl⟩⟩) | (go_at_call 177; refine (HV3.out _).mono ?_; rintro e w' ⟨rfl, ⟨nd, rfl⟩⟩))
    go_ret
    exact ⟨by simp, by repeat (first | exact Below.refl _ _ | apply below_alloc | apply pw_below_drewN | apply below_drew1)⟩
  ·rw [if_neg c2]
   have c2b : (a0_0 == 2) = false := by simpa using c2
   go_enter Try.func137, Try.ntmps137
   go_wp2
   go_ret
   exact ⟨rfl, by repeat (first | exact Below.refl _ _ | apply below_alloc | apply pw_below_drewN | apply below_drew1)⟩

end Go.Proofs.Ytonogadabgilfaa.PFnExactBaseAddOf

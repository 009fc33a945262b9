/- Laid by a program of this session (patch_print.py) out of the translation: plain functions and what the calls do. No condition. -/
import Derived.Test.YtonogadabgilfaaPFnExactMaskOfx0
import Derived.Test.YtonogadabgilfaaPFnExactMaskOfx2
import Derived.Test.YtonogadabgilfaaPFnExactMaskOfx7
import Derived.Test.YtonogadabgilfaaPFnExactMaskOfx9
import Derived.Test.YtonogadabgilfaaPFnExactMaskOfx14
namespace Go.Proofs.Ytonogadabgilfaa.PFnExactMaskOf
open Go.RowKit Go.Proofs.YtonogadabgilfaaW.PrintWords Go.Proofs.YtonogadabgilfaaW.PrintLast Go.Proofs.YtonogadabgilfaaW.PrintMore
attribute [local go_sem] max2_int min2_int max_two min_two max_three min_three max_four min_four   -- for this text's walks alone
set_option linter.unusedVariables false
set_option linter.unusedSimpArgs false

/-! ### impl_maskOf: function 55 -/
def impl_maskOf.f (a0_0 : Int) (a0_1 : Int) (a0_2 : Int) (a0_3 : Int) (a0_4 : Int) (a0_5 : Int) (a0_6 : Int) (a0_7 : Int) (a0_8 : Int) (a0_9 : Int) (a0_10 : Int) (a0_11 : Int) (a0_12 : Int) (a0_13 : Int) (a0_14 : Int) (a0_15 : Int) (a0_16 : Int) (a0_17 : Int) (a0_18 : Int) : Option (Int × Int × Bool) := if a0_0 = 5 then (if a0_1 = 4 then (if a0_4 = 1 then (if a0_11 = 3 then (some (a0_5, a0_17, true)) else (some (0, 0, false))) else (some (0, 0, false))) else (some (0, 0, false))) else (some (0, 0, false))
theorem impl_maskOf.e0 {p : Prop} (h : p := by
 simp only [Option.some.injEq, Prod.mk.injEq] at H
 obtain ⟨rfl, rfl, rfl⟩ := H
 go_enter Try.func55, Try.ntmps55
 go_wp2_with (first | ((with_reducible refine gate_dst (N := 1) rfl ?_); refine box_event ?hg (N := 1) ?hd (cs := #[.int .i64 a0_0, .int .i64 a0_1, .int .i64 a0_2, .int .i64 a0_3, .int .i64 a0_4, .int .i64 a0_5, .int .i64 a0_6, .int .i64 a0_7, .int .i64 a0_8, .int .i64 a0_9, .int .i64 a0_10, .int .i64 a0_11, .int .i64 a0_12, .int .i64 a0_13, .int .i64 a0_14, .int .i64 a0_15, .int .i64 a0_16, .int .i64 a0_17, .int .i64 a0_18]) (t := 30) ?hr ?_; (case hd => rfl); (case hg => rfl); (case hr => first | (go_simp; done) | (go_simp; rfl)); intro gb_y0 hg w_y1 hbox hb; have n_y2 := Aside0.mk (below_step by1 hb); have n_y3 := Aside0.mk (hbox); have n_y4 := Aside0.mk ((by0 : w.heap.size ≤ gb_y0)); have n_y5 := Aside0.mk ((by0 : w.heap.size ≤ gb_y0)); clear HB; have HB := n_y2; have BK_y6 := n_y3; have GW_y7 := n_y4; have GE_y8 := n_y5; clear n_y2 n_y3 n_y4 n_y5; clear hb hbox hg; have hcz_y9 := cz BK_y6.out 0 (.int .i64 a0_0); have hcz_y10 := cz BK_y6.out 1 (.int .i64 a0_1); have hcz_y11 := cz BK_y6.out 4 (.int .i64 a0_4); have hcz_y12 := cz BK_y6.out 5 (.int .i64 a0_5); have hcz_y13 := cz BK_y6.out 11 (.int .i64 a0_11); have hcz_y14 := cz BK_y6.out 17 (.int .i64 a0_17)))
 repeat (go_quiet (first | ((with_reducible refine gate_dst (N := 1) rfl ?_); refine box_event ?hg (N := 1) ?hd (cs := #[.int .i64 a0_0, .int .i64 a0_1, .int .i64 a0_2, .int .i64 a0_3, .int .i64 a0_4, .int .i64 a0_5, .int .i64 a0_6, .int .i64 a0_7, .int .i64 a0_8, .int .i64 a0_9, .int .i64 a0_10, .int .i64 a0_11, .int .i64 a0_12, .int .i64 a0_13, .int .i64 a0_14, .int .i64 a0_15, .int .i64 a0_16, .int .i64 a0_17, .int .i64 a0_18]) (t := 30) ?hr ?_; (case hd => rfl); (case hg => rfl); (case hr => first | (go_simp; done) | (go_simp; rfl)); intro gb_y0 hg w_y1 hbox hb; have n_y2 := Aside0.mk (below_step by1 hb); have n_y3 := Aside0.mk (hbox); have n_y4 := Aside0.mk ((by0 : w.heap.size ≤ gb_y0)); have n_y5 := Aside0.mk ((by0 : w.heap.size ≤ gb_y0)); clear HB; have HB := n_y2; have BK_y6 := n_y3; have GW_y7 := n_y4; have GE_y8 := n_y5; clear n_y2 n_y3 n_y4 n_y5; clear hb hbox hg; have hcz_y9 := cz BK_y6.out 0 (.int .i64 a0_0); have hcz_y10 := cz BK_y6.out 1 (.int .i64 a0_1); have hcz_y11 := cz BK_y6.out 4 (.int .i64 a0_4); have hcz_y12 := cz BK_y6.out 5 (.int .i64 a0_5); have hcz_y13 := cz BK_y6.out 11 (.int .i64 a0_11); have hcz_y14 := cz BK_y6.out 17 (.int .i64 a0_17))); try go_wp2_with (first | ((with_reducible refine gate_dst (N := 1) rfl ?_); refine box_event ?hg (N := 1) ?hd (cs := #[.int .i64 a0_0, .int .i64 a0_1, .int .i64 a0_2, .int .i64 a0_3, .int .i64 a0_4, .int .i64 a0_5, .int .i64 a0_6, .int .i64 a0_7, .int .i64 a0_8, .int .i64 a0_9, .int .i64 a0_10, .int .i64 a0_11, .int .i64 a0_12, .int .i64 a0_13, .int .i64 a0_14, .int .i64 a0_15, .int .i64 a0_16, .int .i64 a0_17, .int .i64 a0_18]) (t := 30) ?hr ?_; (case hd => rfl); (case hg => rfl); (case hr => first | (go_simp; done) | (go_simp; rfl)); intro gb_y0 hg w_y1 hbox hb; have n_y2 := Aside0.mk (below_step by1 hb); have n_y3 := Aside0.mk (hbox); have n_y4 := Aside0.mk ((by0 : w.heap.size ≤ gb_y0)); have n_y5 := Aside0.mk ((by0 : w.heap.size ≤ gb_y0)); clear HB; have HB := n_y2; have BK_y6 := n_y3; have GW_y7 := n_y4; have GE_y8 := n_y5; clear n_y2 n_y3 n_y4 n_y5; clear hb hbox hg; have hcz_y9 := cz BK_y6.out 0 (.int .i64 a0_0); have hcz_y10 := cz BK_y6.out 1 (.int .i64 a0_1); have hcz_y11 := cz BK_y6.out 4 (.int .i64 a0_4); have hcz_y12 := cz BK_y6.out 5 (.int .i64 a0_5); have hcz_y13 := cz BK_y6.out 11 (.int .i64 a0_11); have hcz_y14 := cz BK_y6.out 17 (.int .i64 a0_17))))
 go_ret3
 exact ⟨by first | rfl | (simp [errW_none, errW_some] <;> rfl) | (simp [*, errW_none, errW_some] <;> rfl), by repeat (first | (with_reducible first | exact HB.out | apply below_alloc | apply pw_below_drewN | apply below_drew1 | refine below_set ?_ GE_y8.out) | exact HB.out)⟩) : p := h
set_option maxHeartbeats 8000000 in
set_option maxRecDepth 100000 in
theorem impl_maskOf.calls (a0_0 : Int) (a0_1 : Int) (a0_2 : Int) (a0_3 : Int) (a0_4 : Int) (a0_5 : Int) (a0_6 : Int) (a0_7 : Int) (a0_8 : Int) (a0_9 : Int) (a0_10 : Int) (a0_11 : Int) (a0_12 : Int) (a0_13 : Int) (a0_14 : Int) (a0_15 : Int) (a0_16 : Int) (a0_17 : Int) (a0_18 : Int) (r1 : Int) (r2 : Int) (r3 : Bool) (w : World) (h : impl_maskOf.f a0_0 a0_1 a0_2 a0_3 a0_4 a0_5 a0_6 a0_7 a0_8 a0_9 a0_10 a0_11 a0_12 a0_13 a0_14 a0_15 a0_16 a0_17 a0_18 = some (r1, r2, r3)) :
  Calls Try.prog 55 #[.agg #[.int .i64 a0_0, .int .i64 a0_1, .int .i64 a0_2, .int .i64 a0_3, .int .i64 a0_4, .int .i64 a0_5, .int .i64 a0_6, .int .i64 a0_7, .int .i64 a0_8, .int .i64 a0_9, .int .i64 a0_10, .int .i64 a0_11, .int .i64 a0_12, .int .i64 a0_13, .int .i64 a0_14, .int .i64 a0_15, .int .i64 a0_16, .int .i64 a0_17, .int .i64 a0_18]] w fun e w' => e = .returned (.tuple #[.int .i64 r1, .int .i64 r2, .bool r3]) ∧ Below w.heap.size w w' := by
 have hu30 := Try.underlying30
 have HB := Aside0.mk (Below.refl w.heap.size w)
 have H : (if a0_0 = 5 then (if a0_1 = 4 then (if a0_4 = 1 then (if a0_11 = 3 then (some (a0_5, a0_17, true)) else (some (0, 0, false))) else (some (0, 0, false))) else (some (0, 0, false))) else (some (0, 0, false))) = some (r1, r2, r3) := h
 clear h
 by_cases c2 : a0_0 = 5
 ·rw [if_pos c2] at H
  have c2b0 : (a0_0 == 5) = true := beq_iff_eq.mpr c2
  have c2b1 : (a0_0 != 5) = false := bne_eq_false_iff_eq.mpr c2
  clear c2
  by_cases c3 : a0_1 = 4
  ·rw [if_pos c3] at H
   have c3b0 : (a0_1 == 4) = true := beq_iff_eq.mpr c3
   have c3b1 : (a0_1 != 4) = false := bne_eq_false_iff_eq.mpr c3
   clear c3
   by_cases c4 : a0_4 = 1
   ·rw [if_pos c4] at H
    have c4b0 : (a0_4 == 1) = true := beq_iff_eq.mpr c4
    have c4b1 : (a0_4 != 1) = false := bne_eq_false_iff_eq.mpr c4
    clear c4
    by_cases c5 : a0_11 = 3
    ·rw [if_pos c5] at H
     have c5b0 : (a0_11 == 3) = true := beq_iff_eq.mpr c5
     have c5b1 : (a0_11 != 3) = false := bne_eq_false_iff_eq.mpr c5
     clear c5
     exact impl_maskOf.e0
    ·rw [if_neg c5] at H
     have c5b0 : (a0_11 == 3) = false := beq_eq_false_iff_ne.mpr c5
     have c5b1 : (a0_11 != 3) = true := bne_iff_ne.mpr c5
     exact impl_maskOf.e0
   ·rw [if_neg c4] at H
    have c4b0 : (a0_4 == 1) = false := beq_eq_false_iff_ne.mpr c4
    have c4b1 : (a0_4 != 1) = true := bne_iff_ne.mpr c4
    exact impl_maskOf.e0
  ·rw [if_neg c3] at H
   have c3b0 : (a0_1 == 4) = false := beq_eq_false_iff_ne.mpr c3
   have c3b1 : (a0_1 != 4) = true := bne_iff_ne.mpr c3
   exact impl_maskOf.e0
 ·rw [if_neg c2] at H
  have c2b0 : (a0_0 == 5) = false := beq_eq_false_iff_ne.mpr c2
  have c2b1 : (a0_0 != 5) = true := bne_iff_ne.mpr c2
  exact impl_maskOf.e0

/-! ### impl_MaskOf: function 19 -/
def impl_MaskOf.f (k : Nat) (a0_0 : Int) (a0_1 : Int) (a0_2 : Int) (a0_3 : Int) (a0_4 : Int) (a0_5 : Int) (a0_6 : Int) (a0_7 : Int) (a0_8 : Int) (a0_9 : Int) (a0_10 : Int) (a0_11 : Int) (a0_12 : Int) (a0_13 : Int) (a0_14 : Int) (a0_15 : Int) (a0_16 : Int) (a0_17 : Int) (a0_18 : Int) : Option (Int × Int × Bool × Int) := (impl_InstrOK.f k a0_0 a0_1 a0_2 a0_3 a0_4 a0_5 a0_6 a0_7 a0_8 a0_9 a0_10 a0_11 a0_12 a0_13 a0_14 a0_15 a0_16 a0_17 a0_18).bind fun t280 => (if t280 = true then ((impl_maskOf.f a0_0 a0_1 a0_2 a0_3 a0_4 a0_5 a0_6 a0_7 a0_8 a0_9 a0_10 a0_11 a0_12 a0_13 a0_14 a0_15 a0_16 a0_17 a0_18).bind fun bt281 => (some (bt281.1, bt281.2.1, bt281.2.2, 0))) else (some (0, 0, false, 1)))
theorem impl_MaskOf.mono : ∀ a0 a1 a2 a3 a4 a5 a6 a7 a8 a9 a10 a11 a12 a13 a14 a15 a16 a17 a18 k, LeO (impl_MaskOf.f k a0 a1 a2 a3 a4 a5 a6 a7 a8 a9 a10 a11 a12 a13 a14 a15 a16 a17 a18) (impl_MaskOf.f (k + 1) a0 a1 a2 a3 a4 a5 a6 a7 a8 a9 a10 a11 a12 a13 a14 a15 a16 a17 a18) := by
 intro a0 a1 a2 a3 a4 a5 a6 a7 a8 a9 a10 a11 a12 a13 a14 a15 a16 a17 a18 k
 unfold impl_MaskOf.f
 repeat' first
   | (with_reducible exact impl_InstrOK.mono _ _ _ _ _ _ _ _ _ _ _ _ _ _ _ _ _ _ _ _)
   | (with_reducible exact LeO.refl _)
   | (with_reducible exact LeO.none _)
   | (with_reducible refine LeO.ite ?_ ?_)
   | (with_reducible refine LeO.bind ?_ (fun _ => ?_))
   | refine LeO.ite ?_ ?_
   | refine LeO.bind ?_ (fun _ => ?_)
set_option maxHeartbeats 8000000 in
set_option maxRecDepth 100000 in
theorem impl_MaskOf.calls (k : Nat) (a0_0 : Int) (a0_1 : Int) (a0_2 : Int) (a0_3 : Int) (a0_4 : Int) (a0_5 : Int) (a0_6 : Int) (a0_7 : Int) (a0_8 : Int) (a0_9 : Int) (a0_10 : Int) (a0_11 : Int) (a0_12 : Int) (a0_13 : Int) (a0_14 : Int) (a0_15 : Int) (a0_16 : Int) (a0_17 : Int) (a0_18 : Int) (r1 : Int) (r2 : Int) (r3 : Bool) (r4 : Int) (w : World) (HGL0 : PGlob w) (h : impl_MaskOf.f k a0_0 a0_1 a0_2 a0_3 a0_4 a0_5 a0_6 a0_7 a0_8 a0_9 a0_10 a0_11 a0_12 a0_13 a0_14 a0_15 a0_16 a0_17 a0_18 = some (r1, r2, r3, r4)) :
  Calls Try.prog 19 #[.agg #[.int .i64 a0_0, .int .i64 a0_1, .int .i64 a0_2, .int .i64 a0_3, .int .i64 a0_4, .int .i64 a0_5, .int .i64 a0_6, .int .i64 a0_7, .int .i64 a0_8, .int .i64 a0_9, .int .i64 a0_10, .int .i64 a0_11, .int .i64 a0_12, .int .i64 a0_13, .int .i64 a0_14, .int .i64 a0_15, .int .i64 a0_16, .int .i64 a0_17, .int .i64 a0_18]] w fun e w' => e = .returned (.tuple #[.int .i64 r1, .int .i64 r2, .bool r3, .int .i64 r4]) ∧ Below w.heap.size w w' := by
 have HGL := Aside0.mk HGL0
 clear HGL0
 have hu30 := Try.underlying30
 have HB := Aside0.mk (Below.refl w.heap.size w)
 have H : ((impl_InstrOK.f k a0_0 a0_1 a0_2 a0_3 a0_4 a0_5 a0_6 a0_7 a0_8 a0_9 a0_10 a0_11 a0_12 a0_13 a0_14 a0_15 a0_16 a0_17 a0_18).bind fun t280 => (if t280 = true then ((impl_maskOf.f a0_0 a0_1 a0_2 a0_3 a0_4 a0_5 a0_6 a0_7 a0_8 a0_9 a0_10 a0_11 a0_12 a0_13 a0_14 a0_15 a0_16 a0_17 a0_18).bind fun bt281 => (some (bt281.1, bt281.2.1, bt281.2.2, 0))) else (some (0, 0, false, 1)))) = some (r1, r2, r3, r4) := h
 clear h
 replace H := Option.bind_eq_some_iff.mp H
 obtain ⟨t280, A20, H⟩ := H
 replace H : (if t280 = true then ((impl_maskOf.f a0_0 a0_1 a0_2 a0_3 a0_4 a0_5 a0_6 a0_7 a0_8 a0_9 a0_10 a0_11 a0_12 a0_13 a0_14 a0_15 a0_16 a0_17 a0_18).bind fun bt281 => (some (bt281.1, bt281.2.1, bt281.2.2, 0))) else (some (0, 0, false, 1))) = some (r1, r2, r3, r4) := H
 have A2 := Aside0.mk A20
 clear A20
 by_cases c3 : t280 = true
 ·subst c3
  have H1 : ((impl_maskOf.f a0_0 a0_1 a0_2 a0_3 a0_4 a0_5 a0_6 a0_7 a0_8 a0_9 a0_10 a0_11 a0_12 a0_13 a0_14 a0_15 a0_16 a0_17 a0_18).bind fun bt281 => (some (bt281.1, bt281.2.1, bt281.2.2, 0))) = some (r1, r2, r3, r4) := by rw [if_pos rfl] at H; exact H
  clear H
  have H := H1
  clear H1
  replace H := Option.bind_eq_some_iff.mp H
  obtain ⟨⟨t281, t282, t283⟩, A40, H⟩ := H
  replace H : (some (t281, t282, t283, 0)) = some (r1, r2, r3, r4) := H
  have A4 := Aside0.mk A40
  clear A40
  simp only [Option.some.injEq, Prod.mk.injEq] at H
  obtain ⟨rfl, rfl, rfl, rfl⟩ := H
  go_enter Try.func19, Try.ntmps19
  go_wp2_with (first | ((with_reducible refine gate_dst (N := 9) rfl ?_); (try refine gate_guard (by rfl) ?_); refine ldw 30 (.tmp 1) rfl rfl rfl by71 Try.underlying30 rfl by5 ?_) | ((with_reducible refine gate_dst (N := 13) rfl ?_); (try refine gate_guard (by rfl) ?_); refine ldw 30 (.tmp 1) rfl rfl rfl by71 Try.underlying30 rfl by5 ?_) | ((with_reducible refine gate_dst (N := 1) rfl ?_); refine box_event ?hg (N := 1) ?hd (cs := #[.int .i64 a0_0, .int .i64 a0_1, .int .i64 a0_2, .int .i64 a0_3, .int .i64 a0_4, .int .i64 a0_5, .int .i64 a0_6, .int .i64 a0_7, .int .i64 a0_8, .int .i64 a0_9, .int .i64 a0_10, .int .i64 a0_11, .int .i64 a0_12, .int .i64 a0_13, .int .i64 a0_14, .int .i64 a0_15, .int .i64 a0_16, .int .i64 a0_17, .int .i64 a0_18]) (t := 30) ?hr ?_; (case hd => rfl); (case hg => rfl); (case hr => first | (go_simp; done) | (go_simp; rfl)); intro gb279 hg w5 hbox hb; have n0_ := Aside0.mk (below_step by1 hb); have n1_ := Aside0.mk (hbox); have n2_ := Aside0.mk ((by0 : w.heap.size ≤ gb279)); have n3_ := Aside0.mk ((by0 : w.heap.size ≤ gb279)); clear HB; have HB := n0_; have BK279 := n1_; have GW279 := n2_; have GE279 := n3_; clear n0_ n1_ n2_ n3_; clear hb hbox hg; have hcz6_0 := cz BK279.out 0 (.int .i64 a0_0); have hcz6_1 := cz BK279.out 1 (.int .i64 a0_1); have hcz6_2 := cz BK279.out 2 (.int .i64 a0_2); have hcz6_3 := cz BK279.out 3 (.int .i64 a0_3); have hcz6_4 := cz BK279.out 4 (.int .i64 a0_4); have hcz6_5 := cz BK279.out 5 (.int .i64 a0_5); have hcz6_6 := cz BK279.out 6 (.int .i64 a0_6); have hcz6_7 := cz BK279.out 7 (.int .i64 a0_7); have hcz6_8 := cz BK279.out 8 (.int .i64 a0_8); have hcz6_9 := cz BK279.out 9 (.int .i64 a0_9); have hcz6_10 := cz BK279.out 10 (.int .i64 a0_10); have hcz6_11 := cz BK279.out 11 (.int .i64 a0_11); have hcz6_12 := cz BK279.out 12 (.int .i64 a0_12); have hcz6_13 := cz BK279.out 13 (.int .i64 a0_13); have hcz6_14 := cz BK279.out 14 (.int .i64 a0_14); have hcz6_15 := cz BK279.out 15 (.int .i64 a0_15); have hcz6_16 := cz BK279.out 16 (.int .i64 a0_16); have hcz6_17 := cz BK279.out 17 (.int .i64 a0_17); have hcz6_18 := cz BK279.out 18 (.int .i64 a0_18)) | ((with_reducible refine gate_callee (f := 42) rfl ?_); refine goesL_ (some 10) rfl rfl Try.func42 by5 rfl #[.agg #[.int .i64 a0_0, .int .i64 a0_1, .int .i64 a0_2, .int .i64 a0_3, .int .i64 a0_4, .int .i64 a0_5, .int .i64 a0_6, .int .i64 a0_7, .int .i64 a0_8, .int .i64 a0_9, .int .i64 a0_10, .int .i64 a0_11, .int .i64 a0_12, .int .i64 a0_13, .int .i64 a0_14, .int .i64 a0_15, .int .i64 a0_16, .int .i64 a0_17, .int .i64 a0_18]] rfl by2 ?_; (with_reducible refine (impl_InstrOK.calls (HGL0 := by22) k a0_0 a0_1 a0_2 a0_3 a0_4 a0_5 a0_6 a0_7 a0_8 a0_9 a0_10 a0_11 a0_12 a0_13 a0_14 a0_15 a0_16 a0_17 a0_18 true _ A2.out).mono ?_); rintro e w7 ⟨rfl, hb⟩; refine ⟨_, rfl, ?_⟩; have n0_ := Aside0.mk (blk_below (g := gb279) (o := .cells #[.int .i64 a0_0, .int .i64 a0_1, .int .i64 a0_2, .int .i64 a0_3, .int .i64 a0_4, .int .i64 a0_5, .int .i64 a0_6, .int .i64 a0_7, .int .i64 a0_8, .int .i64 a0_9, .int .i64 a0_10, .int .i64 a0_11, .int .i64 a0_12, .int .i64 a0_13, .int .i64 a0_14, .int .i64 a0_15, .int .i64 a0_16, .int .i64 a0_17, .int .i64 a0_18] 30 (0, 0)) by71 hb); have n1_ := Aside0.mk (below_step by95 hb); clear BK279; clear HB; have BK279 := n0_; have HB := n1_; clear n0_ n1_; (try clear hb); (try clear hb2); (try clear hk); (try clear hi); have hcz8_0 := cz BK279.out 0 (.int .i64 a0_0); have hcz8_1 := cz BK279.out 1 (.int .i64 a0_1); have hcz8_2 := cz BK279.out 2 (.int .i64 a0_2); have hcz8_3 := cz BK279.out 3 (.int .i64 a0_3); have hcz8_4 := cz BK279.out 4 (.int .i64 a0_4); have hcz8_5 := cz BK279.out 5 (.int .i64 a0_5); have hcz8_6 := cz BK279.out 6 (.int .i64 a0_6); have hcz8_7 := cz BK279.out 7 (.int .i64 a0_7); have hcz8_8 := cz BK279.out 8 (.int .i64 a0_8); have hcz8_9 := cz BK279.out 9 (.int .i64 a0_9); have hcz8_10 := cz BK279.out 10 (.int .i64 a0_10); have hcz8_11 := cz BK279.out 11 (.int .i64 a0_11); have hcz8_12 := cz BK279.out 12 (.int .i64 a0_12); have hcz8_13 := cz BK279.out 13 (.int .i64 a0_13); have hcz8_14 := cz BK279.out 14 (.int .i64 a0_14); have hcz8_15 := cz BK279.out 15 (.int .i64 a0_15); have hcz8_16 := cz BK279.out 16 (.int .i64 a0_16); have hcz8_17 := cz BK279.out 17 (.int .i64 a0_17); have hcz8_18 := cz BK279.out 18 (.int .i64 a0_18)) | ((with_reducible refine gate_callee (f := 55) rfl ?_); refine goesL_ (some 14) rfl rfl Try.func55 by5 rfl #[.agg #[.int .i64 a0_0, .int .i64 a0_1, .int .i64 a0_2, .int .i64 a0_3, .int .i64 a0_4, .int .i64 a0_5, .int .i64 a0_6, .int .i64 a0_7, .int .i64 a0_8, .int .i64 a0_9, .int .i64 a0_10, .int .i64 a0_11, .int .i64 a0_12, .int .i64 a0_13, .int .i64 a0_14, .int .i64 a0_15, .int .i64 a0_16, .int .i64 a0_17, .int .i64 a0_18]] rfl by2 ?_; (with_reducible refine (impl_maskOf.calls a0_0 a0_1 a0_2 a0_3 a0_4 a0_5 a0_6 a0_7 a0_8 a0_9 a0_10 a0_11 a0_12 a0_13 a0_14 a0_15 a0_16 a0_17 a0_18 t281 t282 t283 _ A4.out).mono ?_); rintro e w9 ⟨rfl, hb⟩; refine ⟨_, rfl, ?_⟩; have n0_ := Aside0.mk (blk_below (g := gb279) (o := .cells #[.int .i64 a0_0, .int .i64 a0_1, .int .i64 a0_2, .int .i64 a0_3, .int .i64 a0_4, .int .i64 a0_5, .int .i64 a0_6, .int .i64 a0_7, .int .i64 a0_8, .int .i64 a0_9, .int .i64 a0_10, .int .i64 a0_11, .int .i64 a0_12, .int .i64 a0_13, .int .i64 a0_14, .int .i64 a0_15, .int .i64 a0_16, .int .i64 a0_17, .int .i64 a0_18] 30 (0, 0)) by71 hb); have n1_ := Aside0.mk (below_step by95 hb); clear BK279; clear HB; have BK279 := n0_; have HB := n1_; clear n0_ n1_; (try clear hb); (try clear hb2); (try clear hk); (try clear hi)))
  refine bodyPost_ret (results_list (rs := [.tmp 2, .tmp 3, .tmp 4, .tmp 5]) rfl (by simp) (.tmp (.tmp (.tmp (.tmp .nil))))) rfl ?_
  exact ⟨by first | rfl | (simp [errW_none, errW_some] <;> rfl) | (simp [*, errW_none, errW_some] <;> rfl), by repeat (first | (with_reducible first | exact HB.out | apply below_alloc | apply pw_below_drewN | apply below_drew1 | refine below_set ?_ GE279.out) | exact HB.out)⟩
 ·replace c3 := Bool.eq_false_iff.mpr c3
  subst c3
  have H1 : (some (0, 0, false, 1)) = some (r1, r2, r3, r4) := by rw [if_neg (show ¬ (false = true) by decide)] at H; exact H
  clear H
  have H := H1
  clear H1
  simp only [Option.some.injEq, Prod.mk.injEq] at H
  obtain ⟨rfl, rfl, rfl, rfl⟩ := H
  go_enter Try.func19, Try.ntmps19
  go_wp2_with (first | ((with_reducible refine gate_dst (N := 9) rfl ?_); (try refine gate_guard (by rfl) ?_); refine ldw 30 (.tmp 1) rfl rfl rfl by71 Try.underlying30 rfl by5 ?_) | ((with_reducible refine gate_dst (N := 13) rfl ?_); (try refine gate_guard (by rfl) ?_); refine ldw 30 (.tmp 1) rfl rfl rfl by71 Try.underlying30 rfl by5 ?_) | ((with_reducible refine gate_dst (N := 1) rfl ?_); refine box_event ?hg (N := 1) ?hd (cs := #[.int .i64 a0_0, .int .i64 a0_1, .int .i64 a0_2, .int .i64 a0_3, .int .i64 a0_4, .int .i64 a0_5, .int .i64 a0_6, .int .i64 a0_7, .int .i64 a0_8, .int .i64 a0_9, .int .i64 a0_10, .int .i64 a0_11, .int .i64 a0_12, .int .i64 a0_13, .int .i64 a0_14, .int .i64 a0_15, .int .i64 a0_16, .int .i64 a0_17, .int .i64 a0_18]) (t := 30) ?hr ?_; (case hd => rfl); (case hg => rfl); (case hr => first | (go_simp; done) | (go_simp; rfl)); intro gb279 hg w10 hbox hb; have n0_ := Aside0.mk (below_step by1 hb); have n1_ := Aside0.mk (hbox); have n2_ := Aside0.mk ((by0 : w.heap.size ≤ gb279)); have n3_ := Aside0.mk ((by0 : w.heap.size ≤ gb279)); clear HB; have HB := n0_; have BK279 := n1_; have GW279 := n2_; have GE279 := n3_; clear n0_ n1_ n2_ n3_; clear hb hbox hg; have hcz11_0 := cz BK279.out 0 (.int .i64 a0_0); have hcz11_1 := cz BK279.out 1 (.int .i64 a0_1); have hcz11_2 := cz BK279.out 2 (.int .i64 a0_2); have hcz11_3 := cz BK279.out 3 (.int .i64 a0_3); have hcz11_4 := cz BK279.out 4 (.int .i64 a0_4); have hcz11_5 := cz BK279.out 5 (.int .i64 a0_5); have hcz11_6 := cz BK279.out 6 (.int .i64 a0_6); have hcz11_7 := cz BK279.out 7 (.int .i64 a0_7); have hcz11_8 := cz BK279.out 8 (.int .i64 a0_8); have hcz11_9 := cz BK279.out 9 (.int .i64 a0_9); have hcz11_10 := cz BK279.out 10 (.int .i64 a0_10); have hcz11_11 := cz BK279.out 11 (.int .i64 a0_11); have hcz11_12 := cz BK279.out 12 (.int .i64 a0_12); have hcz11_13 := cz BK279.out 13 (.int .i64 a0_13); have hcz11_14 := cz BK279.out 14 (.int .i64 a0_14); have hcz11_15 := cz BK279.out 15 (.int .i64 a0_15); have hcz11_16 := cz BK279.out 16 (.int .i64 a0_16); have hcz11_17 := cz BK279.out 17 (.int .i64 a0_17); have hcz11_18 := cz BK279.out 18 (.int .i64 a0_18)) | ((with_reducible refine gate_callee (f := 42) rfl ?_); refine goesL_ (some 10) rfl rfl Try.func42 by5 rfl #[.agg #[.int .i64 a0_0, .int .i64 a0_1, .int .i64 a0_2, .int .i64 a0_3, .int .i64 a0_4, .int .i64 a0_5, .int .i64 a0_6, .int .i64 a0_7, .int .i64 a0_8, .int .i64 a0_9, .int .i64 a0_10, .int .i64 a0_11, .int .i64 a0_12, .int .i64 a0_13, .int .i64 a0_14, .int .i64 a0_15, .int .i64 a0_16, .int .i64 a0_17, .int .i64 a0_18]] rfl by2 ?_; (with_reducible refine (impl_InstrOK.calls (HGL0 := by22) k a0_0 a0_1 a0_2 a0_3 a0_4 a0_5 a0_6 a0_7 a0_8 a0_9 a0_10 a0_11 a0_12 a0_13 a0_14 a0_15 a0_16 a0_17 a0_18 false _ A2.out).mono ?_); rintro e w12 ⟨rfl, hb⟩; refine ⟨_, rfl, ?_⟩; have n0_ := Aside0.mk (blk_below (g := gb279) (o := .cells #[.int .i64 a0_0, .int .i64 a0_1, .int .i64 a0_2, .int .i64 a0_3, .int .i64 a0_4, .int .i64 a0_5, .int .i64 a0_6, .int .i64 a0_7, .int .i64 a0_8, .int .i64 a0_9, .int .i64 a0_10, .int .i64 a0_11, .int .i64 a0_12, .int .i64 a0_13, .int .i64 a0_14, .int .i64 a0_15, .int .i64 a0_16, .int .i64 a0_17, .int .i64 a0_18] 30 (0, 0)) by71 hb); have n1_ := Aside0.mk (below_step by95 hb); clear BK279; clear HB; have BK279 := n0_; have HB := n1_; clear n0_ n1_; (try clear hb); (try clear hb2); (try clear hk); (try clear hi)))
  refine bodyPost_ret (results_list (rs := [.tmp 2, .tmp 3, .tmp 4, .tmp 5]) rfl (by simp) (.tmp (.tmp (.tmp (.tmp .nil))))) rfl ?_
  exact ⟨by first | rfl | (simp [errW_none, errW_some] <;> rfl) | (simp [*, errW_none, errW_some] <;> rfl), by repeat (first | (with_reducible first | exact HB.out | apply below_alloc | apply pw_below_drewN | apply below_drew1 | refine below_set ?_ GE279.out) | exact HB.out)⟩

/-! ### laws_FnExactMaskOf: function 4 -/
def laws_FnExactMaskOf.f (k : Nat) (a0_0 : Int) (a0_1 : Int) (a0_2 : Int) (a0_3 : Int) (a0_4 : Int) (a0_5 : Int) (a0_6 : Int) (a0_7 : Int) (a0_8 : Int) (a0_9 : Int) (a0_10 : Int) (a0_11 : Int) (a0_12 : Int) (a0_13 : Int) (a0_14 : Int) (a0_15 : Int) (a0_16 : Int) (a0_17 : Int) (a0_18 : Int) : Option (Bool) := (laws_toInstr.f a0_0 a0_1 a0_2 a0_3 a0_4 a0_5 a0_6 a0_7 a0_8 a0_9 a0_10 a0_11 a0_12 a0_13 a0_14 a0_15 a0_16 a0_17 a0_18).bind fun bt285 => ((spec_MaskOf.f k bt285.1 bt285.2.1 bt285.2.2.1 bt285.2.2.2.1 bt285.2.2.2.2.1 bt285.2.2.2.2.2.1 bt285.2.2.2.2.2.2.1 bt285.2.2.2.2.2.2.2.1 bt285.2.2.2.2.2.2.2.2.1 bt285.2.2.2.2.2.2.2.2.2.1 bt285.2.2.2.2.2.2.2.2.2.2.1 bt285.2.2.2.2.2.2.2.2.2.2.2.1 bt285.2.2.2.2.2.2.2.2.2.2.2.2.1 bt285.2.2.2.2.2.2.2.2.2.2.2.2.2.1 bt285.2.2.2.2.2.2.2.2.2.2.2.2.2.2.1 bt285.2.2.2.2.2.2.2.2.2.2.2.2.2.2.2.1 bt285.2.2.2.2.2.2.2.2.2.2.2.2.2.2.2.2.1 bt285.2.2.2.2.2.2.2.2.2.2.2.2.2.2.2.2.2.1 bt285.2.2.2.2.2.2.2.2.2.2.2.2.2.2.2.2.2.2).bind fun bt304 => ((laws_toInstr.f a0_0 a0_1 a0_2 a0_3 a0_4 a0_5 a0_6 a0_7 a0_8 a0_9 a0_10 a0_11 a0_12 a0_13 a0_14 a0_15 a0_16 a0_17 a0_18).bind fun bt308 => ((impl_MaskOf.f k bt308.1 bt308.2.1 bt308.2.2.1 bt308.2.2.2.1 bt308.2.2.2.2.1 bt308.2.2.2.2.2.1 bt308.2.2.2.2.2.2.1 bt308.2.2.2.2.2.2.2.1 bt308.2.2.2.2.2.2.2.2.1 bt308.2.2.2.2.2.2.2.2.2.1 bt308.2.2.2.2.2.2.2.2.2.2.1 bt308.2.2.2.2.2.2.2.2.2.2.2.1 bt308.2.2.2.2.2.2.2.2.2.2.2.2.1 bt308.2.2.2.2.2.2.2.2.2.2.2.2.2.1 bt308.2.2.2.2.2.2.2.2.2.2.2.2.2.2.1 bt308.2.2.2.2.2.2.2.2.2.2.2.2.2.2.2.1 bt308.2.2.2.2.2.2.2.2.2.2.2.2.2.2.2.2.1 bt308.2.2.2.2.2.2.2.2.2.2.2.2.2.2.2.2.2.1 bt308.2.2.2.2.2.2.2.2.2.2.2.2.2.2.2.2.2.2).bind fun bt327 => (if bt327.1 = bt304.1 then (if bt327.2.1 = bt304.2.1 then (if (bt327.2.2.1 != bt304.2.2.1) = true then (some false) else (if bt327.2.2.2 = bt304.2.2.2 then (some true) else (some false))) else (some false)) else (some false)))))
theorem laws_FnExactMaskOf.mono : ∀ a0 a1 a2 a3 a4 a5 a6 a7 a8 a9 a10 a11 a12 a13 a14 a15 a16 a17 a18 k, LeO (laws_FnExactMaskOf.f k a0 a1 a2 a3 a4 a5 a6 a7 a8 a9 a10 a11 a12 a13 a14 a15 a16 a17 a18) (laws_FnExactMaskOf.f (k + 1) a0 a1 a2 a3 a4 a5 a6 a7 a8 a9 a10 a11 a12 a13 a14 a15 a16 a17 a18) := by
 intro a0 a1 a2 a3 a4 a5 a6 a7 a8 a9 a10 a11 a12 a13 a14 a15 a16 a17 a18 k
 unfold laws_FnExactMaskOf.f
 repeat' first
   | (with_reducible exact impl_MaskOf.mono _ _ _ _ _ _ _ _ _ _ _ _ _ _ _ _ _ _ _ _)
   | (with_reducible exact spec_MaskOf.mono _ _ _ _ _ _ _ _ _ _ _ _ _ _ _ _ _ _ _ _)
   | (with_reducible exact LeO.refl _)
   | (with_reducible exact LeO.none _)
   | (with_reducible refine LeO.ite ?_ ?_)
   | (with_reducible refine LeO.bind ?_ (fun _ => ?_))
   | refine LeO.ite ?_ ?_
   | refine LeO.bind ?_ (fun _ => ?_)
theorem laws_FnExactMaskOf.e0 {p : Prop} (h : p := by
 obtain rfl := Option.some.inj H
 go_enter Try.func4, Try.ntmps4
 go_wp2_with (first | ((with_reducible refine gate_dst (N := 12) rfl ?_); (try refine gate_guard (by rfl) ?_); refine ldw 25 (.tmp 1) rfl rfl rfl by32 Try.underlying25 rfl by5 ?_) | ((with_reducible refine gate_dst (N := 20) rfl ?_); (try refine gate_guard (by rfl) ?_); refine ldw 25 (.tmp 1) rfl rfl rfl by32 Try.underlying25 rfl by5 ?_) | ((with_reducible refine gate_dst (N := 1) rfl ?_); refine box_event ?hg (N := 1) ?hd (cs := #[.int .i64 a0_0, .int .i64 a0_1, .int .i64 a0_2, .int .i64 a0_3, .int .i64 a0_4, .int .i64 a0_5, .int .i64 a0_6, .int .i64 a0_7, .int .i64 a0_8, .int .i64 a0_9, .int .i64 a0_10, .int .i64 a0_11, .int .i64 a0_12, .int .i64 a0_13, .int .i64 a0_14, .int .i64 a0_15, .int .i64 a0_16, .int .i64 a0_17, .int .i64 a0_18]) (t := 25) ?hr ?_; (case hd => rfl); (case hg => rfl); (case hr => first | (go_simp; done) | (go_simp; rfl)); intro gb_y0 hg w_y1 hbox hb; have n_y2 := Aside0.mk (below_step by1 hb); have n_y3 := Aside0.mk (hbox); have n_y4 := Aside0.mk ((by0 : w.heap.size ≤ gb_y0)); have n_y5 := Aside0.mk ((by0 : w.heap.size ≤ gb_y0)); clear HB; have HB := n_y2; have BK284 := n_y3; have GW_y6 := n_y4; have GE_y7 := n_y5; clear n_y2 n_y3 n_y4 n_y5; clear hb hbox hg; have hcz_y8 := cz BK284.out 0 (.int .i64 a0_0); have hcz_y9 := cz BK284.out 1 (.int .i64 a0_1); have hcz_y10 := cz BK284.out 2 (.int .i64 a0_2); have hcz_y11 := cz BK284.out 3 (.int .i64 a0_3); have hcz_y12 := cz BK284.out 4 (.int .i64 a0_4); have hcz_y13 := cz BK284.out 5 (.int .i64 a0_5); have hcz_y14 := cz BK284.out 6 (.int .i64 a0_6); have hcz_y15 := cz BK284.out 7 (.int .i64 a0_7); have hcz_y16 := cz BK284.out 8 (.int .i64 a0_8); have hcz_y17 := cz BK284.out 9 (.int .i64 a0_9); have hcz_y18 := cz BK284.out 10 (.int .i64 a0_10); have hcz_y19 := cz BK284.out 11 (.int .i64 a0_11); have hcz_y20 := cz BK284.out 12 (.int .i64 a0_12); have hcz_y21 := cz BK284.out 13 (.int .i64 a0_13); have hcz_y22 := cz BK284.out 14 (.int .i64 a0_14); have hcz_y23 := cz BK284.out 15 (.int .i64 a0_15); have hcz_y24 := cz BK284.out 16 (.int .i64 a0_16); have hcz_y25 := cz BK284.out 17 (.int .i64 a0_17); have hcz_y26 := cz BK284.out 18 (.int .i64 a0_18)) | ((with_reducible refine gate_callee (f := 16) rfl ?_); refine goesL_ (some 13) rfl rfl Try.func16 by5 rfl #[.agg #[.int .i64 a0_0, .int .i64 a0_1, .int .i64 a0_2, .int .i64 a0_3, .int .i64 a0_4, .int .i64 a0_5, .int .i64 a0_6, .int .i64 a0_7, .int .i64 a0_8, .int .i64 a0_9, .int .i64 a0_10, .int .i64 a0_11, .int .i64 a0_12, .int .i64 a0_13, .int .i64 a0_14, .int .i64 a0_15, .int .i64 a0_16, .int .i64 a0_17, .int .i64 a0_18]] rfl by2 ?_; (with_reducible refine (laws_toInstr.calls a0_0 a0_1 a0_2 a0_3 a0_4 a0_5 a0_6 a0_7 a0_8 a0_9 a0_10 a0_11 a0_12 a0_13 a0_14 a0_15 a0_16 a0_17 a0_18 t285 t286 t287 t288 t289 t290 t291 t292 t293 t294 t295 t296 t297 t298 t299 t300 t301 t302 t303 _ A2.out).mono ?_); rintro e w_y27 ⟨rfl, hb⟩; refine ⟨_, rfl, ?_⟩; have n_y2 := Aside0.mk (blk_below (g := gb_y0) (o := .cells #[.int .i64 a0_0, .int .i64 a0_1, .int .i64 a0_2, .int .i64 a0_3, .int .i64 a0_4, .int .i64 a0_5, .int .i64 a0_6, .int .i64 a0_7, .int .i64 a0_8, .int .i64 a0_9, .int .i64 a0_10, .int .i64 a0_11, .int .i64 a0_12, .int .i64 a0_13, .int .i64 a0_14, .int .i64 a0_15, .int .i64 a0_16, .int .i64 a0_17, .int .i64 a0_18] 25 (0, 0)) by32 hb); have n_y3 := Aside0.mk (below_step by30 hb); clear BK284; clear HB; have BK284 := n_y2; have HB := n_y3; clear n_y2 n_y3; (try clear hb); (try clear hb2); (try clear hk); (try clear hi)) | ((with_reducible refine gate_callee (f := 18) rfl ?_); refine goesL_ (some 14) rfl rfl Try.func18 by5 rfl #[.agg #[.int .i64 t285, .int .i64 t286, .int .i64 t287, .int .i64 t288, .int .i64 t289, .int .i64 t290, .int .i64 t291, .int .i64 t292, .int .i64 t293, .int .i64 t294, .int .i64 t295, .int .i64 t296, .int .i64 t297, .int .i64 t298, .int .i64 t299, .int .i64 t300, .int .i64 t301, .int .i64 t302, .int .i64 t303]] rfl by2 ?_; (with_reducible refine (spec_MaskOf.calls k t285 t286 t287 t288 t289 t290 t291 t292 t293 t294 t295 t296 t297 t298 t299 t300 t301 t302 t303 t304 t305 t306 t307 _ A3.out).mono ?_); rintro e w_y28 ⟨rfl, hb⟩; refine ⟨_, rfl, ?_⟩; have n_y2 := Aside0.mk (blk_below (g := gb_y0) (o := .cells #[.int .i64 a0_0, .int .i64 a0_1, .int .i64 a0_2, .int .i64 a0_3, .int .i64 a0_4, .int .i64 a0_5, .int .i64 a0_6, .int .i64 a0_7, .int .i64 a0_8, .int .i64 a0_9, .int .i64 a0_10, .int .i64 a0_11, .int .i64 a0_12, .int .i64 a0_13, .int .i64 a0_14, .int .i64 a0_15, .int .i64 a0_16, .int .i64 a0_17, .int .i64 a0_18] 25 (0, 0)) by32 hb); have n_y3 := Aside0.mk (below_step by30 hb); clear BK284; clear HB; have BK284 := n_y2; have HB := n_y3; clear n_y2 n_y3; (try clear hb); (try clear hb2); (try clear hk); (try clear hi); have hcz_y29 := cz BK284.out 0 (.int .i64 a0_0); have hcz_y30 := cz BK284.out 1 (.int .i64 a0_1); have hcz_y31 := cz BK284.out 2 (.int .i64 a0_2); have hcz_y32 := cz BK284.out 3 (.int .i64 a0_3); have hcz_y33 := cz BK284.out 4 (.int .i64 a0_4); have hcz_y34 := cz BK284.out 5 (.int .i64 a0_5); have hcz_y35 := cz BK284.out 6 (.int .i64 a0_6); have hcz_y36 := cz BK284.out 7 (.int .i64 a0_7); have hcz_y37 := cz BK284.out 8 (.int .i64 a0_8); have hcz_y38 := cz BK284.out 9 (.int .i64 a0_9); have hcz_y39 := cz BK284.out 10 (.int .i64 a0_10); have hcz_y40 := cz BK284.out 11 (.int .i64 a0_11); have hcz_y41 := cz BK284.out 12 (.int .i64 a0_12); have hcz_y42 := cz BK284.out 13 (.int .i64 a0_13); have hcz_y43 := cz BK284.out 14 (.int .i64 a0_14); have hcz_y44 := cz BK284.out 15 (.int .i64 a0_15); have hcz_y45 := cz BK284.out 16 (.int .i64 a0_16); have hcz_y46 := cz BK284.out 17 (.int .i64 a0_17); have hcz_y47 := cz BK284.out 18 (.int .i64 a0_18)) | ((with_reducible refine gate_callee (f := 16) rfl ?_); refine goesL_ (some 21) rfl rfl Try.func16 by5 rfl #[.agg #[.int .i64 a0_0, .int .i64 a0_1, .int .i64 a0_2, .int .i64 a0_3, .int .i64 a0_4, .int .i64 a0_5, .int .i64 a0_6, .int .i64 a0_7, .int .i64 a0_8, .int .i64 a0_9, .int .i64 a0_10, .int .i64 a0_11, .int .i64 a0_12, .int .i64 a0_13, .int .i64 a0_14, .int .i64 a0_15, .int .i64 a0_16, .int .i64 a0_17, .int .i64 a0_18]] rfl by2 ?_; (with_reducible refine (laws_toInstr.calls a0_0 a0_1 a0_2 a0_3 a0_4 a0_5 a0_6 a0_7 a0_8 a0_9 a0_10 a0_11 a0_12 a0_13 a0_14 a0_15 a0_16 a0_17 a0_18 t308 t309 t310 t311 t312 t313 t314 t315 t316 t317 t318 t319 t320 t321 t322 t323 t324 t325 t326 _ A4.out).mono ?_); rintro e w_y48 ⟨rfl, hb⟩; refine ⟨_, rfl, ?_⟩; have n_y2 := Aside0.mk (blk_below (g := gb_y0) (o := .cells #[.int .i64 a0_0, .int .i64 a0_1, .int .i64 a0_2, .int .i64 a0_3, .int .i64 a0_4, .int .i64 a0_5, .int .i64 a0_6, .int .i64 a0_7, .int .i64 a0_8, .int .i64 a0_9, .int .i64 a0_10, .int .i64 a0_11, .int .i64 a0_12, .int .i64 a0_13, .int .i64 a0_14, .int .i64 a0_15, .int .i64 a0_16, .int .i64 a0_17, .int .i64 a0_18] 25 (0, 0)) by32 hb); have n_y3 := Aside0.mk (below_step by30 hb); clear BK284; clear HB; have BK284 := n_y2; have HB := n_y3; clear n_y2 n_y3; (try clear hb); (try clear hb2); (try clear hk); (try clear hi)) | ((with_reducible refine gate_callee (f := 19) rfl ?_); refine goesL_ (some 22) rfl rfl Try.func19 by5 rfl #[.agg #[.int .i64 t308, .int .i64 t309, .int .i64 t310, .int .i64 t311, .int .i64 t312, .int .i64 t313, .int .i64 t314, .int .i64 t315, .int .i64 t316, .int .i64 t317, .int .i64 t318, .int .i64 t319, .int .i64 t320, .int .i64 t321, .int .i64 t322, .int .i64 t323, .int .i64 t324, .int .i64 t325, .int .i64 t326]] rfl by2 ?_; (with_reducible refine (impl_MaskOf.calls (HGL0 := by22) k t308 t309 t310 t311 t312 t313 t314 t315 t316 t317 t318 t319 t320 t321 t322 t323 t324 t325 t326 t327 t328 t329 t330 _ A5.out).mono ?_); rintro e w_y49 ⟨rfl, hb⟩; refine ⟨_, rfl, ?_⟩; have n_y2 := Aside0.mk (blk_below (g := gb_y0) (o := .cells #[.int .i64 a0_0, .int .i64 a0_1, .int .i64 a0_2, .int .i64 a0_3, .int .i64 a0_4, .int .i64 a0_5, .int .i64 a0_6, .int .i64 a0_7, .int .i64 a0_8, .int .i64 a0_9, .int .i64 a0_10, .int .i64 a0_11, .int .i64 a0_12, .int .i64 a0_13, .int .i64 a0_14, .int .i64 a0_15, .int .i64 a0_16, .int .i64 a0_17, .int .i64 a0_18] 25 (0, 0)) by32 hb); have n_y3 := Aside0.mk (below_step by30 hb); clear BK284; clear HB; have BK284 := n_y2; have HB := n_y3; clear n_y2 n_y3; (try clear hb); (try clear hb2); (try clear hk); (try clear hi)))
 go_ret
 exact ⟨by first | rfl | (simp [errW_none, errW_some] <;> rfl) | (simp [*, errW_none, errW_some] <;> rfl), by repeat (first | (with_reducible first | exact HB.out | apply below_alloc | apply pw_below_drewN | apply below_drew1 | refine below_set ?_ GE_y7.out) | exact HB.out)⟩) : p := h
set_option maxHeartbeats 8000000 in
set_option maxRecDepth 100000 in
theorem laws_FnExactMaskOf.calls (k : Nat) (a0_0 : Int) (a0_1 : Int) (a0_2 : Int) (a0_3 : Int) (a0_4 : Int) (a0_5 : Int) (a0_6 : Int) (a0_7 : Int) (a0_8 : Int) (a0_9 : Int) (a0_10 : Int) (a0_11 : Int) (a0_12 : Int) (a0_13 : Int) (a0_14 : Int) (a0_15 : Int) (a0_16 : Int) (a0_17 : Int) (a0_18 : Int) (r : Bool) (w : World) (HGL0 : PGlob w) (h : laws_FnExactMaskOf.f k a0_0 a0_1 a0_2 a0_3 a0_4 a0_5 a0_6 a0_7 a0_8 a0_9 a0_10 a0_11 a0_12 a0_13 a0_14 a0_15 a0_16 a0_17 a0_18 = some r) :
  Calls Try.prog 4 #[.agg #[.int .i64 a0_0, .int .i64 a0_1, .int .i64 a0_2, .int .i64 a0_3, .int .i64 a0_4, .int .i64 a0_5, .int .i64 a0_6, .int .i64 a0_7, .int .i64 a0_8, .int .i64 a0_9, .int .i64 a0_10, .int .i64 a0_11, .int .i64 a0_12, .int .i64 a0_13, .int .i64 a0_14, .int .i64 a0_15, .int .i64 a0_16, .int .i64 a0_17, .int .i64 a0_18]] w fun e w' => e = .returned (.bool r) ∧ Below w.heap.size w w' := by
 have HGL := Aside0.mk HGL0
 clear HGL0
 have hu25 := Try.underlying25
 have HB := Aside0.mk (Below.refl w.heap.size w)
 have H : ((laws_toInstr.f a0_0 a0_1 a0_2 a0_3 a0_4 a0_5 a0_6 a0_7 a0_8 a0_9 a0_10 a0_11 a0_12 a0_13 a0_14 a0_15 a0_16 a0_17 a0_18).bind fun bt285 => ((spec_MaskOf.f k bt285.1 bt285.2.1 bt285.2.2.1 bt285.2.2.2.1 bt285.2.2.2.2.1 bt285.2.2.2.2.2.1 bt285.2.2.2.2.2.2.1 bt285.2.2.2.2.2.2.2.1 bt285.2.2.2.2.2.2.2.2.1 bt285.2.2.2.2.2.2.2.2.2.1 bt285.2.2.2.2.2.2.2.2.2.2.1 bt285.2.2.2.2.2.2.2.2.2.2.2.1 bt285.2.2.2.2.2.2.2.2.2.2.2.2.1 bt285.2.2.2.2.2.2.2.2.2.2.2.2.2.1 bt285.2.2.2.2.2.2.2.2.2.2.2.2.2.2.1 bt285.2.2.2.2.2.2.2.2.2.2.2.2.2.2.2.1 bt285.2.2.2.2.2.2.2.2.2.2.2.2.2.2.2.2.1 bt285.2.2.2.2.2.2.2.2.2.2.2.2.2.2.2.2.2.1 bt285.2.2.2.2.2.2.2.2.2.2.2.2.2.2.2.2.2.2).bind fun bt304 => ((laws_toInstr.f a0_0 a0_1 a0_2 a0_3 a0_4 a0_5 a0_6 a0_7 a0_8 a0_9 a0_10 a0_11 a0_12 a0_13 a0_14 a0_15 a0_16 a0_17 a0_18).bind fun bt308 => ((impl_MaskOf.f k bt308.1 bt308.2.1 bt308.2.2.1 bt308.2.2.2.1 bt308.2.2.2.2.1 bt308.2.2.2.2.2.1 bt308.2.2.2.2.2.2.1 bt308.2.2.2.2.2.2.2.1 bt308.2.2.2.2.2.2.2.2.1 bt308.2.2.2.2.2.2.2.2.2.1 bt308.2.2.2.2.2.2.2.2.2.2.1 bt308.2.2.2.2.2.2.2.2.2.2.2.1 bt308.2.2.2.2.2.2.2.2.2.2.2.2.1 bt308.2.2.2.2.2.2.2.2.2.2.2.2.2.1 bt308.2.2.2.2.2.2.2.2.2.2.2.2.2.2.1 bt308.2.2.2.2.2.2.2.2.2.2.2.2.2.2.2.1 bt308.2.2.2.2.2.2.2.2.2.2.2.2.2.2.2.2.1 bt308.2.2.2.2.2.2.2.2.2.2.2.2.2.2.2.2.2.1 bt308.2.2.2.2.2.2.2.2.2.2.2.2.2.2.2.2.2.2).bind fun bt327 => (if bt327.1 = bt304.1 then (if bt327.2.1 = bt304.2.1 then (if (bt327.2.2.1 != bt304.2.2.1) = true then (some false) else (if bt327.2.2.2 = bt304.2.2.2 then (some true) else (some false))) else (some false)) else (some false)))))) = some r := h
 clear h
 replace H := Option.bind_eq_some_iff.mp H
 obtain ⟨⟨t285, t286, t287, t288, t289, t290, t291, t292, t293, t294, t295, t296, t297, t298, t299, t300, t301, t302, t303⟩, A20, H⟩ := H
 replace H : ((spec_MaskOf.f k t285 t286 t287 t288 t289 t290 t291 t292 t293 t294 t295 t296 t297 t298 t299 t300 t301 t302 t303).bind fun bt304 => ((laws_toInstr.f a0_0 a0_1 a0_2 a0_3 a0_4 a0_5 a0_6 a0_7 a0_8 a0_9 a0_10 a0_11 a0_12 a0_13 a0_14 a0_15 a0_16 a0_17 a0_18).bind fun bt308 => ((impl_MaskOf.f k bt308.1 bt308.2.1 bt308.2.2.1 bt308.2.2.2.1 bt308.2.2.2.2.1 bt308.2.2.2.2.2.1 bt308.2.2.2.2.2.2.1 bt308.2.2.2.2.2.2.2.1 bt308.2.2.2.2.2.2.2.2.1 bt308.2.2.2.2.2.2.2.2.2.1 bt308.2.2.2.2.2.2.2.2.2.2.1 bt308.2.2.2.2.2.2.2.2.2.2.2.1 bt308.2.2.2.2.2.2.2.2.2.2.2.2.1 bt308.2.2.2.2.2.2.2.2.2.2.2.2.2.1 bt308.2.2.2.2.2.2.2.2.2.2.2.2.2.2.1 bt308.2.2.2.2.2.2.2.2.2.2.2.2.2.2.2.1 bt308.2.2.2.2.2.2.2.2.2.2.2.2.2.2.2.2.1 bt308.2.2.2.2.2.2.2.2.2.2.2.2.2.2.2.2.2.1 bt308.2.2.2.2.2.2.2.2.2.2.2.2.2.2.2.2.2.2).bind fun bt327 => (if bt327.1 = bt304.1 then (if bt327.2.1 = bt304.2.1 then (if (bt327.2.2.1 != bt304.2.2.1) = true then (some false) else (if bt327.2.2.2 = bt304.2.2.2 then (some true) else (some false))) else (some false)) else (some false))))) = some r := H
 have A2 := Aside0.mk A20
 clear A20
 replace H := Option.bind_eq_some_iff.mp H
 obtain ⟨⟨t304, t305, t306, t307⟩, A30, H⟩ := H
 replace H : ((laws_toInstr.f a0_0 a0_1 a0_2 a0_3 a0_4 a0_5 a0_6 a0_7 a0_8 a0_9 a0_10 a0_11 a0_12 a0_13 a0_14 a0_15 a0_16 a0_17 a0_18).bind fun bt308 => ((impl_MaskOf.f k bt308.1 bt308.2.1 bt308.2.2.1 bt308.2.2.2.1 bt308.2.2.2.2.1 bt308.2.2.2.2.2.1 bt308.2.2.2.2.2.2.1 bt308.2.2.2.2.2.2.2.1 bt308.2.2.2.2.2.2.2.2.1 bt308.2.2.2.2.2.2.2.2.2.1 bt308.2.2.2.2.2.2.2.2.2.2.1 bt308.2.2.2.2.2.2.2.2.2.2.2.1 bt308.2.2.2.2.2.2.2.2.2.2.2.2.1 bt308.2.2.2.2.2.2.2.2.2.2.2.2.2.1 bt308.2.2.2.2.2.2.2.2.2.2.2.2.2.2.1 bt308.2.2.2.2.2.2.2.2.2.2.2.2.2.2.2.1 bt308.2.2.2.2.2.2.2.2.2.2.2.2.2.2.2.2.1 bt308.2.2.2.2.2.2.2.2.2.2.2.2.2.2.2.2.2.1 bt308.2.2.2.2.2.2.2.2.2.2.2.2.2.2.2.2.2.2).bind fun bt327 => (if bt327.1 = t304 then (if bt327.2.1 = t305 then (if (bt327.2.2.1 != t306) = true then (some false) else (if bt327.2.2.2 = t307 then (some true) else (some false))) else (some false)) else (some false)))) = some r := H
 have A3 := Aside0.mk A30
 clear A30
 replace H := Option.bind_eq_some_iff.mp H
 obtain ⟨⟨t308, t309, t310, t311, t312, t313, t314, t315, t316, t317, t318, t319, t320, t321, t322, t323, t324, t325, t326⟩, A40, H⟩ := H
 replace H : ((impl_MaskOf.f k t308 t309 t310 t311 t312 t313 t314 t315 t316 t317 t318 t319 t320 t321 t322 t323 t324 t325 t326).bind fun bt327 => (if bt327.1 = t304 then (if bt327.2.1 = t305 then (if (bt327.2.2.1 != t306) = true then (some false) else (if bt327.2.2.2 = t307 then (some true) else (some false))) else (some false)) else (some false))) = some r := H
 have A4 := Aside0.mk A40
 clear A40
 replace H := Option.bind_eq_some_iff.mp H
 obtain ⟨⟨t327, t328, t329, t330⟩, A50, H⟩ := H
 replace H : (if t327 = t304 then (if t328 = t305 then (if (t329 != t306) = true then (some false) else (if t330 = t307 then (some true) else (some false))) else (some false)) else (some false)) = some r := H
 have A5 := Aside0.mk A50
 clear A50
 by_cases c6 : t327 = t304
 ·rw [if_pos c6] at H
  have c6b0 : (t327 == t304) = true := beq_iff_eq.mpr c6
  have c6b1 : (t327 != t304) = false := bne_eq_false_iff_eq.mpr c6
  clear c6
  by_cases c7 : t328 = t305
  ·rw [if_pos c7] at H
   have c7b0 : (t328 == t305) = true := beq_iff_eq.mpr c7
   have c7b1 : (t328 != t305) = false := bne_eq_false_iff_eq.mpr c7
   clear c7
   by_cases c8 : (t329 != t306) = true
   ·rw [if_pos c8] at H
    have c8b0 : (t329 != t306) = true := c8
    (try (have c8b1 : decide (t329 = t306) = false := by simpa using c8))
    (try (have c8b2 : (t329 == t306) = false := by simpa using c8))
    (try (have c8b3 : ¬ (t329 = t306) := by simpa using c8))
    clear c8
    exact laws_FnExactMaskOf.e0
   ·rw [if_neg c8] at H
    have c8b0 : (t329 != t306) = false := by simpa using c8
    (try (have c8b1 : decide (t329 = t306) = true := by simpa using c8))
    (try (have c8b2 : (t329 == t306) = true := by simpa using c8))
    clear c8
    by_cases c16 : t330 = t307
    ·rw [if_pos c16] at H
     have c16b0 : (t330 == t307) = true := beq_iff_eq.mpr c16
     have c16b1 : (t330 != t307) = false := bne_eq_false_iff_eq.mpr c16
     clear c16
     exact laws_FnExactMaskOf.e0
    ·rw [if_neg c16] at H
     have c16b0 : (t330 == t307) = false := beq_eq_false_iff_ne.mpr c16
     have c16b1 : (t330 != t307) = true := bne_iff_ne.mpr c16
     exact laws_FnExactMaskOf.e0
  ·rw [if_neg c7] at H
   have c7b0 : (t328 == t305) = false := beq_eq_false_iff_ne.mpr c7
   have c7b1 : (t328 != t305) = true := bne_iff_ne.mpr c7
   exact laws_FnExactMaskOf.e0
 ·rw [if_neg c6] at H
  have c6b0 : (t327 == t304) = false := beq_eq_false_iff_ne.mpr c6
  have c6b1 : (t327 != t304) = true := bne_iff_ne.mpr c6
  exact laws_FnExactMaskOf.e0

def ok23 (x : S23) : Prop := ((Lit.int .i64 x.f0).wf = true) ∧ ((Lit.int .i64 x.f1).wf = true) ∧ ((Lit.int .i64 x.f2).wf = true) ∧ ((Lit.int .i64 x.f3).wf = true) ∧ ((Lit.int .i64 x.f4).wf = true) ∧ ((Lit.int .i64 x.f5).wf = true) ∧ ((Lit.int .i64 x.f6).wf = true)
def ok25 (x : S25) : Prop := ((Lit.int .i64 x.f0).wf = true) ∧ ((Lit.int .i64 x.f1).wf = true) ∧ ((Lit.int .i64 x.f2).wf = true) ∧ ((Lit.int .i64 x.f3).wf = true) ∧ (ok23 x.f4) ∧ (ok23 x.f5) ∧ ((Lit.int .i64 x.f6).wf = true)
/-- THE ONE PURE STATEMENT of laws_FnExactMaskOf: yours. -/
def laws_FnExactMaskOf.Pure : Prop := ∀ (x0 : S25), ok25 x0 → ∃ k, laws_FnExactMaskOf.f k x0.f0 x0.f1 x0.f2 x0.f3 x0.f4.f0 x0.f4.f1 x0.f4.f2 x0.f4.f3 x0.f4.f4 x0.f4.f5 x0.f4.f6 x0.f5.f0 x0.f5.f1 x0.f5.f2 x0.f5.f3 x0.f5.f4 x0.f5.f5 x0.f5.f6 x0.f6 = some true
theorem laws_FnExactMaskOf.walk (P : laws_FnExactMaskOf.Pure) (x0 : S25) (w : World) (HGL0 : PGlob w) (okx0 : ok25 x0) :
  Calls Try.prog 4 #[.agg #[.int .i64 x0.f0, .int .i64 x0.f1, .int .i64 x0.f2, .int .i64 x0.f3, .int .i64 x0.f4.f0, .int .i64 x0.f4.f1, .int .i64 x0.f4.f2, .int .i64 x0.f4.f3, .int .i64 x0.f4.f4, .int .i64 x0.f4.f5, .int .i64 x0.f4.f6, .int .i64 x0.f5.f0, .int .i64 x0.f5.f1, .int .i64 x0.f5.f2, .int .i64 x0.f5.f3, .int .i64 x0.f5.f4, .int .i64 x0.f5.f5, .int .i64 x0.f5.f6, .int .i64 x0.f6]] w fun e w' => e = .returned (.bool true) ∧ Below w.heap.size w w' := by
 obtain ⟨k, h⟩ := P x0 okx0
 refine (laws_FnExactMaskOf.calls (HGL0 := HGL0) k x0.f0 x0.f1 x0.f2 x0.f3 x0.f4.f0 x0.f4.f1 x0.f4.f2 x0.f4.f3 x0.f4.f4 x0.f4.f5 x0.f4.f6 x0.f5.f0 x0.f5.f1 x0.f5.f2 x0.f5.f3 x0.f5.f4 x0.f5.f5 x0.f5.f6 x0.f6 true w h).mono ?_
 rintro e w' ⟨rfl, hd⟩
 exact ⟨rfl, hd⟩

end Go.Proofs.Ytonogadabgilfaa.PFnExactMaskOf

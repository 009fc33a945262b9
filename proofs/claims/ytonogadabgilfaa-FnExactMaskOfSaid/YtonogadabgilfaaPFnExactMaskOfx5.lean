/- Laid by a program of this session (patch_print.py) out of the translation: plain functions and what the calls do. No condition. -/
import Derived.Test.YtonogadabgilfaaPFnExactMaskOfx0
import Derived.Test.YtonogadabgilfaaPFnExactMaskOfx1
import Derived.Test.YtonogadabgilfaaPFnExactMaskOfx2
namespace Go.Proofs.Ytonogadabgilfaa.PFnExactMaskOf
open Go.RowKit Go.Proofs.YtonogadabgilfaaW.PrintWords Go.Proofs.YtonogadabgilfaaW.PrintLast Go.Proofs.YtonogadabgilfaaW.PrintMore
attribute [local go_sem] max2_int min2_int max_two min_two max_three min_three max_four min_four   -- for this text's walks alone
set_option linter.unusedVariables false
set_option linter.unusedSimpArgs false

attribute [local go_sem high] eqA28
/-! ### spec_l05From: function 154 -/
def spec_l05From.f (a0_0 : Int) (a0_1 : Int) (a0_2 : Int) (a0_3 : Int) (a0_4 : Int) (a0_5 : Int) (a0_6 : Int) (a0_7 : Int) (a0_8 : Int) (a0_9 : Int) (a0_10 : Int) (a0_11 : Int) (a0_12 : Int) (a0_13 : Int) (a0_14 : Int) (a0_15 : Int) (a0_16 : Int) (a0_17 : Int) (a0_18 : Int) : Option (Int) := if a0_3 > 0 then (some a0_3) else (some a0_1)
theorem spec_l05From.e0 {p : Prop} (h : p := by
 obtain rfl := Option.some.inj H
 go_enter Try.func154, Try.ntmps154
 go_wp2_with (first | ((with_reducible refine gate_dst (N := 1) rfl ?_); refine box_event ?hg (N := 1) ?hd (cs := #[.int .i64 a0_0, .int .i64 a0_1, .int .i64 a0_2, .int .i64 a0_3, .int .i64 a0_4, .int .i64 a0_5, .int .i64 a0_6, .int .i64 a0_7, .int .i64 a0_8, .int .i64 a0_9, .int .i64 a0_10, .int .i64 a0_11, .int .i64 a0_12, .int .i64 a0_13, .int .i64 a0_14, .int .i64 a0_15, .int .i64 a0_16, .int .i64 a0_17, .int .i64 a0_18]) (t := 30) ?hr ?_; (case hd => rfl); (case hg => rfl); (case hr => first | (go_simp; done) | (go_simp; rfl)); intro gb_y0 hg w_y1 hbox hb; have n_y2 := Aside0.mk (below_step by1 hb); have n_y3 := Aside0.mk (hbox); have n_y4 := Aside0.mk ((by0 : w.heap.size ≤ gb_y0)); have n_y5 := Aside0.mk ((by0 : w.heap.size ≤ gb_y0)); clear HB; have HB := n_y2; have BK_y6 := n_y3; have GW_y7 := n_y4; have GE_y8 := n_y5; clear n_y2 n_y3 n_y4 n_y5; clear hb hbox hg; have hcz_y9 := cz BK_y6.out 1 (.int .i64 a0_1); have hcz_y10 := cz BK_y6.out 3 (.int .i64 a0_3)))
 go_ret
 exact ⟨by first | rfl | (simp [errW_none, errW_some] <;> rfl) | (simp [*, errW_none, errW_some] <;> rfl), by repeat (first | (with_reducible first | exact HB.out | apply below_alloc | apply pw_below_drewN | apply below_drew1 | refine below_set ?_ GE_y8.out) | exact HB.out)⟩) : p := h
set_option maxHeartbeats 8000000 in
set_option maxRecDepth 100000 in
theorem spec_l05From.calls (a0_0 : Int) (a0_1 : Int) (a0_2 : Int) (a0_3 : Int) (a0_4 : Int) (a0_5 : Int) (a0_6 : Int) (a0_7 : Int) (a0_8 : Int) (a0_9 : Int) (a0_10 : Int) (a0_11 : Int) (a0_12 : Int) (a0_13 : Int) (a0_14 : Int) (a0_15 : Int) (a0_16 : Int) (a0_17 : Int) (a0_18 : Int) (r : Int) (w : World) (h : spec_l05From.f a0_0 a0_1 a0_2 a0_3 a0_4 a0_5 a0_6 a0_7 a0_8 a0_9 a0_10 a0_11 a0_12 a0_13 a0_14 a0_15 a0_16 a0_17 a0_18 = some r) :
  Calls Try.prog 154 #[.agg #[.int .i64 a0_0, .int .i64 a0_1, .int .i64 a0_2, .int .i64 a0_3, .int .i64 a0_4, .int .i64 a0_5, .int .i64 a0_6, .int .i64 a0_7, .int .i64 a0_8, .int .i64 a0_9, .int .i64 a0_10, .int .i64 a0_11, .int .i64 a0_12, .int .i64 a0_13, .int .i64 a0_14, .int .i64 a0_15, .int .i64 a0_16, .int .i64 a0_17, .int .i64 a0_18]] w fun e w' => e = .returned (.int .i64 r) ∧ Below w.heap.size w w' := by
 have hu30 := Try.underlying30
 have HB := Aside0.mk (Below.refl w.heap.size w)
 have H : (if a0_3 > 0 then (some a0_3) else (some a0_1)) = some r := h
 clear h
 by_cases c2 : a0_3 > 0
 ·rw [if_pos c2] at H
  have c2b0 : decide (0 < a0_3) = true := decide_eq_true c2
  clear c2
  exact spec_l05From.e0
 ·rw [if_neg c2] at H
  have c2b0 : decide (0 < a0_3) = false := decide_eq_false c2
  clear c2
  exact spec_l05From.e0

/-! ### spec_l05Sizes: function 97 -/
def spec_l05Sizes.f (a0_0 : Int) (a0_1 : Int) (a0_2 : Int) (a0_3 : Int) (a0_4 : Int) (a0_5 : Int) (a0_6 : Int) (a0_7 : Int) (a0_8 : Int) (a0_9 : Int) (a0_10 : Int) (a0_11 : Int) (a0_12 : Int) (a0_13 : Int) (a0_14 : Int) (a0_15 : Int) (a0_16 : Int) (a0_17 : Int) (a0_18 : Int) : Option (Int × Int) := (spec_l05From.f a0_0 a0_1 a0_2 a0_3 a0_4 a0_5 a0_6 a0_7 a0_8 a0_9 a0_10 a0_11 a0_12 a0_13 a0_14 a0_15 a0_16 a0_17 a0_18).bind fun t130 => ((spec_l01In.f a0_0 20 24).bind fun t131 => (if t131 = true then (some (a0_1, 8)) else (some (a0_1, t130))))
set_option maxHeartbeats 8000000 in
set_option maxRecDepth 100000 in
theorem spec_l05Sizes.calls (a0_0 : Int) (a0_1 : Int) (a0_2 : Int) (a0_3 : Int) (a0_4 : Int) (a0_5 : Int) (a0_6 : Int) (a0_7 : Int) (a0_8 : Int) (a0_9 : Int) (a0_10 : Int) (a0_11 : Int) (a0_12 : Int) (a0_13 : Int) (a0_14 : Int) (a0_15 : Int) (a0_16 : Int) (a0_17 : Int) (a0_18 : Int) (r1 : Int) (r2 : Int) (w : World) (h : spec_l05Sizes.f a0_0 a0_1 a0_2 a0_3 a0_4 a0_5 a0_6 a0_7 a0_8 a0_9 a0_10 a0_11 a0_12 a0_13 a0_14 a0_15 a0_16 a0_17 a0_18 = some (r1, r2)) :
  Calls Try.prog 97 #[.agg #[.int .i64 a0_0, .int .i64 a0_1, .int .i64 a0_2, .int .i64 a0_3, .int .i64 a0_4, .int .i64 a0_5, .int .i64 a0_6, .int .i64 a0_7, .int .i64 a0_8, .int .i64 a0_9, .int .i64 a0_10, .int .i64 a0_11, .int .i64 a0_12, .int .i64 a0_13, .int .i64 a0_14, .int .i64 a0_15, .int .i64 a0_16, .int .i64 a0_17, .int .i64 a0_18]] w fun e w' => e = .returned (.tuple #[.int .i64 r1, .int .i64 r2]) ∧ Below w.heap.size w w' := by
 have hu30 := Try.underlying30
 have HB := Aside0.mk (Below.refl w.heap.size w)
 have H : ((spec_l05From.f a0_0 a0_1 a0_2 a0_3 a0_4 a0_5 a0_6 a0_7 a0_8 a0_9 a0_10 a0_11 a0_12 a0_13 a0_14 a0_15 a0_16 a0_17 a0_18).bind fun t130 => ((spec_l01In.f a0_0 20 24).bind fun t131 => (if t131 = true then (some (a0_1, 8)) else (some (a0_1, t130))))) = some (r1, r2) := h
 clear h
 replace H := Option.bind_eq_some_iff.mp H
 obtain ⟨t130, A20, H⟩ := H
 replace H : ((spec_l01In.f a0_0 20 24).bind fun t131 => (if t131 = true then (some (a0_1, 8)) else (some (a0_1, t130)))) = some (r1, r2) := H
 have A2 := Aside0.mk A20
 clear A20
 replace H := Option.bind_eq_some_iff.mp H
 obtain ⟨t131, A30, H⟩ := H
 replace H : (if t131 = true then (some (a0_1, 8)) else (some (a0_1, t130))) = some (r1, r2) := H
 have A3 := Aside0.mk A30
 clear A30
 by_cases c4 : t131 = true
 ·subst c4
  have H1 : (some (a0_1, 8)) = some (r1, r2) := by rw [if_pos rfl] at H; exact H
  clear H
  have H := H1
  clear H1
  simp only [Option.some.injEq, Prod.mk.injEq] at H
  obtain ⟨rfl, rfl⟩ := H
  go_enter Try.func97, Try.ntmps97
  go_wp2_with (first | ((with_reducible refine gate_dst (N := 8) rfl ?_); (try refine gate_guard (by rfl) ?_); refine ldw 30 (.tmp 1) rfl rfl rfl by102 Try.underlying30 rfl by5 ?_) | ((with_reducible refine gate_dst (N := 1) rfl ?_); refine box_event ?hg (N := 1) ?hd (cs := #[.int .i64 a0_0, .int .i64 a0_1, .int .i64 a0_2, .int .i64 a0_3, .int .i64 a0_4, .int .i64 a0_5, .int .i64 a0_6, .int .i64 a0_7, .int .i64 a0_8, .int .i64 a0_9, .int .i64 a0_10, .int .i64 a0_11, .int .i64 a0_12, .int .i64 a0_13, .int .i64 a0_14, .int .i64 a0_15, .int .i64 a0_16, .int .i64 a0_17, .int .i64 a0_18]) (t := 30) ?hr ?_; (case hd => rfl); (case hg => rfl); (case hr => first | (go_simp; done) | (go_simp; rfl)); intro gb129 hg w5 hbox hb; have n0_ := Aside0.mk (below_step by1 hb); have n1_ := Aside0.mk (hbox); have n2_ := Aside0.mk ((by0 : w.heap.size ≤ gb129)); have n3_ := Aside0.mk ((by0 : w.heap.size ≤ gb129)); clear HB; have HB := n0_; have BK129 := n1_; have GW129 := n2_; have GE129 := n3_; clear n0_ n1_ n2_ n3_; clear hb hbox hg; have hcz6_0 := cz BK129.out 0 (.int .i64 a0_0); have hcz6_1 := cz BK129.out 1 (.int .i64 a0_1); have hcz6_2 := cz BK129.out 2 (.int .i64 a0_2); have hcz6_3 := cz BK129.out 3 (.int .i64 a0_3); have hcz6_4 := cz BK129.out 4 (.int .i64 a0_4); have hcz6_5 := cz BK129.out 5 (.int .i64 a0_5); have hcz6_6 := cz BK129.out 6 (.int .i64 a0_6); have hcz6_7 := cz BK129.out 7 (.int .i64 a0_7); have hcz6_8 := cz BK129.out 8 (.int .i64 a0_8); have hcz6_9 := cz BK129.out 9 (.int .i64 a0_9); have hcz6_10 := cz BK129.out 10 (.int .i64 a0_10); have hcz6_11 := cz BK129.out 11 (.int .i64 a0_11); have hcz6_12 := cz BK129.out 12 (.int .i64 a0_12); have hcz6_13 := cz BK129.out 13 (.int .i64 a0_13); have hcz6_14 := cz BK129.out 14 (.int .i64 a0_14); have hcz6_15 := cz BK129.out 15 (.int .i64 a0_15); have hcz6_16 := cz BK129.out 16 (.int .i64 a0_16); have hcz6_17 := cz BK129.out 17 (.int .i64 a0_17); have hcz6_18 := cz BK129.out 18 (.int .i64 a0_18)) | ((with_reducible refine gate_callee (f := 154) rfl ?_); refine goesL_ (some 9) rfl rfl Try.func154 by5 rfl #[.agg #[.int .i64 a0_0, .int .i64 a0_1, .int .i64 a0_2, .int .i64 a0_3, .int .i64 a0_4, .int .i64 a0_5, .int .i64 a0_6, .int .i64 a0_7, .int .i64 a0_8, .int .i64 a0_9, .int .i64 a0_10, .int .i64 a0_11, .int .i64 a0_12, .int .i64 a0_13, .int .i64 a0_14, .int .i64 a0_15, .int .i64 a0_16, .int .i64 a0_17, .int .i64 a0_18]] rfl by2 ?_; (with_reducible refine (spec_l05From.calls a0_0 a0_1 a0_2 a0_3 a0_4 a0_5 a0_6 a0_7 a0_8 a0_9 a0_10 a0_11 a0_12 a0_13 a0_14 a0_15 a0_16 a0_17 a0_18 t130 _ A2.out).mono ?_); rintro e w7 ⟨rfl, hb⟩; refine ⟨_, rfl, ?_⟩; have n0_ := Aside0.mk (blk_below (g := gb129) (o := .cells #[.int .i64 a0_0, .int .i64 a0_1, .int .i64 a0_2, .int .i64 a0_3, .int .i64 a0_4, .int .i64 a0_5, .int .i64 a0_6, .int .i64 a0_7, .int .i64 a0_8, .int .i64 a0_9, .int .i64 a0_10, .int .i64 a0_11, .int .i64 a0_12, .int .i64 a0_13, .int .i64 a0_14, .int .i64 a0_15, .int .i64 a0_16, .int .i64 a0_17, .int .i64 a0_18] 30 (0, 0)) by102 hb); have n1_ := Aside0.mk (below_step by112 hb); clear BK129; clear HB; have BK129 := n0_; have HB := n1_; clear n0_ n1_; (try clear hb); (try clear hb2); (try clear hk); (try clear hi); have hcz8_0 := cz BK129.out 0 (.int .i64 a0_0); have hcz8_1 := cz BK129.out 1 (.int .i64 a0_1); have hcz8_2 := cz BK129.out 2 (.int .i64 a0_2); have hcz8_3 := cz BK129.out 3 (.int .i64 a0_3); have hcz8_4 := cz BK129.out 4 (.int .i64 a0_4); have hcz8_5 := cz BK129.out 5 (.int .i64 a0_5); have hcz8_6 := cz BK129.out 6 (.int .i64 a0_6); have hcz8_7 := cz BK129.out 7 (.int .i64 a0_7); have hcz8_8 := cz BK129.out 8 (.int .i64 a0_8); have hcz8_9 := cz BK129.out 9 (.int .i64 a0_9); have hcz8_10 := cz BK129.out 10 (.int .i64 a0_10); have hcz8_11 := cz BK129.out 11 (.int .i64 a0_11); have hcz8_12 := cz BK129.out 12 (.int .i64 a0_12); have hcz8_13 := cz BK129.out 13 (.int .i64 a0_13); have hcz8_14 := cz BK129.out 14 (.int .i64 a0_14); have hcz8_15 := cz BK129.out 15 (.int .i64 a0_15); have hcz8_16 := cz BK129.out 16 (.int .i64 a0_16); have hcz8_17 := cz BK129.out 17 (.int .i64 a0_17); have hcz8_18 := cz BK129.out 18 (.int .i64 a0_18)) | ((with_reducible refine gate_callee (f := 56) rfl ?_); refine goesL_ (some 12) rfl rfl Try.func56 by5 rfl #[.int .i64 a0_0, .int .i64 20, .int .i64 24] rfl by2 ?_; (with_reducible refine (spec_l01In.calls a0_0 20 24 true _ A3.out).mono ?_); rintro e w' ⟨rfl, ⟨nd, rfl⟩⟩; refine ⟨_, rfl, ?_⟩))
  go_ret2
  exact ⟨by first | rfl | (simp [errW_none, errW_some] <;> rfl) | (simp [*, errW_none, errW_some] <;> rfl), by repeat (first | (with_reducible first | exact HB.out | apply below_alloc | apply pw_below_drewN | apply below_drew1 | refine below_set ?_ GE129.out) | exact HB.out)⟩
 ·replace c4 := Bool.eq_false_iff.mpr c4
  subst c4
  have H1 : (some (a0_1, t130)) = some (r1, r2) := by rw [if_neg (show ¬ (false = true) by decide)] at H; exact H
  clear H
  have H := H1
  clear H1
  simp only [Option.some.injEq, Prod.mk.injEq] at H
  obtain ⟨rfl, rfl⟩ := H
  go_enter Try.func97, Try.ntmps97
  go_wp2_with (first | ((with_reducible refine gate_dst (N := 8) rfl ?_); (try refine gate_guard (by rfl) ?_); refine ldw 30 (.tmp 1) rfl rfl rfl by102 Try.underlying30 rfl by5 ?_) | ((with_reducible refine gate_dst (N := 1) rfl ?_); refine box_event ?hg (N := 1) ?hd (cs := #[.int .i64 a0_0, .int .i64 a0_1, .int .i64 a0_2, .int .i64 a0_3, .int .i64 a0_4, .int .i64 a0_5, .int .i64 a0_6, .int .i64 a0_7, .int .i64 a0_8, .int .i64 a0_9, .int .i64 a0_10, .int .i64 a0_11, .int .i64 a0_12, .int .i64 a0_13, .int .i64 a0_14, .int .i64 a0_15, .int .i64 a0_16, .int .i64 a0_17, .int .i64 a0_18]) (t := 30) ?hr ?_; (case hd => rfl); (case hg => rfl); (case hr => first | (go_simp; done) | (go_simp; rfl)); intro gb129 hg w9 hbox hb; have n0_ := Aside0.mk (below_step by1 hb); have n1_ := Aside0.mk (hbox); have n2_ := Aside0.mk ((by0 : w.heap.size ≤ gb129)); have n3_ := Aside0.mk ((by0 : w.heap.size ≤ gb129)); clear HB; have HB := n0_; have BK129 := n1_; have GW129 := n2_; have GE129 := n3_; clear n0_ n1_ n2_ n3_; clear hb hbox hg; have hcz10_0 := cz BK129.out 0 (.int .i64 a0_0); have hcz10_1 := cz BK129.out 1 (.int .i64 a0_1); have hcz10_2 := cz BK129.out 2 (.int .i64 a0_2); have hcz10_3 := cz BK129.out 3 (.int .i64 a0_3); have hcz10_4 := cz BK129.out 4 (.int .i64 a0_4); have hcz10_5 := cz BK129.out 5 (.int .i64 a0_5); have hcz10_6 := cz BK129.out 6 (.int .i64 a0_6); have hcz10_7 := cz BK129.out 7 (.int .i64 a0_7); have hcz10_8 := cz BK129.out 8 (.int .i64 a0_8); have hcz10_9 := cz BK129.out 9 (.int .i64 a0_9); have hcz10_10 := cz BK129.out 10 (.int .i64 a0_10); have hcz10_11 := cz BK129.out 11 (.int .i64 a0_11); have hcz10_12 := cz BK129.out 12 (.int .i64 a0_12); have hcz10_13 := cz BK129.out 13 (.int .i64 a0_13); have hcz10_14 := cz BK129.out 14 (.int .i64 a0_14); have hcz10_15 := cz BK129.out 15 (.int .i64 a0_15); have hcz10_16 := cz BK129.out 16 (.int .i64 a0_16); have hcz10_17 := cz BK129.out 17 (.int .i64 a0_17); have hcz10_18 := cz BK129.out 18 (.int .i64 a0_18)) | ((with_reducible refine gate_callee (f := 154) rfl ?_); refine goesL_ (some 9) rfl rfl Try.func154 by5 rfl #[.agg #[.int .i64 a0_0, .int .i64 a0_1, .int .i64 a0_2, .int .i64 a0_3, .int .i64 a0_4, .int .i64 a0_5, .int .i64 a0_6, .int .i64 a0_7, .int .i64 a0_8, .int .i64 a0_9, .int .i64 a0_10, .int .i64 a0_11, .int .i64 a0_12, .int .i64 a0_13, .int .i64 a0_14, .int .i64 a0_15, .int .i64 a0_16, .int .i64 a0_17, .int .i64 a0_18]] rfl by2 ?_; (with_reducible refine (spec_l05From.calls a0_0 a0_1 a0_2 a0_3 a0_4 a0_5 a0_6 a0_7 a0_8 a0_9 a0_10 a0_11 a0_12 a0_13 a0_14 a0_15 a0_16 a0_17 a0_18 t130 _ A2.out).mono ?_); rintro e w11 ⟨rfl, hb⟩; refine ⟨_, rfl, ?_⟩; have n0_ := Aside0.mk (blk_below (g := gb129) (o := .cells #[.int .i64 a0_0, .int .i64 a0_1, .int .i64 a0_2, .int .i64 a0_3, .int .i64 a0_4, .int .i64 a0_5, .int .i64 a0_6, .int .i64 a0_7, .int .i64 a0_8, .int .i64 a0_9, .int .i64 a0_10, .int .i64 a0_11, .int .i64 a0_12, .int .i64 a0_13, .int .i64 a0_14, .int .i64 a0_15, .int .i64 a0_16, .int .i64 a0_17, .int .i64 a0_18] 30 (0, 0)) by102 hb); have n1_ := Aside0.mk (below_step by112 hb); clear BK129; clear HB; have BK129 := n0_; have HB := n1_; clear n0_ n1_; (try clear hb); (try clear hb2); (try clear hk); (try clear hi); have hcz12_0 := cz BK129.out 0 (.int .i64 a0_0); have hcz12_1 := cz BK129.out 1 (.int .i64 a0_1); have hcz12_2 := cz BK129.out 2 (.int .i64 a0_2); have hcz12_3 := cz BK129.out 3 (.int .i64 a0_3); have hcz12_4 := cz BK129.out 4 (.int .i64 a0_4); have hcz12_5 := cz BK129.out 5 (.int .i64 a0_5); have hcz12_6 := cz BK129.out 6 (.int .i64 a0_6); have hcz12_7 := cz BK129.out 7 (.int .i64 a0_7); have hcz12_8 := cz BK129.out 8 (.int .i64 a0_8); have hcz12_9 := cz BK129.out 9 (.int .i64 a0_9); have hcz12_10 := cz BK129.out 10 (.int .i64 a0_10); have hcz12_11 := cz BK129.out 11 (.int .i64 a0_11); have hcz12_12 := cz BK129.out 12 (.int .i64 a0_12); have hcz12_13 := cz BK129.out 13 (.int .i64 a0_13); have hcz12_14 := cz BK129.out 14 (.int .i64 a0_14); have hcz12_15 := cz BK129.out 15 (.int .i64 a0_15); have hcz12_16 := cz BK129.out 16 (.int .i64 a0_16); have hcz12_17 := cz BK129.out 17 (.int .i64 a0_17); have hcz12_18 := cz BK129.out 18 (.int .i64 a0_18)) | ((with_reducible refine gate_callee (f := 56) rfl ?_); refine goesL_ (some 12) rfl rfl Try.func56 by5 rfl #[.int .i64 a0_0, .int .i64 20, .int .i64 24] rfl by2 ?_; (with_reducible refine (spec_l01In.calls a0_0 20 24 false _ A3.out).mono ?_); rintro e w' ⟨rfl, ⟨nd, rfl⟩⟩; refine ⟨_, rfl, ?_⟩))
  go_ret2
  exact ⟨by first | rfl | (simp [errW_none, errW_some] <;> rfl) | (simp [*, errW_none, errW_some] <;> rfl), by repeat (first | (with_reducible first | exact HB.out | apply below_alloc | apply pw_below_drewN | apply below_drew1 | refine below_set ?_ GE129.out) | exact HB.out)⟩

/-! ### spec_l04Operand: function 98 -/
def spec_l04Operand.f (a0_0 : Int) (a0_1 : Int) (a0_2 : Int) (a0_3 : Int) (a0_4 : Int) (a0_5 : Int) (a0_6 : Int) (a1 : Int) : Option (Bool) := if a0_0 = 1 then (if a1 = 1 then ((spec_l01In.f a0_1 0 19).bind fun t133 => (if t133 = true then (some (a0_0 == 1 && (a0_2 == 0 && (a0_3 == 0 && (a0_4 == 0 && (a0_5 == 0 && (a0_6 == 0))))))) else (some false))) else ((spec_l01In.f a0_1 0 15).bind fun t134 => (if t134 = true then (some (a0_0 == 1 && (a0_2 == 0 && (a0_3 == 0 && (a0_4 == 0 && (a0_5 == 0 && (a0_6 == 0))))))) else (some false)))) else (if a0_0 = 2 then (if a0_1 = 0 then (if a0_6 = 0 then ((spec_l01In.f a0_2 (-1) 16).bind fun t135 => (if t135 = true then ((spec_l01In.f a0_3 (-1) 15).bind fun t136 => (if t136 = true then (if a0_3 = 4 then (some false) else ((spec_l01Size.f a0_4).bind fun t137 => (if t137 = true then ((spec_l01In.f a0_5 (-2147483648) 2147483647).bind fun t138 => (if t138 = true then (if a0_3 ≥ 0 then (if a0_2 = 16 then (some (decide (a0_3 < 0))) else (some true)) else (if a0_4 = 1 then (if a0_2 = 16 then (some (decide (a0_3 < 0))) else (some true)) else (some false))) else (some false))) else (some false)))) else (some false))) else (some false))) else (some false)) else (some false)) else (if a0_0 = 3 then (some (a0_0 == 3 && (a0_1 == 0 && (a0_2 == 0 && (a0_3 == 0 && (a0_4 == 0 && (a0_5 == 0))))))) else (some (a0_0 == 0 && (a0_1 == 0 && (a0_2 == 0 && (a0_3 == 0 && (a0_4 == 0 && (a0_5 == 0 && (a0_6 == 0))))))))))
theorem spec_l04Operand.e0 {p : Prop} (h : p := by
  go_ret
  exact ⟨by first | rfl | (simp [errW_none, errW_some] <;> rfl) | (simp [*, errW_none, errW_some] <;> rfl), by repeat (first | (with_reducible first | exact HB.out | apply below_alloc | apply pw_below_drewN | apply below_drew1 | refine below_set ?_ GE132.out) | exact HB.out)⟩) : p := h
set_option maxHeartbeats 8000000 in
set_option maxRecDepth 100000 in
theorem spec_l04Operand.calls (a0_0 : Int) (a0_1 : Int) (a0_2 : Int) (a0_3 : Int) (a0_4 : Int) (a0_5 : Int) (a0_6 : Int) (a1 : Int) (r : Bool) (w : World) (h : spec_l04Operand.f a0_0 a0_1 a0_2 a0_3 a0_4 a0_5 a0_6 a1 = some r) :
    Calls Try.prog 98 #[.agg #[.int .i64 a0_0, .int .i64 a0_1, .int .i64 a0_2, .int .i64 a0_3, .int .i64 a0_4, .int .i64 a0_5, .int .i64 a0_6], .int .i64 a1] w fun e w' => e = .returned (.bool r) ∧ Below w.heap.size w w' := by
  have hu28 := Try.underlying28
  have HB := Aside0.mk (Below.refl w.heap.size w)
  have H : (if a0_0 = 1 then (if a1 = 1 then ((spec_l01In.f a0_1 0 19).bind fun t133 => (if t133 = true then (some (a0_0 == 1 && (a0_2 == 0 && (a0_3 == 0 && (a0_4 == 0 && (a0_5 == 0 && (a0_6 == 0))))))) else (some false))) else ((spec_l01In.f a0_1 0 15).bind fun t134 => (if t134 = true then (some (a0_0 == 1 && (a0_2 == 0 && (a0_3 == 0 && (a0_4 == 0 && (a0_5 == 0 && (a0_6 == 0))))))) else (some false)))) else (if a0_0 = 2 then (if a0_1 = 0 then (if a0_6 = 0 then ((spec_l01In.f a0_2 (-1) 16).bind fun t135 => (if t135 = true then ((spec_l01In.f a0_3 (-1) 15).bind fun t136 => (if t136 = true then (if a0_3 = 4 then (some false) else ((spec_l01Size.f a0_4).bind fun t137 => (if t137 = true then ((spec_l01In.f a0_5 (-2147483648) 2147483647).bind fun t138 => (if t138 = true then (if a0_3 ≥ 0 then (if a0_2 = 16 then (some (decide (a0_3 < 0))) else (some true)) else (if a0_4 = 1 then (if a0_2 = 16 then (some (decide (a0_3 < 0))) else (some true)) else (some false))) else (some false))) else (some false)))) else (some false))) else (some false))) else (some false)) else (some false)) else (if a0_0 = 3 then (some (a0_0 == 3 && (a0_1 == 0 && (a0_2 == 0 && (a0_3 == 0 && (a0_4 == 0 && (a0_5 == 0))))))) else (some (a0_0 == 0 && (a0_1 == 0 && (a0_2 == 0 && (a0_3 == 0 && (a0_4 == 0 && (a0_5 == 0 && (a0_6 == 0))))))))))) = some r := h
  clear h
  by_cases c3 : a0_0 = 1
  · rw [if_pos c3] at H
    have c3b0 : (a0_0 == 1) = true := beq_iff_eq.mpr c3
    have c3b1 : (a0_0 != 1) = false := bne_eq_false_iff_eq.mpr c3
    clear c3
    by_cases c4 : a1 = 1
    · rw [if_pos c4] at H
      have c4b0 : (a1 == 1) = true := beq_iff_eq.mpr c4
      have c4b1 : (a1 != 1) = false := bne_eq_false_iff_eq.mpr c4
      clear c4
      replace H := Option.bind_eq_some_iff.mp H
      obtain ⟨t133, A50, H⟩ := H
      replace H : (if t133 = true then (some (a0_0 == 1 && (a0_2 == 0 && (a0_3 == 0 && (a0_4 == 0 && (a0_5 == 0 && (a0_6 == 0))))))) else (some false)) = some r := H
      have A5 := Aside0.mk A50
      clear A50
      by_cases c6 : t133 = true
      · subst c6
        have H1 : (some (a0_0 == 1 && (a0_2 == 0 && (a0_3 == 0 && (a0_4 == 0 && (a0_5 == 0 && (a0_6 == 0))))))) = some r := by rw [if_pos rfl] at H; exact H
        clear H
        have H := H1
        clear H1
        obtain rfl := Option.some.inj H
        go_enter Try.func98, Try.ntmps98
        go_wp2_with (first | ((with_reducible refine gate_dst (N := 2) rfl ?_); refine box_event ?hg (N := 2) ?hd (cs := #[.int .i64 a0_0, .int .i64 a0_1, .int .i64 a0_2, .int .i64 a0_3, .int .i64 a0_4, .int .i64 a0_5, .int .i64 a0_6]) (t := 28) ?hr ?_; (case hd => rfl); (case hg => rfl); (case hr => first | (go_simp; done) | (go_simp; rfl)); intro gb132 hg w7 hbox hb; have n0_ := Aside0.mk (below_step by1 hb); have n1_ := Aside0.mk (hbox); have n2_ := Aside0.mk ((by0 : w.heap.size ≤ gb132)); have n3_ := Aside0.mk ((by0 : w.heap.size ≤ gb132)); clear HB; have HB := n0_; have BK132 := n1_; have GW132 := n2_; have GE132 := n3_; clear n0_ n1_ n2_ n3_; clear hb hbox hg; have hcz8_0 := cz BK132.out 0 (.int .i64 a0_0); have hcz8_1 := cz BK132.out 1 (.int .i64 a0_1); have hcz8_2 := cz BK132.out 2 (.int .i64 a0_2); have hcz8_3 := cz BK132.out 3 (.int .i64 a0_3); have hcz8_4 := cz BK132.out 4 (.int .i64 a0_4); have hcz8_5 := cz BK132.out 5 (.int .i64 a0_5); have hcz8_6 := cz BK132.out 6 (.int .i64 a0_6)) | ((with_reducible refine gate_callee (f := 56) rfl ?_); refine goesL_ (some 15) rfl rfl Try.func56 by5 rfl #[.int .i64 a0_1, .int .i64 0, .int .i64 19] rfl by2 ?_; (with_reducible refine (spec_l01In.calls a0_1 0 19 true _ A5.out).mono ?_); rintro e w' ⟨rfl, ⟨nd, rfl⟩⟩; refine ⟨_, rfl, ?_⟩))
        all_goals
         exact spec_l04Operand.e0
      · replace c6 := Bool.eq_false_iff.mpr c6
        subst c6
        have H1 : (some false) = some r := by rw [if_neg (show ¬ (false = true) by decide)] at H; exact H
        clear H
        have H := H1
        clear H1
        obtain rfl := Option.some.inj H
        go_enter Try.func98, Try.ntmps98
        go_wp2_with (first | ((with_reducible refine gate_dst (N := 2) rfl ?_); refine box_event ?hg (N := 2) ?hd (cs := #[.int .i64 a0_0, .int .i64 a0_1, .int .i64 a0_2, .int .i64 a0_3, .int .i64 a0_4, .int .i64 a0_5, .int .i64 a0_6]) (t := 28) ?hr ?_; (case hd => rfl); (case hg => rfl); (case hr => first | (go_simp; done) | (go_simp; rfl)); intro gb132 hg w9 hbox hb; have n0_ := Aside0.mk (below_step by1 hb); have n1_ := Aside0.mk (hbox); have n2_ := Aside0.mk ((by0 : w.heap.size ≤ gb132)); have n3_ := Aside0.mk ((by0 : w.heap.size ≤ gb132)); clear HB; have HB := n0_; have BK132 := n1_; have GW132 := n2_; have GE132 := n3_; clear n0_ n1_ n2_ n3_; clear hb hbox hg; have hcz10_0 := cz BK132.out 0 (.int .i64 a0_0); have hcz10_1 := cz BK132.out 1 (.int .i64 a0_1); have hcz10_2 := cz BK132.out 2 (.int .i64 a0_2); have hcz10_3 := cz BK132.out 3 (.int .i64 a0_3); have hcz10_4 := cz BK132.out 4 (.int .i64 a0_4); have hcz10_5 := cz BK132.out 5 (.int .i64 a0_5); have hcz10_6 := cz BK132.out 6 (.int .i64 a0_6)) | ((with_reducible refine gate_callee (f := 56) rfl ?_); refine goesL_ (some 15) rfl rfl Try.func56 by5 rfl #[.int .i64 a0_1, .int .i64 0, .int .i64 19] rfl by2 ?_; (with_reducible refine (spec_l01In.calls a0_1 0 19 false _ A5.out).mono ?_); rintro e w' ⟨rfl, ⟨nd, rfl⟩⟩; refine ⟨_, rfl, ?_⟩))
        all_goals
         exact spec_l04Operand.e0
    · rw [if_neg c4] at H
      have c4b0 : (a1 == 1) = false := beq_eq_false_iff_ne.mpr c4
      have c4b1 : (a1 != 1) = true := bne_iff_ne.mpr c4
      replace H := Option.bind_eq_some_iff.mp H
      obtain ⟨t134, A110, H⟩ := H
      replace H : (if t134 = true then (some (a0_0 == 1 && (a0_2 == 0 && (a0_3 == 0 && (a0_4 == 0 && (a0_5 == 0 && (a0_6 == 0))))))) else (some false)) = some r := H
      have A11 := Aside0.mk A110
      clear A110
      by_cases c12 : t134 = true
      · subst c12
        have H1 : (some (a0_0 == 1 && (a0_2 == 0 && (a0_3 == 0 && (a0_4 == 0 && (a0_5 == 0 && (a0_6 == 0))))))) = some r := by rw [if_pos rfl] at H; exact H
        clear H
        have H := H1
        clear H1
        obtain rfl := Option.some.inj H
        go_enter Try.func98, Try.ntmps98
        go_wp2_with (first | ((with_reducible refine gate_dst (N := 2) rfl ?_); refine box_event ?hg (N := 2) ?hd (cs := #[.int .i64 a0_0, .int .i64 a0_1, .int .i64 a0_2, .int .i64 a0_3, .int .i64 a0_4, .int .i64 a0_5, .int .i64 a0_6]) (t := 28) ?hr ?_; (case hd => rfl); (case hg => rfl); (case hr => first | (go_simp; done) | (go_simp; rfl)); intro gb132 hg w13 hbox hb; have n0_ := Aside0.mk (below_step by1 hb); have n1_ := Aside0.mk (hbox); have n2_ := Aside0.mk ((by0 : w.heap.size ≤ gb132)); have n3_ := Aside0.mk ((by0 : w.heap.size ≤ gb132)); clear HB; have HB := n0_; have BK132 := n1_; have GW132 := n2_; have GE132 := n3_; clear n0_ n1_ n2_ n3_; clear hb hbox hg; have hcz14_0 := cz BK132.out 0 (.int .i64 a0_0); have hcz14_1 := cz BK132.out 1 (.int .i64 a0_1); have hcz14_2 := cz BK132.out 2 (.int .i64 a0_2); have hcz14_3 := cz BK132.out 3 (.int .i64 a0_3); have hcz14_4 := cz BK132.out 4 (.int .i64 a0_4); have hcz14_5 := cz BK132.out 5 (.int .i64 a0_5); have hcz14_6 := cz BK132.out 6 (.int .i64 a0_6)) | ((with_reducible refine gate_callee (f := 56) rfl ?_); refine goesL_ (some 15) rfl rfl Try.func56 by5 rfl #[.int .i64 a0_1, .int .i64 0, .int .i64 15] rfl by2 ?_; (with_reducible refine (spec_l01In.calls a0_1 0 15 true _ A11.out).mono ?_); rintro e w' ⟨rfl, ⟨nd, rfl⟩⟩; refine ⟨_, rfl, ?_⟩))
        all_goals
         exact spec_l04Operand.e0
      · replace c12 := Bool.eq_false_iff.mpr c12
        subst c12
        have H1 : (some false) = some r := by rw [if_neg (show ¬ (false = true) by decide)] at H; exact H
        clear H
        have H := H1
        clear H1
        obtain rfl := Option.some.inj H
        go_enter Try.func98, Try.ntmps98
        go_wp2_with (first | ((with_reducible refine gate_dst (N := 2) rfl ?_); refine box_event ?hg (N := 2) ?hd (cs := #[.int .i64 a0_0, .int .i64 a0_1, .int .i64 a0_2, .int .i64 a0_3, .int .i64 a0_4, .int .i64 a0_5, .int .i64 a0_6]) (t := 28) ?hr ?_; (case hd => rfl); (case hg => rfl); (case hr => first | (go_simp; done) | (go_simp; rfl)); intro gb132 hg w15 hbox hb; have n0_ := Aside0.mk (below_step by1 hb); have n1_ := Aside0.mk (hbox); have n2_ := Aside0.mk ((by0 : w.heap.size ≤ gb132)); have n3_ := Aside0.mk ((by0 : w.heap.size ≤ gb132)); clear HB; have HB := n0_; have BK132 := n1_; have GW132 := n2_; have GE132 := n3_; clear n0_ n1_ n2_ n3_; clear hb hbox hg; have hcz16_0 := cz BK132.out 0 (.int .i64 a0_0); have hcz16_1 := cz BK132.out 1 (.int .i64 a0_1); have hcz16_2 := cz BK132.out 2 (.int .i64 a0_2); have hcz16_3 := cz BK132.out 3 (.int .i64 a0_3); have hcz16_4 := cz BK132.out 4 (.int .i64 a0_4); have hcz16_5 := cz BK132.out 5 (.int .i64 a0_5); have hcz16_6 := cz BK132.out 6 (.int .i64 a0_6)) | ((with_reducible refine gate_callee (f := 56) rfl ?_); refine goesL_ (some 15) rfl rfl Try.func56 by5 rfl #[.int .i64 a0_1, .int .i64 0, .int .i64 15] rfl by2 ?_; (with_reducible refine (spec_l01In.calls a0_1 0 15 false _ A11.out).mono ?_); rintro e w' ⟨rfl, ⟨nd, rfl⟩⟩; refine ⟨_, rfl, ?_⟩))
        all_goals
         exact spec_l04Operand.e0
  · rw [if_neg c3] at H
    have c3b0 : (a0_0 == 1) = false := beq_eq_false_iff_ne.mpr c3
    have c3b1 : (a0_0 != 1) = true := bne_iff_ne.mpr c3
    by_cases c17 : a0_0 = 2
    · rw [if_pos c17] at H
      have c17b0 : (a0_0 == 2) = true := beq_iff_eq.mpr c17
      have c17b1 : (a0_0 != 2) = false := bne_eq_false_iff_eq.mpr c17
      clear c17
      by_cases c18 : a0_1 = 0
      · rw [if_pos c18] at H
        have c18b0 : (a0_1 == 0) = true := beq_iff_eq.mpr c18
        have c18b1 : (a0_1 != 0) = false := bne_eq_false_iff_eq.mpr c18
        clear c18
        by_cases c19 : a0_6 = 0
        · rw [if_pos c19] at H
          have c19b0 : (a0_6 == 0) = true := beq_iff_eq.mpr c19
          have c19b1 : (a0_6 != 0) = false := bne_eq_false_iff_eq.mpr c19
          clear c19
          replace H := Option.bind_eq_some_iff.mp H
          obtain ⟨t135, A200, H⟩ := H
          replace H : (if t135 = true then ((spec_l01In.f a0_3 (-1) 15).bind fun t136 => (if t136 = true then (if a0_3 = 4 then (some false) else ((spec_l01Size.f a0_4).bind fun t137 => (if t137 = true then ((spec_l01In.f a0_5 (-2147483648) 2147483647).bind fun t138 => (if t138 = true then (if a0_3 ≥ 0 then (if a0_2 = 16 then (some (decide (a0_3 < 0))) else (some true)) else (if a0_4 = 1 then (if a0_2 = 16 then (some (decide (a0_3 < 0))) else (some true)) else (some false))) else (some false))) else (some false)))) else (some false))) else (some false)) = some r := H
          have A20 := Aside0.mk A200
          clear A200
          by_cases c21 : t135 = true
          · subst c21
            have H1 : ((spec_l01In.f a0_3 (-1) 15).bind fun t136 => (if t136 = true then (if a0_3 = 4 then (some false) else ((spec_l01Size.f a0_4).bind fun t137 => (if t137 = true then ((spec_l01In.f a0_5 (-2147483648) 2147483647).bind fun t138 => (if t138 = true then (if a0_3 ≥ 0 then (if a0_2 = 16 then (some (decide (a0_3 < 0))) else (some true)) else (if a0_4 = 1 then (if a0_2 = 16 then (some (decide (a0_3 < 0))) else (some true)) else (some false))) else (some false))) else (some false)))) else (some false))) = some r := by rw [if_pos rfl] at H; exact H
            clear H
            have H := H1
            clear H1
            replace H := Option.bind_eq_some_iff.mp H
            obtain ⟨t136, A220, H⟩ := H
            replace H : (if t136 = true then (if a0_3 = 4 then (some false) else ((spec_l01Size.f a0_4).bind fun t137 => (if t137 = true then ((spec_l01In.f a0_5 (-2147483648) 2147483647).bind fun t138 => (if t138 = true then (if a0_3 ≥ 0 then (if a0_2 = 16 then (some (decide (a0_3 < 0))) else (some true)) else (if a0_4 = 1 then (if a0_2 = 16 then (some (decide (a0_3 < 0))) else (some true)) else (some false))) else (some false))) else (some false)))) else (some false)) = some r := H
            have A22 := Aside0.mk A220
            clear A220
            by_cases c23 : t136 = true
            · subst c23
              have H1 : (if a0_3 = 4 then (some false) else ((spec_l01Size.f a0_4).bind fun t137 => (if t137 = true then ((spec_l01In.f a0_5 (-2147483648) 2147483647).bind fun t138 => (if t138 = true then (if a0_3 ≥ 0 then (if a0_2 = 16 then (some (decide (a0_3 < 0))) else (some true)) else (if a0_4 = 1 then (if a0_2 = 16 then (some (decide (a0_3 < 0))) else (some true)) else (some false))) else (some false))) else (some false)))) = some r := by rw [if_pos rfl] at H; exact H
              clear H
              have H := H1
              clear H1
              by_cases c24 : a0_3 = 4
              · rw [if_pos c24] at H
                have c24b0 : (a0_3 == 4) = true := beq_iff_eq.mpr c24
                have c24b1 : (a0_3 != 4) = false := bne_eq_false_iff_eq.mpr c24
                clear c24
                obtain rfl := Option.some.inj H
                go_enter Try.func98, Try.ntmps98
                go_wp2_with (first | ((with_reducible refine gate_dst (N := 2) rfl ?_); refine box_event ?hg (N := 2) ?hd (cs := #[.int .i64 a0_0, .int .i64 a0_1, .int .i64 a0_2, .int .i64 a0_3, .int .i64 a0_4, .int .i64 a0_5, .int .i64 a0_6]) (t := 28) ?hr ?_; (case hd => rfl); (case hg => rfl); (case hr => first | (go_simp; done) | (go_simp; rfl)); intro gb132 hg w25 hbox hb; have n0_ := Aside0.mk (below_step by1 hb); have n1_ := Aside0.mk (hbox); have n2_ := Aside0.mk ((by0 : w.heap.size ≤ gb132)); have n3_ := Aside0.mk ((by0 : w.heap.size ≤ gb132)); clear HB; have HB := n0_; have BK132 := n1_; have GW132 := n2_; have GE132 := n3_; clear n0_ n1_ n2_ n3_; clear hb hbox hg; have hcz26_0 := cz BK132.out 0 (.int .i64 a0_0); have hcz26_1 := cz BK132.out 1 (.int .i64 a0_1); have hcz26_2 := cz BK132.out 2 (.int .i64 a0_2); have hcz26_3 := cz BK132.out 3 (.int .i64 a0_3); have hcz26_4 := cz BK132.out 4 (.int .i64 a0_4); have hcz26_5 := cz BK132.out 5 (.int .i64 a0_5); have hcz26_6 := cz BK132.out 6 (.int .i64 a0_6)) | (go_at_call 56; (with_reducible refine (spec_l01In.calls a0_2 (-1) 16 true _ A20.out).mono ?_); rintro e w' ⟨rfl, ⟨nd, rfl⟩⟩) | (go_at_call 56; (with_reducible refine (spec_l01In.calls a0_3 (-1) 15 true _ A22.out).mono ?_); rintro e w' ⟨rfl, ⟨nd, rfl⟩⟩))
                all_goals
                 exact spec_l04Operand.e0
              · rw [if_neg c24] at H
                have c24b0 : (a0_3 == 4) = false := beq_eq_false_iff_ne.mpr c24
                have c24b1 : (a0_3 != 4) = true := bne_iff_ne.mpr c24
                replace H := Option.bind_eq_some_iff.mp H
                obtain ⟨t137, A270, H⟩ := H
                replace H : (if t137 = true then ((spec_l01In.f a0_5 (-2147483648) 2147483647).bind fun t138 => (if t138 = true then (if a0_3 ≥ 0 then (if a0_2 = 16 then (some (decide (a0_3 < 0))) else (some true)) else (if a0_4 = 1 then (if a0_2 = 16 then (some (decide (a0_3 < 0))) else (some true)) else (some false))) else (some false))) else (some false)) = some r := H
                have A27 := Aside0.mk A270
                clear A270
                by_cases c28 : t137 = true
                · subst c28
                  have H1 : ((spec_l01In.f a0_5 (-2147483648) 2147483647).bind fun t138 => (if t138 = true then (if a0_3 ≥ 0 then (if a0_2 = 16 then (some (decide (a0_3 < 0))) else (some true)) else (if a0_4 = 1 then (if a0_2 = 16 then (some (decide (a0_3 < 0))) else (some true)) else (some false))) else (some false))) = some r := by rw [if_pos rfl] at H; exact H
                  clear H
                  have H := H1
                  clear H1
                  replace H := Option.bind_eq_some_iff.mp H
                  obtain ⟨t138, A290, H⟩ := H
                  replace H : (if t138 = true then (if a0_3 ≥ 0 then (if a0_2 = 16 then (some (decide (a0_3 < 0))) else (some true)) else (if a0_4 = 1 then (if a0_2 = 16 then (some (decide (a0_3 < 0))) else (some true)) else (some false))) else (some false)) = some r := H
                  have A29 := Aside0.mk A290
                  clear A290
                  by_cases c30 : t138 = true
                  · subst c30
                    have H1 : (if a0_3 ≥ 0 then (if a0_2 = 16 then (some (decide (a0_3 < 0))) else (some true)) else (if a0_4 = 1 then (if a0_2 = 16 then (some (decide (a0_3 < 0))) else (some true)) else (some false))) = some r := by rw [if_pos rfl] at H; exact H
                    clear H
                    have H := H1
                    clear H1
                    by_cases c31 : a0_3 ≥ 0
                    · rw [if_pos c31] at H
                      have c31b0 : decide (0 ≤ a0_3) = true := decide_eq_true c31
                      clear c31
                      by_cases c32 : a0_2 = 16
                      · rw [if_pos c32] at H
                        have c32b0 : (a0_2 == 16) = true := beq_iff_eq.mpr c32
                        have c32b1 : (a0_2 != 16) = false := bne_eq_false_iff_eq.mpr c32
                        clear c32
                        obtain rfl := Option.some.inj H
                        go_enter Try.func98, Try.ntmps98
                        go_wp2_with (first | ((with_reducible refine gate_dst (N := 2) rfl ?_); refine box_event ?hg (N := 2) ?hd (cs := #[.int .i64 a0_0, .int .i64 a0_1, .int .i64 a0_2, .int .i64 a0_3, .int .i64 a0_4, .int .i64 a0_5, .int .i64 a0_6]) (t := 28) ?hr ?_; (case hd => rfl); (case hg => rfl); (case hr => first | (go_simp; done) | (go_simp; rfl)); intro gb132 hg w33 hbox hb; have n0_ := Aside0.mk (below_step by1 hb); have n1_ := Aside0.mk (hbox); have n2_ := Aside0.mk ((by0 : w.heap.size ≤ gb132)); have n3_ := Aside0.mk ((by0 : w.heap.size ≤ gb132)); clear HB; have HB := n0_; have BK132 := n1_; have GW132 := n2_; have GE132 := n3_; clear n0_ n1_ n2_ n3_; clear hb hbox hg; have hcz34_0 := cz BK132.out 0 (.int .i64 a0_0); have hcz34_1 := cz BK132.out 1 (.int .i64 a0_1); have hcz34_2 := cz BK132.out 2 (.int .i64 a0_2); have hcz34_3 := cz BK132.out 3 (.int .i64 a0_3); have hcz34_4 := cz BK132.out 4 (.int .i64 a0_4); have hcz34_5 := cz BK132.out 5 (.int .i64 a0_5); have hcz34_6 := cz BK132.out 6 (.int .i64 a0_6)) | (go_at_call 56; (with_reducible refine (spec_l01In.calls a0_2 (-1) 16 true _ A20.out).mono ?_); rintro e w' ⟨rfl, ⟨nd, rfl⟩⟩) | (go_at_call 56; (with_reducible refine (spec_l01In.calls a0_3 (-1) 15 true _ A22.out).mono ?_); rintro e w' ⟨rfl, ⟨nd, rfl⟩⟩) | (go_at_call 152; (with_reducible refine (spec_l01Size.calls a0_4 true _ A27.out).mono ?_); rintro e w' ⟨rfl, ⟨nd, rfl⟩⟩) | (go_at_call 56; (with_reducible refine (spec_l01In.calls a0_5 (-2147483648) 2147483647 true _ A29.out).mono ?_); rintro e w' ⟨rfl, ⟨nd, rfl⟩⟩))
                        all_goals
                         exact spec_l04Operand.e0
                      · rw [if_neg c32] at H
                        have c32b0 : (a0_2 == 16) = false := beq_eq_false_iff_ne.mpr c32
                        have c32b1 : (a0_2 != 16) = true := bne_iff_ne.mpr c32
                        obtain rfl := Option.some.inj H
                        go_enter Try.func98, Try.ntmps98
                        go_wp2_with (first | ((with_reducible refine gate_dst (N := 2) rfl ?_); refine box_event ?hg (N := 2) ?hd (cs := #[.int .i64 a0_0, .int .i64 a0_1, .int .i64 a0_2, .int .i64 a0_3, .int .i64 a0_4, .int .i64 a0_5, .int .i64 a0_6]) (t := 28) ?hr ?_; (case hd => rfl); (case hg => rfl); (case hr => first | (go_simp; done) | (go_simp; rfl)); intro gb132 hg w35 hbox hb; have n0_ := Aside0.mk (below_step by1 hb); have n1_ := Aside0.mk (hbox); have n2_ := Aside0.mk ((by0 : w.heap.size ≤ gb132)); have n3_ := Aside0.mk ((by0 : w.heap.size ≤ gb132)); clear HB; have HB := n0_; have BK132 := n1_; have GW132 := n2_; have GE132 := n3_; clear n0_ n1_ n2_ n3_; clear hb hbox hg; have hcz36_0 := cz BK132.out 0 (.int .i64 a0_0); have hcz36_1 := cz BK132.out 1 (.int .i64 a0_1); have hcz36_2 := cz BK132.out 2 (.int .i64 a0_2); have hcz36_3 := cz BK132.out 3 (.int .i64 a0_3); have hcz36_4 := cz BK132.out 4 (.int .i64 a0_4); have hcz36_5 := cz BK132.out 5 (.int .i64 a0_5); have hcz36_6 := cz BK132.out 6 (.int .i64 a0_6)) | (go_at_call 56; (with_reducible refine (spec_l01In.calls a0_2 (-1) 16 true _ A20.out).mono ?_); rintro e w' ⟨rfl, ⟨nd, rfl⟩⟩) | (go_at_call 56; (with_reducible refine (spec_l01In.calls a0_3 (-1) 15 true _ A22.out).mono ?_); rintro e w' ⟨rfl, ⟨nd, rfl⟩⟩) | (go_at_call 152; (with_reducible refine (spec_l01Size.calls a0_4 true _ A27.out).mono ?_); rintro e w' ⟨rfl, ⟨nd, rfl⟩⟩) | (go_at_call 56; (with_reducible refine (spec_l01In.calls a0_5 (-2147483648) 2147483647 true _ A29.out).mono ?_); rintro e w' ⟨rfl, ⟨nd, rfl⟩⟩))
                        all_goals
                         exact spec_l04Operand.e0
                    · rw [if_neg c31] at H
                      have c31b0 : decide (0 ≤ a0_3) = false := decide_eq_false c31
                      clear c31
                      by_cases c37 : a0_4 = 1
                      · rw [if_pos c37] at H
                        have c37b0 : (a0_4 == 1) = true := beq_iff_eq.mpr c37
                        have c37b1 : (a0_4 != 1) = false := bne_eq_false_iff_eq.mpr c37
                        clear c37
                        by_cases c38 : a0_2 = 16
                        · rw [if_pos c38] at H
                          have c38b0 : (a0_2 == 16) = true := beq_iff_eq.mpr c38
                          have c38b1 : (a0_2 != 16) = false := bne_eq_false_iff_eq.mpr c38
                          clear c38
                          obtain rfl := Option.some.inj H
                          go_enter Try.func98, Try.ntmps98
                          go_wp2_with (first | ((with_reducible refine gate_dst (N := 2) rfl ?_); refine box_event ?hg (N := 2) ?hd (cs := #[.int .i64 a0_0, .int .i64 a0_1, .int .i64 a0_2, .int .i64 a0_3, .int .i64 a0_4, .int .i64 a0_5, .int .i64 a0_6]) (t := 28) ?hr ?_; (case hd => rfl); (case hg => rfl); (case hr => first | (go_simp; done) | (go_simp; rfl)); intro gb132 hg w39 hbox hb; have n0_ := Aside0.mk (below_step by1 hb); have n1_ := Aside0.mk (hbox); have n2_ := Aside0.mk ((by0 : w.heap.size ≤ gb132)); have n3_ := Aside0.mk ((by0 : w.heap.size ≤ gb132)); clear HB; have HB := n0_; have BK132 := n1_; have GW132 := n2_; have GE132 := n3_; clear n0_ n1_ n2_ n3_; clear hb hbox hg; have hcz40_0 := cz BK132.out 0 (.int .i64 a0_0); have hcz40_1 := cz BK132.out 1 (.int .i64 a0_1); have hcz40_2 := cz BK132.out 2 (.int .i64 a0_2); have hcz40_3 := cz BK132.out 3 (.int .i64 a0_3); have hcz40_4 := cz BK132.out 4 (.int .i64 a0_4); have hcz40_5 := cz BK132.out 5 (.int .i64 a0_5); have hcz40_6 := cz BK132.out 6 (.int .i64 a0_6)) | (go_at_call 56; (with_reducible refine (spec_l01In.calls a0_2 (-1) 16 true _ A20.out).mono ?_); rintro e w' ⟨rfl, ⟨nd, rfl⟩⟩) | (go_at_call 56; (with_reducible refine (spec_l01In.calls a0_3 (-1) 15 true _ A22.out).mono ?_); rintro e w' ⟨rfl, ⟨nd, rfl⟩⟩) | (go_at_call 152; (with_reducible refine (spec_l01Size.calls a0_4 true _ A27.out).mono ?_); rintro e w' ⟨rfl, ⟨nd, rfl⟩⟩) | (go_at_call 56; (with_reducible refine (spec_l01In.calls a0_5 (-2147483648) 2147483647 true _ A29.out).mono ?_); rintro e w' ⟨rfl, ⟨nd, rfl⟩⟩))
                          all_goals
                           exact spec_l04Operand.e0
                        · rw [if_neg c38] at H
                          have c38b0 : (a0_2 == 16) = false := beq_eq_false_iff_ne.mpr c38
                          have c38b1 : (a0_2 != 16) = true := bne_iff_ne.mpr c38
                          obtain rfl := Option.some.inj H
                          go_enter Try.func98, Try.ntmps98
                          go_wp2_with (first | ((with_reducible refine gate_dst (N := 2) rfl ?_); refine box_event ?hg (N := 2) ?hd (cs := #[.int .i64 a0_0, .int .i64 a0_1, .int .i64 a0_2, .int .i64 a0_3, .int .i64 a0_4, .int .i64 a0_5, .int .i64 a0_6]) (t := 28) ?hr ?_; (case hd => rfl); (case hg => rfl); (case hr => first | (go_simp; done) | (go_simp; rfl)); intro gb132 hg w41 hbox hb; have n0_ := Aside0.mk (below_step by1 hb); have n1_ := Aside0.mk (hbox); have n2_ := Aside0.mk ((by0 : w.heap.size ≤ gb132)); have n3_ := Aside0.mk ((by0 : w.heap.size ≤ gb132)); clear HB; have HB := n0_; have BK132 := n1_; have GW132 := n2_; have GE132 := n3_; clear n0_ n1_ n2_ n3_; clear hb hbox hg; have hcz42_0 := cz BK132.out 0 (.int .i64 a0_0); have hcz42_1 := cz BK132.out 1 (.int .i64 a0_1); have hcz42_2 := cz BK132.out 2 (.int .i64 a0_2); have hcz42_3 := cz BK132.out 3 (.int .i64 a0_3); have hcz42_4 := cz BK132.out 4 (.int .i64 a0_4); have hcz42_5 := cz BK132.out 5 (.int .i64 a0_5); have hcz42_6 := cz BK132.out 6 (.int .i64 a0_6)) | (go_at_call 56; (with_reducible refine (spec_l01In.calls a0_2 (-1) 16 true _ A20.out).mono ?_); rintro e w' ⟨rfl, ⟨nd, rfl⟩⟩) | (go_at_call 56; (with_reducible refine (spec_l01In.calls a0_3 (-1) 15 true _ A22.out).mono ?_); rintro e w' ⟨rfl, ⟨nd, rfl⟩⟩) | (go_at_call 152; (with_reducible refine (spec_l01Size.calls a0_4 true _ A27.out).mono ?_); rintro e w' ⟨rfl, ⟨nd, rfl⟩⟩) | (go_at_call 56; (with_reducible refine (spec_l01In.calls a0_5 (-2147483648) 2147483647 true _ A29.out).mono ?_); rintro e w' ⟨rfl, ⟨nd, rfl⟩⟩))
                          all_goals
                           exact spec_l04Operand.e0
                      · rw [if_neg c37] at H
                        have c37b0 : (a0_4 == 1) = false := beq_eq_false_iff_ne.mpr c37
                        have c37b1 : (a0_4 != 1) = true := bne_iff_ne.mpr c37
                        obtain rfl := Option.some.inj H
                        go_enter Try.func98, Try.ntmps98
                        go_wp2_with (first | ((with_reducible refine gate_dst (N := 2) rfl ?_); refine box_event ?hg (N := 2) ?hd (cs := #[.int .i64 a0_0, .int .i64 a0_1, .int .i64 a0_2, .int .i64 a0_3, .int .i64 a0_4, .int .i64 a0_5, .int .i64 a0_6]) (t := 28) ?hr ?_; (case hd => rfl); (case hg => rfl); (case hr => first | (go_simp; done) | (go_simp; rfl)); intro gb132 hg w43 hbox hb; have n0_ := Aside0.mk (below_step by1 hb); have n1_ := Aside0.mk (hbox); have n2_ := Aside0.mk ((by0 : w.heap.size ≤ gb132)); have n3_ := Aside0.mk ((by0 : w.heap.size ≤ gb132)); clear HB; have HB := n0_; have BK132 := n1_; have GW132 := n2_; have GE132 := n3_; clear n0_ n1_ n2_ n3_; clear hb hbox hg; have hcz44_0 := cz BK132.out 0 (.int .i64 a0_0); have hcz44_1 := cz BK132.out 1 (.int .i64 a0_1); have hcz44_2 := cz BK132.out 2 (.int .i64 a0_2); have hcz44_3 := cz BK132.out 3 (.int .i64 a0_3); have hcz44_4 := cz BK132.out 4 (.int .i64 a0_4); have hcz44_5 := cz BK132.out 5 (.int .i64 a0_5); have hcz44_6 := cz BK132.out 6 (.int .i64 a0_6)) | (go_at_call 56; (with_reducible refine (spec_l01In.calls a0_2 (-1) 16 true _ A20.out).mono ?_); rintro e w' ⟨rfl, ⟨nd, rfl⟩⟩) | (go_at_call 56; (with_reducible refine (spec_l01In.calls a0_3 (-1) 15 true _ A22.out).mono ?_); rintro e w' ⟨rfl, ⟨nd, rfl⟩⟩) | (go_at_call 152; (with_reducible refine (spec_l01Size.calls a0_4 true _ A27.out).mono ?_); rintro e w' ⟨rfl, ⟨nd, rfl⟩⟩) | (go_at_call 56; (with_reducible refine (spec_l01In.calls a0_5 (-2147483648) 2147483647 true _ A29.out).mono ?_); rintro e w' ⟨rfl, ⟨nd, rfl⟩⟩))
                        all_goals
                         exact spec_l04Operand.e0
                  · replace c30 := Bool.eq_false_iff.mpr c30
                    subst c30
                    have H1 : (some false) = some r := by rw [if_neg (show ¬ (false = true) by decide)] at H; exact H
                    clear H
                    have H := H1
                    clear H1
                    obtain rfl := Option.some.inj H
                    go_enter Try.func98, Try.ntmps98
                    go_wp2_with (first | ((with_reducible refine gate_dst (N := 2) rfl ?_); refine box_event ?hg (N := 2) ?hd (cs := #[.int .i64 a0_0, .int .i64 a0_1, .int .i64 a0_2, .int .i64 a0_3, .int .i64 a0_4, .int .i64 a0_5, .int .i64 a0_6]) (t := 28) ?hr ?_; (case hd => rfl); (case hg => rfl); (case hr => first | (go_simp; done) | (go_simp; rfl)); intro gb132 hg w45 hbox hb; have n0_ := Aside0.mk (below_step by1 hb); have n1_ := Aside0.mk (hbox); have n2_ := Aside0.mk ((by0 : w.heap.size ≤ gb132)); have n3_ := Aside0.mk ((by0 : w.heap.size ≤ gb132)); clear HB; have HB := n0_; have BK132 := n1_; have GW132 := n2_; have GE132 := n3_; clear n0_ n1_ n2_ n3_; clear hb hbox hg; have hcz46_0 := cz BK132.out 0 (.int .i64 a0_0); have hcz46_1 := cz BK132.out 1 (.int .i64 a0_1); have hcz46_2 := cz BK132.out 2 (.int .i64 a0_2); have hcz46_3 := cz BK132.out 3 (.int .i64 a0_3); have hcz46_4 := cz BK132.out 4 (.int .i64 a0_4); have hcz46_5 := cz BK132.out 5 (.int .i64 a0_5); have hcz46_6 := cz BK132.out 6 (.int .i64 a0_6)) | (go_at_call 56; (with_reducible refine (spec_l01In.calls a0_2 (-1) 16 true _ A20.out).mono ?_); rintro e w' ⟨rfl, ⟨nd, rfl⟩⟩) | (go_at_call 56; (with_reducible refine (spec_l01In.calls a0_3 (-1) 15 true _ A22.out).mono ?_); rintro e w' ⟨rfl, ⟨nd, rfl⟩⟩) | (go_at_call 152; (with_reducible refine (spec_l01Size.calls a0_4 true _ A27.out).mono ?_); rintro e w' ⟨rfl, ⟨nd, rfl⟩⟩) | (go_at_call 56; (with_reducible refine (spec_l01In.calls a0_5 (-2147483648) 2147483647 false _ A29.out).mono ?_); rintro e w' ⟨rfl, ⟨nd, rfl⟩⟩))
                    all_goals
                     exact spec_l04Operand.e0
                · replace c28 := Bool.eq_false_iff.mpr c28
                  subst c28
                  have H1 : (some false) = some r := by rw [if_neg (show ¬ (false = true) by decide)] at H; exact H
                  clear H
                  have H := H1
                  clear H1
                  obtain rfl := Option.some.inj H
                  go_enter Try.func98, Try.ntmps98
                  go_wp2_with (first | ((with_reducible refine gate_dst (N := 2) rfl ?_); refine box_event ?hg (N := 2) ?hd (cs := #[.int .i64 a0_0, .int .i64 a0_1, .int .i64 a0_2, .int .i64 a0_3, .int .i64 a0_4, .int .i64 a0_5, .int .i64 a0_6]) (t := 28) ?hr ?_; (case hd => rfl); (case hg => rfl); (case hr => first | (go_simp; done) | (go_simp; rfl)); intro gb132 hg w47 hbox hb; have n0_ := Aside0.mk (below_step by1 hb); have n1_ := Aside0.mk (hbox); have n2_ := Aside0.mk ((by0 : w.heap.size ≤ gb132)); have n3_ := Aside0.mk ((by0 : w.heap.size ≤ gb132)); clear HB; have HB := n0_; have BK132 := n1_; have GW132 := n2_; have GE132 := n3_; clear n0_ n1_ n2_ n3_; clear hb hbox hg; have hcz48_0 := cz BK132.out 0 (.int .i64 a0_0); have hcz48_1 := cz BK132.out 1 (.int .i64 a0_1); have hcz48_2 := cz BK132.out 2 (.int .i64 a0_2); have hcz48_3 := cz BK132.out 3 (.int .i64 a0_3); have hcz48_4 := cz BK132.out 4 (.int .i64 a0_4); have hcz48_5 := cz BK132.out 5 (.int .i64 a0_5); have hcz48_6 := cz BK132.out 6 (.int .i64 a0_6)) | (go_at_call 56; (with_reducible refine (spec_l01In.calls a0_2 (-1) 16 true _ A20.out).mono ?_); rintro e w' ⟨rfl, ⟨nd, rfl⟩⟩) | (go_at_call 56; (with_reducible refine (spec_l01In.calls a0_3 (-1) 15 true _ A22.out).mono ?_); rintro e w' ⟨rfl, ⟨nd, rfl⟩⟩) | (go_at_call 152; (with_reducible refine (spec_l01Size.calls a0_4 false _ A27.out).mono ?_); rintro e w' ⟨rfl, ⟨nd, rfl⟩⟩))
                  all_goals
                   exact spec_l04Operand.e0
            · replace c23 := Bool.eq_false_iff.mpr c23
              subst c23
              have H1 : (some false) = some r := by rw [if_neg (show ¬ (false = true) by decide)] at H; exact H
              clear H
              have H := H1
              clear H1
              obtain rfl := Option.some.inj H
              go_enter Try.func98, Try.ntmps98
              go_wp2_with (first | ((with_reducible refine gate_dst (N := 2) rfl ?_); refine box_event ?hg (N := 2) ?hd (cs := #[.int .i64 a0_0, .int .i64 a0_1, .int .i64 a0_2, .int .i64 a0_3, .int .i64 a0_4, .int .i64 a0_5, .int .i64 a0_6]) (t := 28) ?hr ?_; (case hd => rfl); (case hg => rfl); (case hr => first | (go_simp; done) | (go_simp; rfl)); intro gb132 hg w49 hbox hb; have n0_ := Aside0.mk (below_step by1 hb); have n1_ := Aside0.mk (hbox); have n2_ := Aside0.mk ((by0 : w.heap.size ≤ gb132)); have n3_ := Aside0.mk ((by0 : w.heap.size ≤ gb132)); clear HB; have HB := n0_; have BK132 := n1_; have GW132 := n2_; have GE132 := n3_; clear n0_ n1_ n2_ n3_; clear hb hbox hg; have hcz50_0 := cz BK132.out 0 (.int .i64 a0_0); have hcz50_1 := cz BK132.out 1 (.int .i64 a0_1); have hcz50_2 := cz BK132.out 2 (.int .i64 a0_2); have hcz50_3 := cz BK132.out 3 (.int .i64 a0_3); have hcz50_4 := cz BK132.out 4 (.int .i64 a0_4); have hcz50_5 := cz BK132.out 5 (.int .i64 a0_5); have hcz50_6 := cz BK132.out 6 (.int .i64 a0_6)) | (go_at_call 56; (with_reducible refine (spec_l01In.calls a0_2 (-1) 16 true _ A20.out).mono ?_); rintro e w' ⟨rfl, ⟨nd, rfl⟩⟩) | (go_at_call 56; (with_reducible refine (spec_l01In.calls a0_3 (-1) 15 false _ A22.out).mono ?_); rintro e w' ⟨rfl, ⟨nd, rfl⟩⟩))
              all_goals
               exact spec_l04Operand.e0
          · replace c21 := Bool.eq_false_iff.mpr c21
            subst c21
            have H1 : (some false) = some r := by rw [if_neg (show ¬ (false = true) by decide)] at H; exact H
            clear H
            have H := H1
            clear H1
            obtain rfl := Option.some.inj H
            go_enter Try.func98, Try.ntmps98
            go_wp2_with (first | ((with_reducible refine gate_dst (N := 2) rfl ?_); refine box_event ?hg (N := 2) ?hd (cs := #[.int .i64 a0_0, .int .i64 a0_1, .int .i64 a0_2, .int .i64 a0_3, .int .i64 a0_4, .int .i64 a0_5, .int .i64 a0_6]) (t := 28) ?hr ?_; (case hd => rfl); (case hg => rfl); (case hr => first | (go_simp; done) | (go_simp; rfl)); intro gb132 hg w51 hbox hb; have n0_ := Aside0.mk (below_step by1 hb); have n1_ := Aside0.mk (hbox); have n2_ := Aside0.mk ((by0 : w.heap.size ≤ gb132)); have n3_ := Aside0.mk ((by0 : w.heap.size ≤ gb132)); clear HB; have HB := n0_; have BK132 := n1_; have GW132 := n2_; have GE132 := n3_; clear n0_ n1_ n2_ n3_; clear hb hbox hg; have hcz52_0 := cz BK132.out 0 (.int .i64 a0_0); have hcz52_1 := cz BK132.out 1 (.int .i64 a0_1); have hcz52_2 := cz BK132.out 2 (.int .i64 a0_2); have hcz52_3 := cz BK132.out 3 (.int .i64 a0_3); have hcz52_4 := cz BK132.out 4 (.int .i64 a0_4); have hcz52_5 := cz BK132.out 5 (.int .i64 a0_5); have hcz52_6 := cz BK132.out 6 (.int .i64 a0_6)) | (go_at_call 56; (with_reducible refine (spec_l01In.calls a0_2 (-1) 16 false _ A20.out).mono ?_); rintro e w' ⟨rfl, ⟨nd, rfl⟩⟩))
            all_goals
             exact spec_l04Operand.e0
        · rw [if_neg c19] at H
          have c19b0 : (a0_6 == 0) = false := beq_eq_false_iff_ne.mpr c19
          have c19b1 : (a0_6 != 0) = true := bne_iff_ne.mpr c19
          obtain rfl := Option.some.inj H
          go_enter Try.func98, Try.ntmps98
          go_wp2_with (first | ((with_reducible refine gate_dst (N := 2) rfl ?_); refine box_event ?hg (N := 2) ?hd (cs := #[.int .i64 a0_0, .int .i64 a0_1, .int .i64 a0_2, .int .i64 a0_3, .int .i64 a0_4, .int .i64 a0_5, .int .i64 a0_6]) (t := 28) ?hr ?_; (case hd => rfl); (case hg => rfl); (case hr => first | (go_simp; done) | (go_simp; rfl)); intro gb132 hg w53 hbox hb; have n0_ := Aside0.mk (below_step by1 hb); have n1_ := Aside0.mk (hbox); have n2_ := Aside0.mk ((by0 : w.heap.size ≤ gb132)); have n3_ := Aside0.mk ((by0 : w.heap.size ≤ gb132)); clear HB; have HB := n0_; have BK132 := n1_; have GW132 := n2_; have GE132 := n3_; clear n0_ n1_ n2_ n3_; clear hb hbox hg; have hcz54_0 := cz BK132.out 0 (.int .i64 a0_0); have hcz54_1 := cz BK132.out 1 (.int .i64 a0_1); have hcz54_2 := cz BK132.out 2 (.int .i64 a0_2); have hcz54_3 := cz BK132.out 3 (.int .i64 a0_3); have hcz54_4 := cz BK132.out 4 (.int .i64 a0_4); have hcz54_5 := cz BK132.out 5 (.int .i64 a0_5); have hcz54_6 := cz BK132.out 6 (.int .i64 a0_6)))
          all_goals
           exact spec_l04Operand.e0
      · rw [if_neg c18] at H
        have c18b0 : (a0_1 == 0) = false := beq_eq_false_iff_ne.mpr c18
        have c18b1 : (a0_1 != 0) = true := bne_iff_ne.mpr c18
        obtain rfl := Option.some.inj H
        go_enter Try.func98, Try.ntmps98
        go_wp2_with (first | ((with_reducible refine gate_dst (N := 2) rfl ?_); refine box_event ?hg (N := 2) ?hd (cs := #[.int .i64 a0_0, .int .i64 a0_1, .int .i64 a0_2, .int .i64 a0_3, .int .i64 a0_4, .int .i64 a0_5, .int .i64 a0_6]) (t := 28) ?hr ?_; (case hd => rfl); (case hg => rfl); (case hr => first | (go_simp; done) | (go_simp; rfl)); intro gb132 hg w55 hbox hb; have n0_ := Aside0.mk (below_step by1 hb); have n1_ := Aside0.mk (hbox); have n2_ := Aside0.mk ((by0 : w.heap.size ≤ gb132)); have n3_ := Aside0.mk ((by0 : w.heap.size ≤ gb132)); clear HB; have HB := n0_; have BK132 := n1_; have GW132 := n2_; have GE132 := n3_; clear n0_ n1_ n2_ n3_; clear hb hbox hg; have hcz56_0 := cz BK132.out 0 (.int .i64 a0_0); have hcz56_1 := cz BK132.out 1 (.int .i64 a0_1); have hcz56_2 := cz BK132.out 2 (.int .i64 a0_2); have hcz56_3 := cz BK132.out 3 (.int .i64 a0_3); have hcz56_4 := cz BK132.out 4 (.int .i64 a0_4); have hcz56_5 := cz BK132.out 5 (.int .i64 a0_5); have hcz56_6 := cz BK132.out 6 (.int .i64 a0_6)))
        all_goals
         exact spec_l04Operand.e0
    · rw [if_neg c17] at H
      have c17b0 : (a0_0 == 2) = false := beq_eq_false_iff_ne.mpr c17
      have c17b1 : (a0_0 != 2) = true := bne_iff_ne.mpr c17
      by_cases c57 : a0_0 = 3
      · rw [if_pos c57] at H
        have c57b0 : (a0_0 == 3) = true := beq_iff_eq.mpr c57
        have c57b1 : (a0_0 != 3) = false := bne_eq_false_iff_eq.mpr c57
        clear c57
        obtain rfl := Option.some.inj H
        go_enter Try.func98, Try.ntmps98
        go_wp2_with (first | ((with_reducible refine gate_dst (N := 2) rfl ?_); refine box_event ?hg (N := 2) ?hd (cs := #[.int .i64 a0_0, .int .i64 a0_1, .int .i64 a0_2, .int .i64 a0_3, .int .i64 a0_4, .int .i64 a0_5, .int .i64 a0_6]) (t := 28) ?hr ?_; (case hd => rfl); (case hg => rfl); (case hr => first | (go_simp; done) | (go_simp; rfl)); intro gb132 hg w58 hbox hb; have n0_ := Aside0.mk (below_step by1 hb); have n1_ := Aside0.mk (hbox); have n2_ := Aside0.mk ((by0 : w.heap.size ≤ gb132)); have n3_ := Aside0.mk ((by0 : w.heap.size ≤ gb132)); clear HB; have HB := n0_; have BK132 := n1_; have GW132 := n2_; have GE132 := n3_; clear n0_ n1_ n2_ n3_; clear hb hbox hg; have hcz59_0 := cz BK132.out 0 (.int .i64 a0_0); have hcz59_1 := cz BK132.out 1 (.int .i64 a0_1); have hcz59_2 := cz BK132.out 2 (.int .i64 a0_2); have hcz59_3 := cz BK132.out 3 (.int .i64 a0_3); have hcz59_4 := cz BK132.out 4 (.int .i64 a0_4); have hcz59_5 := cz BK132.out 5 (.int .i64 a0_5); have hcz59_6 := cz BK132.out 6 (.int .i64 a0_6)))
        all_goals
         exact spec_l04Operand.e0
      · rw [if_neg c57] at H
        have c57b0 : (a0_0 == 3) = false := beq_eq_false_iff_ne.mpr c57
        have c57b1 : (a0_0 != 3) = true := bne_iff_ne.mpr c57
        obtain rfl := Option.some.inj H
        go_enter Try.func98, Try.ntmps98
        go_wp2_with (first | ((with_reducible refine gate_dst (N := 2) rfl ?_); refine box_event ?hg (N := 2) ?hd (cs := #[.int .i64 a0_0, .int .i64 a0_1, .int .i64 a0_2, .int .i64 a0_3, .int .i64 a0_4, .int .i64 a0_5, .int .i64 a0_6]) (t := 28) ?hr ?_; (case hd => rfl); (case hg => rfl); (case hr => first | (go_simp; done) | (go_simp; rfl)); intro gb132 hg w60 hbox hb; have n0_ := Aside0.mk (below_step by1 hb); have n1_ := Aside0.mk (hbox); have n2_ := Aside0.mk ((by0 : w.heap.size ≤ gb132)); have n3_ := Aside0.mk ((by0 : w.heap.size ≤ gb132)); clear HB; have HB := n0_; have BK132 := n1_; have GW132 := n2_; have GE132 := n3_; clear n0_ n1_ n2_ n3_; clear hb hbox hg; have hcz61_0 := cz BK132.out 0 (.int .i64 a0_0); have hcz61_1 := cz BK132.out 1 (.int .i64 a0_1); have hcz61_2 := cz BK132.out 2 (.int .i64 a0_2); have hcz61_3 := cz BK132.out 3 (.int .i64 a0_3); have hcz61_4 := cz BK132.out 4 (.int .i64 a0_4); have hcz61_5 := cz BK132.out 5 (.int .i64 a0_5); have hcz61_6 := cz BK132.out 6 (.int .i64 a0_6)))
        all_goals
         exact spec_l04Operand.e0

/-! ### spec_l05Rex: function 99 -/
def spec_l05Rex.f (a0_0 : Int) (a0_1 : Int) (a0_2 : Int) (a0_3 : Int) (a0_4 : Int) (a0_5 : Int) (a0_6 : Int) (a1 : Int) : Option (Bool × Bool) := if a0_0 = 1 then ((spec_l01In.f a0_1 8 15).bind fun t140 => (if t140 = true then (some (true, decide (a0_1 ≥ 16))) else (if a1 = 1 then ((spec_l01In.f a0_1 4 7).bind fun t141 => (some (t141, decide (a0_1 ≥ 16)))) else (some (false, decide (a0_1 ≥ 16)))))) else (if a0_0 = 2 then ((spec_l01In.f a0_2 8 15).bind fun t142 => (if t142 = true then (some (true, false)) else (some (decide (a0_3 ≥ 8), false)))) else (some (false, false)))
set_option maxHeartbeats 8000000 in
set_option maxRecDepth 100000 in
theorem spec_l05Rex.calls (a0_0 : Int) (a0_1 : Int) (a0_2 : Int) (a0_3 : Int) (a0_4 : Int) (a0_5 : Int) (a0_6 : Int) (a1 : Int) (r1 : Bool) (r2 : Bool) (w : World) (h : spec_l05Rex.f a0_0 a0_1 a0_2 a0_3 a0_4 a0_5 a0_6 a1 = some (r1, r2)) :
  Calls Try.prog 99 #[.agg #[.int .i64 a0_0, .int .i64 a0_1, .int .i64 a0_2, .int .i64 a0_3, .int .i64 a0_4, .int .i64 a0_5, .int .i64 a0_6], .int .i64 a1] w fun e w' => e = .returned (.tuple #[.bool r1, .bool r2]) ∧ Below w.heap.size w w' := by
 have hu28 := Try.underlying28
 have HB := Aside0.mk (Below.refl w.heap.size w)
 have H : (if a0_0 = 1 then ((spec_l01In.f a0_1 8 15).bind fun t140 => (if t140 = true then (some (true, decide (a0_1 ≥ 16))) else (if a1 = 1 then ((spec_l01In.f a0_1 4 7).bind fun t141 => (some (t141, decide (a0_1 ≥ 16)))) else (some (false, decide (a0_1 ≥ 16)))))) else (if a0_0 = 2 then ((spec_l01In.f a0_2 8 15).bind fun t142 => (if t142 = true then (some (true, false)) else (some (decide (a0_3 ≥ 8), false)))) else (some (false, false)))) = some (r1, r2) := h
 clear h
 by_cases c3 : a0_0 = 1
 ·rw [if_pos c3] at H
  have c3b0 : (a0_0 == 1) = true := beq_iff_eq.mpr c3
  have c3b1 : (a0_0 != 1) = false := bne_eq_false_iff_eq.mpr c3
  clear c3
  replace H := Option.bind_eq_some_iff.mp H
  obtain ⟨t140, A40, H⟩ := H
  replace H : (if t140 = true then (some (true, decide (a0_1 ≥ 16))) else (if a1 = 1 then ((spec_l01In.f a0_1 4 7).bind fun t141 => (some (t141, decide (a0_1 ≥ 16)))) else (some (false, decide (a0_1 ≥ 16))))) = some (r1, r2) := H
  have A4 := Aside0.mk A40
  clear A40
  by_cases c5 : t140 = true
  ·subst c5
   have H1 : (some (true, decide (a0_1 ≥ 16))) = some (r1, r2) := by rw [if_pos rfl] at H; exact H
   clear H
   have H := H1
   clear H1
   simp only [Option.some.injEq, Prod.mk.injEq] at H
   obtain ⟨rfl, rfl⟩ := H
   go_enter Try.func99, Try.ntmps99
   go_wp2_with (first | ((with_reducible refine gate_dst (N := 2) rfl ?_); refine box_event ?hg (N := 2) ?hd (cs := #[.int .i64 a0_0, .int .i64 a0_1, .int .i64 a0_2, .int .i64 a0_3, .int .i64 a0_4, .int .i64 a0_5, .int .i64 a0_6]) (t := 28) ?hr ?_; (case hd => rfl); (case hg => rfl); (case hr => first | (go_simp; done) | (go_simp; rfl)); intro gb139 hg w6 hbox hb; have n0_ := Aside0.mk (below_step by1 hb); have n1_ := Aside0.mk (hbox); have n2_ := Aside0.mk ((by0 : w.heap.size ≤ gb139)); have n3_ := Aside0.mk ((by0 : w.heap.size ≤ gb139)); clear HB; have HB := n0_; have BK139 := n1_; have GW139 := n2_; have GE139 := n3_; clear n0_ n1_ n2_ n3_; clear hb hbox hg; have hcz7_0 := cz BK139.out 0 (.int .i64 a0_0); have hcz7_1 := cz BK139.out 1 (.int .i64 a0_1); have hcz7_2 := cz BK139.out 2 (.int .i64 a0_2); have hcz7_3 := cz BK139.out 3 (.int .i64 a0_3)) | (go_at_call 56; (with_reducible refine (spec_l01In.calls a0_1 8 15 true _ A4.out).mono ?_); rintro e w' ⟨rfl, ⟨nd, rfl⟩⟩; (try first | exact ⟨rfl, _, World.drewN_drewN _ _ _⟩ | exact ⟨rfl, _, Eq.trans (World.drewN_drewN _ _ _) (congrArg (World.drewN _) (Nat.add_assoc _ _ _))⟩)))
   repeat (go_quiet (first | ((with_reducible refine gate_dst (N := 2) rfl ?_); refine box_event ?hg (N := 2) ?hd (cs := #[.int .i64 a0_0, .int .i64 a0_1, .int .i64 a0_2, .int .i64 a0_3, .int .i64 a0_4, .int .i64 a0_5, .int .i64 a0_6]) (t := 28) ?hr ?_; (case hd => rfl); (case hg => rfl); (case hr => first | (go_simp; done) | (go_simp; rfl)); intro gb139 hg w6 hbox hb; have n0_ := Aside0.mk (below_step by1 hb); have n1_ := Aside0.mk (hbox); have n2_ := Aside0.mk ((by0 : w.heap.size ≤ gb139)); have n3_ := Aside0.mk ((by0 : w.heap.size ≤ gb139)); clear HB; have HB := n0_; have BK139 := n1_; have GW139 := n2_; have GE139 := n3_; clear n0_ n1_ n2_ n3_; clear hb hbox hg; have hcz7_0 := cz BK139.out 0 (.int .i64 a0_0); have hcz7_1 := cz BK139.out 1 (.int .i64 a0_1); have hcz7_2 := cz BK139.out 2 (.int .i64 a0_2); have hcz7_3 := cz BK139.out 3 (.int .i64 a0_3)) | (go_at_call 56; (with_reducible refine (spec_l01In.calls a0_1 8 15 true _ A4.out).mono ?_); rintro e w' ⟨rfl, ⟨nd, rfl⟩⟩; (try first | exact ⟨rfl, _, World.drewN_drewN _ _ _⟩ | exact ⟨rfl, _, Eq.trans (World.drewN_drewN _ _ _) (congrArg (World.drewN _) (Nat.add_assoc _ _ _))⟩))); try go_wp2_with (first | ((with_reducible refine gate_dst (N := 2) rfl ?_); refine box_event ?hg (N := 2) ?hd (cs := #[.int .i64 a0_0, .int .i64 a0_1, .int .i64 a0_2, .int .i64 a0_3, .int .i64 a0_4, .int .i64 a0_5, .int .i64 a0_6]) (t := 28) ?hr ?_; (case hd => rfl); (case hg => rfl); (case hr => first | (go_simp; done) | (go_simp; rfl)); intro gb139 hg w6 hbox hb; have n0_ := Aside0.mk (below_step by1 hb); have n1_ := Aside0.mk (hbox); have n2_ := Aside0.mk ((by0 : w.heap.size ≤ gb139)); have n3_ := Aside0.mk ((by0 : w.heap.size ≤ gb139)); clear HB; have HB := n0_; have BK139 := n1_; have GW139 := n2_; have GE139 := n3_; clear n0_ n1_ n2_ n3_; clear hb hbox hg; have hcz7_0 := cz BK139.out 0 (.int .i64 a0_0); have hcz7_1 := cz BK139.out 1 (.int .i64 a0_1); have hcz7_2 := cz BK139.out 2 (.int .i64 a0_2); have hcz7_3 := cz BK139.out 3 (.int .i64 a0_3)) | (go_at_call 56; (with_reducible refine (spec_l01In.calls a0_1 8 15 true _ A4.out).mono ?_); rintro e w' ⟨rfl, ⟨nd, rfl⟩⟩; (try first | exact ⟨rfl, _, World.drewN_drewN _ _ _⟩ | exact ⟨rfl, _, Eq.trans (World.drewN_drewN _ _ _) (congrArg (World.drewN _) (Nat.add_assoc _ _ _))⟩))))
   go_ret2
   exact ⟨by first | rfl | (simp [errW_none, errW_some] <;> rfl) | (simp [*, errW_none, errW_some] <;> rfl), by repeat (first | (with_reducible first | exact HB.out | apply below_alloc | apply pw_below_drewN | apply below_drew1 | refine below_set ?_ GE139.out) | exact HB.out)⟩
  ·replace c5 := Bool.eq_false_iff.mpr c5
   subst c5
   have H1 : (if a1 = 1 then ((spec_l01In.f a0_1 4 7).bind fun t141 => (some (t141, decide (a0_1 ≥ 16)))) else (some (false, decide (a0_1 ≥ 16)))) = some (r1, r2) := by rw [if_neg (show ¬ (false = true) by decide)] at H; exact H
   clear H
   have H := H1
   clear H1
   by_cases c8 : a1 = 1
   ·rw [if_pos c8] at H
    have c8b0 : (a1 == 1) = true := beq_iff_eq.mpr c8
    have c8b1 : (a1 != 1) = false := bne_eq_false_iff_eq.mpr c8
    clear c8
    replace H := Option.bind_eq_some_iff.mp H
    obtain ⟨t141, A90, H⟩ := H
    replace H : (some (t141, decide (a0_1 ≥ 16))) = some (r1, r2) := H
    have A9 := Aside0.mk A90
    clear A90
    simp only [Option.some.injEq, Prod.mk.injEq] at H
    obtain ⟨rfl, rfl⟩ := H
    go_enter Try.func99, Try.ntmps99
    go_wp2_with (first | ((with_reducible refine gate_dst (N := 2) rfl ?_); refine box_event ?hg (N := 2) ?hd (cs := #[.int .i64 a0_0, .int .i64 a0_1, .int .i64 a0_2, .int .i64 a0_3, .int .i64 a0_4, .int .i64 a0_5, .int .i64 a0_6]) (t := 28) ?hr ?_; (case hd => rfl); (case hg => rfl); (case hr => first | (go_simp; done) | (go_simp; rfl)); intro gb139 hg w10 hbox hb; have n0_ := Aside0.mk (below_step by1 hb); have n1_ := Aside0.mk (hbox); have n2_ := Aside0.mk ((by0 : w.heap.size ≤ gb139)); have n3_ := Aside0.mk ((by0 : w.heap.size ≤ gb139)); clear HB; have HB := n0_; have BK139 := n1_; have GW139 := n2_; have GE139 := n3_; clear n0_ n1_ n2_ n3_; clear hb hbox hg; have hcz11_0 := cz BK139.out 0 (.int .i64 a0_0); have hcz11_1 := cz BK139.out 1 (.int .i64 a0_1); have hcz11_2 := cz BK139.out 2 (.int .i64 a0_2); have hcz11_3 := cz BK139.out 3 (.int .i64 a0_3)) | (go_at_call 56; (with_reducible refine (spec_l01In.calls a0_1 8 15 false _ A4.out).mono ?_); rintro e w' ⟨rfl, ⟨nd, rfl⟩⟩; (try first | exact ⟨rfl, _, World.drewN_drewN _ _ _⟩ | exact ⟨rfl, _, Eq.trans (World.drewN_drewN _ _ _) (congrArg (World.drewN _) (Nat.add_assoc _ _ _))⟩)) | (go_at_call 56; (with_reducible refine (spec_l01In.calls a0_1 4 7 t141 _ A9.out).mono ?_); rintro e w' ⟨rfl, ⟨nd, rfl⟩⟩; (try first | exact ⟨rfl, _, World.drewN_drewN _ _ _⟩ | exact ⟨rfl, _, Eq.trans (World.drewN_drewN _ _ _) (congrArg (World.drewN _) (Nat.add_assoc _ _ _))⟩)))
    repeat (go_quiet (first | ((with_reducible refine gate_dst (N := 2) rfl ?_); refine box_event ?hg (N := 2) ?hd (cs := #[.int .i64 a0_0, .int .i64 a0_1, .int .i64 a0_2, .int .i64 a0_3, .int .i64 a0_4, .int .i64 a0_5, .int .i64 a0_6]) (t := 28) ?hr ?_; (case hd => rfl); (case hg => rfl); (case hr => first | (go_simp; done) | (go_simp; rfl)); intro gb139 hg w10 hbox hb; have n0_ := Aside0.mk (below_step by1 hb); have n1_ := Aside0.mk (hbox); have n2_ := Aside0.mk ((by0 : w.heap.size ≤ gb139)); have n3_ := Aside0.mk ((by0 : w.heap.size ≤ gb139)); clear HB; have HB := n0_; have BK139 := n1_; have GW139 := n2_; have GE139 := n3_; clear n0_ n1_ n2_ n3_; clear hb hbox hg; have hcz11_0 := cz BK139.out 0 (.int .i64 a0_0); have hcz11_1 := cz BK139.out 1 (.int .i64 a0_1); have hcz11_2 := cz BK139.out 2 (.int .i64 a0_2); have hcz11_3 := cz BK139.out 3 (.int .i64 a0_3)) | (go_at_call 56; (with_reducible refine (spec_l01In.calls a0_1 8 15 false _ A4.out).mono ?_); rintro e w' ⟨rfl, ⟨nd, rfl⟩⟩; (try first | exact ⟨rfl, _, World.drewN_drewN _ _ _⟩ | exact ⟨rfl, _, Eq.trans (World.drewN_drewN _ _ _) (congrArg (World.drewN _) (Nat.add_assoc _ _ _))⟩)) | (go_at_call 56; (with_reducible refine (spec_l01In.calls a0_1 4 7 t141 _ A9.out).mono ?_); rintro e w' ⟨rfl, ⟨nd, rfl⟩⟩; (try first | exact ⟨rfl, _, World.drewN_drewN _ _ _⟩ | exact ⟨rfl, _, Eq.trans (World.drewN_drewN _ _ _) (congrArg (World.drewN _) (Nat.add_assoc _ _ _))⟩))); try go_wp2_with (first | ((with_reducible refine gate_dst (N := 2) rfl ?_); refine box_event ?hg (N := 2) ?hd (cs := #[.int .i64 a0_0, .int .i64 a0_1, .int .i64 a0_2, .int .i64 a0_3, .int .i64 a0_4, .int .i64 a0_5, .int .i64 a0_6]) (t := 28) ?hr ?_; (case hd => rfl); (case hg => rfl); (case hr => first | (go_simp; done) | (go_simp; rfl)); intro gb139 hg w10 hbox hb; have n0_ := Aside0.mk (below_step by1 hb); have n1_ := Aside0.mk (hbox); have n2_ := Aside0.mk ((by0 : w.heap.size ≤ gb139)); have n3_ := Aside0.mk ((by0 : w.heap.size ≤ gb139)); clear HB; have HB := n0_; have BK139 := n1_; have GW139 := n2_; have GE139 := n3_; clear n0_ n1_ n2_ n3_; clear hb hbox hg; have hcz11_0 := cz BK139.out 0 (.int .i64 a0_0); have hcz11_1 := cz BK139.out 1 (.int .i64 a0_1); have hcz11_2 := cz BK139.out 2 (.int .i64 a0_2); have hcz11_3 := cz BK139.out 3 (.int .i64 a0_3)) | (go_at_call 56; (with_reducible refine (spec_l01In.calls a0_1 8 15 false _ A4.out).mono ?_); rintro e w' ⟨rfl, ⟨nd, rfl⟩⟩; (try first | exact ⟨rfl, _, World.drewN_drewN _ _ _⟩ | exact ⟨rfl, _, Eq.trans (World.drewN_drewN _ _ _) (congrArg (World.drewN _) (Nat.add_assoc _ _ _))⟩)) | (go_at_call 56; (with_reducible refine (spec_l01In.calls a0_1 4 7 t141 _ A9.out).mono ?_); rintro e w' ⟨rfl, ⟨nd, rfl⟩⟩; (try first | exact ⟨rfl, _, World.drewN_drewN _ _ _⟩ | exact ⟨rfl, _, Eq.trans (World.drewN_drewN _ _ _) (congrArg (World.drewN _) (Nat.add_assoc _ _ _))⟩))))
    go_ret2
    exact ⟨by first | rfl | (simp [errW_none, errW_some] <;> rfl) | (simp [*, errW_none, errW_some] <;> rfl), by repeat (first | (with_reducible first | exact HB.out | apply below_alloc | apply pw_below_drewN | apply below_drew1 | refine below_set ?_ GE139.out) | exact HB.out)⟩
   ·rw [if_neg c8] at H
    have c8b0 : (a1 == 1) = false := beq_eq_false_iff_ne.mpr c8
    have c8b1 : (a1 != 1) = true := bne_iff_ne.mpr c8
    simp only [Option.some.injEq, Prod.mk.injEq] at H
    obtain ⟨rfl, rfl⟩ := H
    go_enter Try.func99, Try.ntmps99
    go_wp2_with (first | ((with_reducible refine gate_dst (N := 2) rfl ?_); refine box_event ?hg (N := 2) ?hd (cs := #[.int .i64 a0_0, .int .i64 a0_1, .int .i64 a0_2, .int .i64 a0_3, .int .i64 a0_4, .int .i64 a0_5, .int .i64 a0_6]) (t := 28) ?hr ?_; (case hd => rfl); (case hg => rfl); (case hr => first | (go_simp; done) | (go_simp; rfl)); intro gb139 hg w12 hbox hb; have n0_ := Aside0.mk (below_step by1 hb); have n1_ := Aside0.mk (hbox); have n2_ := Aside0.mk ((by0 : w.heap.size ≤ gb139)); have n3_ := Aside0.mk ((by0 : w.heap.size ≤ gb139)); clear HB; have HB := n0_; have BK139 := n1_; have GW139 := n2_; have GE139 := n3_; clear n0_ n1_ n2_ n3_; clear hb hbox hg; have hcz13_0 := cz BK139.out 0 (.int .i64 a0_0); have hcz13_1 := cz BK139.out 1 (.int .i64 a0_1); have hcz13_2 := cz BK139.out 2 (.int .i64 a0_2); have hcz13_3 := cz BK139.out 3 (.int .i64 a0_3)) | (go_at_call 56; (with_reducible refine (spec_l01In.calls a0_1 8 15 false _ A4.out).mono ?_); rintro e w' ⟨rfl, ⟨nd, rfl⟩⟩; (try first | exact ⟨rfl, _, World.drewN_drewN _ _ _⟩ | exact ⟨rfl, _, Eq.trans (World.drewN_drewN _ _ _) (congrArg (World.drewN _) (Nat.add_assoc _ _ _))⟩)))
    repeat (go_quiet (first | ((with_reducible refine gate_dst (N := 2) rfl ?_); refine box_event ?hg (N := 2) ?hd (cs := #[.int .i64 a0_0, .int .i64 a0_1, .int .i64 a0_2, .int .i64 a0_3, .int .i64 a0_4, .int .i64 a0_5, .int .i64 a0_6]) (t := 28) ?hr ?_; (case hd => rfl); (case hg => rfl); (case hr => first | (go_simp; done) | (go_simp; rfl)); intro gb139 hg w12 hbox hb; have n0_ := Aside0.mk (below_step by1 hb); have n1_ := Aside0.mk (hbox); have n2_ := Aside0.mk ((by0 : w.heap.size ≤ gb139)); have n3_ := Aside0.mk ((by0 : w.heap.size ≤ gb139)); clear HB; have HB := n0_; have BK139 := n1_; have GW139 := n2_; have GE139 := n3_; clear n0_ n1_ n2_ n3_; clear hb hbox hg; have hcz13_0 := cz BK139.out 0 (.int .i64 a0_0); have hcz13_1 := cz BK139.out 1 (.int .i64 a0_1); have hcz13_2 := cz BK139.out 2 (.int .i64 a0_2); have hcz13_3 := cz BK139.out 3 (.int .i64 a0_3)) | (go_at_call 56; (with_reducible refine (spec_l01In.calls a0_1 8 15 false _ A4.out).mono ?_); rintro e w' ⟨rfl, ⟨nd, rfl⟩⟩; (try first | exact ⟨rfl, _, World.drewN_drewN _ _ _⟩ | exact ⟨rfl, _, Eq.trans (World.drewN_drewN _ _ _) (congrArg (World.drewN _) (Nat.add_assoc _ _ _))⟩))); try go_wp2_with (first | ((with_reducible refine gate_dst (N := 2) rfl ?_); refine box_event ?hg (N := 2) ?hd (cs := #[.int .i64 a0_0, .int .i64 a0_1, .int .i64 a0_2, .int .i64 a0_3, .int .i64 a0_4, .int .i64 a0_5, .int .i64 a0_6]) (t := 28) ?hr ?_; (case hd => rfl); (case hg => rfl); (case hr => first | (go_simp; done) | (go_simp; rfl)); intro gb139 hg w12 hbox hb; have n0_ := Aside0.mk (below_step by1 hb); have n1_ := Aside0.mk (hbox); have n2_ := Aside0.mk ((by0 : w.heap.size ≤ gb139)); have n3_ := Aside0.mk ((by0 : w.heap.size ≤ gb139)); clear HB; have HB := n0_; have BK139 := n1_; have GW139 := n2_; have GE139 := n3_; clear n0_ n1_ n2_ n3_; clear hb hbox hg; have hcz13_0 := cz BK139.out 0 (.int .i64 a0_0); have hcz13_1 := cz BK139.out 1 (.int .i64 a0_1); have hcz13_2 := cz BK139.out 2 (.int .i64 a0_2); have hcz13_3 := cz BK139.out 3 (.int .i64 a0_3)) | (go_at_call 56; (with_reducible refine (spec_l01In.calls a0_1 8 15 false _ A4.out).mono ?_); rintro e w' ⟨rfl, ⟨nd, rfl⟩⟩; (try first | exact ⟨rfl, _, World.drewN_drewN _ _ _⟩ | exact ⟨rfl, _, Eq.trans (World.drewN_drewN _ _ _) (congrArg (World.drewN _) (Nat.add_assoc _ _ _))⟩))))
    go_ret2
    exact ⟨by first | rfl | (simp [errW_none, errW_some] <;> rfl) | (simp [*, errW_none, errW_some] <;> rfl), by repeat (first | (with_reducible first | exact HB.out | apply below_alloc | apply pw_below_drewN | apply below_drew1 | refine below_set ?_ GE139.out) | exact HB.out)⟩
 ·rw [if_neg c3] at H
  have c3b0 : (a0_0 == 1) = false := beq_eq_false_iff_ne.mpr c3
  have c3b1 : (a0_0 != 1) = true := bne_iff_ne.mpr c3
  by_cases c14 : a0_0 = 2
  ·rw [if_pos c14] at H
   have c14b0 : (a0_0 == 2) = true := beq_iff_eq.mpr c14
   have c14b1 : (a0_0 != 2) = false := bne_eq_false_iff_eq.mpr c14
   clear c14
   replace H := Option.bind_eq_some_iff.mp H
   obtain ⟨t142, A150, H⟩ := H
   replace H : (if t142 = true then (some (true, false)) else (some (decide (a0_3 ≥ 8), false))) = some (r1, r2) := H
   have A15 := Aside0.mk A150
   clear A150
   by_cases c16 : t142 = true
   ·subst c16
    have H1 : (some (true, false)) = some (r1, r2) := by rw [if_pos rfl] at H; exact H
    clear H
    have H := H1
    clear H1
    simp only [Option.some.injEq, Prod.mk.injEq] at H
    obtain ⟨rfl, rfl⟩ := H
    go_enter Try.func99, Try.ntmps99
    go_wp2_with (first | ((with_reducible refine gate_dst (N := 2) rfl ?_); refine box_event ?hg (N := 2) ?hd (cs := #[.int .i64 a0_0, .int .i64 a0_1, .int .i64 a0_2, .int .i64 a0_3, .int .i64 a0_4, .int .i64 a0_5, .int .i64 a0_6]) (t := 28) ?hr ?_; (case hd => rfl); (case hg => rfl); (case hr => first | (go_simp; done) | (go_simp; rfl)); intro gb139 hg w17 hbox hb; have n0_ := Aside0.mk (below_step by1 hb); have n1_ := Aside0.mk (hbox); have n2_ := Aside0.mk ((by0 : w.heap.size ≤ gb139)); have n3_ := Aside0.mk ((by0 : w.heap.size ≤ gb139)); clear HB; have HB := n0_; have BK139 := n1_; have GW139 := n2_; have GE139 := n3_; clear n0_ n1_ n2_ n3_; clear hb hbox hg; have hcz18_0 := cz BK139.out 0 (.int .i64 a0_0); have hcz18_1 := cz BK139.out 1 (.int .i64 a0_1); have hcz18_2 := cz BK139.out 2 (.int .i64 a0_2); have hcz18_3 := cz BK139.out 3 (.int .i64 a0_3)) | (go_at_call 56; (with_reducible refine (spec_l01In.calls a0_2 8 15 true _ A15.out).mono ?_); rintro e w' ⟨rfl, ⟨nd, rfl⟩⟩; (try first | exact ⟨rfl, _, World.drewN_drewN _ _ _⟩ | exact ⟨rfl, _, Eq.trans (World.drewN_drewN _ _ _) (congrArg (World.drewN _) (Nat.add_assoc _ _ _))⟩)))
    repeat (go_quiet (first | ((with_reducible refine gate_dst (N := 2) rfl ?_); refine box_event ?hg (N := 2) ?hd (cs := #[.int .i64 a0_0, .int .i64 a0_1, .int .i64 a0_2, .int .i64 a0_3, .int .i64 a0_4, .int .i64 a0_5, .int .i64 a0_6]) (t := 28) ?hr ?_; (case hd => rfl); (case hg => rfl); (case hr => first | (go_simp; done) | (go_simp; rfl)); intro gb139 hg w17 hbox hb; have n0_ := Aside0.mk (below_step by1 hb); have n1_ := Aside0.mk (hbox); have n2_ := Aside0.mk ((by0 : w.heap.size ≤ gb139)); have n3_ := Aside0.mk ((by0 : w.heap.size ≤ gb139)); clear HB; have HB := n0_; have BK139 := n1_; have GW139 := n2_; have GE139 := n3_; clear n0_ n1_ n2_ n3_; clear hb hbox hg; have hcz18_0 := cz BK139.out 0 (.int .i64 a0_0); have hcz18_1 := cz BK139.out 1 (.int .i64 a0_1); have hcz18_2 := cz BK139.out 2 (.int .i64 a0_2); have hcz18_3 := cz BK139.out 3 (.int .i64 a0_3)) | (go_at_call 56; (with_reducible refine (spec_l01In.calls a0_2 8 15 true _ A15.out).mono ?_); rintro e w' ⟨rfl, ⟨nd, rfl⟩⟩; (try first | exact ⟨rfl, _, World.drewN_drewN _ _ _⟩ | exact ⟨rfl, _, Eq.trans (World.drewN_drewN _ _ _) (congrArg (World.drewN _) (Nat.add_assoc _ _ _))⟩))); try go_wp2_with (first | ((with_reducible refine gate_dst (N := 2) rfl ?_); refine box_event ?hg (N := 2) ?hd (cs := #[.int .i64 a0_0, .int .i64 a0_1, .int .i64 a0_2, .int .i64 a0_3, .int .i64 a0_4, .int .i64 a0_5, .int .i64 a0_6]) (t := 28) ?hr ?_; (case hd => rfl); (case hg => rfl); (case hr => first | (go_simp; done) | (go_simp; rfl)); intro gb139 hg w17 hbox hb; have n0_ := Aside0.mk (below_step by1 hb); have n1_ := Aside0.mk (hbox); have n2_ := Aside0.mk ((by0 : w.heap.size ≤ gb139)); have n3_ := Aside0.mk ((by0 : w.heap.size ≤ gb139)); clear HB; have HB := n0_; have BK139 := n1_; have GW139 := n2_; have GE139 := n3_; clear n0_ n1_ n2_ n3_; clear hb hbox hg; have hcz18_0 := cz BK139.out 0 (.int .i64 a0_0); have hcz18_1 := cz BK139.out 1 (.int .i64 a0_1); have hcz18_2 := cz BK139.out 2 (.int .i64 a0_2); have hcz18_3 := cz BK139.out 3 (.int .i64 a0_3)) | (go_at_call 56; (with_reducible refine (spec_l01In.calls a0_2 8 15 true _ A15.out).mono ?_); rintro e w' ⟨rfl, ⟨nd, rfl⟩⟩; (try first | exact ⟨rfl, _, World.drewN_drewN _ _ _⟩ | exact ⟨rfl, _, Eq.trans (World.drewN_drewN _ _ _) (congrArg (World.drewN _) (Nat.add_assoc _ _ _))⟩))))
    go_ret2
    exact ⟨by first | rfl | (simp [errW_none, errW_some] <;> rfl) | (simp [*, errW_none, errW_some] <;> rfl), by repeat (first | (with_reducible first | exact HB.out | apply below_alloc | apply pw_below_drewN | apply below_drew1 | refine below_set ?_ GE139.out) | exact HB.out)⟩
   ·replace c16 := Bool.eq_false_iff.mpr c16
    subst c16
    have H1 : (some (decide (a0_3 ≥ 8), false)) = some (r1, r2) := by rw [if_neg (show ¬ (false = true) by decide)] at H; exact H
    clear H
    have H := H1
    clear H1
    simp only [Option.some.injEq, Prod.mk.injEq] at H
    obtain ⟨rfl, rfl⟩ := H
    go_enter Try.func99, Try.ntmps99
    go_wp2_with (first | ((with_reducible refine gate_dst (N := 2) rfl ?_); refine box_event ?hg (N := 2) ?hd (cs := #[.int .i64 a0_0, .int .i64 a0_1, .int .i64 a0_2, .int .i64 a0_3, .int .i64 a0_4, .int .i64 a0_5, .int .i64 a0_6]) (t := 28) ?hr ?_; (case hd => rfl); (case hg => rfl); (case hr => first | (go_simp; done) | (go_simp; rfl)); intro gb139 hg w19 hbox hb; have n0_ := Aside0.mk (below_step by1 hb); have n1_ := Aside0.mk (hbox); have n2_ := Aside0.mk ((by0 : w.heap.size ≤ gb139)); have n3_ := Aside0.mk ((by0 : w.heap.size ≤ gb139)); clear HB; have HB := n0_; have BK139 := n1_; have GW139 := n2_; have GE139 := n3_; clear n0_ n1_ n2_ n3_; clear hb hbox hg; have hcz20_0 := cz BK139.out 0 (.int .i64 a0_0); have hcz20_1 := cz BK139.out 1 (.int .i64 a0_1); have hcz20_2 := cz BK139.out 2 (.int .i64 a0_2); have hcz20_3 := cz BK139.out 3 (.int .i64 a0_3)) | (go_at_call 56; (with_reducible refine (spec_l01In.calls a0_2 8 15 false _ A15.out).mono ?_); rintro e w' ⟨rfl, ⟨nd, rfl⟩⟩; (try first | exact ⟨rfl, _, World.drewN_drewN _ _ _⟩ | exact ⟨rfl, _, Eq.trans (World.drewN_drewN _ _ _) (congrArg (World.drewN _) (Nat.add_assoc _ _ _))⟩)))
    repeat (go_quiet (first | ((with_reducible refine gate_dst (N := 2) rfl ?_); refine box_event ?hg (N := 2) ?hd (cs := #[.int .i64 a0_0, .int .i64 a0_1, .int .i64 a0_2, .int .i64 a0_3, .int .i64 a0_4, .int .i64 a0_5, .int .i64 a0_6]) (t := 28) ?hr ?_; (case hd => rfl); (case hg => rfl); (case hr => first | (go_simp; done) | (go_simp; rfl)); intro gb139 hg w19 hbox hb; have n0_ := Aside0.mk (below_step by1 hb); have n1_ := Aside0.mk (hbox); have n2_ := Aside0.mk ((by0 : w.heap.size ≤ gb139)); have n3_ := Aside0.mk ((by0 : w.heap.size ≤ gb139)); clear HB; have HB := n0_; have BK139 := n1_; have GW139 := n2_; have GE139 := n3_; clear n0_ n1_ n2_ n3_; clear hb hbox hg; have hcz20_0 := cz BK139.out 0 (.int .i64 a0_0); have hcz20_1 := cz BK139.out 1 (.int .i64 a0_1); have hcz20_2 := cz BK139.out 2 (.int .i64 a0_2); have hcz20_3 := cz BK139.out 3 (.int .i64 a0_3)) | (go_at_call 56; (with_reducible refine (spec_l01In.calls a0_2 8 15 false _ A15.out).mono ?_); rintro e w' ⟨rfl, ⟨nd, rfl⟩⟩; (try first | exact ⟨rfl, _, World.drewN_drewN _ _ _⟩ | exact ⟨rfl, _, Eq.trans (World.drewN_drewN _ _ _) (congrArg (World.drewN _) (Nat.add_assoc _ _ _))⟩))); try go_wp2_with (first | ((with_reducible refine gate_dst (N := 2) rfl ?_); refine box_event ?hg (N := 2) ?hd (cs := #[.int .i64 a0_0, .int .i64 a0_1, .int .i64 a0_2, .int .i64 a0_3, .int .i64 a0_4, .int .i64 a0_5, .int .i64 a0_6]) (t := 28) ?hr ?_; (case hd => rfl); (case hg => rfl); (case hr => first | (go_simp; done) | (go_simp; rfl)); intro gb139 hg w19 hbox hb; have n0_ := Aside0.mk (below_step by1 hb); have n1_ := Aside0.mk (hbox); have n2_ := Aside0.mk ((by0 : w.heap.size ≤ gb139)); have n3_ := Aside0.mk ((by0 : w.heap.size ≤ gb139)); clear HB; have HB := n0_; have BK139 := n1_; have GW139 := n2_; have GE139 := n3_; clear n0_ n1_ n2_ n3_; clear hb hbox hg; have hcz20_0 := cz BK139.out 0 (.int .i64 a0_0); have hcz20_1 := cz BK139.out 1 (.int .i64 a0_1); have hcz20_2 := cz BK139.out 2 (.int .i64 a0_2); have hcz20_3 := cz BK139.out 3 (.int .i64 a0_3)) | (go_at_call 56; (with_reducible refine (spec_l01In.calls a0_2 8 15 false _ A15.out).mono ?_); rintro e w' ⟨rfl, ⟨nd, rfl⟩⟩; (try first | exact ⟨rfl, _, World.drewN_drewN _ _ _⟩ | exact ⟨rfl, _, Eq.trans (World.drewN_drewN _ _ _) (congrArg (World.drewN _) (Nat.add_assoc _ _ _))⟩))))
    go_ret2
    exact ⟨by first | rfl | (simp [errW_none, errW_some] <;> rfl) | (simp [*, errW_none, errW_some] <;> rfl), by repeat (first | (with_reducible first | exact HB.out | apply below_alloc | apply pw_below_drewN | apply below_drew1 | refine below_set ?_ GE139.out) | exact HB.out)⟩
  ·rw [if_neg c14] at H
   have c14b0 : (a0_0 == 2) = false := beq_eq_false_iff_ne.mpr c14
   have c14b1 : (a0_0 != 2) = true := bne_iff_ne.mpr c14
   simp only [Option.some.injEq, Prod.mk.injEq] at H
   obtain ⟨rfl, rfl⟩ := H
   go_enter Try.func99, Try.ntmps99
   go_wp2_with (first | ((with_reducible refine gate_dst (N := 2) rfl ?_); refine box_event ?hg (N := 2) ?hd (cs := #[.int .i64 a0_0, .int .i64 a0_1, .int .i64 a0_2, .int .i64 a0_3, .int .i64 a0_4, .int .i64 a0_5, .int .i64 a0_6]) (t := 28) ?hr ?_; (case hd => rfl); (case hg => rfl); (case hr => first | (go_simp; done) | (go_simp; rfl)); intro gb139 hg w21 hbox hb; have n0_ := Aside0.mk (below_step by1 hb); have n1_ := Aside0.mk (hbox); have n2_ := Aside0.mk ((by0 : w.heap.size ≤ gb139)); have n3_ := Aside0.mk ((by0 : w.heap.size ≤ gb139)); clear HB; have HB := n0_; have BK139 := n1_; have GW139 := n2_; have GE139 := n3_; clear n0_ n1_ n2_ n3_; clear hb hbox hg; have hcz22_0 := cz BK139.out 0 (.int .i64 a0_0); have hcz22_1 := cz BK139.out 1 (.int .i64 a0_1); have hcz22_2 := cz BK139.out 2 (.int .i64 a0_2); have hcz22_3 := cz BK139.out 3 (.int .i64 a0_3)))
   repeat (go_quiet (first | ((with_reducible refine gate_dst (N := 2) rfl ?_); refine box_event ?hg (N := 2) ?hd (cs := #[.int .i64 a0_0, .int .i64 a0_1, .int .i64 a0_2, .int .i64 a0_3, .int .i64 a0_4, .int .i64 a0_5, .int .i64 a0_6]) (t := 28) ?hr ?_; (case hd => rfl); (case hg => rfl); (case hr => first | (go_simp; done) | (go_simp; rfl)); intro gb139 hg w21 hbox hb; have n0_ := Aside0.mk (below_step by1 hb); have n1_ := Aside0.mk (hbox); have n2_ := Aside0.mk ((by0 : w.heap.size ≤ gb139)); have n3_ := Aside0.mk ((by0 : w.heap.size ≤ gb139)); clear HB; have HB := n0_; have BK139 := n1_; have GW139 := n2_; have GE139 := n3_; clear n0_ n1_ n2_ n3_; clear hb hbox hg; have hcz22_0 := cz BK139.out 0 (.int .i64 a0_0); have hcz22_1 := cz BK139.out 1 (.int .i64 a0_1); have hcz22_2 := cz BK139.out 2 (.int .i64 a0_2); have hcz22_3 := cz BK139.out 3 (.int .i64 a0_3))); try go_wp2_with (first | ((with_reducible refine gate_dst (N := 2) rfl ?_); refine box_event ?hg (N := 2) ?hd (cs := #[.int .i64 a0_0, .int .i64 a0_1, .int .i64 a0_2, .int .i64 a0_3, .int .i64 a0_4, .int .i64 a0_5, .int .i64 a0_6]) (t := 28) ?hr ?_; (case hd => rfl); (case hg => rfl); (case hr => first | (go_simp; done) | (go_simp; rfl)); intro gb139 hg w21 hbox hb; have n0_ := Aside0.mk (below_step by1 hb); have n1_ := Aside0.mk (hbox); have n2_ := Aside0.mk ((by0 : w.heap.size ≤ gb139)); have n3_ := Aside0.mk ((by0 : w.heap.size ≤ gb139)); clear HB; have HB := n0_; have BK139 := n1_; have GW139 := n2_; have GE139 := n3_; clear n0_ n1_ n2_ n3_; clear hb hbox hg; have hcz22_0 := cz BK139.out 0 (.int .i64 a0_0); have hcz22_1 := cz BK139.out 1 (.int .i64 a0_1); have hcz22_2 := cz BK139.out 2 (.int .i64 a0_2); have hcz22_3 := cz BK139.out 3 (.int .i64 a0_3))))
   go_ret2
   exact ⟨by first | rfl | (simp [errW_none, errW_some] <;> rfl) | (simp [*, errW_none, errW_some] <;> rfl), by repeat (first | (with_reducible first | exact HB.out | apply below_alloc | apply pw_below_drewN | apply below_drew1 | refine below_set ?_ GE139.out) | exact HB.out)⟩

/-! ### spec_l05Wide: function 100 -/
def spec_l05Wide.f (a0 : Int) : Option (Bool) := if a0 = 29 then (some true) else (if a0 = 30 then (some true) else (if a0 = 31 then (some true) else (some (a0 == 32))))
set_option maxHeartbeats 8000000 in
set_option maxRecDepth 100000 in
theorem spec_l05Wide.calls (a0 : Int) (r : Bool) (w : World) (h : spec_l05Wide.f a0 = some r) :
  Calls Try.prog 100 #[.int .i64 a0] w fun e w' => e = .returned (.bool r) ∧ Drawn0 w w' := by
 have H : (if a0 = 29 then (some true) else (if a0 = 30 then (some true) else (if a0 = 31 then (some true) else (some (a0 == 32))))) = some r := h
 clear h
 by_cases c2 : a0 = 29
 ·rw [if_pos c2] at H
  have c2b0 : (a0 == 29) = true := beq_iff_eq.mpr c2
  have c2b1 : (a0 != 29) = false := bne_eq_false_iff_eq.mpr c2
  clear c2
  obtain rfl := Option.some.inj H
  go_enter Try.func100, Try.ntmps100
  go_wp2
  go_ret
  exact ⟨by first | rfl | (simp; done) | (simp [*]; done), by repeat (first | exact Drawn0.refl _ | apply Drawn0.step)⟩
 ·rw [if_neg c2] at H
  have c2b0 : (a0 == 29) = false := beq_eq_false_iff_ne.mpr c2
  have c2b1 : (a0 != 29) = true := bne_iff_ne.mpr c2
  by_cases c3 : a0 = 30
  ·rw [if_pos c3] at H
   have c3b0 : (a0 == 30) = true := beq_iff_eq.mpr c3
   have c3b1 : (a0 != 30) = false := bne_eq_false_iff_eq.mpr c3
   clear c3
   obtain rfl := Option.some.inj H
   go_enter Try.func100, Try.ntmps100
   go_wp2
   go_ret
   exact ⟨by first | rfl | (simp; done) | (simp [*]; done), by repeat (first | exact Drawn0.refl _ | apply Drawn0.step)⟩
  ·rw [if_neg c3] at H
   have c3b0 : (a0 == 30) = false := beq_eq_false_iff_ne.mpr c3
   have c3b1 : (a0 != 30) = true := bne_iff_ne.mpr c3
   by_cases c4 : a0 = 31
   ·rw [if_pos c4] at H
    have c4b0 : (a0 == 31) = true := beq_iff_eq.mpr c4
    have c4b1 : (a0 != 31) = false := bne_eq_false_iff_eq.mpr c4
    clear c4
    obtain rfl := Option.some.inj H
    go_enter Try.func100, Try.ntmps100
    go_wp2
    go_ret
    exact ⟨by first | rfl | (simp; done) | (simp [*]; done), by repeat (first | exact Drawn0.refl _ | apply Drawn0.step)⟩
   ·rw [if_neg c4] at H
    have c4b0 : (a0 == 31) = false := beq_eq_false_iff_ne.mpr c4
    have c4b1 : (a0 != 31) = true := bne_iff_ne.mpr c4
    obtain rfl := Option.some.inj H
    go_enter Try.func100, Try.ntmps100
    go_wp2
    go_ret
    exact ⟨by first | rfl | (simp; done) | (simp [*]; done), by repeat (first | exact Drawn0.refl _ | apply Drawn0.step)⟩

end Go.Proofs.Ytonogadabgilfaa.PFnExactMaskOf

/- Laid by a program of this session (patch_print.py) out of the translation: plain functions and what the calls do. No condition. -/
import Derived.Test.YtonogadabgilfaaPFnExactBaseAddOfx0
import Derived.Test.YtonogadabgilfaaPFnExactBaseAddOfx1
import Derived.Test.YtonogadabgilfaaPFnExactBaseAddOfx2
namespace Go.Proofs.Ytonogadabgilfaa.PFnExactBaseAddOf
open Go.RowKit Go.Proofs.YtonogadabgilfaaW.PrintWords Go.Proofs.YtonogadabgilfaaW.PrintLast Go.Proofs.YtonogadabgilfaaW.PrintMore
attribute [local go_sem] max2_int min2_int max_two min_two max_three min_three max_four min_four   -- for this text's walks alone
set_option linter.unusedVariables false
set_option linter.unusedSimpArgs false

attribute [local go_sem high] eqA28
/-! ### spec_l05From: function 154 -/
def spec_l05From.f (a0_0 : Int) (a0_1 : Int) (a0_2 : Int) (a0_3 : Int) (a0_4 : Int) (a0_5 : Int) (a0_6 : Int) (a0_7 : Int) (a0_8 : Int) (a0_9 : Int) (a0_10 : Int) (a0_11 : Int) (a0_12 : Int) (a0_13 : Int) (a0_14 : Int) (a0_15 : Int) (a0_16 : Int) (a0_17 : Int) (a0_18 : Int) : Option (Int) := if a0_3 > 0 then (some a0_3) else (some a0_1)
theorem spec_l05From.e0 {p : Prop} (h : p := by
 obtain rfl := Option.some.inj H
 go_enter Try.func154, Try.ntmps154
 go_wp2_with (first | ((with_reducible refine gate_dst (N := 1) rfl ?_); refine bx30 (w := w) (N := 1) rfl rfl rfl rfl by0 ?_; intro gb_y0 w_y1 n_y2 BK_y3 GW_y4 GE_y5; clear HB; have HB := n_y2; clear n_y2; have hcz_y6 := cz BK_y3.out 1 (.int .i64 a0_1); have hcz_y7 := cz BK_y3.out 3 (.int .i64 a0_3)))
 go_ret
 exact ⟨by first | rfl | (simp [errW_none, errW_some] <;> rfl) | (simp [*, errW_none, errW_some] <;> rfl), by repeat (first | (with_reducible first | exact HB.out | apply below_alloc | apply pw_below_drewN | apply below_drew1 | refine below_set ?_ GE_y5.out) | exact HB.out)⟩) : p := h
set_option maxHeartbeats 8000000 in
set_option maxRecDepth 100000 in
theorem spec_l05From.calls (a0_0 : Int) (a0_1 : Int) (a0_2 : Int) (a0_3 : Int) (a0_4 : Int) (a0_5 : Int) (a0_6 : Int) (a0_7 : Int) (a0_8 : Int) (a0_9 : Int) (a0_10 : Int) (a0_11 : Int) (a0_12 : Int) (a0_13 : Int) (a0_14 : Int) (a0_15 : Int) (a0_16 : Int) (a0_17 : Int) (a0_18 : Int) (r : Int) (w : World) (h : spec_l05From.f a0_0 a0_1 a0_2 a0_3 a0_4 a0_5 a0_6 a0_7 a0_8 a0_9 a0_10 a0_11 a0_12 a0_13 a0_14 a0_15 a0_16 a0_17 a0_18 = some r) :
  Calls Try.prog 154 #[.agg #[.int .i64 a0_0, .int .i64 a0_1, .int .i64 a0_2, .int .i64 a0_3, .int .i64 a0_4, .int .i64 a0_5, .int .i64 a0_6, .int .i64 a0_7, .int .i64 a0_8, .int .i64 a0_9, .int .i64 a0_10, .int .i64 a0_11, .int .i64 a0_12, .int .i64 a0_13, .int .i64 a0_14, .int .i64 a0_15, .int .i64 a0_16, .int .i64 a0_17, .int .i64 a0_18]] w fun e w' => e = .returned (.int .i64 r) ∧ Below w.heap.size w w' := by
 have hu30 := Try.underlying30
 have HB := Aside0.mk (Below.refl w.heap.size w)
 have H : (if a0_3 > 0 then (some a0_3) else (some a0_1)) = some r := h
 clear h
 by_cases c2 : a0_3 > 0
 ·rw [if_pos c2] at H
  have c2b0 : decide (0 < a0_3) = true := decide_eq_true c2
  clear c2
  exact spec_l05From.e0
 ·rw [if_neg c2] at H
  have c2b0 : decide (0 < a0_3) = false := decide_eq_false c2
  clear c2
  exact spec_l05From.e0

/-! ### spec_l05Sizes: function 97 -/
def spec_l05Sizes.f (a0_0 : Int) (a0_1 : Int) (a0_2 : Int) (a0_3 : Int) (a0_4 : Int) (a0_5 : Int) (a0_6 : Int) (a0_7 : Int) (a0_8 : Int) (a0_9 : Int) (a0_10 : Int) (a0_11 : Int) (a0_12 : Int) (a0_13 : Int) (a0_14 : Int) (a0_15 : Int) (a0_16 : Int) (a0_17 : Int) (a0_18 : Int) : Option (Int × Int) := (spec_l05From.f a0_0 a0_1 a0_2 a0_3 a0_4 a0_5 a0_6 a0_7 a0_8 a0_9 a0_10 a0_11 a0_12 a0_13 a0_14 a0_15 a0_16 a0_17 a0_18).bind fun t127 => ((spec_l01In.f a0_0 20 24).bind fun t128 => (if t128 = true then (some (a0_1, 8)) else (some (a0_1, t127))))
set_option maxHeartbeats 8000000 in
set_option maxRecDepth 100000 in
theorem spec_l05Sizes.calls (a0_0 : Int) (a0_1 : Int) (a0_2 : Int) (a0_3 : Int) (a0_4 : Int) (a0_5 : Int) (a0_6 : Int) (a0_7 : Int) (a0_8 : Int) (a0_9 : Int) (a0_10 : Int) (a0_11 : Int) (a0_12 : Int) (a0_13 : Int) (a0_14 : Int) (a0_15 : Int) (a0_16 : Int) (a0_17 : Int) (a0_18 : Int) (r1 : Int) (r2 : Int) (w : World) (h : spec_l05Sizes.f a0_0 a0_1 a0_2 a0_3 a0_4 a0_5 a0_6 a0_7 a0_8 a0_9 a0_10 a0_11 a0_12 a0_13 a0_14 a0_15 a0_16 a0_17 a0_18 = some (r1, r2)) :
  Calls Try.prog 97 #[.agg #[.int .i64 a0_0, .int .i64 a0_1, .int .i64 a0_2, .int .i64 a0_3, .int .i64 a0_4, .int .i64 a0_5, .int .i64 a0_6, .int .i64 a0_7, .int .i64 a0_8, .int .i64 a0_9, .int .i64 a0_10, .int .i64 a0_11, .int .i64 a0_12, .int .i64 a0_13, .int .i64 a0_14, .int .i64 a0_15, .int .i64 a0_16, .int .i64 a0_17, .int .i64 a0_18]] w fun e w' => e = .returned (.tuple #[.int .i64 r1, .int .i64 r2]) ∧ Below w.heap.size w w' := by
 have hu30 := Try.underlying30
 have HB := Aside0.mk (Below.refl w.heap.size w)
 have H : ((spec_l05From.f a0_0 a0_1 a0_2 a0_3 a0_4 a0_5 a0_6 a0_7 a0_8 a0_9 a0_10 a0_11 a0_12 a0_13 a0_14 a0_15 a0_16 a0_17 a0_18).bind fun t127 => ((spec_l01In.f a0_0 20 24).bind fun t128 => (if t128 = true then (some (a0_1, 8)) else (some (a0_1, t127))))) = some (r1, r2) := h
 clear h
 replace H := Option.bind_eq_some_iff.mp H
 obtain ⟨t127, A20, H⟩ := H
 replace H : ((spec_l01In.f a0_0 20 24).bind fun t128 => (if t128 = true then (some (a0_1, 8)) else (some (a0_1, t127)))) = some (r1, r2) := H
 have A2 := Aside0.mk A20
 clear A20
 replace H := Option.bind_eq_some_iff.mp H
 obtain ⟨t128, A30, H⟩ := H
 replace H : (if t128 = true then (some (a0_1, 8)) else (some (a0_1, t127))) = some (r1, r2) := H
 have A3 := Aside0.mk A30
 clear A30
 by_cases c4 : t128 = true
 ·subst c4
  have H1 : (some (a0_1, 8)) = some (r1, r2) := by rw [if_pos rfl] at H; exact H
  clear H
  have H := H1
  clear H1
  simp only [Option.some.injEq, Prod.mk.injEq] at H
  obtain ⟨rfl, rfl⟩ := H
  go_enter Try.func97, Try.ntmps97
  go_wp2_with (first | ((with_reducible refine gate_dst (N := 8) rfl ?_); (try refine gate_guard (by rfl) ?_); refine ldw 30 (.tmp 1) rfl rfl rfl by86 Try.underlying30 rfl by4 ?_) | ((with_reducible refine gate_dst (N := 1) rfl ?_); refine bx30 (w := w) (N := 1) rfl rfl rfl rfl by0 ?_; intro gb126 w5 n0_ BK126 GW126 GE126; clear HB; have HB := n0_; clear n0_; obtain ⟨hcz6_0, hcz6_1, hcz6_2, hcz6_3, hcz6_4, hcz6_5, hcz6_6, hcz6_7, hcz6_8, hcz6_9, hcz6_10, hcz6_11, hcz6_12, hcz6_13, hcz6_14, hcz6_15, hcz6_16, hcz6_17, hcz6_18⟩ := cs19 BK126.out) | ((with_reducible refine gate_callee (f := 154) rfl ?_); refine goesL_ (some 9) rfl rfl Try.func154 by4 rfl _ rfl by1 (Calls.mono (spec_l05From.calls _ _ _ _ _ _ _ _ _ _ _ _ _ _ _ _ _ _ _ _ _ A2.out) ?_); rintro e w7 ⟨rfl, hb⟩; refine ⟨_, rfl, ?_⟩; have n0_ := Aside0.mk (blk_below by86 hb); have n1_ := Aside0.mk (below_step by95 hb); clear BK126; clear HB; have BK126 := n0_; have HB := n1_; clear n0_ n1_; (try clear hb); (try clear hb2); (try clear hk); (try clear hi); obtain ⟨hcz8_0, hcz8_1, hcz8_2, hcz8_3, hcz8_4, hcz8_5, hcz8_6, hcz8_7, hcz8_8, hcz8_9, hcz8_10, hcz8_11, hcz8_12, hcz8_13, hcz8_14, hcz8_15, hcz8_16, hcz8_17, hcz8_18⟩ := cs19 BK126.out) | ((with_reducible refine gate_callee (f := 56) rfl ?_); refine goesL_ (some 12) rfl rfl Try.func56 by4 rfl #[.int .i64 a0_0, .int .i64 20, .int .i64 24] rfl by1 ?_; (with_reducible refine (spec_l01In.calls a0_0 20 24 true _ A3.out).mono ?_); rintro e w' ⟨rfl, ⟨nd, rfl⟩⟩; refine ⟨_, rfl, ?_⟩))
  go_ret2
  exact ⟨by first | rfl | (simp [errW_none, errW_some] <;> rfl) | (simp [*, errW_none, errW_some] <;> rfl), by repeat (first | (with_reducible first | exact HB.out | apply below_alloc | apply pw_below_drewN | apply below_drew1 | refine below_set ?_ GE126.out) | exact HB.out)⟩
 ·replace c4 := Bool.eq_false_iff.mpr c4
  subst c4
  have H1 : (some (a0_1, t127)) = some (r1, r2) := by rw [if_neg (show ¬ (false = true) by decide)] at H; exact H
  clear H
  have H := H1
  clear H1
  simp only [Option.some.injEq, Prod.mk.injEq] at H
  obtain ⟨rfl, rfl⟩ := H
  go_enter Try.func97, Try.ntmps97
  go_wp2_with (first | ((with_reducible refine gate_dst (N := 8) rfl ?_); (try refine gate_guard (by rfl) ?_); refine ldw 30 (.tmp 1) rfl rfl rfl by86 Try.underlying30 rfl by4 ?_) | ((with_reducible refine gate_dst (N := 1) rfl ?_); refine bx30 (w := w) (N := 1) rfl rfl rfl rfl by0 ?_; intro gb126 w9 n0_ BK126 GW126 GE126; clear HB; have HB := n0_; clear n0_; obtain ⟨hcz10_0, hcz10_1, hcz10_2, hcz10_3, hcz10_4, hcz10_5, hcz10_6, hcz10_7, hcz10_8, hcz10_9, hcz10_10, hcz10_11, hcz10_12, hcz10_13, hcz10_14, hcz10_15, hcz10_16, hcz10_17, hcz10_18⟩ := cs19 BK126.out) | ((with_reducible refine gate_callee (f := 154) rfl ?_); refine goesL_ (some 9) rfl rfl Try.func154 by4 rfl _ rfl by1 (Calls.mono (spec_l05From.calls _ _ _ _ _ _ _ _ _ _ _ _ _ _ _ _ _ _ _ _ _ A2.out) ?_); rintro e w11 ⟨rfl, hb⟩; refine ⟨_, rfl, ?_⟩; have n0_ := Aside0.mk (blk_below by86 hb); have n1_ := Aside0.mk (below_step by95 hb); clear BK126; clear HB; have BK126 := n0_; have HB := n1_; clear n0_ n1_; (try clear hb); (try clear hb2); (try clear hk); (try clear hi); obtain ⟨hcz12_0, hcz12_1, hcz12_2, hcz12_3, hcz12_4, hcz12_5, hcz12_6, hcz12_7, hcz12_8, hcz12_9, hcz12_10, hcz12_11, hcz12_12, hcz12_13, hcz12_14, hcz12_15, hcz12_16, hcz12_17, hcz12_18⟩ := cs19 BK126.out) | ((with_reducible refine gate_callee (f := 56) rfl ?_); refine goesL_ (some 12) rfl rfl Try.func56 by4 rfl #[.int .i64 a0_0, .int .i64 20, .int .i64 24] rfl by1 ?_; (with_reducible refine (spec_l01In.calls a0_0 20 24 false _ A3.out).mono ?_); rintro e w' ⟨rfl, ⟨nd, rfl⟩⟩; refine ⟨_, rfl, ?_⟩))
  go_ret2
  exact ⟨by first | rfl | (simp [errW_none, errW_some] <;> rfl) | (simp [*, errW_none, errW_some] <;> rfl), by repeat (first | (with_reducible first | exact HB.out | apply below_alloc | apply pw_below_drewN | apply below_drew1 | refine below_set ?_ GE126.out) | exact HB.out)⟩

/-! ### spec_l04Operand: function 98 -/
def spec_l04Operand.f (a0_0 : Int) (a0_1 : Int) (a0_2 : Int) (a0_3 : Int) (a0_4 : Int) (a0_5 : Int) (a0_6 : Int) (a1 : Int) : Option (Bool) := if a0_0 = 1 then (if a1 = 1 then ((spec_l01In.f a0_1 0 19).bind fun t130 => (if t130 = true then (some (a0_0 == 1 && (a0_2 == 0 && (a0_3 == 0 && (a0_4 == 0 && (a0_5 == 0 && (a0_6 == 0))))))) else (some false))) else ((spec_l01In.f a0_1 0 15).bind fun t131 => (if t131 = true then (some (a0_0 == 1 && (a0_2 == 0 && (a0_3 == 0 && (a0_4 == 0 && (a0_5 == 0 && (a0_6 == 0))))))) else (some false)))) else (if a0_0 = 2 then (if a0_1 = 0 then (if a0_6 = 0 then ((spec_l01In.f a0_2 (-1) 16).bind fun t132 => (if t132 = true then ((spec_l01In.f a0_3 (-1) 15).bind fun t133 => (if t133 = true then (if a0_3 = 4 then (some false) else ((spec_l01Size.f a0_4).bind fun t134 => (if t134 = true then ((spec_l01In.f a0_5 (-2147483648) 2147483647).bind fun t135 => (if t135 = true then (if a0_3 ≥ 0 then (if a0_2 = 16 then (some (decide (a0_3 < 0))) else (some true)) else (if a0_4 = 1 then (if a0_2 = 16 then (some (decide (a0_3 < 0))) else (some true)) else (some false))) else (some false))) else (some false)))) else (some false))) else (some false))) else (some false)) else (some false)) else (if a0_0 = 3 then (some (a0_0 == 3 && (a0_1 == 0 && (a0_2 == 0 && (a0_3 == 0 && (a0_4 == 0 && (a0_5 == 0))))))) else (some (a0_0 == 0 && (a0_1 == 0 && (a0_2 == 0 && (a0_3 == 0 && (a0_4 == 0 && (a0_5 == 0 && (a0_6 == 0))))))))))
theorem spec_l04Operand.e0 {p : Prop} (h : p := by
  go_ret
  exact ⟨by first | rfl | (simp [errW_none, errW_some] <;> rfl) | (simp [*, errW_none, errW_some] <;> rfl), by repeat (first | (with_reducible first | exact HB.out | apply below_alloc | apply pw_below_drewN | apply below_drew1 | refine below_set ?_ GE129.out) | exact HB.out)⟩) : p := h
set_option maxHeartbeats 8000000 in
set_option maxRecDepth 100000 in
theorem spec_l04Operand.calls (a0_0 : Int) (a0_1 : Int) (a0_2 : Int) (a0_3 : Int) (a0_4 : Int) (a0_5 : Int) (a0_6 : Int) (a1 : Int) (r : Bool) (w : World) (h : spec_l04Operand.f a0_0 a0_1 a0_2 a0_3 a0_4 a0_5 a0_6 a1 = some r) :
    Calls Try.prog 98 #[.agg #[.int .i64 a0_0, .int .i64 a0_1, .int .i64 a0_2, .int .i64 a0_3, .int .i64 a0_4, .int .i64 a0_5, .int .i64 a0_6], .int .i64 a1] w fun e w' => e = .returned (.bool r) ∧ Below w.heap.size w w' := by
  have hu28 := Try.underlying28
  have HB := Aside0.mk (Below.refl w.heap.size w)
  have H : (if a0_0 = 1 then (if a1 = 1 then ((spec_l01In.f a0_1 0 19).bind fun t130 => (if t130 = true then (some (a0_0 == 1 && (a0_2 == 0 && (a0_3 == 0 && (a0_4 == 0 && (a0_5 == 0 && (a0_6 == 0))))))) else (some false))) else ((spec_l01In.f a0_1 0 15).bind fun t131 => (if t131 = true then (some (a0_0 == 1 && (a0_2 == 0 && (a0_3 == 0 && (a0_4 == 0 && (a0_5 == 0 && (a0_6 == 0))))))) else (some false)))) else (if a0_0 = 2 then (if a0_1 = 0 then (if a0_6 = 0 then ((spec_l01In.f a0_2 (-1) 16).bind fun t132 => (if t132 = true then ((spec_l01In.f a0_3 (-1) 15).bind fun t133 => (if t133 = true then (if a0_3 = 4 then (some false) else ((spec_l01Size.f a0_4).bind fun t134 => (if t134 = true then ((spec_l01In.f a0_5 (-2147483648) 2147483647).bind fun t135 => (if t135 = true then (if a0_3 ≥ 0 then (if a0_2 = 16 then (some (decide (a0_3 < 0))) else (some true)) else (if a0_4 = 1 then (if a0_2 = 16 then (some (decide (a0_3 < 0))) else (some true)) else (some false))) else (some false))) else (some false)))) else (some false))) else (some false))) else (some false)) else (some false)) else (if a0_0 = 3 then (some (a0_0 == 3 && (a0_1 == 0 && (a0_2 == 0 && (a0_3 == 0 && (a0_4 == 0 && (a0_5 == 0))))))) else (some (a0_0 == 0 && (a0_1 == 0 && (a0_2 == 0 && (a0_3 == 0 && (a0_4 == 0 && (a0_5 == 0 && (a0_6 == 0))))))))))) = some r := h
  clear h
  by_cases c3 : a0_0 = 1
  · rw [if_pos c3] at H
    have c3b0 : (a0_0 == 1) = true := beq_iff_eq.mpr c3
    have c3b1 : (a0_0 != 1) = false := bne_eq_false_iff_eq.mpr c3
    clear c3
    by_cases c4 : a1 = 1
    · rw [if_pos c4] at H
      have c4b0 : (a1 == 1) = true := beq_iff_eq.mpr c4
      have c4b1 : (a1 != 1) = false := bne_eq_false_iff_eq.mpr c4
      clear c4
      replace H := Option.bind_eq_some_iff.mp H
      obtain ⟨t130, A50, H⟩ := H
      replace H : (if t130 = true then (some (a0_0 == 1 && (a0_2 == 0 && (a0_3 == 0 && (a0_4 == 0 && (a0_5 == 0 && (a0_6 == 0))))))) else (some false)) = some r := H
      have A5 := Aside0.mk A50
      clear A50
      by_cases c6 : t130 = true
      · subst c6
        have H1 : (some (a0_0 == 1 && (a0_2 == 0 && (a0_3 == 0 && (a0_4 == 0 && (a0_5 == 0 && (a0_6 == 0))))))) = some r := by rw [if_pos rfl] at H; exact H
        clear H
        have H := H1
        clear H1
        obtain rfl := Option.some.inj H
        go_enter Try.func98, Try.ntmps98
        go_wp2_with (first | ((with_reducible refine gate_dst (N := 2) rfl ?_); refine bx28 (w := w) (N := 2) rfl rfl rfl rfl by0 ?_; intro gb129 w7 n0_ BK129 GW129 GE129; clear HB; have HB := n0_; clear n0_; obtain ⟨hcz8_0, hcz8_1, hcz8_2, hcz8_3, hcz8_4, hcz8_5, hcz8_6⟩ := cs7 BK129.out) | ((with_reducible refine gate_callee (f := 56) rfl ?_); refine goesL_ (some 15) rfl rfl Try.func56 by4 rfl #[.int .i64 a0_1, .int .i64 0, .int .i64 19] rfl by1 ?_; (with_reducible refine (spec_l01In.calls a0_1 0 19 true _ A5.out).mono ?_); rintro e w' ⟨rfl, ⟨nd, rfl⟩⟩; refine ⟨_, rfl, ?_⟩))
        all_goals
         exact spec_l04Operand.e0
      · replace c6 := Bool.eq_false_iff.mpr c6
        subst c6
        have H1 : (some false) = some r := by rw [if_neg (show ¬ (false = true) by decide)] at H; exact H
        clear H
        have H := H1
        clear H1
        obtain rfl := Option.some.inj H
        go_enter Try.func98, Try.ntmps98
        go_wp2_with (first | ((with_reducible refine gate_dst (N := 2) rfl ?_); refine bx28 (w := w) (N := 2) rfl rfl rfl rfl by0 ?_; intro gb129 w9 n0_ BK129 GW129 GE129; clear HB; have HB := n0_; clear n0_; obtain ⟨hcz10_0, hcz10_1, hcz10_2, hcz10_3, hcz10_4, hcz10_5, hcz10_6⟩ := cs7 BK129.out) | ((with_reducible refine gate_callee (f := 56) rfl ?_); refine goesL_ (some 15) rfl rfl Try.func56 by4 rfl #[.int .i64 a0_1, .int .i64 0, .int .i64 19] rfl by1 ?_; (with_reducible refine (spec_l01In.calls a0_1 0 19 false _ A5.out).mono ?_); rintro e w' ⟨rfl, ⟨nd, rfl⟩⟩; refine ⟨_, rfl, ?_⟩))
        all_goals
         exact spec_l04Operand.e0
    · rw [if_neg c4] at H
      have c4b0 : (a1 == 1) = false := beq_eq_false_iff_ne.mpr c4
      have c4b1 : (a1 != 1) = true := bne_iff_ne.mpr c4
      replace H := Option.bind_eq_some_iff.mp H
      obtain ⟨t131, A110, H⟩ := H
      replace H : (if t131 = true then (some (a0_0 == 1 && (a0_2 == 0 && (a0_3 == 0 && (a0_4 == 0 && (a0_5 == 0 && (a0_6 == 0))))))) else (some false)) = some r := H
      have A11 := Aside0.mk A110
      clear A110
      by_cases c12 : t131 = true
      · subst c12
        have H1 : (some (a0_0 == 1 && (a0_2 == 0 && (a0_3 == 0 && (a0_4 == 0 && (a0_5 == 0 && (a0_6 == 0))))))) = some r := by rw [if_pos rfl] at H; exact H
        clear H
        have H := H1
        clear H1
        obtain rfl := Option.some.inj H
        go_enter Try.func98, Try.ntmps98
        go_wp2_with (first | ((with_reducible refine gate_dst (N := 2) rfl ?_); refine bx28 (w := w) (N := 2) rfl rfl rfl rfl by0 ?_; intro gb129 w13 n0_ BK129 GW129 GE129; clear HB; have HB := n0_; clear n0_; obtain ⟨hcz14_0, hcz14_1, hcz14_2, hcz14_3, hcz14_4, hcz14_5, hcz14_6⟩ := cs7 BK129.out) | ((with_reducible refine gate_callee (f := 56) rfl ?_); refine goesL_ (some 15) rfl rfl Try.func56 by4 rfl #[.int .i64 a0_1, .int .i64 0, .int .i64 15] rfl by1 ?_; (with_reducible refine (spec_l01In.calls a0_1 0 15 true _ A11.out).mono ?_); rintro e w' ⟨rfl, ⟨nd, rfl⟩⟩; refine ⟨_, rfl, ?_⟩))
        all_goals
         exact spec_l04Operand.e0
      · replace c12 := Bool.eq_false_iff.mpr c12
        subst c12
        have H1 : (some false) = some r := by rw [if_neg (show ¬ (false = true) by decide)] at H; exact H
        clear H
        have H := H1
        clear H1
        obtain rfl := Option.some.inj H
        go_enter Try.func98, Try.ntmps98
        go_wp2_with (first | ((with_reducible refine gate_dst (N := 2) rfl ?_); refine bx28 (w := w) (N := 2) rfl rfl rfl rfl by0 ?_; intro gb129 w15 n0_ BK129 GW129 GE129; clear HB; have HB := n0_; clear n0_; obtain ⟨hcz16_0, hcz16_1, hcz16_2, hcz16_3, hcz16_4, hcz16_5, hcz16_6⟩ := cs7 BK129.out) | ((with_reducible refine gate_callee (f := 56) rfl ?_); refine goesL_ (some 15) rfl rfl Try.func56 by4 rfl #[.int .i64 a0_1, .int .i64 0, .int .i64 15] rfl by1 ?_; (with_reducible refine (spec_l01In.calls a0_1 0 15 false _ A11.out).mono ?_); rintro e w' ⟨rfl, ⟨nd, rfl⟩⟩; refine ⟨_, rfl, ?_⟩))
        all_goals
         exact spec_l04Operand.e0
  · rw [if_neg c3] at H
    have c3b0 : (a0_0 == 1) = false := beq_eq_false_iff_ne.mpr c3
    have c3b1 : (a0_0 != 1) = true := bne_iff_ne.mpr c3
    by_cases c17 : a0_0 = 2
    · rw [if_pos c17] at H
      have c17b0 : (a0_0 == 2) = true := beq_iff_eq.mpr c17
      have c17b1 : (a0_0 != 2) = false := bne_eq_false_iff_eq.mpr c17
      clear c17
      by_cases c18 : a0_1 = 0
      · rw [if_pos c18] at H
        have c18b0 : (a0_1 == 0) = true := beq_iff_eq.mpr c18
        have c18b1 : (a0_1 != 0) = false := bne_eq_false_iff_eq.mpr c18
        clear c18
        by_cases c19 : a0_6 = 0
        · rw [if_pos c19] at H
          have c19b0 : (a0_6 == 0) = true := beq_iff_eq.mpr c19
          have c19b1 : (a0_6 != 0) = false := bne_eq_false_iff_eq.mpr c19
          clear c19
          replace H := Option.bind_eq_some_iff.mp H
          obtain ⟨t132, A200, H⟩ := H
          replace H : (if t132 = true then ((spec_l01In.f a0_3 (-1) 15).bind fun t133 => (if t133 = true then (if a0_3 = 4 then (some false) else ((spec_l01Size.f a0_4).bind fun t134 => (if t134 = true then ((spec_l01In.f a0_5 (-2147483648) 2147483647).bind fun t135 => (if t135 = true then (if a0_3 ≥ 0 then (if a0_2 = 16 then (some (decide (a0_3 < 0))) else (some true)) else (if a0_4 = 1 then (if a0_2 = 16 then (some (decide (a0_3 < 0))) else (some true)) else (some false))) else (some false))) else (some false)))) else (some false))) else (some false)) = some r := H
          have A20 := Aside0.mk A200
          clear A200
          by_cases c21 : t132 = true
          · subst c21
            have H1 : ((spec_l01In.f a0_3 (-1) 15).bind fun t133 => (if t133 = true then (if a0_3 = 4 then (some false) else ((spec_l01Size.f a0_4).bind fun t134 => (if t134 = true then ((spec_l01In.f a0_5 (-2147483648) 2147483647).bind fun t135 => (if t135 = true then (if a0_3 ≥ 0 then (if a0_2 = 16 then (some (decide (a0_3 < 0))) else (some true)) else (if a0_4 = 1 then (if a0_2 = 16 then (some (decide (a0_3 < 0))) else (some true)) else (some false))) else (some false))) else (some false)))) else (some false))) = some r := by rw [if_pos rfl] at H; exact H
            clear H
            have H := H1
            clear H1
            replace H := Option.bind_eq_some_iff.mp H
            obtain ⟨t133, A220, H⟩ := H
            replace H : (if t133 = true then (if a0_3 = 4 then (some false) else ((spec_l01Size.f a0_4).bind fun t134 => (if t134 = true then ((spec_l01In.f a0_5 (-2147483648) 2147483647).bind fun t135 => (if t135 = true then (if a0_3 ≥ 0 then (if a0_2 = 16 then (some (decide (a0_3 < 0))) else (some true)) else (if a0_4 = 1 then (if a0_2 = 16 then (some (decide (a0_3 < 0))) else (some true)) else (some false))) else (some false))) else (some false)))) else (some false)) = some r := H
            have A22 := Aside0.mk A220
            clear A220
            by_cases c23 : t133 = true
            · subst c23
              have H1 : (if a0_3 = 4 then (some false) else ((spec_l01Size.f a0_4).bind fun t134 => (if t134 = true then ((spec_l01In.f a0_5 (-2147483648) 2147483647).bind fun t135 => (if t135 = true then (if a0_3 ≥ 0 then (if a0_2 = 16 then (some (decide (a0_3 < 0))) else (some true)) else (if a0_4 = 1 then (if a0_2 = 16 then (some (decide (a0_3 < 0))) else (some true)) else (some false))) else (some false))) else (some false)))) = some r := by rw [if_pos rfl] at H; exact H
              clear H
              have H := H1
              clear H1
              by_cases c24 : a0_3 = 4
              · rw [if_pos c24] at H
                have c24b0 : (a0_3 == 4) = true := beq_iff_eq.mpr c24
                have c24b1 : (a0_3 != 4) = false := bne_eq_false_iff_eq.mpr c24
                clear c24
                obtain rfl := Option.some.inj H
                go_enter Try.func98, Try.ntmps98
                go_wp2_with (first | ((with_reducible refine gate_dst (N := 2) rfl ?_); refine bx28 (w := w) (N := 2) rfl rfl rfl rfl by0 ?_; intro gb129 w25 n0_ BK129 GW129 GE129; clear HB; have HB := n0_; clear n0_; obtain ⟨hcz26_0, hcz26_1, hcz26_2, hcz26_3, hcz26_4, hcz26_5, hcz26_6⟩ := cs7 BK129.out) | (go_at_call 56; (with_reducible refine (spec_l01In.calls a0_2 (-1) 16 true _ A20.out).mono ?_); rintro e w' ⟨rfl, ⟨nd, rfl⟩⟩) | (go_at_call 56; (with_reducible refine (spec_l01In.calls a0_3 (-1) 15 true _ A22.out).mono ?_); rintro e w' ⟨rfl, ⟨nd, rfl⟩⟩))
                all_goals
                 exact spec_l04Operand.e0
              · rw [if_neg c24] at H
                have c24b0 : (a0_3 == 4) = false := beq_eq_false_iff_ne.mpr c24
                have c24b1 : (a0_3 != 4) = true := bne_iff_ne.mpr c24
                replace H := Option.bind_eq_some_iff.mp H
                obtain ⟨t134, A270, H⟩ := H
                replace H : (if t134 = true then ((spec_l01In.f a0_5 (-2147483648) 2147483647).bind fun t135 => (if t135 = true then (if a0_3 ≥ 0 then (if a0_2 = 16 then (some (decide (a0_3 < 0))) else (some true)) else (if a0_4 = 1 then (if a0_2 = 16 then (some (decide (a0_3 < 0))) else (some true)) else (some false))) else (some false))) else (some false)) = some r := H
                have A27 := Aside0.mk A270
                clear A270
                by_cases c28 : t134 = true
                · subst c28
                  have H1 : ((spec_l01In.f a0_5 (-2147483648) 2147483647).bind fun t135 => (if t135 = true then (if a0_3 ≥ 0 then (if a0_2 = 16 then (some (decide (a0_3 < 0))) else (some true)) else (if a0_4 = 1 then (if a0_2 = 16 then (some (decide (a0_3 < 0))) else (some true)) else (some false))) else (some false))) = some r := by rw [if_pos rfl] at H; exact H
                  clear H
                  have H := H1
                  clear H1
                  replace H := Option.bind_eq_some_iff.mp H
                  obtain ⟨t135, A290, H⟩ := H
                  replace H : (if t135 = true then (if a0_3 ≥ 0 then (if a0_2 = 16 then (some (decide (a0_3 < 0))) else (some true)) else (if a0_4 = 1 then (if a0_2 = 16 then (some (decide (a0_3 < 0))) else (some true)) else (some false))) else (some false)) = some r := H
                  have A29 := Aside0.mk A290
                  clear A290
                  by_cases c30 : t135 = true
                  · subst c30
                    have H1 : (if a0_3 ≥ 0 then (if a0_2 = 16 then (some (decide (a0_3 < 0))) else (some true)) else (if a0_4 = 1 then (if a0_2 = 16 then (some (decide (a0_3 < 0))) else (some true)) else (some false))) = some r := by rw [if_pos rfl] at H; exact H
                    clear H
                    have H := H1
                    clear H1
                    by_cases c31 : a0_3 ≥ 0
                    · rw [if_pos c31] at H
                      have c31b0 : decide (0 ≤ a0_3) = true := decide_eq_true c31
                      clear c31
                      by_cases c32 : a0_2 = 16
                      · rw [if_pos c32] at H
                        have c32b0 : (a0_2 == 16) = true := beq_iff_eq.mpr c32
                        have c32b1 : (a0_2 != 16) = false := bne_eq_false_iff_eq.mpr c32
                        clear c32
                        obtain rfl := Option.some.inj H
                        go_enter Try.func98, Try.ntmps98
                        go_wp2_with (first | ((with_reducible refine gate_dst (N := 2) rfl ?_); refine bx28 (w := w) (N := 2) rfl rfl rfl rfl by0 ?_; intro gb129 w33 n0_ BK129 GW129 GE129; clear HB; have HB := n0_; clear n0_; obtain ⟨hcz34_0, hcz34_1, hcz34_2, hcz34_3, hcz34_4, hcz34_5, hcz34_6⟩ := cs7 BK129.out) | (go_at_call 56; (with_reducible refine (spec_l01In.calls a0_2 (-1) 16 true _ A20.out).mono ?_); rintro e w' ⟨rfl, ⟨nd, rfl⟩⟩) | (go_at_call 56; (with_reducible refine (spec_l01In.calls a0_3 (-1) 15 true _ A22.out).mono ?_); rintro e w' ⟨rfl, ⟨nd, rfl⟩⟩) | (go_at_call 152; (with_reducible refine (spec_l01Size.calls a0_4 true _ A27.out).mono ?_); rintro e w' ⟨rfl, ⟨nd, rfl⟩⟩) | (go_at_call 56; (with_reducible refine (spec_l01In.calls a0_5 (-2147483648) 2147483647 true _ A29.out).mono ?_); rintro e w' ⟨rfl, ⟨nd, rfl⟩⟩))
                        all_goals
                         exact spec_l04Operand.e0
                      · rw [if_neg c32] at H
                        have c32b0 : (a0_2 == 16) = false := beq_eq_false_iff_ne.mpr c32
                        have c32b1 : (a0_2 != 16) = true := bne_iff_ne.mpr c32
                        obtain rfl := Option.some.inj H
                        go_enter Try.func98, Try.ntmps98
                        go_wp2_with (first | ((with_reducible refine gate_dst (N := 2) rfl ?_); refine bx28 (w := w) (N := 2) rfl rfl rfl rfl by0 ?_; intro gb129 w35 n0_ BK129 GW129 GE129; clear HB; have HB := n0_; clear n0_; obtain ⟨hcz36_0, hcz36_1, hcz36_2, hcz36_3, hcz36_4, hcz36_5, hcz36_6⟩ := cs7 BK129.out) | (go_at_call 56; (with_reducible refine (spec_l01In.calls a0_2 (-1) 16 true _ A20.out).mono ?_); rintro e w' ⟨rfl, ⟨nd, rfl⟩⟩) | (go_at_call 56; (with_reducible refine (spec_l01In.calls a0_3 (-1) 15 true _ A22.out).mono ?_); rintro e w' ⟨rfl, ⟨nd, rfl⟩⟩) | (go_at_call 152; (with_reducible refine (spec_l01Size.calls a0_4 true _ A27.out).mono ?_); rintro e w' ⟨rfl, ⟨nd, rfl⟩⟩) | (go_at_call 56; (with_reducible refine (spec_l01In.calls a0_5 (-2147483648) 2147483647 true _ A29.out).mono ?_); rintro e w' ⟨rfl, ⟨nd, rfl⟩⟩))
                        all_goals
                         exact spec_l04Operand.e0
                    · rw [if_neg c31] at H
                      have c31b0 : decide (0 ≤ a0_3) = false := decide_eq_false c31
                      clear c31
                      by_cases c37 : a0_4 = 1
                      · rw [if_pos c37] at H
                        have c37b0 : (a0_4 == 1) = true := beq_iff_eq.mpr c37
                        have c37b1 : (a0_4 != 1) = false := bne_eq_false_iff_eq.mpr c37
                        clear c37
                        by_cases c38 : a0_2 = 16
                        · rw [if_pos c38] at H
                          have c38b0 : (a0_2 == 16) = true := beq_iff_eq.mpr c38
                          have c38b1 : (a0_2 != 16) = false := bne_eq_false_iff_eq.mpr c38
                          clear c38
                          obtain rfl := Option.some.inj H
                          go_enter Try.func98, Try.ntmps98
                          go_wp2_with (first | ((with_reducible refine gate_dst (N := 2) rfl ?_); refine bx28 (w := w) (N := 2) rfl rfl rfl rfl by0 ?_; intro gb129 w39 n0_ BK129 GW129 GE129; clear HB; have HB := n0_; clear n0_; obtain ⟨hcz40_0, hcz40_1, hcz40_2, hcz40_3, hcz40_4, hcz40_5, hcz40_6⟩ := cs7 BK129.out) | (go_at_call 56; (with_reducible refine (spec_l01In.calls a0_2 (-1) 16 true _ A20.out).mono ?_); rintro e w' ⟨rfl, ⟨nd, rfl⟩⟩) | (go_at_call 56; (with_reducible refine (spec_l01In.calls a0_3 (-1) 15 true _ A22.out).mono ?_); rintro e w' ⟨rfl, ⟨nd, rfl⟩⟩) | (go_at_call 152; (with_reducible refine (spec_l01Size.calls a0_4 true _ A27.out).mono ?_); rintro e w' ⟨rfl, ⟨nd, rfl⟩⟩) | (go_at_call 56; (with_reducible refine (spec_l01In.calls a0_5 (-2147483648) 2147483647 true _ A29.out).mono ?_); rintro e w' ⟨rfl, ⟨nd, rfl⟩⟩))
                          all_goals
                           exact spec_l04Operand.e0
                        · rw [if_neg c38] at H
                          have c38b0 : (a0_2 == 16) = false := beq_eq_false_iff_ne.mpr c38
                          have c38b1 : (a0_2 != 16) = true := bne_iff_ne.mpr c38
                          obtain rfl := Option.some.inj H
                          go_enter Try.func98, Try.ntmps98
                          go_wp2_with (first | ((with_reducible refine gate_dst (N := 2) rfl ?_); refine bx28 (w := w) (N := 2) rfl rfl rfl rfl by0 ?_; intro gb129 w41 n0_ BK129 GW129 GE129; clear HB; have HB := n0_; clear n0_; obtain ⟨hcz42_0, hcz42_1, hcz42_2, hcz42_3, hcz42_4, hcz42_5, hcz42_6⟩ := cs7 BK129.out) | (go_at_call 56; (with_reducible refine (spec_l01In.calls a0_2 (-1) 16 true _ A20.out).mono ?_); rintro e w' ⟨rfl, ⟨nd, rfl⟩⟩) | (go_at_call 56; (with_reducible refine (spec_l01In.calls a0_3 (-1) 15 true _ A22.out).mono ?_); rintro e w' ⟨rfl, ⟨nd, rfl⟩⟩) | (go_at_call 152; (with_reducible refine (spec_l01Size.calls a0_4 true _ A27.out).mono ?_); rintro e w' ⟨rfl, ⟨nd, rfl⟩⟩) | (go_at_call 56; (with_reducible refine (spec_l01In.calls a0_5 (-2147483648) 2147483647 true _ A29.out).mono ?_); rintro e w' ⟨rfl, ⟨nd, rfl⟩⟩))
                          all_goals
                           exact spec_l04Operand.e0
                      · rw [if_neg c37] at H
                        have c37b0 : (a0_4 == 1) = false := beq_eq_false_iff_ne.mpr c37
                        have c37b1 : (a0_4 != 1) = true := bne_iff_ne.mpr c37
                        obtain rfl := Option.some.inj H
                        go_enter Try.func98, Try.ntmps98
                        go_wp2_with (first | ((with_reducible refine gate_dst (N := 2) rfl ?_); refine bx28 (w := w) (N := 2) rfl rfl rfl rfl by0 ?_; intro gb129 w43 n0_ BK129 GW129 GE129; clear HB; have HB := n0_; clear n0_; obtain ⟨hcz44_0, hcz44_1, hcz44_2, hcz44_3, hcz44_4, hcz44_5, hcz44_6⟩ := cs7 BK129.out) | (go_at_call 56; (with_reducible refine (spec_l01In.calls a0_2 (-1) 16 true _ A20.out).mono ?_); rintro e w' ⟨rfl, ⟨nd, rfl⟩⟩) | (go_at_call 56; (with_reducible refine (spec_l01In.calls a0_3 (-1) 15 true _ A22.out).mono ?_); rintro e w' ⟨rfl, ⟨nd, rfl⟩⟩) | (go_at_call 152; (with_reducible refine (spec_l01Size.calls a0_4 true _ A27.out).mono ?_); rintro e w' ⟨rfl, ⟨nd, rfl⟩⟩) | (go_at_call 56; (with_reducible refine (spec_l01In.calls a0_5 (-2147483648) 2147483647 true _ A29.out).mono ?_); rintro e w' ⟨rfl, ⟨nd, rfl⟩⟩))
                        all_goals
                         exact spec_l04Operand.e0
                  · replace c30 := Bool.eq_false_iff.mpr c30
                    subst c30
                    have H1 : (some false) = some r := by rw [if_neg (show ¬ (false = true) by decide)] at H; exact H
                    clear H
                    have H := H1
                    clear H1
                    obtain rfl := Option.some.inj H
                    go_enter Try.func98, Try.ntmps98
                    go_wp2_with (first | ((with_reducible refine gate_dst (N := 2) rfl ?_); refine bx28 (w := w) (N := 2) rfl rfl rfl rfl by0 ?_; intro gb129 w45 n0_ BK129 GW129 GE129; clear HB; have HB := n0_; clear n0_; obtain ⟨hcz46_0, hcz46_1, hcz46_2, hcz46_3, hcz46_4, hcz46_5, hcz46_6⟩ := cs7 BK129.out) | (go_at_call 56; (with_reducible refine (spec_l01In.calls a0_2 (-1) 16 true _ A20.out).mono ?_); rintro e w' ⟨rfl, ⟨nd, rfl⟩⟩) | (go_at_call 56; (with_reducible refine (spec_l01In.calls a0_3 (-1) 15 true _ A22.out).mono ?_); rintro e w' ⟨rfl, ⟨nd, rfl⟩⟩) | (go_at_call 152; (with_reducible refine (spec_l01Size.calls a0_4 true _ A27.out).mono ?_); rintro e w' ⟨rfl, ⟨nd, rfl⟩⟩) | (go_at_call 56; (with_reducible refine (spec_l01In.calls a0_5 (-2147483648) 2147483647 false _ A29.out).mono ?_); rintro e w' ⟨rfl, ⟨nd, rfl⟩⟩))
                    all_goals
                     exact spec_l04Operand.e0
                · replace c28 := Bool.eq_false_iff.mpr c28
                  subst c28
                  have H1 : (some false) = some r := by rw [if_neg (show ¬ (false = true) by decide)] at H; exact H
                  clear H
                  have H := H1
                  clear H1
                  obtain rfl := Option.some.inj H
                  go_enter Try.func98, Try.ntmps98
                  go_wp2_with (first | ((with_reducible refine gate_dst (N := 2) rfl ?_); refine bx28 (w := w) (N := 2) rfl rfl rfl rfl by0 ?_; intro gb129 w47 n0_ BK129 GW129 GE129; clear HB; have HB := n0_; clear n0_; obtain ⟨hcz48_0, hcz48_1, hcz48_2, hcz48_3, hcz48_4, hcz48_5, hcz48_6⟩ := cs7 BK129.out) | (go_at_call 56; (with_reducible refine (spec_l01In.calls a0_2 (-1) 16 true _ A20.out).mono ?_); rintro e w' ⟨rfl, ⟨nd, rfl⟩⟩) | (go_at_call 56; (with_reducible refine (spec_l01In.calls a0_3 (-1) 15 true _ A22.out).mono ?_); rintro e w' ⟨rfl, ⟨nd, rfl⟩⟩) | (go_at_call 152; (with_reducible refine (spec_l01Size.calls a0_4 false _ A27.out).mono ?_); rintro e w' ⟨rfl, ⟨nd, rfl⟩⟩))
                  all_goals
                   exact spec_l04Operand.e0
            · replace c23 := Bool.eq_false_iff.mpr c23
              subst c23
              have H1 : (some false) = some r := by rw [if_neg (show ¬ (false = true) by decide)] at H; exact H
              clear H
              have H := H1
              clear H1
              obtain rfl := Option.some.inj H
              go_enter Try.func98, Try.ntmps98
              go_wp2_with (first | ((with_reducible refine gate_dst (N := 2) rfl ?_); refine bx28 (w := w) (N := 2) rfl rfl rfl rfl by0 ?_; intro gb129 w49 n0_ BK129 GW129 GE129; clear HB; have HB := n0_; clear n0_; obtain ⟨hcz50_0, hcz50_1, hcz50_2, hcz50_3, hcz50_4, hcz50_5, hcz50_6⟩ := cs7 BK129.out) | (go_at_call 56; (with_reducible refine (spec_l01In.calls a0_2 (-1) 16 true _ A20.out).mono ?_); rintro e w' ⟨rfl, ⟨nd, rfl⟩⟩) | (go_at_call 56; (with_reducible refine (spec_l01In.calls a0_3 (-1) 15 false _ A22.out).mono ?_); rintro e w' ⟨rfl, ⟨nd, rfl⟩⟩))
              all_goals
               exact spec_l04Operand.e0
          · replace c21 := Bool.eq_false_iff.mpr c21
            subst c21
            have H1 : (some false) = some r := by rw [if_neg (show ¬ (false = true) by decide)] at H; exact H
            clear H
            have H := H1
            clear H1
            obtain rfl := Option.some.inj H
            go_enter Try.func98, Try.ntmps98
            go_wp2_with (first | ((with_reducible refine gate_dst (N := 2) rfl ?_); refine bx28 (w := w) (N := 2) rfl rfl rfl rfl by0 ?_; intro gb129 w51 n0_ BK129 GW129 GE129; clear HB; have HB := n0_; clear n0_; obtain ⟨hcz52_0, hcz52_1, hcz52_2, hcz52_3, hcz52_4, hcz52_5, hcz52_6⟩ := cs7 BK129.out) | (go_at_call 56; (with_reducible refine (spec_l01In.calls a0_2 (-1) 16 false _ A20.out).mono ?_); rintro e w' ⟨rfl, ⟨nd, rfl⟩⟩))
            all_goals
             exact spec_l04Operand.e0
        · rw [if_neg c19] at H
          have c19b0 : (a0_6 == 0) = false := beq_eq_false_iff_ne.mpr c19
          have c19b1 : (a0_6 != 0) = true := bne_iff_ne.mpr c19
          obtain rfl := Option.some.inj H
          go_enter Try.func98, Try.ntmps98
          go_wp2_with (first | ((with_reducible refine gate_dst (N := 2) rfl ?_); refine bx28 (w := w) (N := 2) rfl rfl rfl rfl by0 ?_; intro gb129 w53 n0_ BK129 GW129 GE129; clear HB; have HB := n0_; clear n0_; obtain ⟨hcz54_0, hcz54_1, hcz54_2, hcz54_3, hcz54_4, hcz54_5, hcz54_6⟩ := cs7 BK129.out))
          all_goals
           exact spec_l04Operand.e0
      · rw [if_neg c18] at H
        have c18b0 : (a0_1 == 0) = false := beq_eq_false_iff_ne.mpr c18
        have c18b1 : (a0_1 != 0) = true := bne_iff_ne.mpr c18
        obtain rfl := Option.some.inj H
        go_enter Try.func98, Try.ntmps98
        go_wp2_with (first | ((with_reducible refine gate_dst (N := 2) rfl ?_); refine bx28 (w := w) (N := 2) rfl rfl rfl rfl by0 ?_; intro gb129 w55 n0_ BK129 GW129 GE129; clear HB; have HB := n0_; clear n0_; obtain ⟨hcz56_0, hcz56_1, hcz56_2, hcz56_3, hcz56_4, hcz56_5, hcz56_6⟩ := cs7 BK129.out))
        all_goals
         exact spec_l04Operand.e0
    · rw [if_neg c17] at H
      have c17b0 : (a0_0 == 2) = false := beq_eq_false_iff_ne.mpr c17
      have c17b1 : (a0_0 != 2) = true := bne_iff_ne.mpr c17
      by_cases c57 : a0_0 = 3
      · rw [if_pos c57] at H
        have c57b0 : (a0_0 == 3) = true := beq_iff_eq.mpr c57
        have c57b1 : (a0_0 != 3) = false := bne_eq_false_iff_eq.mpr c57
        clear c57
        obtain rfl := Option.some.inj H
        go_enter Try.func98, Try.ntmps98
        go_wp2_with (first | ((with_reducible refine gate_dst (N := 2) rfl ?_); refine bx28 (w := w) (N := 2) rfl rfl rfl rfl by0 ?_; intro gb129 w58 n0_ BK129 GW129 GE129; clear HB; have HB := n0_; clear n0_; obtain ⟨hcz59_0, hcz59_1, hcz59_2, hcz59_3, hcz59_4, hcz59_5, hcz59_6⟩ := cs7 BK129.out))
        all_goals
         exact spec_l04Operand.e0
      · rw [if_neg c57] at H
        have c57b0 : (a0_0 == 3) = false := beq_eq_false_iff_ne.mpr c57
        have c57b1 : (a0_0 != 3) = true := bne_iff_ne.mpr c57
        obtain rfl := Option.some.inj H
        go_enter Try.func98, Try.ntmps98
        go_wp2_with (first | ((with_reducible refine gate_dst (N := 2) rfl ?_); refine bx28 (w := w) (N := 2) rfl rfl rfl rfl by0 ?_; intro gb129 w60 n0_ BK129 GW129 GE129; clear HB; have HB := n0_; clear n0_; obtain ⟨hcz61_0, hcz61_1, hcz61_2, hcz61_3, hcz61_4, hcz61_5, hcz61_6⟩ := cs7 BK129.out))
        all_goals
         exact spec_l04Operand.e0

/-! ### spec_l05Rex: function 99 -/
def spec_l05Rex.f (a0_0 : Int) (a0_1 : Int) (a0_2 : Int) (a0_3 : Int) (a0_4 : Int) (a0_5 : Int) (a0_6 : Int) (a1 : Int) : Option (Bool × Bool) := if a0_0 = 1 then ((spec_l01In.f a0_1 8 15).bind fun t137 => (if t137 = true then (some (true, decide (a0_1 ≥ 16))) else (if a1 = 1 then ((spec_l01In.f a0_1 4 7).bind fun t138 => (some (t138, decide (a0_1 ≥ 16)))) else (some (false, decide (a0_1 ≥ 16)))))) else (if a0_0 = 2 then ((spec_l01In.f a0_2 8 15).bind fun t139 => (if t139 = true then (some (true, false)) else (some (decide (a0_3 ≥ 8), false)))) else (some (false, false)))
set_option maxHeartbeats 8000000 in
set_option maxRecDepth 100000 in
theorem spec_l05Rex.calls (a0_0 : Int) (a0_1 : Int) (a0_2 : Int) (a0_3 : Int) (a0_4 : Int) (a0_5 : Int) (a0_6 : Int) (a1 : Int) (r1 : Bool) (r2 : Bool) (w : World) (h : spec_l05Rex.f a0_0 a0_1 a0_2 a0_3 a0_4 a0_5 a0_6 a1 = some (r1, r2)) :
  Calls Try.prog 99 #[.agg #[.int .i64 a0_0, .int .i64 a0_1, .int .i64 a0_2, .int .i64 a0_3, .int .i64 a0_4, .int .i64 a0_5, .int .i64 a0_6], .int .i64 a1] w fun e w' => e = .returned (.tuple #[.bool r1, .bool r2]) ∧ Below w.heap.size w w' := by
 have hu28 := Try.underlying28
 have HB := Aside0.mk (Below.refl w.heap.size w)
 have H : (if a0_0 = 1 then ((spec_l01In.f a0_1 8 15).bind fun t137 => (if t137 = true then (some (true, decide (a0_1 ≥ 16))) else (if a1 = 1 then ((spec_l01In.f a0_1 4 7).bind fun t138 => (some (t138, decide (a0_1 ≥ 16)))) else (some (false, decide (a0_1 ≥ 16)))))) else (if a0_0 = 2 then ((spec_l01In.f a0_2 8 15).bind fun t139 => (if t139 = true then (some (true, false)) else (some (decide (a0_3 ≥ 8), false)))) else (some (false, false)))) = some (r1, r2) := h
 clear h
 by_cases c3 : a0_0 = 1
 ·rw [if_pos c3] at H
  have c3b0 : (a0_0 == 1) = true := beq_iff_eq.mpr c3
  have c3b1 : (a0_0 != 1) = false := bne_eq_false_iff_eq.mpr c3
  clear c3
  replace H := Option.bind_eq_some_iff.mp H
  obtain ⟨t137, A40, H⟩ := H
  replace H : (if t137 = true then (some (true, decide (a0_1 ≥ 16))) else (if a1 = 1 then ((spec_l01In.f a0_1 4 7).bind fun t138 => (some (t138, decide (a0_1 ≥ 16)))) else (some (false, decide (a0_1 ≥ 16))))) = some (r1, r2) := H
  have A4 := Aside0.mk A40
  clear A40
  by_cases c5 : t137 = true
  ·subst c5
   have H1 : (some (true, decide (a0_1 ≥ 16))) = some (r1, r2) := by rw [if_pos rfl] at H; exact H
   clear H
   have H := H1
   clear H1
   simp only [Option.some.injEq, Prod.mk.injEq] at H
   obtain ⟨rfl, rfl⟩ := H
   go_enter Try.func99, Try.ntmps99
   go_wp2_with (first | ((with_reducible refine gate_dst (N := 2) rfl ?_); refine bx28 (w := w) (N := 2) rfl rfl rfl rfl by0 ?_; intro gb136 w6 n0_ BK136 GW136 GE136; clear HB; have HB := n0_; clear n0_; have hcz7_0 := cz BK136.out 0 (.int .i64 a0_0); have hcz7_1 := cz BK136.out 1 (.int .i64 a0_1); have hcz7_2 := cz BK136.out 2 (.int .i64 a0_2); have hcz7_3 := cz BK136.out 3 (.int .i64 a0_3)) | (go_at_call 56; (with_reducible refine (spec_l01In.calls a0_1 8 15 true _ A4.out).mono ?_); rintro e w' ⟨rfl, ⟨nd, rfl⟩⟩; (try first | exact ⟨rfl, _, World.drewN_drewN _ _ _⟩ | exact ⟨rfl, _, Eq.trans (World.drewN_drewN _ _ _) (congrArg (World.drewN _) (Nat.add_assoc _ _ _))⟩)))
   repeat (go_quiet (first | ((with_reducible refine gate_dst (N := 2) rfl ?_); refine bx28 (w := w) (N := 2) rfl rfl rfl rfl by0 ?_; intro gb136 w6 n0_ BK136 GW136 GE136; clear HB; have HB := n0_; clear n0_; have hcz7_0 := cz BK136.out 0 (.int .i64 a0_0); have hcz7_1 := cz BK136.out 1 (.int .i64 a0_1); have hcz7_2 := cz BK136.out 2 (.int .i64 a0_2); have hcz7_3 := cz BK136.out 3 (.int .i64 a0_3)) | (go_at_call 56; (with_reducible refine (spec_l01In.calls a0_1 8 15 true _ A4.out).mono ?_); rintro e w' ⟨rfl, ⟨nd, rfl⟩⟩; (try first | exact ⟨rfl, _, World.drewN_drewN _ _ _⟩ | exact ⟨rfl, _, Eq.trans (World.drewN_drewN _ _ _) (congrArg (World.drewN _) (Nat.add_assoc _ _ _))⟩))); try go_wp2_with (first | ((with_reducible refine gate_dst (N := 2) rfl ?_); refine bx28 (w := w) (N := 2) rfl rfl rfl rfl by0 ?_; intro gb136 w6 n0_ BK136 GW136 GE136; clear HB; have HB := n0_; clear n0_; have hcz7_0 := cz BK136.out 0 (.int .i64 a0_0); have hcz7_1 := cz BK136.out 1 (.int .i64 a0_1); have hcz7_2 := cz BK136.out 2 (.int .i64 a0_2); have hcz7_3 := cz BK136.out 3 (.int .i64 a0_3)) | (go_at_call 56; (with_reducible refine (spec_l01In.calls a0_1 8 15 true _ A4.out).mono ?_); rintro e w' ⟨rfl, ⟨nd, rfl⟩⟩; (try first | exact ⟨rfl, _, World.drewN_drewN _ _ _⟩ | exact ⟨rfl, _, Eq.trans (World.drewN_drewN _ _ _) (congrArg (World.drewN _) (Nat.add_assoc _ _ _))⟩))))
   go_ret2
   exact ⟨by first | rfl | (simp [errW_none, errW_some] <;> rfl) | (simp [*, errW_none, errW_some] <;> rfl), by repeat (first | (with_reducible first | exact HB.out | apply below_alloc | apply pw_below_drewN | apply below_drew1 | refine below_set ?_ GE136.out) | exact HB.out)⟩
  ·replace c5 := Bool.eq_false_iff.mpr c5
   subst c5
   have H1 : (if a1 = 1 then ((spec_l01In.f a0_1 4 7).bind fun t138 => (some (t138, decide (a0_1 ≥ 16)))) else (some (false, decide (a0_1 ≥ 16)))) = some (r1, r2) := by rw [if_neg (show ¬ (false = true) by decide)] at H; exact H
   clear H
   have H := H1
   clear H1
   by_cases c8 : a1 = 1
   ·rw [if_pos c8] at H
    have c8b0 : (a1 == 1) = true := beq_iff_eq.mpr c8
    have c8b1 : (a1 != 1) = false := bne_eq_false_iff_eq.mpr c8
    clear c8
    replace H := Option.bind_eq_some_iff.mp H
    obtain ⟨t138, A90, H⟩ := H
    replace H : (some (t138, decide (a0_1 ≥ 16))) = some (r1, r2) := H
    have A9 := Aside0.mk A90
    clear A90
    simp only [Option.some.injEq, Prod.mk.injEq] at H
    obtain ⟨rfl, rfl⟩ := H
    go_enter Try.func99, Try.ntmps99
    go_wp2_with (first | ((with_reducible refine gate_dst (N := 2) rfl ?_); refine bx28 (w := w) (N := 2) rfl rfl rfl rfl by0 ?_; intro gb136 w10 n0_ BK136 GW136 GE136; clear HB; have HB := n0_; clear n0_; have hcz11_0 := cz BK136.out 0 (.int .i64 a0_0); have hcz11_1 := cz BK136.out 1 (.int .i64 a0_1); have hcz11_2 := cz BK136.out 2 (.int .i64 a0_2); have hcz11_3 := cz BK136.out 3 (.int .i64 a0_3)) | (go_at_call 56; (with_reducible refine (spec_l01In.calls a0_1 8 15 false _ A4.out).mono ?_); rintro e w' ⟨rfl, ⟨nd, rfl⟩⟩; (try first | exact ⟨rfl, _, World.drewN_drewN _ _ _⟩ | exact ⟨rfl, _, Eq.trans (World.drewN_drewN _ _ _) (congrArg (World.drewN _) (Nat.add_assoc _ _ _))⟩)) | (go_at_call 56; (with_reducible refine (spec_l01In.calls a0_1 4 7 t138 _ A9.out).mono ?_); rintro e w' ⟨rfl, ⟨nd, rfl⟩⟩; (try first | exact ⟨rfl, _, World.drewN_drewN _ _ _⟩ | exact ⟨rfl, _, Eq.trans (World.drewN_drewN _ _ _) (congrArg (World.drewN _) (Nat.add_assoc _ _ _))⟩)))
    repeat (go_quiet (first | ((with_reducible refine gate_dst (N := 2) rfl ?_); refine bx28 (w := w) (N := 2) rfl rfl rfl rfl by0 ?_; intro gb136 w10 n0_ BK136 GW136 GE136; clear HB; have HB := n0_; clear n0_; have hcz11_0 := cz BK136.out 0 (.int .i64 a0_0); have hcz11_1 := cz BK136.out 1 (.int .i64 a0_1); have hcz11_2 := cz BK136.out 2 (.int .i64 a0_2); have hcz11_3 := cz BK136.out 3 (.int .i64 a0_3)) | (go_at_call 56; (with_reducible refine (spec_l01In.calls a0_1 8 15 false _ A4.out).mono ?_); rintro e w' ⟨rfl, ⟨nd, rfl⟩⟩; (try first | exact ⟨rfl, _, World.drewN_drewN _ _ _⟩ | exact ⟨rfl, _, Eq.trans (World.drewN_drewN _ _ _) (congrArg (World.drewN _) (Nat.add_assoc _ _ _))⟩)) | (go_at_call 56; (with_reducible refine (spec_l01In.calls a0_1 4 7 t138 _ A9.out).mono ?_); rintro e w' ⟨rfl, ⟨nd, rfl⟩⟩; (try first | exact ⟨rfl, _, World.drewN_drewN _ _ _⟩ | exact ⟨rfl, _, Eq.trans (World.drewN_drewN _ _ _) (congrArg (World.drewN _) (Nat.add_assoc _ _ _))⟩))); try go_wp2_with (first | ((with_reducible refine gate_dst (N := 2) rfl ?_); refine bx28 (w := w) (N := 2) rfl rfl rfl rfl by0 ?_; intro gb136 w10 n0_ BK136 GW136 GE136; clear HB; have HB := n0_; clear n0_; have hcz11_0 := cz BK136.out 0 (.int .i64 a0_0); have hcz11_1 := cz BK136.out 1 (.int .i64 a0_1); have hcz11_2 := cz BK136.out 2 (.int .i64 a0_2); have hcz11_3 := cz BK136.out 3 (.int .i64 a0_3)) | (go_at_call 56; (with_reducible refine (spec_l01In.calls a0_1 8 15 false _ A4.out).mono ?_); rintro e w' ⟨rfl, ⟨nd, rfl⟩⟩; (try first | exact ⟨rfl, _, World.drewN_drewN _ _ _⟩ | exact ⟨rfl, _, Eq.trans (World.drewN_drewN _ _ _) (congrArg (World.drewN _) (Nat.add_assoc _ _ _))⟩)) | (go_at_call 56; (with_reducible refine (spec_l01In.calls a0_1 4 7 t138 _ A9.out).mono ?_); rintro e w' ⟨rfl, ⟨nd, rfl⟩⟩; (try first | exact ⟨rfl, _, World.drewN_drewN _ _ _⟩ | exact ⟨rfl, _, Eq.trans (World.drewN_drewN _ _ _) (congrArg (World.drewN _) (Nat.add_assoc _ _ _))⟩))))
    go_ret2
    exact ⟨by first | rfl | (simp [errW_none, errW_some] <;> rfl) | (simp [*, errW_none, errW_some] <;> rfl), by repeat (first | (with_reducible first | exact HB.out | apply below_alloc | apply pw_below_drewN | apply below_drew1 | refine below_set ?_ GE136.out) | exact HB.out)⟩
   ·rw [if_neg c8] at H
    have c8b0 : (a1 == 1) = false := beq_eq_false_iff_ne.mpr c8
    have c8b1 : (a1 != 1) = true := bne_iff_ne.mpr c8
    simp only [Option.some.injEq, Prod.mk.injEq] at H
    obtain ⟨rfl, rfl⟩ := H
    go_enter Try.func99, Try.ntmps99
    go_wp2_with (first | ((with_reducible refine gate_dst (N := 2) rfl ?_); refine bx28 (w := w) (N := 2) rfl rfl rfl rfl by0 ?_; intro gb136 w12 n0_ BK136 GW136 GE136; clear HB; have HB := n0_; clear n0_; have hcz13_0 := cz BK136.out 0 (.int .i64 a0_0); have hcz13_1 := cz BK136.out 1 (.int .i64 a0_1); have hcz13_2 := cz BK136.out 2 (.int .i64 a0_2); have hcz13_3 := cz BK136.out 3 (.int .i64 a0_3)) | (go_at_call 56; (with_reducible refine (spec_l01In.calls a0_1 8 15 false _ A4.out).mono ?_); rintro e w' ⟨rfl, ⟨nd, rfl⟩⟩; (try first | exact ⟨rfl, _, World.drewN_drewN _ _ _⟩ | exact ⟨rfl, _, Eq.trans (World.drewN_drewN _ _ _) (congrArg (World.drewN _) (Nat.add_assoc _ _ _))⟩)))
    repeat (go_quiet (first | ((with_reducible refine gate_dst (N := 2) rfl ?_); refine bx28 (w := w) (N := 2) rfl rfl rfl rfl by0 ?_; intro gb136 w12 n0_ BK136 GW136 GE136; clear HB; have HB := n0_; clear n0_; have hcz13_0 := cz BK136.out 0 (.int .i64 a0_0); have hcz13_1 := cz BK136.out 1 (.int .i64 a0_1); have hcz13_2 := cz BK136.out 2 (.int .i64 a0_2); have hcz13_3 := cz BK136.out 3 (.int .i64 a0_3)) | (go_at_call 56; (with_reducible refine (spec_l01In.calls a0_1 8 15 false _ A4.out).mono ?_); rintro e w' ⟨rfl, ⟨nd, rfl⟩⟩; (try first | exact ⟨rfl, _, World.drewN_drewN _ _ _⟩ | exact ⟨rfl, _, Eq.trans (World.drewN_drewN _ _ _) (congrArg (World.drewN _) (Nat.add_assoc _ _ _))⟩))); try go_wp2_with (first | ((with_reducible refine gate_dst (N := 2) rfl ?_); refine bx28 (w := w) (N := 2) rfl rfl rfl rfl by0 ?_; intro gb136 w12 n0_ BK136 GW136 GE136; clear HB; have HB := n0_; clear n0_; have hcz13_0 := cz BK136.out 0 (.int .i64 a0_0); have hcz13_1 := cz BK136.out 1 (.int .i64 a0_1); have hcz13_2 := cz BK136.out 2 (.int .i64 a0_2); have hcz13_3 := cz BK136.out 3 (.int .i64 a0_3)) | (go_at_call 56; (with_reducible refine (spec_l01In.calls a0_1 8 15 false _ A4.out).mono ?_); rintro e w' ⟨rfl, ⟨nd, rfl⟩⟩; (try first | exact ⟨rfl, _, World.drewN_drewN _ _ _⟩ | exact ⟨rfl, _, Eq.trans (World.drewN_drewN _ _ _) (congrArg (World.drewN _) (Nat.add_assoc _ _ _))⟩))))
    go_ret2
    exact ⟨by first | rfl | (simp [errW_none, errW_some] <;> rfl) | (simp [*, errW_none, errW_some] <;> rfl), by repeat (first | (with_reducible first | exact HB.out | apply below_alloc | apply pw_below_drewN | apply below_drew1 | refine below_set ?_ GE136.out) | exact HB.out)⟩
 ·rw [if_neg c3] at H
  have c3b0 : (a0_0 == 1) = false := beq_eq_false_iff_ne.mpr c3
  have c3b1 : (a0_0 != 1) = true := bne_iff_ne.mpr c3
  by_cases c14 : a0_0 = 2
  ·rw [if_pos c14] at H
   have c14b0 : (a0_0 == 2) = true := beq_iff_eq.mpr c14
   have c14b1 : (a0_0 != 2) = false := bne_eq_false_iff_eq.mpr c14
   clear c14
   replace H := Option.bind_eq_some_iff.mp H
   obtain ⟨t139, A150, H⟩ := H
   replace H : (if t139 = true then (some (true, false)) else (some (decide (a0_3 ≥ 8), false))) = some (r1, r2) := H
   have A15 := Aside0.mk A150
   clear A150
   by_cases c16 : t139 = true
   ·subst c16
    have H1 : (some (true, false)) = some (r1, r2) := by rw [if_pos rfl] at H; exact H
    clear H
    have H := H1
    clear H1
    simp only [Option.some.injEq, Prod.mk.injEq] at H
    obtain ⟨rfl, rfl⟩ := H
    go_enter Try.func99, Try.ntmps99
    go_wp2_with (first | ((with_reducible refine gate_dst (N := 2) rfl ?_); refine bx28 (w := w) (N := 2) rfl rfl rfl rfl by0 ?_; intro gb136 w17 n0_ BK136 GW136 GE136; clear HB; have HB := n0_; clear n0_; have hcz18_0 := cz BK136.out 0 (.int .i64 a0_0); have hcz18_1 := cz BK136.out 1 (.int .i64 a0_1); have hcz18_2 := cz BK136.out 2 (.int .i64 a0_2); have hcz18_3 := cz BK136.out 3 (.int .i64 a0_3)) | (go_at_call 56; (with_reducible refine (spec_l01In.calls a0_2 8 15 true _ A15.out).mono ?_); rintro e w' ⟨rfl, ⟨nd, rfl⟩⟩; (try first | exact ⟨rfl, _, World.drewN_drewN _ _ _⟩ | exact ⟨rfl, _, Eq.trans (World.drewN_drewN _ _ _) (congrArg (World.drewN _) (Nat.add_assoc _ _ _))⟩)))
    repeat (go_quiet (first | ((with_reducible refine gate_dst (N := 2) rfl ?_); refine bx28 (w := w) (N := 2) rfl rfl rfl rfl by0 ?_; intro gb136 w17 n0_ BK136 GW136 GE136; clear HB; have HB := n0_; clear n0_; have hcz18_0 := cz BK136.out 0 (.int .i64 a0_0); have hcz18_1 := cz BK136.out 1 (.int .i64 a0_1); have hcz18_2 := cz BK136.out 2 (.int .i64 a0_2); have hcz18_3 := cz BK136.out 3 (.int .i64 a0_3)) | (go_at_call 56; (with_reducible refine (spec_l01In.calls a0_2 8 15 true _ A15.out).mono ?_); rintro e w' ⟨rfl, ⟨nd, rfl⟩⟩; (try first | exact ⟨rfl, _, World.drewN_drewN _ _ _⟩ | exact ⟨rfl, _, Eq.trans (World.drewN_drewN _ _ _) (congrArg (World.drewN _) (Nat.add_assoc _ _ _))⟩))); try go_wp2_with (first | ((with_reducible refine gate_dst (N := 2) rfl ?_); refine bx28 (w := w) (N := 2) rfl rfl rfl rfl by0 ?_; intro gb136 w17 n0_ BK136 GW136 GE136; clear HB; have HB := n0_; clear n0_; have hcz18_0 := cz BK136.out 0 (.int .i64 a0_0); have hcz18_1 := cz BK136.out 1 (.int .i64 a0_1); have hcz18_2 := cz BK136.out 2 (.int .i64 a0_2); have hcz18_3 := cz BK136.out 3 (.int .i64 a0_3)) | (go_at_call 56; (with_reducible refine (spec_l01In.calls a0_2 8 15 true _ A15.out).mono ?_); rintro e w' ⟨rfl, ⟨nd, rfl⟩⟩; (try first | exact ⟨rfl, _, World.drewN_drewN _ _ _⟩ | exact ⟨rfl, _, Eq.trans (World.drewN_drewN _ _ _) (congrArg (World.drewN _) (Nat.add_assoc _ _ _))⟩))))
    go_ret2
    exact ⟨by first | rfl | (simp [errW_none, errW_some] <;> rfl) | (simp [*, errW_none, errW_some] <;> rfl), by repeat (first | (with_reducible first | exact HB.out | apply below_alloc | apply pw_below_drewN | apply below_drew1 | refine below_set ?_ GE136.out) | exact HB.out)⟩
   ·replace c16 := Bool.eq_false_iff.mpr c16
    subst c16
    have H1 : (some (decide (a0_3 ≥ 8), false)) = some (r1, r2) := by rw [if_neg (show ¬ (false = true) by decide)] at H; exact H
    clear H
    have H := H1
    clear H1
    simp only [Option.some.injEq, Prod.mk.injEq] at H
    obtain ⟨rfl, rfl⟩ := H
    go_enter Try.func99, Try.ntmps99
    go_wp2_with (first | ((with_reducible refine gate_dst (N := 2) rfl ?_); refine bx28 (w := w) (N := 2) rfl rfl rfl rfl by0 ?_; intro gb136 w19 n0_ BK136 GW136 GE136; clear HB; have HB := n0_; clear n0_; have hcz20_0 := cz BK136.out 0 (.int .i64 a0_0); have hcz20_1 := cz BK136.out 1 (.int .i64 a0_1); have hcz20_2 := cz BK136.out 2 (.int .i64 a0_2); have hcz20_3 := cz BK136.out 3 (.int .i64 a0_3)) | (go_at_call 56; (with_reducible refine (spec_l01In.calls a0_2 8 15 false _ A15.out).mono ?_); rintro e w' ⟨rfl, ⟨nd, rfl⟩⟩; (try first | exact ⟨rfl, _, World.drewN_drewN _ _ _⟩ | exact ⟨rfl, _, Eq.trans (World.drewN_drewN _ _ _) (congrArg (World.drewN _) (Nat.add_assoc _ _ _))⟩)))
    repeat (go_quiet (first | ((with_reducible refine gate_dst (N := 2) rfl ?_); refine bx28 (w := w) (N := 2) rfl rfl rfl rfl by0 ?_; intro gb136 w19 n0_ BK136 GW136 GE136; clear HB; have HB := n0_; clear n0_; have hcz20_0 := cz BK136.out 0 (.int .i64 a0_0); have hcz20_1 := cz BK136.out 1 (.int .i64 a0_1); have hcz20_2 := cz BK136.out 2 (.int .i64 a0_2); have hcz20_3 := cz BK136.out 3 (.int .i64 a0_3)) | (go_at_call 56; (with_reducible refine (spec_l01In.calls a0_2 8 15 false _ A15.out).mono ?_); rintro e w' ⟨rfl, ⟨nd, rfl⟩⟩; (try first | exact ⟨rfl, _, World.drewN_drewN _ _ _⟩ | exact ⟨rfl, _, Eq.trans (World.drewN_drewN _ _ _) (congrArg (World.drewN _) (Nat.add_assoc _ _ _))⟩))); try go_wp2_with (first | ((with_reducible refine gate_dst (N := 2) rfl ?_); refine bx28 (w := w) (N := 2) rfl rfl rfl rfl by0 ?_; intro gb136 w19 n0_ BK136 GW136 GE136; clear HB; have HB := n0_; clear n0_; have hcz20_0 := cz BK136.out 0 (.int .i64 a0_0); have hcz20_1 := cz BK136.out 1 (.int .i64 a0_1); have hcz20_2 := cz BK136.out 2 (.int .i64 a0_2); have hcz20_3 := cz BK136.out 3 (.int .i64 a0_3)) | (go_at_call 56; (with_reducible refine (spec_l01In.calls a0_2 8 15 false _ A15.out).mono ?_); rintro e w' ⟨rfl, ⟨nd, rfl⟩⟩; (try first | exact ⟨rfl, _, World.drewN_drewN _ _ _⟩ | exact ⟨rfl, _, Eq.trans (World.drewN_drewN _ _ _) (congrArg (World.drewN _) (Nat.add_assoc _ _ _))⟩))))
    go_ret2
    exact ⟨by first | rfl | (simp [errW_none, errW_some] <;> rfl) | (simp [*, errW_none, errW_some] <;> rfl), by repeat (first | (with_reducible first | exact HB.out | apply below_alloc | apply pw_below_drewN | apply below_drew1 | refine below_set ?_ GE136.out) | exact HB.out)⟩
  ·rw [if_neg c14] at H
   have c14b0 : (a0_0 == 2) = false := beq_eq_false_iff_ne.mpr c14
   have c14b1 : (a0_0 != 2) = true := bne_iff_ne.mpr c14
   simp only [Option.some.injEq, Prod.mk.injEq] at H
   obtain ⟨rfl, rfl⟩ := H
   go_enter Try.func99, Try.ntmps99
   go_wp2_with (first | ((with_reducible refine gate_dst (N := 2) rfl ?_); refine bx28 (w := w) (N := 2) rfl rfl rfl rfl by0 ?_; intro gb136 w21 n0_ BK136 GW136 GE136; clear HB; have HB := n0_; clear n0_; have hcz22_0 := cz BK136.out 0 (.int .i64 a0_0); have hcz22_1 := cz BK136.out 1 (.int .i64 a0_1); have hcz22_2 := cz BK136.out 2 (.int .i64 a0_2); have hcz22_3 := cz BK136.out 3 (.int .i64 a0_3)))
   repeat (go_quiet (first | ((with_reducible refine gate_dst (N := 2) rfl ?_); refine bx28 (w := w) (N := 2) rfl rfl rfl rfl by0 ?_; intro gb136 w21 n0_ BK136 GW136 GE136; clear HB; have HB := n0_; clear n0_; have hcz22_0 := cz BK136.out 0 (.int .i64 a0_0); have hcz22_1 := cz BK136.out 1 (.int .i64 a0_1); have hcz22_2 := cz BK136.out 2 (.int .i64 a0_2); have hcz22_3 := cz BK136.out 3 (.int .i64 a0_3))); try go_wp2_with (first | ((with_reducible refine gate_dst (N := 2) rfl ?_); refine bx28 (w := w) (N := 2) rfl rfl rfl rfl by0 ?_; intro gb136 w21 n0_ BK136 GW136 GE136; clear HB; have HB := n0_; clear n0_; have hcz22_0 := cz BK136.out 0 (.int .i64 a0_0); have hcz22_1 := cz BK136.out 1 (.int .i64 a0_1); have hcz22_2 := cz BK136.out 2 (.int .i64 a0_2); have hcz22_3 := cz BK136.out 3 (.int .i64 a0_3))))
   go_ret2
   exact ⟨by first | rfl | (simp [errW_none, errW_some] <;> rfl) | (simp [*, errW_none, errW_some] <;> rfl), by repeat (first | (with_reducible first | exact HB.out | apply below_alloc | apply pw_below_drewN | apply below_drew1 | refine below_set ?_ GE136.out) | exact HB.out)⟩

/-! ### spec_l05Wide: function 100 -/
def spec_l05Wide.f (a0 : Int) : Option (Bool) := if a0 = 29 then (some true) else (if a0 = 30 then (some true) else (if a0 = 31 then (some true) else (some (a0 == 32))))
set_option maxHeartbeats 8000000 in
set_option maxRecDepth 100000 in
theorem spec_l05Wide.calls (a0 : Int) (r : Bool) (w : World) (h : spec_l05Wide.f a0 = some r) :
  Calls Try.prog 100 #[.int .i64 a0] w fun e w' => e = .returned (.bool r) ∧ Drawn0 w w' := by
 have H : (if a0 = 29 then (some true) else (if a0 = 30 then (some true) else (if a0 = 31 then (some true) else (some (a0 == 32))))) = some r := h
 clear h
 by_cases c2 : a0 = 29
 ·rw [if_pos c2] at H
  have c2b0 : (a0 == 29) = true := beq_iff_eq.mpr c2
  have c2b1 : (a0 != 29) = false := bne_eq_false_iff_eq.mpr c2
  clear c2
  obtain rfl := Option.some.inj H
  go_enter Try.func100, Try.ntmps100
  go_wp2
  go_ret
  exact ⟨by first | rfl | (simp; done) | (simp [*]; done), by repeat (first | exact Drawn0.refl _ | apply Drawn0.step)⟩
 ·rw [if_neg c2] at H
  have c2b0 : (a0 == 29) = false := beq_eq_false_iff_ne.mpr c2
  have c2b1 : (a0 != 29) = true := bne_iff_ne.mpr c2
  by_cases c3 : a0 = 30
  ·rw [if_pos c3] at H
   have c3b0 : (a0 == 30) = true := beq_iff_eq.mpr c3
   have c3b1 : (a0 != 30) = false := bne_eq_false_iff_eq.mpr c3
   clear c3
   obtain rfl := Option.some.inj H
   go_enter Try.func100, Try.ntmps100
   go_wp2
   go_ret
   exact ⟨by first | rfl | (simp; done) | (simp [*]; done), by repeat (first | exact Drawn0.refl _ | apply Drawn0.step)⟩
  ·rw [if_neg c3] at H
   have c3b0 : (a0 == 30) = false := beq_eq_false_iff_ne.mpr c3
   have c3b1 : (a0 != 30) = true := bne_iff_ne.mpr c3
   by_cases c4 : a0 = 31
   ·rw [if_pos c4] at H
    have c4b0 : (a0 == 31) = true := beq_iff_eq.mpr c4
    have c4b1 : (a0 != 31) = false := bne_eq_false_iff_eq.mpr c4
    clear c4
    obtain rfl := Option.some.inj H
    go_enter Try.func100, Try.ntmps100
    go_wp2
    go_ret
    exact ⟨by first | rfl | (simp; done) | (simp [*]; done), by repeat (first | exact Drawn0.refl _ | apply Drawn0.step)⟩
   ·rw [if_neg c4] at H
    have c4b0 : (a0 == 31) = false := beq_eq_false_iff_ne.mpr c4
    have c4b1 : (a0 != 31) = true := bne_iff_ne.mpr c4
    obtain rfl := Option.some.inj H
    go_enter Try.func100, Try.ntmps100
    go_wp2
    go_ret
    exact ⟨by first | rfl | (simp; done) | (simp [*]; done), by repeat (first | exact Drawn0.refl _ | apply Drawn0.step)⟩

end Go.Proofs.Ytonogadabgilfaa.PFnExactBaseAddOf

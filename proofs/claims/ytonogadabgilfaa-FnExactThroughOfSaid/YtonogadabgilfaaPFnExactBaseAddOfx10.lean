/- Laid by a program of this session (patch_print.py) out of the translation: plain functions and what the calls do. No condition. -/
import Derived.Test.YtonogadabgilfaaPFnExactBaseAddOfx0
import Derived.Test.YtonogadabgilfaaPFnExactBaseAddOfx7
import Derived.Test.YtonogadabgilfaaPFnExactBaseAddOfx9
namespace Go.Proofs.Ytonogadabgilfaa.PFnExactBaseAddOf
open Go.RowKit Go.Proofs.YtonogadabgilfaaW.PrintWords Go.Proofs.YtonogadabgilfaaW.PrintLast Go.Proofs.YtonogadabgilfaaW.PrintMore
attribute [local go_sem] max2_int min2_int max_two min_two max_three min_three max_four min_four   -- for this text's walks alone
set_option linter.unusedVariables false
set_option linter.unusedSimpArgs false

/-! ### impl_Operand_isMem: function 134 -/
def impl_Operand_isMem.f (a0_0 : Int) (a0_1 : Int) (a0_2 : Int) (a0_3 : Int) (a0_4 : Int) (a0_5 : Int) (a0_6 : Int) : Option (Bool) := if a0_4 = 1 then (if a0_0 = 2 then (if a0_1 = 0 then (if a0_6 = 0 then ((impl_within.f a0_2 (-1) 16).bind fun t201 => (if t201 = true then ((impl_within.f a0_3 (-1) 15).bind fun t202 => (if t202 = true then (if a0_3 = 4 then (some false) else (if a0_2 = 16 then (if a0_3 = (-1) then ((impl_fits.f a0_5 4).bind fun t203 => (some t203)) else (some false)) else ((impl_fits.f a0_5 4).bind fun t204 => (some t204)))) else (some false))) else (some false))) else (some false)) else (some false)) else (some false)) else (if a0_3 = (-1) then (if a0_0 = 2 then (if a0_1 = 0 then (if a0_6 = 0 then ((impl_within.f a0_2 (-1) 16).bind fun t205 => (if t205 = true then ((impl_within.f a0_3 (-1) 15).bind fun t206 => (if t206 = true then (if a0_3 = 4 then (some false) else (some false)) else (some false))) else (some false))) else (some false)) else (some false)) else (some false)) else (if a0_4 = 2 then (if a0_0 = 2 then (if a0_1 = 0 then (if a0_6 = 0 then ((impl_within.f a0_2 (-1) 16).bind fun t207 => (if t207 = true then ((impl_within.f a0_3 (-1) 15).bind fun t208 => (if t208 = true then (if a0_3 = 4 then (some false) else (if a0_2 = 16 then (some false) else ((impl_fits.f a0_5 4).bind fun t209 => (some t209)))) else (some false))) else (some false))) else (some false)) else (some false)) else (some false)) else (if a0_4 = 4 then (if a0_0 = 2 then (if a0_1 = 0 then (if a0_6 = 0 then ((impl_within.f a0_2 (-1) 16).bind fun t210 => (if t210 = true then ((impl_within.f a0_3 (-1) 15).bind fun t211 => (if t211 = true then (if a0_3 = 4 then (some false) else (if a0_2 = 16 then (some false) else ((impl_fits.f a0_5 4).bind fun t212 => (some t212)))) else (some false))) else (some false))) else (some false)) else (some false)) else (some false)) else (if a0_0 = 2 then (if a0_1 = 0 then (if a0_6 = 0 then ((impl_within.f a0_2 (-1) 16).bind fun t213 => (if t213 = true then ((impl_within.f a0_3 (-1) 15).bind fun t214 => (if t214 = true then (if a0_3 = 4 then (some false) else (if a0_4 = 8 then (if a0_2 = 16 then (some false) else ((impl_fits.f a0_5 4).bind fun t215 => (some t215))) else (some false))) else (some false))) else (some false))) else (some false)) else (some false)) else (some false)))))
theorem impl_Operand_isMem.e0 {p : Prop} (h : p := by
 obtain rfl := Option.some.inj H
 go_enter Try.func134, Try.ntmps134
 go_wp2_with (first | ((with_reducible refine gate_dst (N := 1) rfl ?_); refine bx28 (w := w) (N := 1) rfl rfl rfl rfl by0 ?_; intro gb_y0 w_y1 n_y2 BK_y3 GW_y4 GE_y5; clear HB; have HB := n_y2; clear n_y2; obtain ⟨hcz_y6, hcz_y7, hcz_y8, hcz_y9, hcz_y10, hcz_y11, hcz_y12⟩ := cs7 BK_y3.out) | (go_at_call 58; (with_reducible refine (impl_within.calls a0_2 (-1) 16 true _ A6.out).mono ?_); rintro e w' ⟨rfl, ⟨nd, rfl⟩⟩) | (go_at_call 58; (with_reducible refine (impl_within.calls a0_3 (-1) 15 true _ A8.out).mono ?_); rintro e w' ⟨rfl, ⟨nd, rfl⟩⟩))
 go_ret
 exact ⟨by first | rfl | (simp [errW_none, errW_some] <;> rfl) | (simp [*, errW_none, errW_some] <;> rfl), by repeat (first | (with_reducible first | exact HB.out | apply below_alloc | apply pw_below_drewN | apply below_drew1 | refine below_set ?_ GE_y5.out) | exact HB.out)⟩) : p := h
theorem impl_Operand_isMem.e1 {p : Prop} (h : p := by
 obtain rfl := Option.some.inj H
 go_enter Try.func134, Try.ntmps134
 go_wp2_with (first | ((with_reducible refine gate_dst (N := 1) rfl ?_); refine bx28 (w := w) (N := 1) rfl rfl rfl rfl by0 ?_; intro gb_y0 w_y1 n_y2 BK_y3 GW_y4 GE_y5; clear HB; have HB := n_y2; clear n_y2; obtain ⟨hcz_y6, hcz_y7, hcz_y8, hcz_y9, hcz_y10, hcz_y11, hcz_y12⟩ := cs7 BK_y3.out))
 go_ret
 exact ⟨by first | rfl | (simp [errW_none, errW_some] <;> rfl) | (simp [*, errW_none, errW_some] <;> rfl), by repeat (first | (with_reducible first | exact HB.out | apply below_alloc | apply pw_below_drewN | apply below_drew1 | refine below_set ?_ GE_y5.out) | exact HB.out)⟩) : p := h
theorem impl_Operand_isMem.e2 {p : Prop} (h : p := by
 obtain rfl := Option.some.inj H
 go_enter Try.func134, Try.ntmps134
 go_wp2_with (first | ((with_reducible refine gate_dst (N := 1) rfl ?_); refine bx28 (w := w) (N := 1) rfl rfl rfl rfl by0 ?_; intro gb_y0 w_y1 n_y2 BK_y3 GW_y4 GE_y5; clear HB; have HB := n_y2; clear n_y2; obtain ⟨hcz_y6, hcz_y7, hcz_y8, hcz_y9, hcz_y10, hcz_y11, hcz_y12⟩ := cs7 BK_y3.out) | (go_at_call 58; (with_reducible refine (impl_within.calls a0_2 (-1) 16 true _ A37.out).mono ?_); rintro e w' ⟨rfl, ⟨nd, rfl⟩⟩) | (go_at_call 58; (with_reducible refine (impl_within.calls a0_3 (-1) 15 true _ A39.out).mono ?_); rintro e w' ⟨rfl, ⟨nd, rfl⟩⟩))
 go_ret
 exact ⟨by first | rfl | (simp [errW_none, errW_some] <;> rfl) | (simp [*, errW_none, errW_some] <;> rfl), by repeat (first | (with_reducible first | exact HB.out | apply below_alloc | apply pw_below_drewN | apply below_drew1 | refine below_set ?_ GE_y5.out) | exact HB.out)⟩) : p := h
theorem impl_Operand_isMem.e3 {p : Prop} (h : p := by
 obtain rfl := Option.some.inj H
 go_enter Try.func134, Try.ntmps134
 go_wp2_with (first | ((with_reducible refine gate_dst (N := 1) rfl ?_); refine bx28 (w := w) (N := 1) rfl rfl rfl rfl by0 ?_; intro gb_y0 w_y1 n_y2 BK_y3 GW_y4 GE_y5; clear HB; have HB := n_y2; clear n_y2; obtain ⟨hcz_y6, hcz_y7, hcz_y8, hcz_y9, hcz_y10, hcz_y11, hcz_y12⟩ := cs7 BK_y3.out) | (go_at_call 58; (with_reducible refine (impl_within.calls a0_2 (-1) 16 true _ A60.out).mono ?_); rintro e w' ⟨rfl, ⟨nd, rfl⟩⟩) | (go_at_call 58; (with_reducible refine (impl_within.calls a0_3 (-1) 15 true _ A62.out).mono ?_); rintro e w' ⟨rfl, ⟨nd, rfl⟩⟩))
 go_ret
 exact ⟨by first | rfl | (simp [errW_none, errW_some] <;> rfl) | (simp [*, errW_none, errW_some] <;> rfl), by repeat (first | (with_reducible first | exact HB.out | apply below_alloc | apply pw_below_drewN | apply below_drew1 | refine below_set ?_ GE_y5.out) | exact HB.out)⟩) : p := h
theorem impl_Operand_isMem.e4 {p : Prop} (h : p := by
 obtain rfl := Option.some.inj H
 go_enter Try.func134, Try.ntmps134
 go_wp2_with (first | ((with_reducible refine gate_dst (N := 1) rfl ?_); refine bx28 (w := w) (N := 1) rfl rfl rfl rfl by0 ?_; intro gb_y0 w_y1 n_y2 BK_y3 GW_y4 GE_y5; clear HB; have HB := n_y2; clear n_y2; obtain ⟨hcz_y6, hcz_y7, hcz_y8, hcz_y9, hcz_y10, hcz_y11, hcz_y12⟩ := cs7 BK_y3.out) | (go_at_call 58; (with_reducible refine (impl_within.calls a0_2 (-1) 16 true _ A87.out).mono ?_); rintro e w' ⟨rfl, ⟨nd, rfl⟩⟩) | (go_at_call 58; (with_reducible refine (impl_within.calls a0_3 (-1) 15 true _ A89.out).mono ?_); rintro e w' ⟨rfl, ⟨nd, rfl⟩⟩))
 go_ret
 exact ⟨by first | rfl | (simp [errW_none, errW_some] <;> rfl) | (simp [*, errW_none, errW_some] <;> rfl), by repeat (first | (with_reducible first | exact HB.out | apply below_alloc | apply pw_below_drewN | apply below_drew1 | refine below_set ?_ GE_y5.out) | exact HB.out)⟩) : p := h
theorem impl_Operand_isMem.e5 {p : Prop} (h : p := by
 obtain rfl := Option.some.inj H
 go_enter Try.func134, Try.ntmps134
 go_wp2_with (first | ((with_reducible refine gate_dst (N := 1) rfl ?_); refine bx28 (w := w) (N := 1) rfl rfl rfl rfl by0 ?_; intro gb_y0 w_y1 n_y2 BK_y3 GW_y4 GE_y5; clear HB; have HB := n_y2; clear n_y2; obtain ⟨hcz_y6, hcz_y7, hcz_y8, hcz_y9, hcz_y10, hcz_y11, hcz_y12⟩ := cs7 BK_y3.out) | (go_at_call 58; (with_reducible refine (impl_within.calls a0_2 (-1) 16 true _ A113.out).mono ?_); rintro e w' ⟨rfl, ⟨nd, rfl⟩⟩) | (go_at_call 58; (with_reducible refine (impl_within.calls a0_3 (-1) 15 true _ A115.out).mono ?_); rintro e w' ⟨rfl, ⟨nd, rfl⟩⟩))
 go_ret
 exact ⟨by first | rfl | (simp [errW_none, errW_some] <;> rfl) | (simp [*, errW_none, errW_some] <;> rfl), by repeat (first | (with_reducible first | exact HB.out | apply below_alloc | apply pw_below_drewN | apply below_drew1 | refine below_set ?_ GE_y5.out) | exact HB.out)⟩) : p := h
set_option maxHeartbeats 8000000 in
set_option maxRecDepth 100000 in
theorem impl_Operand_isMem.calls (a0_0 : Int) (a0_1 : Int) (a0_2 : Int) (a0_3 : Int) (a0_4 : Int) (a0_5 : Int) (a0_6 : Int) (r : Bool) (w : World) (h : impl_Operand_isMem.f a0_0 a0_1 a0_2 a0_3 a0_4 a0_5 a0_6 = some r) :
  Calls Try.prog 134 #[.agg #[.int .i64 a0_0, .int .i64 a0_1, .int .i64 a0_2, .int .i64 a0_3, .int .i64 a0_4, .int .i64 a0_5, .int .i64 a0_6]] w fun e w' => e = .returned (.bool r) ∧ Below w.heap.size w w' := by
 have hu28 := Try.underlying28
 have HB := Aside0.mk (Below.refl w.heap.size w)
 have H : (if a0_4 = 1 then (if a0_0 = 2 then (if a0_1 = 0 then (if a0_6 = 0 then ((impl_within.f a0_2 (-1) 16).bind fun t201 => (if t201 = true then ((impl_within.f a0_3 (-1) 15).bind fun t202 => (if t202 = true then (if a0_3 = 4 then (some false) else (if a0_2 = 16 then (if a0_3 = (-1) then ((impl_fits.f a0_5 4).bind fun t203 => (some t203)) else (some false)) else ((impl_fits.f a0_5 4).bind fun t204 => (some t204)))) else (some false))) else (some false))) else (some false)) else (some false)) else (some false)) else (if a0_3 = (-1) then (if a0_0 = 2 then (if a0_1 = 0 then (if a0_6 = 0 then ((impl_within.f a0_2 (-1) 16).bind fun t205 => (if t205 = true then ((impl_within.f a0_3 (-1) 15).bind fun t206 => (if t206 = true then (if a0_3 = 4 then (some false) else (some false)) else (some false))) else (some false))) else (some false)) else (some false)) else (some false)) else (if a0_4 = 2 then (if a0_0 = 2 then (if a0_1 = 0 then (if a0_6 = 0 then ((impl_within.f a0_2 (-1) 16).bind fun t207 => (if t207 = true then ((impl_within.f a0_3 (-1) 15).bind fun t208 => (if t208 = true then (if a0_3 = 4 then (some false) else (if a0_2 = 16 then (some false) else ((impl_fits.f a0_5 4).bind fun t209 => (some t209)))) else (some false))) else (some false))) else (some false)) else (some false)) else (some false)) else (if a0_4 = 4 then (if a0_0 = 2 then (if a0_1 = 0 then (if a0_6 = 0 then ((impl_within.f a0_2 (-1) 16).bind fun t210 => (if t210 = true then ((impl_within.f a0_3 (-1) 15).bind fun t211 => (if t211 = true then (if a0_3 = 4 then (some false) else (if a0_2 = 16 then (some false) else ((impl_fits.f a0_5 4).bind fun t212 => (some t212)))) else (some false))) else (some false))) else (some false)) else (some false)) else (some false)) else (if a0_0 = 2 then (if a0_1 = 0 then (if a0_6 = 0 then ((impl_within.f a0_2 (-1) 16).bind fun t213 => (if t213 = true then ((impl_within.f a0_3 (-1) 15).bind fun t214 => (if t214 = true then (if a0_3 = 4 then (some false) else (if a0_4 = 8 then (if a0_2 = 16 then (some false) else ((impl_fits.f a0_5 4).bind fun t215 => (some t215))) else (some false))) else (some false))) else (some false))) else (some false)) else (some false)) else (some false)))))) = some r := h
 clear h
 by_cases c2 : a0_4 = 1
 ·rw [if_pos c2] at H
  have c2b0 : (a0_4 == 1) = true := beq_iff_eq.mpr c2
  have c2b1 : (a0_4 != 1) = false := bne_eq_false_iff_eq.mpr c2
  clear c2
  by_cases c3 : a0_0 = 2
  ·rw [if_pos c3] at H
   have c3b0 : (a0_0 == 2) = true := beq_iff_eq.mpr c3
   have c3b1 : (a0_0 != 2) = false := bne_eq_false_iff_eq.mpr c3
   clear c3
   by_cases c4 : a0_1 = 0
   ·rw [if_pos c4] at H
    have c4b0 : (a0_1 == 0) = true := beq_iff_eq.mpr c4
    have c4b1 : (a0_1 != 0) = false := bne_eq_false_iff_eq.mpr c4
    clear c4
    by_cases c5 : a0_6 = 0
    ·rw [if_pos c5] at H
     have c5b0 : (a0_6 == 0) = true := beq_iff_eq.mpr c5
     have c5b1 : (a0_6 != 0) = false := bne_eq_false_iff_eq.mpr c5
     clear c5
     replace H := Option.bind_eq_some_iff.mp H
     obtain ⟨t201, A60, H⟩ := H
     replace H : (if t201 = true then ((impl_within.f a0_3 (-1) 15).bind fun t202 => (if t202 = true then (if a0_3 = 4 then (some false) else (if a0_2 = 16 then (if a0_3 = (-1) then ((impl_fits.f a0_5 4).bind fun t203 => (some t203)) else (some false)) else ((impl_fits.f a0_5 4).bind fun t204 => (some t204)))) else (some false))) else (some false)) = some r := H
     have A6 := Aside0.mk A60
     clear A60
     by_cases c7 : t201 = true
     ·subst c7
      have H1 : ((impl_within.f a0_3 (-1) 15).bind fun t202 => (if t202 = true then (if a0_3 = 4 then (some false) else (if a0_2 = 16 then (if a0_3 = (-1) then ((impl_fits.f a0_5 4).bind fun t203 => (some t203)) else (some false)) else ((impl_fits.f a0_5 4).bind fun t204 => (some t204)))) else (some false))) = some r := by rw [if_pos rfl] at H; exact H
      clear H
      have H := H1
      clear H1
      replace H := Option.bind_eq_some_iff.mp H
      obtain ⟨t202, A80, H⟩ := H
      replace H : (if t202 = true then (if a0_3 = 4 then (some false) else (if a0_2 = 16 then (if a0_3 = (-1) then ((impl_fits.f a0_5 4).bind fun t203 => (some t203)) else (some false)) else ((impl_fits.f a0_5 4).bind fun t204 => (some t204)))) else (some false)) = some r := H
      have A8 := Aside0.mk A80
      clear A80
      by_cases c9 : t202 = true
      ·subst c9
       have H1 : (if a0_3 = 4 then (some false) else (if a0_2 = 16 then (if a0_3 = (-1) then ((impl_fits.f a0_5 4).bind fun t203 => (some t203)) else (some false)) else ((impl_fits.f a0_5 4).bind fun t204 => (some t204)))) = some r := by rw [if_pos rfl] at H; exact H
       clear H
       have H := H1
       clear H1
       by_cases c10 : a0_3 = 4
       ·rw [if_pos c10] at H
        have c10b0 : (a0_3 == 4) = true := beq_iff_eq.mpr c10
        have c10b1 : (a0_3 != 4) = false := bne_eq_false_iff_eq.mpr c10
        clear c10
        exact impl_Operand_isMem.e0
       ·rw [if_neg c10] at H
        have c10b0 : (a0_3 == 4) = false := beq_eq_false_iff_ne.mpr c10
        have c10b1 : (a0_3 != 4) = true := bne_iff_ne.mpr c10
        by_cases c13 : a0_2 = 16
        ·rw [if_pos c13] at H
         have c13b0 : (a0_2 == 16) = true := beq_iff_eq.mpr c13
         have c13b1 : (a0_2 != 16) = false := bne_eq_false_iff_eq.mpr c13
         clear c13
         by_cases c14 : a0_3 = (-1)
         ·rw [if_pos c14] at H
          have c14b0 : (a0_3 == (-1)) = true := beq_iff_eq.mpr c14
          have c14b1 : (a0_3 != (-1)) = false := bne_eq_false_iff_eq.mpr c14
          clear c14
          replace H := Option.bind_eq_some_iff.mp H
          obtain ⟨t203, A150, H⟩ := H
          replace H : (some t203) = some r := H
          have A15 := Aside0.mk A150
          clear A150
          obtain rfl := Option.some.inj H
          go_enter Try.func134, Try.ntmps134
          go_wp2_with (first | ((with_reducible refine gate_dst (N := 1) rfl ?_); refine bx28 (w := w) (N := 1) rfl rfl rfl rfl by0 ?_; intro gb200 w16 n0_ BK200 GW200 GE200; clear HB; have HB := n0_; clear n0_; obtain ⟨hcz17_0, hcz17_1, hcz17_2, hcz17_3, hcz17_4, hcz17_5, hcz17_6⟩ := cs7 BK200.out) | (go_at_call 58; (with_reducible refine (impl_within.calls a0_2 (-1) 16 true _ A6.out).mono ?_); rintro e w' ⟨rfl, ⟨nd, rfl⟩⟩) | (go_at_call 58; (with_reducible refine (impl_within.calls a0_3 (-1) 15 true _ A8.out).mono ?_); rintro e w' ⟨rfl, ⟨nd, rfl⟩⟩) | (go_at_call 119; (with_reducible refine (impl_fits.calls a0_5 4 t203 _ A15.out).mono ?_); rintro e w' ⟨rfl, ⟨nd, rfl⟩⟩))
          go_ret
          exact ⟨by first | rfl | (simp [errW_none, errW_some] <;> rfl) | (simp [*, errW_none, errW_some] <;> rfl), by repeat (first | (with_reducible first | exact HB.out | apply below_alloc | apply pw_below_drewN | apply below_drew1 | refine below_set ?_ GE200.out) | exact HB.out)⟩
         ·rw [if_neg c14] at H
          have c14b0 : (a0_3 == (-1)) = false := beq_eq_false_iff_ne.mpr c14
          have c14b1 : (a0_3 != (-1)) = true := bne_iff_ne.mpr c14
          exact impl_Operand_isMem.e0
        ·rw [if_neg c13] at H
         have c13b0 : (a0_2 == 16) = false := beq_eq_false_iff_ne.mpr c13
         have c13b1 : (a0_2 != 16) = true := bne_iff_ne.mpr c13
         replace H := Option.bind_eq_some_iff.mp H
         obtain ⟨t204, A200, H⟩ := H
         replace H : (some t204) = some r := H
         have A20 := Aside0.mk A200
         clear A200
         obtain rfl := Option.some.inj H
         go_enter Try.func134, Try.ntmps134
         go_wp2_with (first | ((with_reducible refine gate_dst (N := 1) rfl ?_); refine bx28 (w := w) (N := 1) rfl rfl rfl rfl by0 ?_; intro gb200 w21 n0_ BK200 GW200 GE200; clear HB; have HB := n0_; clear n0_; obtain ⟨hcz22_0, hcz22_1, hcz22_2, hcz22_3, hcz22_4, hcz22_5, hcz22_6⟩ := cs7 BK200.out) | (go_at_call 58; (with_reducible refine (impl_within.calls a0_2 (-1) 16 true _ A6.out).mono ?_); rintro e w' ⟨rfl, ⟨nd, rfl⟩⟩) | (go_at_call 58; (with_reducible refine (impl_within.calls a0_3 (-1) 15 true _ A8.out).mono ?_); rintro e w' ⟨rfl, ⟨nd, rfl⟩⟩) | (go_at_call 119; (with_reducible refine (impl_fits.calls a0_5 4 t204 _ A20.out).mono ?_); rintro e w' ⟨rfl, ⟨nd, rfl⟩⟩))
         go_ret
         exact ⟨by first | rfl | (simp [errW_none, errW_some] <;> rfl) | (simp [*, errW_none, errW_some] <;> rfl), by repeat (first | (with_reducible first | exact HB.out | apply below_alloc | apply pw_below_drewN | apply below_drew1 | refine below_set ?_ GE200.out) | exact HB.out)⟩
      ·replace c9 := Bool.eq_false_iff.mpr c9
       subst c9
       have H1 : (some false) = some r := by rw [if_neg (show ¬ (false = true) by decide)] at H; exact H
       clear H
       have H := H1
       clear H1
       obtain rfl := Option.some.inj H
       go_enter Try.func134, Try.ntmps134
       go_wp2_with (first | ((with_reducible refine gate_dst (N := 1) rfl ?_); refine bx28 (w := w) (N := 1) rfl rfl rfl rfl by0 ?_; intro gb200 w23 n0_ BK200 GW200 GE200; clear HB; have HB := n0_; clear n0_; obtain ⟨hcz24_0, hcz24_1, hcz24_2, hcz24_3, hcz24_4, hcz24_5, hcz24_6⟩ := cs7 BK200.out) | (go_at_call 58; (with_reducible refine (impl_within.calls a0_2 (-1) 16 true _ A6.out).mono ?_); rintro e w' ⟨rfl, ⟨nd, rfl⟩⟩) | (go_at_call 58; (with_reducible refine (impl_within.calls a0_3 (-1) 15 false _ A8.out).mono ?_); rintro e w' ⟨rfl, ⟨nd, rfl⟩⟩))
       go_ret
       exact ⟨by first | rfl | (simp [errW_none, errW_some] <;> rfl) | (simp [*, errW_none, errW_some] <;> rfl), by repeat (first | (with_reducible first | exact HB.out | apply below_alloc | apply pw_below_drewN | apply below_drew1 | refine below_set ?_ GE200.out) | exact HB.out)⟩
     ·replace c7 := Bool.eq_false_iff.mpr c7
      subst c7
      have H1 : (some false) = some r := by rw [if_neg (show ¬ (false = true) by decide)] at H; exact H
      clear H
      have H := H1
      clear H1
      obtain rfl := Option.some.inj H
      go_enter Try.func134, Try.ntmps134
      go_wp2_with (first | ((with_reducible refine gate_dst (N := 1) rfl ?_); refine bx28 (w := w) (N := 1) rfl rfl rfl rfl by0 ?_; intro gb200 w25 n0_ BK200 GW200 GE200; clear HB; have HB := n0_; clear n0_; obtain ⟨hcz26_0, hcz26_1, hcz26_2, hcz26_3, hcz26_4, hcz26_5, hcz26_6⟩ := cs7 BK200.out) | (go_at_call 58; (with_reducible refine (impl_within.calls a0_2 (-1) 16 false _ A6.out).mono ?_); rintro e w' ⟨rfl, ⟨nd, rfl⟩⟩))
      go_ret
      exact ⟨by first | rfl | (simp [errW_none, errW_some] <;> rfl) | (simp [*, errW_none, errW_some] <;> rfl), by repeat (first | (with_reducible first | exact HB.out | apply below_alloc | apply pw_below_drewN | apply below_drew1 | refine below_set ?_ GE200.out) | exact HB.out)⟩
    ·rw [if_neg c5] at H
     have c5b0 : (a0_6 == 0) = false := beq_eq_false_iff_ne.mpr c5
     have c5b1 : (a0_6 != 0) = true := bne_iff_ne.mpr c5
     exact impl_Operand_isMem.e1
   ·rw [if_neg c4] at H
    have c4b0 : (a0_1 == 0) = false := beq_eq_false_iff_ne.mpr c4
    have c4b1 : (a0_1 != 0) = true := bne_iff_ne.mpr c4
    exact impl_Operand_isMem.e1
  ·rw [if_neg c3] at H
   have c3b0 : (a0_0 == 2) = false := beq_eq_false_iff_ne.mpr c3
   have c3b1 : (a0_0 != 2) = true := bne_iff_ne.mpr c3
   exact impl_Operand_isMem.e1
 ·rw [if_neg c2] at H
  have c2b0 : (a0_4 == 1) = false := beq_eq_false_iff_ne.mpr c2
  have c2b1 : (a0_4 != 1) = true := bne_iff_ne.mpr c2
  by_cases c33 : a0_3 = (-1)
  ·rw [if_pos c33] at H
   have c33b0 : (a0_3 == (-1)) = true := beq_iff_eq.mpr c33
   have c33b1 : (a0_3 != (-1)) = false := bne_eq_false_iff_eq.mpr c33
   clear c33
   by_cases c34 : a0_0 = 2
   ·rw [if_pos c34] at H
    have c34b0 : (a0_0 == 2) = true := beq_iff_eq.mpr c34
    have c34b1 : (a0_0 != 2) = false := bne_eq_false_iff_eq.mpr c34
    clear c34
    by_cases c35 : a0_1 = 0
    ·rw [if_pos c35] at H
     have c35b0 : (a0_1 == 0) = true := beq_iff_eq.mpr c35
     have c35b1 : (a0_1 != 0) = false := bne_eq_false_iff_eq.mpr c35
     clear c35
     by_cases c36 : a0_6 = 0
     ·rw [if_pos c36] at H
      have c36b0 : (a0_6 == 0) = true := beq_iff_eq.mpr c36
      have c36b1 : (a0_6 != 0) = false := bne_eq_false_iff_eq.mpr c36
      clear c36
      replace H := Option.bind_eq_some_iff.mp H
      obtain ⟨t205, A370, H⟩ := H
      replace H : (if t205 = true then ((impl_within.f a0_3 (-1) 15).bind fun t206 => (if t206 = true then (if a0_3 = 4 then (some false) else (some false)) else (some false))) else (some false)) = some r := H
      have A37 := Aside0.mk A370
      clear A370
      by_cases c38 : t205 = true
      ·subst c38
       have H1 : ((impl_within.f a0_3 (-1) 15).bind fun t206 => (if t206 = true then (if a0_3 = 4 then (some false) else (some false)) else (some false))) = some r := by rw [if_pos rfl] at H; exact H
       clear H
       have H := H1
       clear H1
       replace H := Option.bind_eq_some_iff.mp H
       obtain ⟨t206, A390, H⟩ := H
       replace H : (if t206 = true then (if a0_3 = 4 then (some false) else (some false)) else (some false)) = some r := H
       have A39 := Aside0.mk A390
       clear A390
       by_cases c40 : t206 = true
       ·subst c40
        have H1 : (if a0_3 = 4 then (some false) else (some false)) = some r := by rw [if_pos rfl] at H; exact H
        clear H
        have H := H1
        clear H1
        by_cases c41 : a0_3 = 4
        ·rw [if_pos c41] at H
         have c41b0 : (a0_3 == 4) = true := beq_iff_eq.mpr c41
         have c41b1 : (a0_3 != 4) = false := bne_eq_false_iff_eq.mpr c41
         clear c41
         exact impl_Operand_isMem.e2
        ·rw [if_neg c41] at H
         have c41b0 : (a0_3 == 4) = false := beq_eq_false_iff_ne.mpr c41
         have c41b1 : (a0_3 != 4) = true := bne_iff_ne.mpr c41
         exact impl_Operand_isMem.e2
       ·replace c40 := Bool.eq_false_iff.mpr c40
        subst c40
        have H1 : (some false) = some r := by rw [if_neg (show ¬ (false = true) by decide)] at H; exact H
        clear H
        have H := H1
        clear H1
        obtain rfl := Option.some.inj H
        go_enter Try.func134, Try.ntmps134
        go_wp2_with (first | ((with_reducible refine gate_dst (N := 1) rfl ?_); refine bx28 (w := w) (N := 1) rfl rfl rfl rfl by0 ?_; intro gb200 w46 n0_ BK200 GW200 GE200; clear HB; have HB := n0_; clear n0_; obtain ⟨hcz47_0, hcz47_1, hcz47_2, hcz47_3, hcz47_4, hcz47_5, hcz47_6⟩ := cs7 BK200.out) | (go_at_call 58; (with_reducible refine (impl_within.calls a0_2 (-1) 16 true _ A37.out).mono ?_); rintro e w' ⟨rfl, ⟨nd, rfl⟩⟩) | (go_at_call 58; (with_reducible refine (impl_within.calls a0_3 (-1) 15 false _ A39.out).mono ?_); rintro e w' ⟨rfl, ⟨nd, rfl⟩⟩))
        go_ret
        exact ⟨by first | rfl | (simp [errW_none, errW_some] <;> rfl) | (simp [*, errW_none, errW_some] <;> rfl), by repeat (first | (with_reducible first | exact HB.out | apply below_alloc | apply pw_below_drewN | apply below_drew1 | refine below_set ?_ GE200.out) | exact HB.out)⟩
      ·replace c38 := Bool.eq_false_iff.mpr c38
       subst c38
       have H1 : (some false) = some r := by rw [if_neg (show ¬ (false = true) by decide)] at H; exact H
       clear H
       have H := H1
       clear H1
       obtain rfl := Option.some.inj H
       go_enter Try.func134, Try.ntmps134
       go_wp2_with (first | ((with_reducible refine gate_dst (N := 1) rfl ?_); refine bx28 (w := w) (N := 1) rfl rfl rfl rfl by0 ?_; intro gb200 w48 n0_ BK200 GW200 GE200; clear HB; have HB := n0_; clear n0_; obtain ⟨hcz49_0, hcz49_1, hcz49_2, hcz49_3, hcz49_4, hcz49_5, hcz49_6⟩ := cs7 BK200.out) | (go_at_call 58; (with_reducible refine (impl_within.calls a0_2 (-1) 16 false _ A37.out).mono ?_); rintro e w' ⟨rfl, ⟨nd, rfl⟩⟩))
       go_ret
       exact ⟨by first | rfl | (simp [errW_none, errW_some] <;> rfl) | (simp [*, errW_none, errW_some] <;> rfl), by repeat (first | (with_reducible first | exact HB.out | apply below_alloc | apply pw_below_drewN | apply below_drew1 | refine below_set ?_ GE200.out) | exact HB.out)⟩
     ·rw [if_neg c36] at H
      have c36b0 : (a0_6 == 0) = false := beq_eq_false_iff_ne.mpr c36
      have c36b1 : (a0_6 != 0) = true := bne_iff_ne.mpr c36
      exact impl_Operand_isMem.e1
    ·rw [if_neg c35] at H
     have c35b0 : (a0_1 == 0) = false := beq_eq_false_iff_ne.mpr c35
     have c35b1 : (a0_1 != 0) = true := bne_iff_ne.mpr c35
     exact impl_Operand_isMem.e1
   ·rw [if_neg c34] at H
    have c34b0 : (a0_0 == 2) = false := beq_eq_false_iff_ne.mpr c34
    have c34b1 : (a0_0 != 2) = true := bne_iff_ne.mpr c34
    exact impl_Operand_isMem.e1
  ·rw [if_neg c33] at H
   have c33b0 : (a0_3 == (-1)) = false := beq_eq_false_iff_ne.mpr c33
   have c33b1 : (a0_3 != (-1)) = true := bne_iff_ne.mpr c33
   by_cases c56 : a0_4 = 2
   ·rw [if_pos c56] at H
    have c56b0 : (a0_4 == 2) = true := beq_iff_eq.mpr c56
    have c56b1 : (a0_4 != 2) = false := bne_eq_false_iff_eq.mpr c56
    clear c56
    by_cases c57 : a0_0 = 2
    ·rw [if_pos c57] at H
     have c57b0 : (a0_0 == 2) = true := beq_iff_eq.mpr c57
     have c57b1 : (a0_0 != 2) = false := bne_eq_false_iff_eq.mpr c57
     clear c57
     by_cases c58 : a0_1 = 0
     ·rw [if_pos c58] at H
      have c58b0 : (a0_1 == 0) = true := beq_iff_eq.mpr c58
      have c58b1 : (a0_1 != 0) = false := bne_eq_false_iff_eq.mpr c58
      clear c58
      by_cases c59 : a0_6 = 0
      ·rw [if_pos c59] at H
       have c59b0 : (a0_6 == 0) = true := beq_iff_eq.mpr c59
       have c59b1 : (a0_6 != 0) = false := bne_eq_false_iff_eq.mpr c59
       clear c59
       replace H := Option.bind_eq_some_iff.mp H
       obtain ⟨t207, A600, H⟩ := H
       replace H : (if t207 = true then ((impl_within.f a0_3 (-1) 15).bind fun t208 => (if t208 = true then (if a0_3 = 4 then (some false) else (if a0_2 = 16 then (some false) else ((impl_fits.f a0_5 4).bind fun t209 => (some t209)))) else (some false))) else (some false)) = some r := H
       have A60 := Aside0.mk A600
       clear A600
       by_cases c61 : t207 = true
       ·subst c61
        have H1 : ((impl_within.f a0_3 (-1) 15).bind fun t208 => (if t208 = true then (if a0_3 = 4 then (some false) else (if a0_2 = 16 then (some false) else ((impl_fits.f a0_5 4).bind fun t209 => (some t209)))) else (some false))) = some r := by rw [if_pos rfl] at H; exact H
        clear H
        have H := H1
        clear H1
        replace H := Option.bind_eq_some_iff.mp H
        obtain ⟨t208, A620, H⟩ := H
        replace H : (if t208 = true then (if a0_3 = 4 then (some false) else (if a0_2 = 16 then (some false) else ((impl_fits.f a0_5 4).bind fun t209 => (some t209)))) else (some false)) = some r := H
        have A62 := Aside0.mk A620
        clear A620
        by_cases c63 : t208 = true
        ·subst c63
         have H1 : (if a0_3 = 4 then (some false) else (if a0_2 = 16 then (some false) else ((impl_fits.f a0_5 4).bind fun t209 => (some t209)))) = some r := by rw [if_pos rfl] at H; exact H
         clear H
         have H := H1
         clear H1
         by_cases c64 : a0_3 = 4
         ·rw [if_pos c64] at H
          have c64b0 : (a0_3 == 4) = true := beq_iff_eq.mpr c64
          have c64b1 : (a0_3 != 4) = false := bne_eq_false_iff_eq.mpr c64
          clear c64
          exact impl_Operand_isMem.e3
         ·rw [if_neg c64] at H
          have c64b0 : (a0_3 == 4) = false := beq_eq_false_iff_ne.mpr c64
          have c64b1 : (a0_3 != 4) = true := bne_iff_ne.mpr c64
          by_cases c67 : a0_2 = 16
          ·rw [if_pos c67] at H
           have c67b0 : (a0_2 == 16) = true := beq_iff_eq.mpr c67
           have c67b1 : (a0_2 != 16) = false := bne_eq_false_iff_eq.mpr c67
           clear c67
           exact impl_Operand_isMem.e3
          ·rw [if_neg c67] at H
           have c67b0 : (a0_2 == 16) = false := beq_eq_false_iff_ne.mpr c67
           have c67b1 : (a0_2 != 16) = true := bne_iff_ne.mpr c67
           replace H := Option.bind_eq_some_iff.mp H
           obtain ⟨t209, A700, H⟩ := H
           replace H : (some t209) = some r := H
           have A70 := Aside0.mk A700
           clear A700
           obtain rfl := Option.some.inj H
           go_enter Try.func134, Try.ntmps134
           go_wp2_with (first | ((with_reducible refine gate_dst (N := 1) rfl ?_); refine bx28 (w := w) (N := 1) rfl rfl rfl rfl by0 ?_; intro gb200 w71 n0_ BK200 GW200 GE200; clear HB; have HB := n0_; clear n0_; obtain ⟨hcz72_0, hcz72_1, hcz72_2, hcz72_3, hcz72_4, hcz72_5, hcz72_6⟩ := cs7 BK200.out) | (go_at_call 58; (with_reducible refine (impl_within.calls a0_2 (-1) 16 true _ A60.out).mono ?_); rintro e w' ⟨rfl, ⟨nd, rfl⟩⟩) | (go_at_call 58; (with_reducible refine (impl_within.calls a0_3 (-1) 15 true _ A62.out).mono ?_); rintro e w' ⟨rfl, ⟨nd, rfl⟩⟩) | (go_at_call 119; (with_reducible refine (impl_fits.calls a0_5 4 t209 _ A70.out).mono ?_); rintro e w' ⟨rfl, ⟨nd, rfl⟩⟩))
           go_ret
           exact ⟨by first | rfl | (simp [errW_none, errW_some] <;> rfl) | (simp [*, errW_none, errW_some] <;> rfl), by repeat (first | (with_reducible first | exact HB.out | apply below_alloc | apply pw_below_drewN | apply below_drew1 | refine below_set ?_ GE200.out) | exact HB.out)⟩
        ·replace c63 := Bool.eq_false_iff.mpr c63
         subst c63
         have H1 : (some false) = some r := by rw [if_neg (show ¬ (false = true) by decide)] at H; exact H
         clear H
         have H := H1
         clear H1
         obtain rfl := Option.some.inj H
         go_enter Try.func134, Try.ntmps134
         go_wp2_with (first | ((with_reducible refine gate_dst (N := 1) rfl ?_); refine bx28 (w := w) (N := 1) rfl rfl rfl rfl by0 ?_; intro gb200 w73 n0_ BK200 GW200 GE200; clear HB; have HB := n0_; clear n0_; obtain ⟨hcz74_0, hcz74_1, hcz74_2, hcz74_3, hcz74_4, hcz74_5, hcz74_6⟩ := cs7 BK200.out) | (go_at_call 58; (with_reducible refine (impl_within.calls a0_2 (-1) 16 true _ A60.out).mono ?_); rintro e w' ⟨rfl, ⟨nd, rfl⟩⟩) | (go_at_call 58; (with_reducible refine (impl_within.calls a0_3 (-1) 15 false _ A62.out).mono ?_); rintro e w' ⟨rfl, ⟨nd, rfl⟩⟩))
         go_ret
         exact ⟨by first | rfl | (simp [errW_none, errW_some] <;> rfl) | (simp [*, errW_none, errW_some] <;> rfl), by repeat (first | (with_reducible first | exact HB.out | apply below_alloc | apply pw_below_drewN | apply below_drew1 | refine below_set ?_ GE200.out) | exact HB.out)⟩
       ·replace c61 := Bool.eq_false_iff.mpr c61
        subst c61
        have H1 : (some false) = some r := by rw [if_neg (show ¬ (false = true) by decide)] at H; exact H
        clear H
        have H := H1
        clear H1
        obtain rfl := Option.some.inj H
        go_enter Try.func134, Try.ntmps134
        go_wp2_with (first | ((with_reducible refine gate_dst (N := 1) rfl ?_); refine bx28 (w := w) (N := 1) rfl rfl rfl rfl by0 ?_; intro gb200 w75 n0_ BK200 GW200 GE200; clear HB; have HB := n0_; clear n0_; obtain ⟨hcz76_0, hcz76_1, hcz76_2, hcz76_3, hcz76_4, hcz76_5, hcz76_6⟩ := cs7 BK200.out) | (go_at_call 58; (with_reducible refine (impl_within.calls a0_2 (-1) 16 false _ A60.out).mono ?_); rintro e w' ⟨rfl, ⟨nd, rfl⟩⟩))
        go_ret
        exact ⟨by first | rfl | (simp [errW_none, errW_some] <;> rfl) | (simp [*, errW_none, errW_some] <;> rfl), by repeat (first | (with_reducible first | exact HB.out | apply below_alloc | apply pw_below_drewN | apply below_drew1 | refine below_set ?_ GE200.out) | exact HB.out)⟩
      ·rw [if_neg c59] at H
       have c59b0 : (a0_6 == 0) = false := beq_eq_false_iff_ne.mpr c59
       have c59b1 : (a0_6 != 0) = true := bne_iff_ne.mpr c59
       exact impl_Operand_isMem.e1
     ·rw [if_neg c58] at H
      have c58b0 : (a0_1 == 0) = false := beq_eq_false_iff_ne.mpr c58
      have c58b1 : (a0_1 != 0) = true := bne_iff_ne.mpr c58
      exact impl_Operand_isMem.e1
    ·rw [if_neg c57] at H
     have c57b0 : (a0_0 == 2) = false := beq_eq_false_iff_ne.mpr c57
     have c57b1 : (a0_0 != 2) = true := bne_iff_ne.mpr c57
     exact impl_Operand_isMem.e1
   ·rw [if_neg c56] at H
    have c56b0 : (a0_4 == 2) = false := beq_eq_false_iff_ne.mpr c56
    have c56b1 : (a0_4 != 2) = true := bne_iff_ne.mpr c56
    by_cases c83 : a0_4 = 4
    ·rw [if_pos c83] at H
     have c83b0 : (a0_4 == 4) = true := beq_iff_eq.mpr c83
     have c83b1 : (a0_4 != 4) = false := bne_eq_false_iff_eq.mpr c83
     clear c83
     by_cases c84 : a0_0 = 2
     ·rw [if_pos c84] at H
      have c84b0 : (a0_0 == 2) = true := beq_iff_eq.mpr c84
      have c84b1 : (a0_0 != 2) = false := bne_eq_false_iff_eq.mpr c84
      clear c84
      by_cases c85 : a0_1 = 0
      ·rw [if_pos c85] at H
       have c85b0 : (a0_1 == 0) = true := beq_iff_eq.mpr c85
       have c85b1 : (a0_1 != 0) = false := bne_eq_false_iff_eq.mpr c85
       clear c85
       by_cases c86 : a0_6 = 0
       ·rw [if_pos c86] at H
        have c86b0 : (a0_6 == 0) = true := beq_iff_eq.mpr c86
        have c86b1 : (a0_6 != 0) = false := bne_eq_false_iff_eq.mpr c86
        clear c86
        replace H := Option.bind_eq_some_iff.mp H
        obtain ⟨t210, A870, H⟩ := H
        replace H : (if t210 = true then ((impl_within.f a0_3 (-1) 15).bind fun t211 => (if t211 = true then (if a0_3 = 4 then (some false) else (if a0_2 = 16 then (some false) else ((impl_fits.f a0_5 4).bind fun t212 => (some t212)))) else (some false))) else (some false)) = some r := H
        have A87 := Aside0.mk A870
        clear A870
        by_cases c88 : t210 = true
        ·subst c88
         have H1 : ((impl_within.f a0_3 (-1) 15).bind fun t211 => (if t211 = true then (if a0_3 = 4 then (some false) else (if a0_2 = 16 then (some false) else ((impl_fits.f a0_5 4).bind fun t212 => (some t212)))) else (some false))) = some r := by rw [if_pos rfl] at H; exact H
         clear H
         have H := H1
         clear H1
         replace H := Option.bind_eq_some_iff.mp H
         obtain ⟨t211, A890, H⟩ := H
         replace H : (if t211 = true then (if a0_3 = 4 then (some false) else (if a0_2 = 16 then (some false) else ((impl_fits.f a0_5 4).bind fun t212 => (some t212)))) else (some false)) = some r := H
         have A89 := Aside0.mk A890
         clear A890
         by_cases c90 : t211 = true
         ·subst c90
          have H1 : (if a0_3 = 4 then (some false) else (if a0_2 = 16 then (some false) else ((impl_fits.f a0_5 4).bind fun t212 => (some t212)))) = some r := by rw [if_pos rfl] at H; exact H
          clear H
          have H := H1
          clear H1
          by_cases c91 : a0_3 = 4
          ·rw [if_pos c91] at H
           have c91b0 : (a0_3 == 4) = true := beq_iff_eq.mpr c91
           have c91b1 : (a0_3 != 4) = false := bne_eq_false_iff_eq.mpr c91
           clear c91
           exact impl_Operand_isMem.e4
          ·rw [if_neg c91] at H
           have c91b0 : (a0_3 == 4) = false := beq_eq_false_iff_ne.mpr c91
           have c91b1 : (a0_3 != 4) = true := bne_iff_ne.mpr c91
           by_cases c94 : a0_2 = 16
           ·rw [if_pos c94] at H
            have c94b0 : (a0_2 == 16) = true := beq_iff_eq.mpr c94
            have c94b1 : (a0_2 != 16) = false := bne_eq_false_iff_eq.mpr c94
            clear c94
            exact impl_Operand_isMem.e4
           ·rw [if_neg c94] at H
            have c94b0 : (a0_2 == 16) = false := beq_eq_false_iff_ne.mpr c94
            have c94b1 : (a0_2 != 16) = true := bne_iff_ne.mpr c94
            replace H := Option.bind_eq_some_iff.mp H
            obtain ⟨t212, A970, H⟩ := H
            replace H : (some t212) = some r := H
            have A97 := Aside0.mk A970
            clear A970
            obtain rfl := Option.some.inj H
            go_enter Try.func134, Try.ntmps134
            go_wp2_with (first | ((with_reducible refine gate_dst (N := 1) rfl ?_); refine bx28 (w := w) (N := 1) rfl rfl rfl rfl by0 ?_; intro gb200 w98 n0_ BK200 GW200 GE200; clear HB; have HB := n0_; clear n0_; obtain ⟨hcz99_0, hcz99_1, hcz99_2, hcz99_3, hcz99_4, hcz99_5, hcz99_6⟩ := cs7 BK200.out) | (go_at_call 58; (with_reducible refine (impl_within.calls a0_2 (-1) 16 true _ A87.out).mono ?_); rintro e w' ⟨rfl, ⟨nd, rfl⟩⟩) | (go_at_call 58; (with_reducible refine (impl_within.calls a0_3 (-1) 15 true _ A89.out).mono ?_); rintro e w' ⟨rfl, ⟨nd, rfl⟩⟩) | (go_at_call 119; (with_reducible refine (impl_fits.calls a0_5 4 t212 _ A97.out).mono ?_); rintro e w' ⟨rfl, ⟨nd, rfl⟩⟩))
            go_ret
            exact ⟨by first | rfl | (simp [errW_none, errW_some] <;> rfl) | (simp [*, errW_none, errW_some] <;> rfl), by repeat (first | (with_reducible first | exact HB.out | apply below_alloc | apply pw_below_drewN | apply below_drew1 | refine below_set ?_ GE200.out) | exact HB.out)⟩
         ·replace c90 := Bool.eq_false_iff.mpr c90
          subst c90
          have H1 : (some false) = some r := by rw [if_neg (show ¬ (false = true) by decide)] at H; exact H
          clear H
          have H := H1
          clear H1
          obtain rfl := Option.some.inj H
          go_enter Try.func134, Try.ntmps134
          go_wp2_with (first | ((with_reducible refine gate_dst (N := 1) rfl ?_); refine bx28 (w := w) (N := 1) rfl rfl rfl rfl by0 ?_; intro gb200 w100 n0_ BK200 GW200 GE200; clear HB; have HB := n0_; clear n0_; obtain ⟨hcz101_0, hcz101_1, hcz101_2, hcz101_3, hcz101_4, hcz101_5, hcz101_6⟩ := cs7 BK200.out) | (go_at_call 58; (with_reducible refine (impl_within.calls a0_2 (-1) 16 true _ A87.out).mono ?_); rintro e w' ⟨rfl, ⟨nd, rfl⟩⟩) | (go_at_call 58; (with_reducible refine (impl_within.calls a0_3 (-1) 15 false _ A89.out).mono ?_); rintro e w' ⟨rfl, ⟨nd, rfl⟩⟩))
          go_ret
          exact ⟨by first | rfl | (simp [errW_none, errW_some] <;> rfl) | (simp [*, errW_none, errW_some] <;> rfl), by repeat (first | (with_reducible first | exact HB.out | apply below_alloc | apply pw_below_drewN | apply below_drew1 | refine below_set ?_ GE200.out) | exact HB.out)⟩
        ·replace c88 := Bool.eq_false_iff.mpr c88
         subst c88
         have H1 : (some false) = some r := by rw [if_neg (show ¬ (false = true) by decide)] at H; exact H
         clear H
         have H := H1
         clear H1
         obtain rfl := Option.some.inj H
         go_enter Try.func134, Try.ntmps134
         go_wp2_with (first | ((with_reducible refine gate_dst (N := 1) rfl ?_); refine bx28 (w := w) (N := 1) rfl rfl rfl rfl by0 ?_; intro gb200 w102 n0_ BK200 GW200 GE200; clear HB; have HB := n0_; clear n0_; obtain ⟨hcz103_0, hcz103_1, hcz103_2, hcz103_3, hcz103_4, hcz103_5, hcz103_6⟩ := cs7 BK200.out) | (go_at_call 58; (with_reducible refine (impl_within.calls a0_2 (-1) 16 false _ A87.out).mono ?_); rintro e w' ⟨rfl, ⟨nd, rfl⟩⟩))
         go_ret
         exact ⟨by first | rfl | (simp [errW_none, errW_some] <;> rfl) | (simp [*, errW_none, errW_some] <;> rfl), by repeat (first | (with_reducible first | exact HB.out | apply below_alloc | apply pw_below_drewN | apply below_drew1 | refine below_set ?_ GE200.out) | exact HB.out)⟩
       ·rw [if_neg c86] at H
        have c86b0 : (a0_6 == 0) = false := beq_eq_false_iff_ne.mpr c86
        have c86b1 : (a0_6 != 0) = true := bne_iff_ne.mpr c86
        exact impl_Operand_isMem.e1
      ·rw [if_neg c85] at H
       have c85b0 : (a0_1 == 0) = false := beq_eq_false_iff_ne.mpr c85
       have c85b1 : (a0_1 != 0) = true := bne_iff_ne.mpr c85
       exact impl_Operand_isMem.e1
     ·rw [if_neg c84] at H
      have c84b0 : (a0_0 == 2) = false := beq_eq_false_iff_ne.mpr c84
      have c84b1 : (a0_0 != 2) = true := bne_iff_ne.mpr c84
      exact impl_Operand_isMem.e1
    ·rw [if_neg c83] at H
     have c83b0 : (a0_4 == 4) = false := beq_eq_false_iff_ne.mpr c83
     have c83b1 : (a0_4 != 4) = true := bne_iff_ne.mpr c83
     by_cases c110 : a0_0 = 2
     ·rw [if_pos c110] at H
      have c110b0 : (a0_0 == 2) = true := beq_iff_eq.mpr c110
      have c110b1 : (a0_0 != 2) = false := bne_eq_false_iff_eq.mpr c110
      clear c110
      by_cases c111 : a0_1 = 0
      ·rw [if_pos c111] at H
       have c111b0 : (a0_1 == 0) = true := beq_iff_eq.mpr c111
       have c111b1 : (a0_1 != 0) = false := bne_eq_false_iff_eq.mpr c111
       clear c111
       by_cases c112 : a0_6 = 0
       ·rw [if_pos c112] at H
        have c112b0 : (a0_6 == 0) = true := beq_iff_eq.mpr c112
        have c112b1 : (a0_6 != 0) = false := bne_eq_false_iff_eq.mpr c112
        clear c112
        replace H := Option.bind_eq_some_iff.mp H
        obtain ⟨t213, A1130, H⟩ := H
        replace H : (if t213 = true then ((impl_within.f a0_3 (-1) 15).bind fun t214 => (if t214 = true then (if a0_3 = 4 then (some false) else (if a0_4 = 8 then (if a0_2 = 16 then (some false) else ((impl_fits.f a0_5 4).bind fun t215 => (some t215))) else (some false))) else (some false))) else (some false)) = some r := H
        have A113 := Aside0.mk A1130
        clear A1130
        by_cases c114 : t213 = true
        ·subst c114
         have H1 : ((impl_within.f a0_3 (-1) 15).bind fun t214 => (if t214 = true then (if a0_3 = 4 then (some false) else (if a0_4 = 8 then (if a0_2 = 16 then (some false) else ((impl_fits.f a0_5 4).bind fun t215 => (some t215))) else (some false))) else (some false))) = some r := by rw [if_pos rfl] at H; exact H
         clear H
         have H := H1
         clear H1
         replace H := Option.bind_eq_some_iff.mp H
         obtain ⟨t214, A1150, H⟩ := H
         replace H : (if t214 = true then (if a0_3 = 4 then (some false) else (if a0_4 = 8 then (if a0_2 = 16 then (some false) else ((impl_fits.f a0_5 4).bind fun t215 => (some t215))) else (some false))) else (some false)) = some r := H
         have A115 := Aside0.mk A1150
         clear A1150
         by_cases c116 : t214 = true
         ·subst c116
          have H1 : (if a0_3 = 4 then (some false) else (if a0_4 = 8 then (if a0_2 = 16 then (some false) else ((impl_fits.f a0_5 4).bind fun t215 => (some t215))) else (some false))) = some r := by rw [if_pos rfl] at H; exact H
          clear H
          have H := H1
          clear H1
          by_cases c117 : a0_3 = 4
          ·rw [if_pos c117] at H
           have c117b0 : (a0_3 == 4) = true := beq_iff_eq.mpr c117
           have c117b1 : (a0_3 != 4) = false := bne_eq_false_iff_eq.mpr c117
           clear c117
           exact impl_Operand_isMem.e5
          ·rw [if_neg c117] at H
           have c117b0 : (a0_3 == 4) = false := beq_eq_false_iff_ne.mpr c117
           have c117b1 : (a0_3 != 4) = true := bne_iff_ne.mpr c117
           by_cases c120 : a0_4 = 8
           ·rw [if_pos c120] at H
            have c120b0 : (a0_4 == 8) = true := beq_iff_eq.mpr c120
            have c120b1 : (a0_4 != 8) = false := bne_eq_false_iff_eq.mpr c120
            clear c120
            by_cases c121 : a0_2 = 16
            ·rw [if_pos c121] at H
             have c121b0 : (a0_2 == 16) = true := beq_iff_eq.mpr c121
             have c121b1 : (a0_2 != 16) = false := bne_eq_false_iff_eq.mpr c121
             clear c121
             exact impl_Operand_isMem.e5
            ·rw [if_neg c121] at H
             have c121b0 : (a0_2 == 16) = false := beq_eq_false_iff_ne.mpr c121
             have c121b1 : (a0_2 != 16) = true := bne_iff_ne.mpr c121
             replace H := Option.bind_eq_some_iff.mp H
             obtain ⟨t215, A1240, H⟩ := H
             replace H : (some t215) = some r := H
             have A124 := Aside0.mk A1240
             clear A1240
             obtain rfl := Option.some.inj H
             go_enter Try.func134, Try.ntmps134
             go_wp2_with (first | ((with_reducible refine gate_dst (N := 1) rfl ?_); refine bx28 (w := w) (N := 1) rfl rfl rfl rfl by0 ?_; intro gb200 w125 n0_ BK200 GW200 GE200; clear HB; have HB := n0_; clear n0_; obtain ⟨hcz126_0, hcz126_1, hcz126_2, hcz126_3, hcz126_4, hcz126_5, hcz126_6⟩ := cs7 BK200.out) | (go_at_call 58; (with_reducible refine (impl_within.calls a0_2 (-1) 16 true _ A113.out).mono ?_); rintro e w' ⟨rfl, ⟨nd, rfl⟩⟩) | (go_at_call 58; (with_reducible refine (impl_within.calls a0_3 (-1) 15 true _ A115.out).mono ?_); rintro e w' ⟨rfl, ⟨nd, rfl⟩⟩) | (go_at_call 119; (with_reducible refine (impl_fits.calls a0_5 4 t215 _ A124.out).mono ?_); rintro e w' ⟨rfl, ⟨nd, rfl⟩⟩))
             go_ret
             exact ⟨by first | rfl | (simp [errW_none, errW_some] <;> rfl) | (simp [*, errW_none, errW_some] <;> rfl), by repeat (first | (with_reducible first | exact HB.out | apply below_alloc | apply pw_below_drewN | apply below_drew1 | refine below_set ?_ GE200.out) | exact HB.out)⟩
           ·rw [if_neg c120] at H
            have c120b0 : (a0_4 == 8) = false := beq_eq_false_iff_ne.mpr c120
            have c120b1 : (a0_4 != 8) = true := bne_iff_ne.mpr c120
            exact impl_Operand_isMem.e5
         ·replace c116 := Bool.eq_false_iff.mpr c116
          subst c116
          have H1 : (some false) = some r := by rw [if_neg (show ¬ (false = true) by decide)] at H; exact H
          clear H
          have H := H1
          clear H1
          obtain rfl := Option.some.inj H
          go_enter Try.func134, Try.ntmps134
          go_wp2_with (first | ((with_reducible refine gate_dst (N := 1) rfl ?_); refine bx28 (w := w) (N := 1) rfl rfl rfl rfl by0 ?_; intro gb200 w129 n0_ BK200 GW200 GE200; clear HB; have HB := n0_; clear n0_; obtain ⟨hcz130_0, hcz130_1, hcz130_2, hcz130_3, hcz130_4, hcz130_5, hcz130_6⟩ := cs7 BK200.out) | (go_at_call 58; (with_reducible refine (impl_within.calls a0_2 (-1) 16 true _ A113.out).mono ?_); rintro e w' ⟨rfl, ⟨nd, rfl⟩⟩) | (go_at_call 58; (with_reducible refine (impl_within.calls a0_3 (-1) 15 false _ A115.out).mono ?_); rintro e w' ⟨rfl, ⟨nd, rfl⟩⟩))
          go_ret
          exact ⟨by first | rfl | (simp [errW_none, errW_some] <;> rfl) | (simp [*, errW_none, errW_some] <;> rfl), by repeat (first | (with_reducible first | exact HB.out | apply below_alloc | apply pw_below_drewN | apply below_drew1 | refine below_set ?_ GE200.out) | exact HB.out)⟩
        ·replace c114 := Bool.eq_false_iff.mpr c114
         subst c114
         have H1 : (some false) = some r := by rw [if_neg (show ¬ (false = true) by decide)] at H; exact H
         clear H
         have H := H1
         clear H1
         obtain rfl := Option.some.inj H
         go_enter Try.func134, Try.ntmps134
         go_wp2_with (first | ((with_reducible refine gate_dst (N := 1) rfl ?_); refine bx28 (w := w) (N := 1) rfl rfl rfl rfl by0 ?_; intro gb200 w131 n0_ BK200 GW200 GE200; clear HB; have HB := n0_; clear n0_; obtain ⟨hcz132_0, hcz132_1, hcz132_2, hcz132_3, hcz132_4, hcz132_5, hcz132_6⟩ := cs7 BK200.out) | (go_at_call 58; (with_reducible refine (impl_within.calls a0_2 (-1) 16 false _ A113.out).mono ?_); rintro e w' ⟨rfl, ⟨nd, rfl⟩⟩))
         go_ret
         exact ⟨by first | rfl | (simp [errW_none, errW_some] <;> rfl) | (simp [*, errW_none, errW_some] <;> rfl), by repeat (first | (with_reducible first | exact HB.out | apply below_alloc | apply pw_below_drewN | apply below_drew1 | refine below_set ?_ GE200.out) | exact HB.out)⟩
       ·rw [if_neg c112] at H
        have c112b0 : (a0_6 == 0) = false := beq_eq_false_iff_ne.mpr c112
        have c112b1 : (a0_6 != 0) = true := bne_iff_ne.mpr c112
        exact impl_Operand_isMem.e1
      ·rw [if_neg c111] at H
       have c111b0 : (a0_1 == 0) = false := beq_eq_false_iff_ne.mpr c111
       have c111b1 : (a0_1 != 0) = true := bne_iff_ne.mpr c111
       exact impl_Operand_isMem.e1
     ·rw [if_neg c110] at H
      have c110b0 : (a0_0 == 2) = false := beq_eq_false_iff_ne.mpr c110
      have c110b1 : (a0_0 != 2) = true := bne_iff_ne.mpr c110
      exact impl_Operand_isMem.e1

end Go.Proofs.Ytonogadabgilfaa.PFnExactBaseAddOf

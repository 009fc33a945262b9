/- Laid by a program of this session (patch_print.py) out of the translation: plain functions and what the calls do. No condition. -/
import Derived.Test.YtonogadabgilfaaPFnExactMaskOfx0
import Derived.Test.YtonogadabgilfaaPFnExactMaskOfx7
import Derived.Test.YtonogadabgilfaaPFnExactMaskOfx9
namespace Go.Proofs.Ytonogadabgilfaa.PFnExactMaskOf
open Go.RowKit Go.Proofs.YtonogadabgilfaaW.PrintWords Go.Proofs.YtonogadabgilfaaW.PrintLast Go.Proofs.YtonogadabgilfaaW.PrintMore
attribute [local go_sem] max2_int min2_int max_two min_two max_three min_three max_four min_four   -- for this text's walks alone
set_option linter.unusedVariables false
set_option linter.unusedSimpArgs false

/-! ### impl_Operand_isMem: function 134 -/
def impl_Operand_isMem.f (a0_0 : Int) (a0_1 : Int) (a0_2 : Int) (a0_3 : Int) (a0_4 : Int) (a0_5 : Int) (a0_6 : Int) : Option (Bool) := if a0_4 = 1 then (if a0_0 = 2 then (if a0_1 = 0 then (if a0_6 = 0 then ((impl_within.f a0_2 (-1) 16).bind fun t202 => (if t202 = true then ((impl_within.f a0_3 (-1) 15).bind fun t203 => (if t203 = true then (if a0_3 = 4 then (some false) else (if a0_2 = 16 then (if a0_3 = (-1) then ((impl_fits.f a0_5 4).bind fun t204 => (some t204)) else (some false)) else ((impl_fits.f a0_5 4).bind fun t205 => (some t205)))) else (some false))) else (some false))) else (some false)) else (some false)) else (some false)) else (if a0_3 = (-1) then (if a0_0 = 2 then (if a0_1 = 0 then (if a0_6 = 0 then ((impl_within.f a0_2 (-1) 16).bind fun t206 => (if t206 = true then ((impl_within.f a0_3 (-1) 15).bind fun t207 => (if t207 = true then (if a0_3 = 4 then (some false) else (some false)) else (some false))) else (some false))) else (some false)) else (some false)) else (some false)) else (if a0_4 = 2 then (if a0_0 = 2 then (if a0_1 = 0 then (if a0_6 = 0 then ((impl_within.f a0_2 (-1) 16).bind fun t208 => (if t208 = true then ((impl_within.f a0_3 (-1) 15).bind fun t209 => (if t209 = true then (if a0_3 = 4 then (some false) else (if a0_2 = 16 then (some false) else ((impl_fits.f a0_5 4).bind fun t210 => (some t210)))) else (some false))) else (some false))) else (some false)) else (some false)) else (some false)) else (if a0_4 = 4 then (if a0_0 = 2 then (if a0_1 = 0 then (if a0_6 = 0 then ((impl_within.f a0_2 (-1) 16).bind fun t211 => (if t211 = true then ((impl_within.f a0_3 (-1) 15).bind fun t212 => (if t212 = true then (if a0_3 = 4 then (some false) else (if a0_2 = 16 then (some false) else ((impl_fits.f a0_5 4).bind fun t213 => (some t213)))) else (some false))) else (some false))) else (some false)) else (some false)) else (some false)) else (if a0_0 = 2 then (if a0_1 = 0 then (if a0_6 = 0 then ((impl_within.f a0_2 (-1) 16).bind fun t214 => (if t214 = true then ((impl_within.f a0_3 (-1) 15).bind fun t215 => (if t215 = true then (if a0_3 = 4 then (some false) else (if a0_4 = 8 then (if a0_2 = 16 then (some false) else ((impl_fits.f a0_5 4).bind fun t216 => (some t216))) else (some false))) else (some false))) else (some false))) else (some false)) else (some false)) else (some false)))))
theorem impl_Operand_isMem.e0 {p : Prop} (h : p := by
 obtain rfl := Option.some.inj H
 go_enter Try.func134, Try.ntmps134
 go_wp2_with (first | ((with_reducible refine gate_dst (N := 1) rfl ?_); refine box_event ?hg (N := 1) ?hd (cs := #[.int .i64 a0_0, .int .i64 a0_1, .int .i64 a0_2, .int .i64 a0_3, .int .i64 a0_4, .int .i64 a0_5, .int .i64 a0_6]) (t := 28) ?hr ?_; (case hd => rfl); (case hg => rfl); (case hr => first | (go_simp; done) | (go_simp; rfl)); intro gb_y0 hg w_y1 hbox hb; have n_y2 := Aside0.mk (below_step by1 hb); have n_y3 := Aside0.mk (hbox); have n_y4 := Aside0.mk ((by0 : w.heap.size ≤ gb_y0)); have n_y5 := Aside0.mk ((by0 : w.heap.size ≤ gb_y0)); clear HB; have HB := n_y2; have BK_y6 := n_y3; have GW_y7 := n_y4; have GE_y8 := n_y5; clear n_y2 n_y3 n_y4 n_y5; clear hb hbox hg; have hcz_y9 := cz BK_y6.out 0 (.int .i64 a0_0); have hcz_y10 := cz BK_y6.out 1 (.int .i64 a0_1); have hcz_y11 := cz BK_y6.out 2 (.int .i64 a0_2); have hcz_y12 := cz BK_y6.out 3 (.int .i64 a0_3); have hcz_y13 := cz BK_y6.out 4 (.int .i64 a0_4); have hcz_y14 := cz BK_y6.out 5 (.int .i64 a0_5); have hcz_y15 := cz BK_y6.out 6 (.int .i64 a0_6)) | (go_at_call 58; (with_reducible refine (impl_within.calls a0_2 (-1) 16 true _ A6.out).mono ?_); rintro e w' ⟨rfl, ⟨nd, rfl⟩⟩) | (go_at_call 58; (with_reducible refine (impl_within.calls a0_3 (-1) 15 true _ A8.out).mono ?_); rintro e w' ⟨rfl, ⟨nd, rfl⟩⟩))
 go_ret
 exact ⟨by first | rfl | (simp [errW_none, errW_some] <;> rfl) | (simp [*, errW_none, errW_some] <;> rfl), by repeat (first | (with_reducible first | exact HB.out | apply below_alloc | apply pw_below_drewN | apply below_drew1 | refine below_set ?_ GE_y8.out) | exact HB.out)⟩) : p := h
theorem impl_Operand_isMem.e1 {p : Prop} (h : p := by
 obtain rfl := Option.some.inj H
 go_enter Try.func134, Try.ntmps134
 go_wp2_with (first | ((with_reducible refine gate_dst (N := 1) rfl ?_); refine box_event ?hg (N := 1) ?hd (cs := #[.int .i64 a0_0, .int .i64 a0_1, .int .i64 a0_2, .int .i64 a0_3, .int .i64 a0_4, .int .i64 a0_5, .int .i64 a0_6]) (t := 28) ?hr ?_; (case hd => rfl); (case hg => rfl); (case hr => first | (go_simp; done) | (go_simp; rfl)); intro gb_y0 hg w_y1 hbox hb; have n_y2 := Aside0.mk (below_step by1 hb); have n_y3 := Aside0.mk (hbox); have n_y4 := Aside0.mk ((by0 : w.heap.size ≤ gb_y0)); have n_y5 := Aside0.mk ((by0 : w.heap.size ≤ gb_y0)); clear HB; have HB := n_y2; have BK_y6 := n_y3; have GW_y7 := n_y4; have GE_y8 := n_y5; clear n_y2 n_y3 n_y4 n_y5; clear hb hbox hg; have hcz_y9 := cz BK_y6.out 0 (.int .i64 a0_0); have hcz_y10 := cz BK_y6.out 1 (.int .i64 a0_1); have hcz_y11 := cz BK_y6.out 2 (.int .i64 a0_2); have hcz_y12 := cz BK_y6.out 3 (.int .i64 a0_3); have hcz_y13 := cz BK_y6.out 4 (.int .i64 a0_4); have hcz_y14 := cz BK_y6.out 5 (.int .i64 a0_5); have hcz_y15 := cz BK_y6.out 6 (.int .i64 a0_6)))
 go_ret
 exact ⟨by first | rfl | (simp [errW_none, errW_some] <;> rfl) | (simp [*, errW_none, errW_some] <;> rfl), by repeat (first | (with_reducible first | exact HB.out | apply below_alloc | apply pw_below_drewN | apply below_drew1 | refine below_set ?_ GE_y8.out) | exact HB.out)⟩) : p := h
theorem impl_Operand_isMem.e2 {p : Prop} (h : p := by
 obtain rfl := Option.some.inj H
 go_enter Try.func134, Try.ntmps134
 go_wp2_with (first | ((with_reducible refine gate_dst (N := 1) rfl ?_); refine box_event ?hg (N := 1) ?hd (cs := #[.int .i64 a0_0, .int .i64 a0_1, .int .i64 a0_2, .int .i64 a0_3, .int .i64 a0_4, .int .i64 a0_5, .int .i64 a0_6]) (t := 28) ?hr ?_; (case hd => rfl); (case hg => rfl); (case hr => first | (go_simp; done) | (go_simp; rfl)); intro gb_y0 hg w_y1 hbox hb; have n_y2 := Aside0.mk (below_step by1 hb); have n_y3 := Aside0.mk (hbox); have n_y4 := Aside0.mk ((by0 : w.heap.size ≤ gb_y0)); have n_y5 := Aside0.mk ((by0 : w.heap.size ≤ gb_y0)); clear HB; have HB := n_y2; have BK_y6 := n_y3; have GW_y7 := n_y4; have GE_y8 := n_y5; clear n_y2 n_y3 n_y4 n_y5; clear hb hbox hg; have hcz_y9 := cz BK_y6.out 0 (.int .i64 a0_0); have hcz_y10 := cz BK_y6.out 1 (.int .i64 a0_1); have hcz_y11 := cz BK_y6.out 2 (.int .i64 a0_2); have hcz_y12 := cz BK_y6.out 3 (.int .i64 a0_3); have hcz_y13 := cz BK_y6.out 4 (.int .i64 a0_4); have hcz_y14 := cz BK_y6.out 5 (.int .i64 a0_5); have hcz_y15 := cz BK_y6.out 6 (.int .i64 a0_6)) | (go_at_call 58; (with_reducible refine (impl_within.calls a0_2 (-1) 16 true _ A37.out).mono ?_); rintro e w' ⟨rfl, ⟨nd, rfl⟩⟩) | (go_at_call 58; (with_reducible refine (impl_within.calls a0_3 (-1) 15 true _ A39.out).mono ?_); rintro e w' ⟨rfl, ⟨nd, rfl⟩⟩))
 go_ret
 exact ⟨by first | rfl | (simp [errW_none, errW_some] <;> rfl) | (simp [*, errW_none, errW_some] <;> rfl), by repeat (first | (with_reducible first | exact HB.out | apply below_alloc | apply pw_below_drewN | apply below_drew1 | refine below_set ?_ GE_y8.out) | exact HB.out)⟩) : p := h
theorem impl_Operand_isMem.e3 {p : Prop} (h : p := by
 obtain rfl := Option.some.inj H
 go_enter Try.func134, Try.ntmps134
 go_wp2_with (first | ((with_reducible refine gate_dst (N := 1) rfl ?_); refine box_event ?hg (N := 1) ?hd (cs := #[.int .i64 a0_0, .int .i64 a0_1, .int .i64 a0_2, .int .i64 a0_3, .int .i64 a0_4, .int .i64 a0_5, .int .i64 a0_6]) (t := 28) ?hr ?_; (case hd => rfl); (case hg => rfl); (case hr => first | (go_simp; done) | (go_simp; rfl)); intro gb_y0 hg w_y1 hbox hb; have n_y2 := Aside0.mk (below_step by1 hb); have n_y3 := Aside0.mk (hbox); have n_y4 := Aside0.mk ((by0 : w.heap.size ≤ gb_y0)); have n_y5 := Aside0.mk ((by0 : w.heap.size ≤ gb_y0)); clear HB; have HB := n_y2; have BK_y6 := n_y3; have GW_y7 := n_y4; have GE_y8 := n_y5; clear n_y2 n_y3 n_y4 n_y5; clear hb hbox hg; have hcz_y9 := cz BK_y6.out 0 (.int .i64 a0_0); have hcz_y10 := cz BK_y6.out 1 (.int .i64 a0_1); have hcz_y11 := cz BK_y6.out 2 (.int .i64 a0_2); have hcz_y12 := cz BK_y6.out 3 (.int .i64 a0_3); have hcz_y13 := cz BK_y6.out 4 (.int .i64 a0_4); have hcz_y14 := cz BK_y6.out 5 (.int .i64 a0_5); have hcz_y15 := cz BK_y6.out 6 (.int .i64 a0_6)) | (go_at_call 58; (with_reducible refine (impl_within.calls a0_2 (-1) 16 true _ A60.out).mono ?_); rintro e w' ⟨rfl, ⟨nd, rfl⟩⟩) | (go_at_call 58; (with_reducible refine (impl_within.calls a0_3 (-1) 15 true _ A62.out).mono ?_); rintro e w' ⟨rfl, ⟨nd, rfl⟩⟩))
 go_ret
 exact ⟨by first | rfl | (simp [errW_none, errW_some] <;> rfl) | (simp [*, errW_none, errW_some] <;> rfl), by repeat (first | (with_reducible first | exact HB.out | apply below_alloc | apply pw_below_drewN | apply below_drew1 | refine below_set ?_ GE_y8.out) | exact HB.out)⟩) : p := h
theorem impl_Operand_isMem.e4 {p : Prop} (h : p := by
 obtain rfl := Option.some.inj H
 go_enter Try.func134, Try.ntmps134
 go_wp2_with (first | ((with_reducible refine gate_dst (N := 1) rfl ?_); refine box_event ?hg (N := 1) ?hd (cs := #[.int .i64 a0_0, .int .i64 a0_1, .int .i64 a0_2, .int .i64 a0_3, .int .i64 a0_4, .int .i64 a0_5, .int .i64 a0_6]) (t := 28) ?hr ?_; (case hd => rfl); (case hg => rfl); (case hr => first | (go_simp; done) | (go_simp; rfl)); intro gb_y0 hg w_y1 hbox hb; have n_y2 := Aside0.mk (below_step by1 hb); have n_y3 := Aside0.mk (hbox); have n_y4 := Aside0.mk ((by0 : w.heap.size ≤ gb_y0)); have n_y5 := Aside0.mk ((by0 : w.heap.size ≤ gb_y0)); clear HB; have HB := n_y2; have BK_y6 := n_y3; have GW_y7 := n_y4; have GE_y8 := n_y5; clear n_y2 n_y3 n_y4 n_y5; clear hb hbox hg; have hcz_y9 := cz BK_y6.out 0 (.int .i64 a0_0); have hcz_y10 := cz BK_y6.out 1 (.int .i64 a0_1); have hcz_y11 := cz BK_y6.out 2 (.int .i64 a0_2); have hcz_y12 := cz BK_y6.out 3 (.int .i64 a0_3); have hcz_y13 := cz BK_y6.out 4 (.int .i64 a0_4); have hcz_y14 := cz BK_y6.out 5 (.int .i64 a0_5); have hcz_y15 := cz BK_y6.out 6 (.int .i64 a0_6)) | (go_at_call 58; (with_reducible refine (impl_within.calls a0_2 (-1) 16 true _ A87.out).mono ?_); rintro e w' ⟨rfl, ⟨nd, rfl⟩⟩) | (go_at_call 58; (with_reducible refine (impl_within.calls a0_3 (-1) 15 true _ A89.out).mono ?_); rintro e w' ⟨rfl, ⟨nd, rfl⟩⟩))
 go_ret
 exact ⟨by first | rfl | (simp [errW_none, errW_some] <;> rfl) | (simp [*, errW_none, errW_some] <;> rfl), by repeat (first | (with_reducible first | exact HB.out | apply below_alloc | apply pw_below_drewN | apply below_drew1 | refine below_set ?_ GE_y8.out) | exact HB.out)⟩) : p := h
theorem impl_Operand_isMem.e5 {p : Prop} (h : p := by
 obtain rfl := Option.some.inj H
 go_enter Try.func134, Try.ntmps134
 go_wp2_with (first | ((with_reducible refine gate_dst (N := 1) rfl ?_); refine box_event ?hg (N := 1) ?hd (cs := #[.int .i64 a0_0, .int .i64 a0_1, .int .i64 a0_2, .int .i64 a0_3, .int .i64 a0_4, .int .i64 a0_5, .int .i64 a0_6]) (t := 28) ?hr ?_; (case hd => rfl); (case hg => rfl); (case hr => first | (go_simp; done) | (go_simp; rfl)); intro gb_y0 hg w_y1 hbox hb; have n_y2 := Aside0.mk (below_step by1 hb); have n_y3 := Aside0.mk (hbox); have n_y4 := Aside0.mk ((by0 : w.heap.size ≤ gb_y0)); have n_y5 := Aside0.mk ((by0 : w.heap.size ≤ gb_y0)); clear HB; have HB := n_y2; have BK_y6 := n_y3; have GW_y7 := n_y4; have GE_y8 := n_y5; clear n_y2 n_y3 n_y4 n_y5; clear hb hbox hg; have hcz_y9 := cz BK_y6.out 0 (.int .i64 a0_0); have hcz_y10 := cz BK_y6.out 1 (.int .i64 a0_1); have hcz_y11 := cz BK_y6.out 2 (.int .i64 a0_2); have hcz_y12 := cz BK_y6.out 3 (.int .i64 a0_3); have hcz_y13 := cz BK_y6.out 4 (.int .i64 a0_4); have hcz_y14 := cz BK_y6.out 5 (.int .i64 a0_5); have hcz_y15 := cz BK_y6.out 6 (.int .i64 a0_6)) | (go_at_call 58; (with_reducible refine (impl_within.calls a0_2 (-1) 16 true _ A113.out).mono ?_); rintro e w' ⟨rfl, ⟨nd, rfl⟩⟩) | (go_at_call 58; (with_reducible refine (impl_within.calls a0_3 (-1) 15 true _ A115.out).mono ?_); rintro e w' ⟨rfl, ⟨nd, rfl⟩⟩))
 go_ret
 exact ⟨by first | rfl | (simp [errW_none, errW_some] <;> rfl) | (simp [*, errW_none, errW_some] <;> rfl), by repeat (first | (with_reducible first | exact HB.out | apply below_alloc | apply pw_below_drewN | apply below_drew1 | refine below_set ?_ GE_y8.out) | exact HB.out)⟩) : p := h
set_option maxHeartbeats 8000000 in
set_option maxRecDepth 100000 in
theorem impl_Operand_isMem.calls (a0_0 : Int) (a0_1 : Int) (a0_2 : Int) (a0_3 : Int) (a0_4 : Int) (a0_5 : Int) (a0_6 : Int) (r : Bool) (w : World) (h : impl_Operand_isMem.f a0_0 a0_1 a0_2 a0_3 a0_4 a0_5 a0_6 = some r) :
  Calls Try.prog 134 #[.agg #[.int .i64 a0_0, .int .i64 a0_1, .int .i64 a0_2, .int .i64 a0_3, .int .i64 a0_4, .int .i64 a0_5, .int .i64 a0_6]] w fun e w' => e = .returned (.bool r) ∧ Below w.heap.size w w' := by
 have hu28 := Try.underlying28
 have HB := Aside0.mk (Below.refl w.heap.size w)
 have H : (if a0_4 = 1 then (if a0_0 = 2 then (if a0_1 = 0 then (if a0_6 = 0 then ((impl_within.f a0_2 (-1) 16).bind fun t202 => (if t202 = true then ((impl_within.f a0_3 (-1) 15).bind fun t203 => (if t203 = true then (if a0_3 = 4 then (some false) else (if a0_2 = 16 then (if a0_3 = (-1) then ((impl_fits.f a0_5 4).bind fun t204 => (some t204)) else (some false)) else ((impl_fits.f a0_5 4).bind fun t205 => (some t205)))) else (some false))) else (some false))) else (some false)) else (some false)) else (some false)) else (if a0_3 = (-1) then (if a0_0 = 2 then (if a0_1 = 0 then (if a0_6 = 0 then ((impl_within.f a0_2 (-1) 16).bind fun t206 => (if t206 = true then ((impl_within.f a0_3 (-1) 15).bind fun t207 => (if t207 = true then (if a0_3 = 4 then (some false) else (some false)) else (some false))) else (some false))) else (some false)) else (some false)) else (some false)) else (if a0_4 = 2 then (if a0_0 = 2 then (if a0_1 = 0 then (if a0_6 = 0 then ((impl_within.f a0_2 (-1) 16).bind fun t208 => (if t208 = true then ((impl_within.f a0_3 (-1) 15).bind fun t209 => (if t209 = true then (if a0_3 = 4 then (some false) else (if a0_2 = 16 then (some false) else ((impl_fits.f a0_5 4).bind fun t210 => (some t210)))) else (some false))) else (some false))) else (some false)) else (some false)) else (some false)) else (if a0_4 = 4 then (if a0_0 = 2 then (if a0_1 = 0 then (if a0_6 = 0 then ((impl_within.f a0_2 (-1) 16).bind fun t211 => (if t211 = true then ((impl_within.f a0_3 (-1) 15).bind fun t212 => (if t212 = true then (if a0_3 = 4 then (some false) else (if a0_2 = 16 then (some false) else ((impl_fits.f a0_5 4).bind fun t213 => (some t213)))) else (some false))) else (some false))) else (some false)) else (some false)) else (some false)) else (if a0_0 = 2 then (if a0_1 = 0 then (if a0_6 = 0 then ((impl_within.f a0_2 (-1) 16).bind fun t214 => (if t214 = true then ((impl_within.f a0_3 (-1) 15).bind fun t215 => (if t215 = true then (if a0_3 = 4 then (some false) else (if a0_4 = 8 then (if a0_2 = 16 then (some false) else ((impl_fits.f a0_5 4).bind fun t216 => (some t216))) else (some false))) else (some false))) else (some false))) else (some false)) else (some false)) else (some false)))))) = some r := h
 clear h
 by_cases c2 : a0_4 = 1
 ·rw [if_pos c2] at H
  have c2b0 : (a0_4 == 1) = true := beq_iff_eq.mpr c2
  have c2b1 : (a0_4 != 1) = false := bne_eq_false_iff_eq.mpr c2
  clear c2
  by_cases c3 : a0_0 = 2
  ·rw [if_pos c3] at H
   have c3b0 : (a0_0 == 2) = true := beq_iff_eq.mpr c3
   have c3b1 : (a0_0 != 2) = false := bne_eq_false_iff_eq.mpr c3
   clear c3
   by_cases c4 : a0_1 = 0
   ·rw [if_pos c4] at H
    have c4b0 : (a0_1 == 0) = true := beq_iff_eq.mpr c4
    have c4b1 : (a0_1 != 0) = false := bne_eq_false_iff_eq.mpr c4
    clear c4
    by_cases c5 : a0_6 = 0
    ·rw [if_pos c5] at H
     have c5b0 : (a0_6 == 0) = true := beq_iff_eq.mpr c5
     have c5b1 : (a0_6 != 0) = false := bne_eq_false_iff_eq.mpr c5
     clear c5
     replace H := Option.bind_eq_some_iff.mp H
     obtain ⟨t202, A60, H⟩ := H
     replace H : (if t202 = true then ((impl_within.f a0_3 (-1) 15).bind fun t203 => (if t203 = true then (if a0_3 = 4 then (some false) else (if a0_2 = 16 then (if a0_3 = (-1) then ((impl_fits.f a0_5 4).bind fun t204 => (some t204)) else (some false)) else ((impl_fits.f a0_5 4).bind fun t205 => (some t205)))) else (some false))) else (some false)) = some r := H
     have A6 := Aside0.mk A60
     clear A60
     by_cases c7 : t202 = true
     ·subst c7
      have H1 : ((impl_within.f a0_3 (-1) 15).bind fun t203 => (if t203 = true then (if a0_3 = 4 then (some false) else (if a0_2 = 16 then (if a0_3 = (-1) then ((impl_fits.f a0_5 4).bind fun t204 => (some t204)) else (some false)) else ((impl_fits.f a0_5 4).bind fun t205 => (some t205)))) else (some false))) = some r := by rw [if_pos rfl] at H; exact H
      clear H
      have H := H1
      clear H1
      replace H := Option.bind_eq_some_iff.mp H
      obtain ⟨t203, A80, H⟩ := H
      replace H : (if t203 = true then (if a0_3 = 4 then (some false) else (if a0_2 = 16 then (if a0_3 = (-1) then ((impl_fits.f a0_5 4).bind fun t204 => (some t204)) else (some false)) else ((impl_fits.f a0_5 4).bind fun t205 => (some t205)))) else (some false)) = some r := H
      have A8 := Aside0.mk A80
      clear A80
      by_cases c9 : t203 = true
      ·subst c9
       have H1 : (if a0_3 = 4 then (some false) else (if a0_2 = 16 then (if a0_3 = (-1) then ((impl_fits.f a0_5 4).bind fun t204 => (some t204)) else (some false)) else ((impl_fits.f a0_5 4).bind fun t205 => (some t205)))) = some r := by rw [if_pos rfl] at H; exact H
       clear H
       have H := H1
       clear H1
       by_cases c10 : a0_3 = 4
       ·rw [if_pos c10] at H
        have c10b0 : (a0_3 == 4) = true := beq_iff_eq.mpr c10
        have c10b1 : (a0_3 != 4) = false := bne_eq_false_iff_eq.mpr c10
        clear c10
        exact impl_Operand_isMem.e0
       ·rw [if_neg c10] at H
        have c10b0 : (a0_3 == 4) = false := beq_eq_false_iff_ne.mpr c10
        have c10b1 : (a0_3 != 4) = true := bne_iff_ne.mpr c10
        by_cases c13 : a0_2 = 16
        ·rw [if_pos c13] at H
         have c13b0 : (a0_2 == 16) = true := beq_iff_eq.mpr c13
         have c13b1 : (a0_2 != 16) = false := bne_eq_false_iff_eq.mpr c13
         clear c13
         by_cases c14 : a0_3 = (-1)
         ·rw [if_pos c14] at H
          have c14b0 : (a0_3 == (-1)) = true := beq_iff_eq.mpr c14
          have c14b1 : (a0_3 != (-1)) = false := bne_eq_false_iff_eq.mpr c14
          clear c14
          replace H := Option.bind_eq_some_iff.mp H
          obtain ⟨t204, A150, H⟩ := H
          replace H : (some t204) = some r := H
          have A15 := Aside0.mk A150
          clear A150
          obtain rfl := Option.some.inj H
          go_enter Try.func134, Try.ntmps134
          go_wp2_with (first | ((with_reducible refine gate_dst (N := 1) rfl ?_); refine box_event ?hg (N := 1) ?hd (cs := #[.int .i64 a0_0, .int .i64 a0_1, .int .i64 a0_2, .int .i64 a0_3, .int .i64 a0_4, .int .i64 a0_5, .int .i64 a0_6]) (t := 28) ?hr ?_; (case hd => rfl); (case hg => rfl); (case hr => first | (go_simp; done) | (go_simp; rfl)); intro gb201 hg w16 hbox hb; have n0_ := Aside0.mk (below_step by1 hb); have n1_ := Aside0.mk (hbox); have n2_ := Aside0.mk ((by0 : w.heap.size ≤ gb201)); have n3_ := Aside0.mk ((by0 : w.heap.size ≤ gb201)); clear HB; have HB := n0_; have BK201 := n1_; have GW201 := n2_; have GE201 := n3_; clear n0_ n1_ n2_ n3_; clear hb hbox hg; have hcz17_0 := cz BK201.out 0 (.int .i64 a0_0); have hcz17_1 := cz BK201.out 1 (.int .i64 a0_1); have hcz17_2 := cz BK201.out 2 (.int .i64 a0_2); have hcz17_3 := cz BK201.out 3 (.int .i64 a0_3); have hcz17_4 := cz BK201.out 4 (.int .i64 a0_4); have hcz17_5 := cz BK201.out 5 (.int .i64 a0_5); have hcz17_6 := cz BK201.out 6 (.int .i64 a0_6)) | (go_at_call 58; (with_reducible refine (impl_within.calls a0_2 (-1) 16 true _ A6.out).mono ?_); rintro e w' ⟨rfl, ⟨nd, rfl⟩⟩) | (go_at_call 58; (with_reducible refine (impl_within.calls a0_3 (-1) 15 true _ A8.out).mono ?_); rintro e w' ⟨rfl, ⟨nd, rfl⟩⟩) | (go_at_call 119; (with_reducible refine (impl_fits.calls a0_5 4 t204 _ A15.out).mono ?_); rintro e w' ⟨rfl, ⟨nd, rfl⟩⟩))
          go_ret
          exact ⟨by first | rfl | (simp [errW_none, errW_some] <;> rfl) | (simp [*, errW_none, errW_some] <;> rfl), by repeat (first | (with_reducible first | exact HB.out | apply below_alloc | apply pw_below_drewN | apply below_drew1 | refine below_set ?_ GE201.out) | exact HB.out)⟩
         ·rw [if_neg c14] at H
          have c14b0 : (a0_3 == (-1)) = false := beq_eq_false_iff_ne.mpr c14
          have c14b1 : (a0_3 != (-1)) = true := bne_iff_ne.mpr c14
          exact impl_Operand_isMem.e0
        ·rw [if_neg c13] at H
         have c13b0 : (a0_2 == 16) = false := beq_eq_false_iff_ne.mpr c13
         have c13b1 : (a0_2 != 16) = true := bne_iff_ne.mpr c13
         replace H := Option.bind_eq_some_iff.mp H
         obtain ⟨t205, A200, H⟩ := H
         replace H : (some t205) = some r := H
         have A20 := Aside0.mk A200
         clear A200
         obtain rfl := Option.some.inj H
         go_enter Try.func134, Try.ntmps134
         go_wp2_with (first | ((with_reducible refine gate_dst (N := 1) rfl ?_); refine box_event ?hg (N := 1) ?hd (cs := #[.int .i64 a0_0, .int .i64 a0_1, .int .i64 a0_2, .int .i64 a0_3, .int .i64 a0_4, .int .i64 a0_5, .int .i64 a0_6]) (t := 28) ?hr ?_; (case hd => rfl); (case hg => rfl); (case hr => first | (go_simp; done) | (go_simp; rfl)); intro gb201 hg w21 hbox hb; have n0_ := Aside0.mk (below_step by1 hb); have n1_ := Aside0.mk (hbox); have n2_ := Aside0.mk ((by0 : w.heap.size ≤ gb201)); have n3_ := Aside0.mk ((by0 : w.heap.size ≤ gb201)); clear HB; have HB := n0_; have BK201 := n1_; have GW201 := n2_; have GE201 := n3_; clear n0_ n1_ n2_ n3_; clear hb hbox hg; have hcz22_0 := cz BK201.out 0 (.int .i64 a0_0); have hcz22_1 := cz BK201.out 1 (.int .i64 a0_1); have hcz22_2 := cz BK201.out 2 (.int .i64 a0_2); have hcz22_3 := cz BK201.out 3 (.int .i64 a0_3); have hcz22_4 := cz BK201.out 4 (.int .i64 a0_4); have hcz22_5 := cz BK201.out 5 (.int .i64 a0_5); have hcz22_6 := cz BK201.out 6 (.int .i64 a0_6)) | (go_at_call 58; (with_reducible refine (impl_within.calls a0_2 (-1) 16 true _ A6.out).mono ?_); rintro e w' ⟨rfl, ⟨nd, rfl⟩⟩) | (go_at_call 58; (with_reducible refine (impl_within.calls a0_3 (-1) 15 true _ A8.out).mono ?_); rintro e w' ⟨rfl, ⟨nd, rfl⟩⟩) | (go_at_call 119; (with_reducible refine (impl_fits.calls a0_5 4 t205 _ A20.out).mono ?_); rintro e w' ⟨rfl, ⟨nd, rfl⟩⟩))
         go_ret
         exact ⟨by first | rfl | (simp [errW_none, errW_some] <;> rfl) | (simp [*, errW_none, errW_some] <;> rfl), by repeat (first | (with_reducible first | exact HB.out | apply below_alloc | apply pw_below_drewN | apply below_drew1 | refine below_set ?_ GE201.out) | exact HB.out)⟩
      ·replace c9 := Bool.eq_false_iff.mpr c9
       subst c9
       have H1 : (some false) = some r := by rw [if_neg (show ¬ (false = true) by decide)] at H; exact H
       clear H
       have H := H1
       clear H1
       obtain rfl := Option.some.inj H
       go_enter Try.func134, Try.ntmps134
       go_wp2_with (first | ((with_reducible refine gate_dst (N := 1) rfl ?_); refine box_event ?hg (N := 1) ?hd (cs := #[.int .i64 a0_0, .int .i64 a0_1, .int .i64 a0_2, .int .i64 a0_3, .int .i64 a0_4, .int .i64 a0_5, .int .i64 a0_6]) (t := 28) ?hr ?_; (case hd => rfl); (case hg => rfl); (case hr => first | (go_simp; done) | (go_simp; rfl)); intro gb201 hg w23 hbox hb; have n0_ := Aside0.mk (below_step by1 hb); have n1_ := Aside0.mk (hbox); have n2_ := Aside0.mk ((by0 : w.heap.size ≤ gb201)); have n3_ := Aside0.mk ((by0 : w.heap.size ≤ gb201)); clear HB; have HB := n0_; have BK201 := n1_; have GW201 := n2_; have GE201 := n3_; clear n0_ n1_ n2_ n3_; clear hb hbox hg; have hcz24_0 := cz BK201.out 0 (.int .i64 a0_0); have hcz24_1 := cz BK201.out 1 (.int .i64 a0_1); have hcz24_2 := cz BK201.out 2 (.int .i64 a0_2); have hcz24_3 := cz BK201.out 3 (.int .i64 a0_3); have hcz24_4 := cz BK201.out 4 (.int .i64 a0_4); have hcz24_5 := cz BK201.out 5 (.int .i64 a0_5); have hcz24_6 := cz BK201.out 6 (.int .i64 a0_6)) | (go_at_call 58; (with_reducible refine (impl_within.calls a0_2 (-1) 16 true _ A6.out).mono ?_); rintro e w' ⟨rfl, ⟨nd, rfl⟩⟩) | (go_at_call 58; (with_reducible refine (impl_within.calls a0_3 (-1) 15 false _ A8.out).mono ?_); rintro e w' ⟨rfl, ⟨nd, rfl⟩⟩))
       go_ret
       exact ⟨by first | rfl | (simp [errW_none, errW_some] <;> rfl) | (simp [*, errW_none, errW_some] <;> rfl), by repeat (first | (with_reducible first | exact HB.out | apply below_alloc | apply pw_below_drewN | apply below_drew1 | refine below_set ?_ GE201.out) | exact HB.out)⟩
     ·replace c7 := Bool.eq_false_iff.mpr c7
      subst c7
      have H1 : (some false) = some r := by rw [if_neg (show ¬ (false = true) by decide)] at H; exact H
      clear H
      have H := H1
      clear H1
      obtain rfl := Option.some.inj H
      go_enter Try.func134, Try.ntmps134
      go_wp2_with (first | ((with_reducible refine gate_dst (N := 1) rfl ?_); refine box_event ?hg (N := 1) ?hd (cs := #[.int .i64 a0_0, .int .i64 a0_1, .int .i64 a0_2, .int .i64 a0_3, .int .i64 a0_4, .int .i64 a0_5, .int .i64 a0_6]) (t := 28) ?hr ?_; (case hd => rfl); (case hg => rfl); (case hr => first | (go_simp; done) | (go_simp; rfl)); intro gb201 hg w25 hbox hb; have n0_ := Aside0.mk (below_step by1 hb); have n1_ := Aside0.mk (hbox); have n2_ := Aside0.mk ((by0 : w.heap.size ≤ gb201)); have n3_ := Aside0.mk ((by0 : w.heap.size ≤ gb201)); clear HB; have HB := n0_; have BK201 := n1_; have GW201 := n2_; have GE201 := n3_; clear n0_ n1_ n2_ n3_; clear hb hbox hg; have hcz26_0 := cz BK201.out 0 (.int .i64 a0_0); have hcz26_1 := cz BK201.out 1 (.int .i64 a0_1); have hcz26_2 := cz BK201.out 2 (.int .i64 a0_2); have hcz26_3 := cz BK201.out 3 (.int .i64 a0_3); have hcz26_4 := cz BK201.out 4 (.int .i64 a0_4); have hcz26_5 := cz BK201.out 5 (.int .i64 a0_5); have hcz26_6 := cz BK201.out 6 (.int .i64 a0_6)) | (go_at_call 58; (with_reducible refine (impl_within.calls a0_2 (-1) 16 false _ A6.out).mono ?_); rintro e w' ⟨rfl, ⟨nd, rfl⟩⟩))
      go_ret
      exact ⟨by first | rfl | (simp [errW_none, errW_some] <;> rfl) | (simp [*, errW_none, errW_some] <;> rfl), by repeat (first | (with_reducible first | exact HB.out | apply below_alloc | apply pw_below_drewN | apply below_drew1 | refine below_set ?_ GE201.out) | exact HB.out)⟩
    ·rw [if_neg c5] at H
     have c5b0 : (a0_6 == 0) = false := beq_eq_false_iff_ne.mpr c5
     have c5b1 : (a0_6 != 0) = true := bne_iff_ne.mpr c5
     exact impl_Operand_isMem.e1
   ·rw [if_neg c4] at H
    have c4b0 : (a0_1 == 0) = false := beq_eq_false_iff_ne.mpr c4
    have c4b1 : (a0_1 != 0) = true := bne_iff_ne.mpr c4
    exact impl_Operand_isMem.e1
  ·rw [if_neg c3] at H
   have c3b0 : (a0_0 == 2) = false := beq_eq_false_iff_ne.mpr c3
   have c3b1 : (a0_0 != 2) = true := bne_iff_ne.mpr c3
   exact impl_Operand_isMem.e1
 ·rw [if_neg c2] at H
  have c2b0 : (a0_4 == 1) = false := beq_eq_false_iff_ne.mpr c2
  have c2b1 : (a0_4 != 1) = true := bne_iff_ne.mpr c2
  by_cases c33 : a0_3 = (-1)
  ·rw [if_pos c33] at H
   have c33b0 : (a0_3 == (-1)) = true := beq_iff_eq.mpr c33
   have c33b1 : (a0_3 != (-1)) = false := bne_eq_false_iff_eq.mpr c33
   clear c33
   by_cases c34 : a0_0 = 2
   ·rw [if_pos c34] at H
    have c34b0 : (a0_0 == 2) = true := beq_iff_eq.mpr c34
    have c34b1 : (a0_0 != 2) = false := bne_eq_false_iff_eq.mpr c34
    clear c34
    by_cases c35 : a0_1 = 0
    ·rw [if_pos c35] at H
     have c35b0 : (a0_1 == 0) = true := beq_iff_eq.mpr c35
     have c35b1 : (a0_1 != 0) = false := bne_eq_false_iff_eq.mpr c35
     clear c35
     by_cases c36 : a0_6 = 0
     ·rw [if_pos c36] at H
      have c36b0 : (a0_6 == 0) = true := beq_iff_eq.mpr c36
      have c36b1 : (a0_6 != 0) = false := bne_eq_false_iff_eq.mpr c36
      clear c36
      replace H := Option.bind_eq_some_iff.mp H
      obtain ⟨t206, A370, H⟩ := H
      replace H : (if t206 = true then ((impl_within.f a0_3 (-1) 15).bind fun t207 => (if t207 = true then (if a0_3 = 4 then (some false) else (some false)) else (some false))) else (some false)) = some r := H
      have A37 := Aside0.mk A370
      clear A370
      by_cases c38 : t206 = true
      ·subst c38
       have H1 : ((impl_within.f a0_3 (-1) 15).bind fun t207 => (if t207 = true then (if a0_3 = 4 then (some false) else (some false)) else (some false))) = some r := by rw [if_pos rfl] at H; exact H
       clear H
       have H := H1
       clear H1
       replace H := Option.bind_eq_some_iff.mp H
       obtain ⟨t207, A390, H⟩ := H
       replace H : (if t207 = true then (if a0_3 = 4 then (some false) else (some false)) else (some false)) = some r := H
       have A39 := Aside0.mk A390
       clear A390
       by_cases c40 : t207 = true
       ·subst c40
        have H1 : (if a0_3 = 4 then (some false) else (some false)) = some r := by rw [if_pos rfl] at H; exact H
        clear H
        have H := H1
        clear H1
        by_cases c41 : a0_3 = 4
        ·rw [if_pos c41] at H
         have c41b0 : (a0_3 == 4) = true := beq_iff_eq.mpr c41
         have c41b1 : (a0_3 != 4) = false := bne_eq_false_iff_eq.mpr c41
         clear c41
         exact impl_Operand_isMem.e2
        ·rw [if_neg c41] at H
         have c41b0 : (a0_3 == 4) = false := beq_eq_false_iff_ne.mpr c41
         have c41b1 : (a0_3 != 4) = true := bne_iff_ne.mpr c41
         exact impl_Operand_isMem.e2
       ·replace c40 := Bool.eq_false_iff.mpr c40
        subst c40
        have H1 : (some false) = some r := by rw [if_neg (show ¬ (false = true) by decide)] at H; exact H
        clear H
        have H := H1
        clear H1
        obtain rfl := Option.some.inj H
        go_enter Try.func134, Try.ntmps134
        go_wp2_with (first | ((with_reducible refine gate_dst (N := 1) rfl ?_); refine box_event ?hg (N := 1) ?hd (cs := #[.int .i64 a0_0, .int .i64 a0_1, .int .i64 a0_2, .int .i64 a0_3, .int .i64 a0_4, .int .i64 a0_5, .int .i64 a0_6]) (t := 28) ?hr ?_; (case hd => rfl); (case hg => rfl); (case hr => first | (go_simp; done) | (go_simp; rfl)); intro gb201 hg w46 hbox hb; have n0_ := Aside0.mk (below_step by1 hb); have n1_ := Aside0.mk (hbox); have n2_ := Aside0.mk ((by0 : w.heap.size ≤ gb201)); have n3_ := Aside0.mk ((by0 : w.heap.size ≤ gb201)); clear HB; have HB := n0_; have BK201 := n1_; have GW201 := n2_; have GE201 := n3_; clear n0_ n1_ n2_ n3_; clear hb hbox hg; have hcz47_0 := cz BK201.out 0 (.int .i64 a0_0); have hcz47_1 := cz BK201.out 1 (.int .i64 a0_1); have hcz47_2 := cz BK201.out 2 (.int .i64 a0_2); have hcz47_3 := cz BK201.out 3 (.int .i64 a0_3); have hcz47_4 := cz BK201.out 4 (.int .i64 a0_4); have hcz47_5 := cz BK201.out 5 (.int .i64 a0_5); have hcz47_6 := cz BK201.out 6 (.int .i64 a0_6)) | (go_at_call 58; (with_reducible refine (impl_within.calls a0_2 (-1) 16 true _ A37.out).mono ?_); rintro e w' ⟨rfl, ⟨nd, rfl⟩⟩) | (go_at_call 58; (with_reducible refine (impl_within.calls a0_3 (-1) 15 false _ A39.out).mono ?_); rintro e w' ⟨rfl, ⟨nd, rfl⟩⟩))
        go_ret
        exact ⟨by first | rfl | (simp [errW_none, errW_some] <;> rfl) | (simp [*, errW_none, errW_some] <;> rfl), by repeat (first | (with_reducible first | exact HB.out | apply below_alloc | apply pw_below_drewN | apply below_drew1 | refine below_set ?_ GE201.out) | exact HB.out)⟩
      ·replace c38 := Bool.eq_false_iff.mpr c38
       subst c38
       have H1 : (some false) = some r := by rw [if_neg (show ¬ (false = true) by decide)] at H; exact H
       clear H
       have H := H1
       clear H1
       obtain rfl := Option.some.inj H
       go_enter Try.func134, Try.ntmps134
       go_wp2_with (first | ((with_reducible refine gate_dst (N := 1) rfl ?_); refine box_event ?hg (N := 1) ?hd (cs := #[.int .i64 a0_0, .int .i64 a0_1, .int .i64 a0_2, .int .i64 a0_3, .int .i64 a0_4, .int .i64 a0_5, .int .i64 a0_6]) (t := 28) ?hr ?_; (case hd => rfl); (case hg => rfl); (case hr => first | (go_simp; done) | (go_simp; rfl)); intro gb201 hg w48 hbox hb; have n0_ := Aside0.mk (below_step by1 hb); have n1_ := Aside0.mk (hbox); have n2_ := Aside0.mk ((by0 : w.heap.size ≤ gb201)); have n3_ := Aside0.mk ((by0 : w.heap.size ≤ gb201)); clear HB; have HB := n0_; have BK201 := n1_; have GW201 := n2_; have GE201 := n3_; clear n0_ n1_ n2_ n3_; clear hb hbox hg; have hcz49_0 := cz BK201.out 0 (.int .i64 a0_0); have hcz49_1 := cz BK201.out 1 (.int .i64 a0_1); have hcz49_2 := cz BK201.out 2 (.int .i64 a0_2); have hcz49_3 := cz BK201.out 3 (.int .i64 a0_3); have hcz49_4 := cz BK201.out 4 (.int .i64 a0_4); have hcz49_5 := cz BK201.out 5 (.int .i64 a0_5); have hcz49_6 := cz BK201.out 6 (.int .i64 a0_6)) | (go_at_call 58; (with_reducible refine (impl_within.calls a0_2 (-1) 16 false _ A37.out).mono ?_); rintro e w' ⟨rfl, ⟨nd, rfl⟩⟩))
       go_ret
       exact ⟨by first | rfl | (simp [errW_none, errW_some] <;> rfl) | (simp [*, errW_none, errW_some] <;> rfl), by repeat (first | (with_reducible first | exact HB.out | apply below_alloc | apply pw_below_drewN | apply below_drew1 | refine below_set ?_ GE201.out) | exact HB.out)⟩
     ·rw [if_neg c36] at H
      have c36b0 : (a0_6 == 0) = false := beq_eq_false_iff_ne.mpr c36
      have c36b1 : (a0_6 != 0) = true := bne_iff_ne.mpr c36
      exact impl_Operand_isMem.e1
    ·rw [if_neg c35] at H
     have c35b0 : (a0_1 == 0) = false := beq_eq_false_iff_ne.mpr c35
     have c35b1 : (a0_1 != 0) = true := bne_iff_ne.mpr c35
     exact impl_Operand_isMem.e1
   ·rw [if_neg c34] at H
    have c34b0 : (a0_0 == 2) = false := beq_eq_false_iff_ne.mpr c34
    have c34b1 : (a0_0 != 2) = true := bne_iff_ne.mpr c34
    exact impl_Operand_isMem.e1
  ·rw [if_neg c33] at H
   have c33b0 : (a0_3 == (-1)) = false := beq_eq_false_iff_ne.mpr c33
   have c33b1 : (a0_3 != (-1)) = true := bne_iff_ne.mpr c33
   by_cases c56 : a0_4 = 2
   ·rw [if_pos c56] at H
    have c56b0 : (a0_4 == 2) = true := beq_iff_eq.mpr c56
    have c56b1 : (a0_4 != 2) = false := bne_eq_false_iff_eq.mpr c56
    clear c56
    by_cases c57 : a0_0 = 2
    ·rw [if_pos c57] at H
     have c57b0 : (a0_0 == 2) = true := beq_iff_eq.mpr c57
     have c57b1 : (a0_0 != 2) = false := bne_eq_false_iff_eq.mpr c57
     clear c57
     by_cases c58 : a0_1 = 0
     ·rw [if_pos c58] at H
      have c58b0 : (a0_1 == 0) = true := beq_iff_eq.mpr c58
      have c58b1 : (a0_1 != 0) = false := bne_eq_false_iff_eq.mpr c58
      clear c58
      by_cases c59 : a0_6 = 0
      ·rw [if_pos c59] at H
       have c59b0 : (a0_6 == 0) = true := beq_iff_eq.mpr c59
       have c59b1 : (a0_6 != 0) = false := bne_eq_false_iff_eq.mpr c59
       clear c59
       replace H := Option.bind_eq_some_iff.mp H
       obtain ⟨t208, A600, H⟩ := H
       replace H : (if t208 = true then ((impl_within.f a0_3 (-1) 15).bind fun t209 => (if t209 = true then (if a0_3 = 4 then (some false) else (if a0_2 = 16 then (some false) else ((impl_fits.f a0_5 4).bind fun t210 => (some t210)))) else (some false))) else (some false)) = some r := H
       have A60 := Aside0.mk A600
       clear A600
       by_cases c61 : t208 = true
       ·subst c61
        have H1 : ((impl_within.f a0_3 (-1) 15).bind fun t209 => (if t209 = true then (if a0_3 = 4 then (some false) else (if a0_2 = 16 then (some false) else ((impl_fits.f a0_5 4).bind fun t210 => (some t210)))) else (some false))) = some r := by rw [if_pos rfl] at H; exact H
        clear H
        have H := H1
        clear H1
        replace H := Option.bind_eq_some_iff.mp H
        obtain ⟨t209, A620, H⟩ := H
        replace H : (if t209 = true then (if a0_3 = 4 then (some false) else (if a0_2 = 16 then (some false) else ((impl_fits.f a0_5 4).bind fun t210 => (some t210)))) else (some false)) = some r := H
        have A62 := Aside0.mk A620
        clear A620
        by_cases c63 : t209 = true
        ·subst c63
         have H1 : (if a0_3 = 4 then (some false) else (if a0_2 = 16 then (some false) else ((impl_fits.f a0_5 4).bind fun t210 => (some t210)))) = some r := by rw [if_pos rfl] at H; exact H
         clear H
         have H := H1
         clear H1
         by_cases c64 : a0_3 = 4
         ·rw [if_pos c64] at H
          have c64b0 : (a0_3 == 4) = true := beq_iff_eq.mpr c64
          have c64b1 : (a0_3 != 4) = false := bne_eq_false_iff_eq.mpr c64
          clear c64
          exact impl_Operand_isMem.e3
         ·rw [if_neg c64] at H
          have c64b0 : (a0_3 == 4) = false := beq_eq_false_iff_ne.mpr c64
          have c64b1 : (a0_3 != 4) = true := bne_iff_ne.mpr c64
          by_cases c67 : a0_2 = 16
          ·rw [if_pos c67] at H
           have c67b0 : (a0_2 == 16) = true := beq_iff_eq.mpr c67
           have c67b1 : (a0_2 != 16) = false := bne_eq_false_iff_eq.mpr c67
           clear c67
           exact impl_Operand_isMem.e3
          ·rw [if_neg c67] at H
           have c67b0 : (a0_2 == 16) = false := beq_eq_false_iff_ne.mpr c67
           have c67b1 : (a0_2 != 16) = true := bne_iff_ne.mpr c67
           replace H := Option.bind_eq_some_iff.mp H
           obtain ⟨t210, A700, H⟩ := H
           replace H : (some t210) = some r := H
           have A70 := Aside0.mk A700
           clear A700
           obtain rfl := Option.some.inj H
           go_enter Try.func134, Try.ntmps134
           go_wp2_with (first | ((with_reducible refine gate_dst (N := 1) rfl ?_); refine box_event ?hg (N := 1) ?hd (cs := #[.int .i64 a0_0, .int .i64 a0_1, .int .i64 a0_2, .int .i64 a0_3, .int .i64 a0_4, .int .i64 a0_5, .int .i64 a0_6]) (t := 28) ?hr ?_; (case hd => rfl); (case hg => rfl); (case hr => first | (go_simp; done) | (go_simp; rfl)); intro gb201 hg w71 hbox hb; have n0_ := Aside0.mk (below_step by1 hb); have n1_ := Aside0.mk (hbox); have n2_ := Aside0.mk ((by0 : w.heap.size ≤ gb201)); have n3_ := Aside0.mk ((by0 : w.heap.size ≤ gb201)); clear HB; have HB := n0_; have BK201 := n1_; have GW201 := n2_; have GE201 := n3_; clear n0_ n1_ n2_ n3_; clear hb hbox hg; have hcz72_0 := cz BK201.out 0 (.int .i64 a0_0); have hcz72_1 := cz BK201.out 1 (.int .i64 a0_1); have hcz72_2 := cz BK201.out 2 (.int .i64 a0_2); have hcz72_3 := cz BK201.out 3 (.int .i64 a0_3); have hcz72_4 := cz BK201.out 4 (.int .i64 a0_4); have hcz72_5 := cz BK201.out 5 (.int .i64 a0_5); have hcz72_6 := cz BK201.out 6 (.int .i64 a0_6)) | (go_at_call 58; (with_reducible refine (impl_within.calls a0_2 (-1) 16 true _ A60.out).mono ?_); rintro e w' ⟨rfl, ⟨nd, rfl⟩⟩) | (go_at_call 58; (with_reducible refine (impl_within.calls a0_3 (-1) 15 true _ A62.out).mono ?_); rintro e w' ⟨rfl, ⟨nd, rfl⟩⟩) | (go_at_call 119; (with_reducible refine (impl_fits.calls a0_5 4 t210 _ A70.out).mono ?_); rintro e w' ⟨rfl, ⟨nd, rfl⟩⟩))
           go_ret
           exact ⟨by first | rfl | (simp [errW_none, errW_some] <;> rfl) | (simp [*, errW_none, errW_some] <;> rfl), by repeat (first | (with_reducible first | exact HB.out | apply below_alloc | apply pw_below_drewN | apply below_drew1 | refine below_set ?_ GE201.out) | exact HB.out)⟩
        ·replace c63 := Bool.eq_false_iff.mpr c63
         subst c63
         have H1 : (some false) = some r := by rw [if_neg (show ¬ (false = true) by decide)] at H; exact H
         clear H
         have H := H1
         clear H1
         obtain rfl := Option.some.inj H
         go_enter Try.func134, Try.ntmps134
         go_wp2_with (first | ((with_reducible refine gate_dst (N := 1) rfl ?_); refine box_event ?hg (N := 1) ?hd (cs := #[.int .i64 a0_0, .int .i64 a0_1, .int .i64 a0_2, .int .i64 a0_3, .int .i64 a0_4, .int .i64 a0_5, .int .i64 a0_6]) (t := 28) ?hr ?_; (case hd => rfl); (case hg => rfl); (case hr => first | (go_simp; done) | (go_simp; rfl)); intro gb201 hg w73 hbox hb; have n0_ := Aside0.mk (below_step by1 hb); have n1_ := Aside0.mk (hbox); have n2_ := Aside0.mk ((by0 : w.heap.size ≤ gb201)); have n3_ := Aside0.mk ((by0 : w.heap.size ≤ gb201)); clear HB; have HB := n0_; have BK201 := n1_; have GW201 := n2_; have GE201 := n3_; clear n0_ n1_ n2_ n3_; clear hb hbox hg; have hcz74_0 := cz BK201.out 0 (.int .i64 a0_0); have hcz74_1 := cz BK201.out 1 (.int .i64 a0_1); have hcz74_2 := cz BK201.out 2 (.int .i64 a0_2); have hcz74_3 := cz BK201.out 3 (.int .i64 a0_3); have hcz74_4 := cz BK201.out 4 (.int .i64 a0_4); have hcz74_5 := cz BK201.out 5 (.int .i64 a0_5); have hcz74_6 := cz BK201.out 6 (.int .i64 a0_6)) | (go_at_call 58; (with_reducible refine (impl_within.calls a0_2 (-1) 16 true _ A60.out).mono ?_); rintro e w' ⟨rfl, ⟨nd, rfl⟩⟩) | (go_at_call 58; (with_reducible refine (impl_within.calls a0_3 (-1) 15 false _ A62.out).mono ?_); rintro e w' ⟨rfl, ⟨nd, rfl⟩⟩))
         go_ret
         exact ⟨by first | rfl | (simp [errW_none, errW_some] <;> rfl) | (simp [*, errW_none, errW_some] <;> rfl), by repeat (first | (with_reducible first | exact HB.out | apply below_alloc | apply pw_below_drewN | apply below_drew1 | refine below_set ?_ GE201.out) | exact HB.out)⟩
       ·replace c61 := Bool.eq_false_iff.mpr c61
        subst c61
        have H1 : (some false) = some r := by rw [if_neg (show ¬ (false = true) by decide)] at H; exact H
        clear H
        have H := H1
        clear H1
        obtain rfl := Option.some.inj H
        go_enter Try.func134, Try.ntmps134
        go_wp2_with (first | ((with_reducible refine gate_dst (N := 1) rfl ?_); refine box_event ?hg (N := 1) ?hd (cs := #[.int .i64 a0_0, .int .i64 a0_1, .int .i64 a0_2, .int .i64 a0_3, .int .i64 a0_4, .int .i64 a0_5, .int .i64 a0_6]) (t := 28) ?hr ?_; (case hd => rfl); (case hg => rfl); (case hr => first | (go_simp; done) | (go_simp; rfl)); intro gb201 hg w75 hbox hb; have n0_ := Aside0.mk (below_step by1 hb); have n1_ := Aside0.mk (hbox); have n2_ := Aside0.mk ((by0 : w.heap.size ≤ gb201)); have n3_ := Aside0.mk ((by0 : w.heap.size ≤ gb201)); clear HB; have HB := n0_; have BK201 := n1_; have GW201 := n2_; have GE201 := n3_; clear n0_ n1_ n2_ n3_; clear hb hbox hg; have hcz76_0 := cz BK201.out 0 (.int .i64 a0_0); have hcz76_1 := cz BK201.out 1 (.int .i64 a0_1); have hcz76_2 := cz BK201.out 2 (.int .i64 a0_2); have hcz76_3 := cz BK201.out 3 (.int .i64 a0_3); have hcz76_4 := cz BK201.out 4 (.int .i64 a0_4); have hcz76_5 := cz BK201.out 5 (.int .i64 a0_5); have hcz76_6 := cz BK201.out 6 (.int .i64 a0_6)) | (go_at_call 58; (with_reducible refine (impl_within.calls a0_2 (-1) 16 false _ A60.out).mono ?_); rintro e w' ⟨rfl, ⟨nd, rfl⟩⟩))
        go_ret
        exact ⟨by first | rfl | (simp [errW_none, errW_some] <;> rfl) | (simp [*, errW_none, errW_some] <;> rfl), by repeat (first | (with_reducible first | exact HB.out | apply below_alloc | apply pw_below_drewN | apply below_drew1 | refine below_set ?_ GE201.out) | exact HB.out)⟩
      ·rw [if_neg c59] at H
       have c59b0 : (a0_6 == 0) = false := beq_eq_false_iff_ne.mpr c59
       have c59b1 : (a0_6 != 0) = true := bne_iff_ne.mpr c59
       exact impl_Operand_isMem.e1
     ·rw [if_neg c58] at H
      have c58b0 : (a0_1 == 0) = false := beq_eq_false_iff_ne.mpr c58
      have c58b1 : (a0_1 != 0) = true := bne_iff_ne.mpr c58
      exact impl_Operand_isMem.e1
    ·rw [if_neg c57] at H
     have c57b0 : (a0_0 == 2) = false := beq_eq_false_iff_ne.mpr c57
     have c57b1 : (a0_0 != 2) = true := bne_iff_ne.mpr c57
     exact impl_Operand_isMem.e1
   ·rw [if_neg c56] at H
    have c56b0 : (a0_4 == 2) = false := beq_eq_false_iff_ne.mpr c56
    have c56b1 : (a0_4 != 2) = true := bne_iff_ne.mpr c56
    by_cases c83 : a0_4 = 4
    ·rw [if_pos c83] at H
     have c83b0 : (a0_4 == 4) = true := beq_iff_eq.mpr c83
     have c83b1 : (a0_4 != 4) = false := bne_eq_false_iff_eq.mpr c83
     clear c83
     by_cases c84 : a0_0 = 2
     ·rw [if_pos c84] at H
      have c84b0 : (a0_0 == 2) = true := beq_iff_eq.mpr c84
      have c84b1 : (a0_0 != 2) = false := bne_eq_false_iff_eq.mpr c84
      clear c84
      by_cases c85 : a0_1 = 0
      ·rw [if_pos c85] at H
       have c85b0 : (a0_1 == 0) = true := beq_iff_eq.mpr c85
       have c85b1 : (a0_1 != 0) = false := bne_eq_false_iff_eq.mpr c85
       clear c85
       by_cases c86 : a0_6 = 0
       ·rw [if_pos c86] at H
        have c86b0 : (a0_6 == 0) = true := beq_iff_eq.mpr c86
        have c86b1 : (a0_6 != 0) = false := bne_eq_false_iff_eq.mpr c86
        clear c86
        replace H := Option.bind_eq_some_iff.mp H
        obtain ⟨t211, A870, H⟩ := H
        replace H : (if t211 = true then ((impl_within.f a0_3 (-1) 15).bind fun t212 => (if t212 = true then (if a0_3 = 4 then (some false) else (if a0_2 = 16 then (some false) else ((impl_fits.f a0_5 4).bind fun t213 => (some t213)))) else (some false))) else (some false)) = some r := H
        have A87 := Aside0.mk A870
        clear A870
        by_cases c88 : t211 = true
        ·subst c88
         have H1 : ((impl_within.f a0_3 (-1) 15).bind fun t212 => (if t212 = true then (if a0_3 = 4 then (some false) else (if a0_2 = 16 then (some false) else ((impl_fits.f a0_5 4).bind fun t213 => (some t213)))) else (some false))) = some r := by rw [if_pos rfl] at H; exact H
         clear H
         have H := H1
         clear H1
         replace H := Option.bind_eq_some_iff.mp H
         obtain ⟨t212, A890, H⟩ := H
         replace H : (if t212 = true then (if a0_3 = 4 then (some false) else (if a0_2 = 16 then (some false) else ((impl_fits.f a0_5 4).bind fun t213 => (some t213)))) else (some false)) = some r := H
         have A89 := Aside0.mk A890
         clear A890
         by_cases c90 : t212 = true
         ·subst c90
          have H1 : (if a0_3 = 4 then (some false) else (if a0_2 = 16 then (some false) else ((impl_fits.f a0_5 4).bind fun t213 => (some t213)))) = some r := by rw [if_pos rfl] at H; exact H
          clear H
          have H := H1
          clear H1
          by_cases c91 : a0_3 = 4
          ·rw [if_pos c91] at H
           have c91b0 : (a0_3 == 4) = true := beq_iff_eq.mpr c91
           have c91b1 : (a0_3 != 4) = false := bne_eq_false_iff_eq.mpr c91
           clear c91
           exact impl_Operand_isMem.e4
          ·rw [if_neg c91] at H
           have c91b0 : (a0_3 == 4) = false := beq_eq_false_iff_ne.mpr c91
           have c91b1 : (a0_3 != 4) = true := bne_iff_ne.mpr c91
           by_cases c94 : a0_2 = 16
           ·rw [if_pos c94] at H
            have c94b0 : (a0_2 == 16) = true := beq_iff_eq.mpr c94
            have c94b1 : (a0_2 != 16) = false := bne_eq_false_iff_eq.mpr c94
            clear c94
            exact impl_Operand_isMem.e4
           ·rw [if_neg c94] at H
            have c94b0 : (a0_2 == 16) = false := beq_eq_false_iff_ne.mpr c94
            have c94b1 : (a0_2 != 16) = true := bne_iff_ne.mpr c94
            replace H := Option.bind_eq_some_iff.mp H
            obtain ⟨t213, A970, H⟩ := H
            replace H : (some t213) = some r := H
            have A97 := Aside0.mk A970
            clear A970
            obtain rfl := Option.some.inj H
            go_enter Try.func134, Try.ntmps134
            go_wp2_with (first | ((with_reducible refine gate_dst (N := 1) rfl ?_); refine box_event ?hg (N := 1) ?hd (cs := #[.int .i64 a0_0, .int .i64 a0_1, .int .i64 a0_2, .int .i64 a0_3, .int .i64 a0_4, .int .i64 a0_5, .int .i64 a0_6]) (t := 28) ?hr ?_; (case hd => rfl); (case hg => rfl); (case hr => first | (go_simp; done) | (go_simp; rfl)); intro gb201 hg w98 hbox hb; have n0_ := Aside0.mk (below_step by1 hb); have n1_ := Aside0.mk (hbox); have n2_ := Aside0.mk ((by0 : w.heap.size ≤ gb201)); have n3_ := Aside0.mk ((by0 : w.heap.size ≤ gb201)); clear HB; have HB := n0_; have BK201 := n1_; have GW201 := n2_; have GE201 := n3_; clear n0_ n1_ n2_ n3_; clear hb hbox hg; have hcz99_0 := cz BK201.out 0 (.int .i64 a0_0); have hcz99_1 := cz BK201.out 1 (.int .i64 a0_1); have hcz99_2 := cz BK201.out 2 (.int .i64 a0_2); have hcz99_3 := cz BK201.out 3 (.int .i64 a0_3); have hcz99_4 := cz BK201.out 4 (.int .i64 a0_4); have hcz99_5 := cz BK201.out 5 (.int .i64 a0_5); have hcz99_6 := cz BK201.out 6 (.int .i64 a0_6)) | (go_at_call 58; (with_reducible refine (impl_within.calls a0_2 (-1) 16 true _ A87.out).mono ?_); rintro e w' ⟨rfl, ⟨nd, rfl⟩⟩) | (go_at_call 58; (with_reducible refine (impl_within.calls a0_3 (-1) 15 true _ A89.out).mono ?_); rintro e w' ⟨rfl, ⟨nd, rfl⟩⟩) | (go_at_call 119; (with_reducible refine (impl_fits.calls a0_5 4 t213 _ A97.out).mono ?_); rintro e w' ⟨rfl, ⟨nd, rfl⟩⟩))
            go_ret
            exact ⟨by first | rfl | (simp [errW_none, errW_some] <;> rfl) | (simp [*, errW_none, errW_some] <;> rfl), by repeat (first | (with_reducible first | exact HB.out | apply below_alloc | apply pw_below_drewN | apply below_drew1 | refine below_set ?_ GE201.out) | exact HB.out)⟩
         ·replace c90 := Bool.eq_false_iff.mpr c90
          subst c90
          have H1 : (some false) = some r := by rw [if_neg (show ¬ (false = true) by decide)] at H; exact H
          clear H
          have H := H1
          clear H1
          obtain rfl := Option.some.inj H
          go_enter Try.func134, Try.ntmps134
          go_wp2_with (first | ((with_reducible refine gate_dst (N := 1) rfl ?_); refine box_event ?hg (N := 1) ?hd (cs := #[.int .i64 a0_0, .int .i64 a0_1, .int .i64 a0_2, .int .i64 a0_3, .int .i64 a0_4, .int .i64 a0_5, .int .i64 a0_6]) (t := 28) ?hr ?_; (case hd => rfl); (case hg => rfl); (case hr => first | (go_simp; done) | (go_simp; rfl)); intro gb201 hg w100 hbox hb; have n0_ := Aside0.mk (below_step by1 hb); have n1_ := Aside0.mk (hbox); have n2_ := Aside0.mk ((by0 : w.heap.size ≤ gb201)); have n3_ := Aside0.mk ((by0 : w.heap.size ≤ gb201)); clear HB; have HB := n0_; have BK201 := n1_; have GW201 := n2_; have GE201 := n3_; clear n0_ n1_ n2_ n3_; clear hb hbox hg; have hcz101_0 := cz BK201.out 0 (.int .i64 a0_0); have hcz101_1 := cz BK201.out 1 (.int .i64 a0_1); have hcz101_2 := cz BK201.out 2 (.int .i64 a0_2); have hcz101_3 := cz BK201.out 3 (.int .i64 a0_3); have hcz101_4 := cz BK201.out 4 (.int .i64 a0_4); have hcz101_5 := cz BK201.out 5 (.int .i64 a0_5); have hcz101_6 := cz BK201.out 6 (.int .i64 a0_6)) | (go_at_call 58; (with_reducible refine (impl_within.calls a0_2 (-1) 16 true _ A87.out).mono ?_); rintro e w' ⟨rfl, ⟨nd, rfl⟩⟩) | (go_at_call 58; (with_reducible refine (impl_within.calls a0_3 (-1) 15 false _ A89.out).mono ?_); rintro e w' ⟨rfl, ⟨nd, rfl⟩⟩))
          go_ret
          exact ⟨by first | rfl | (simp [errW_none, errW_some] <;> rfl) | (simp [*, errW_none, errW_some] <;> rfl), by repeat (first | (with_reducible first | exact HB.out | apply below_alloc | apply pw_below_drewN | apply below_drew1 | refine below_set ?_ GE201.out) | exact HB.out)⟩
        ·replace c88 := Bool.eq_false_iff.mpr c88
         subst c88
         have H1 : (some false) = some r := by rw [if_neg (show ¬ (false = true) by decide)] at H; exact H
         clear H
         have H := H1
         clear H1
         obtain rfl := Option.some.inj H
         go_enter Try.func134, Try.ntmps134
         go_wp2_with (first | ((with_reducible refine gate_dst (N := 1) rfl ?_); refine box_event ?hg (N := 1) ?hd (cs := #[.int .i64 a0_0, .int .i64 a0_1, .int .i64 a0_2, .int .i64 a0_3, .int .i64 a0_4, .int .i64 a0_5, .int .i64 a0_6]) (t := 28) ?hr ?_; (case hd => rfl); (case hg => rfl); (case hr => first | (go_simp; done) | (go_simp; rfl)); intro gb201 hg w102 hbox hb; have n0_ := Aside0.mk (below_step by1 hb); have n1_ := Aside0.mk (hbox); have n2_ := Aside0.mk ((by0 : w.heap.size ≤ gb201)); have n3_ := Aside0.mk ((by0 : w.heap.size ≤ gb201)); clear HB; have HB := n0_; have BK201 := n1_; have GW201 := n2_; have GE201 := n3_; clear n0_ n1_ n2_ n3_; clear hb hbox hg; have hcz103_0 := cz BK201.out 0 (.int .i64 a0_0); have hcz103_1 := cz BK201.out 1 (.int .i64 a0_1); have hcz103_2 := cz BK201.out 2 (.int .i64 a0_2); have hcz103_3 := cz BK201.out 3 (.int .i64 a0_3); have hcz103_4 := cz BK201.out 4 (.int .i64 a0_4); have hcz103_5 := cz BK201.out 5 (.int .i64 a0_5); have hcz103_6 := cz BK201.out 6 (.int .i64 a0_6)) | (go_at_call 58; (with_reducible refine (impl_within.calls a0_2 (-1) 16 false _ A87.out).mono ?_); rintro e w' ⟨rfl, ⟨nd, rfl⟩⟩))
         go_ret
         exact ⟨by first | rfl | (simp [errW_none, errW_some] <;> rfl) | (simp [*, errW_none, errW_some] <;> rfl), by repeat (first | (with_reducible first | exact HB.out | apply below_alloc | apply pw_below_drewN | apply below_drew1 | refine below_set ?_ GE201.out) | exact HB.out)⟩
       ·rw [if_neg c86] at H
        have c86b0 : (a0_6 == 0) = false := beq_eq_false_iff_ne.mpr c86
        have c86b1 : (a0_6 != 0) = true := bne_iff_ne.mpr c86
        exact impl_Operand_isMem.e1
      ·rw [if_neg c85] at H
       have c85b0 : (a0_1 == 0) = false := beq_eq_false_iff_ne.mpr c85
       have c85b1 : (a0_1 != 0) = true := bne_iff_ne.mpr c85
       exact impl_Operand_isMem.e1
     ·rw [if_neg c84] at H
      have c84b0 : (a0_0 == 2) = false := beq_eq_false_iff_ne.mpr c84
      have c84b1 : (a0_0 != 2) = true := bne_iff_ne.mpr c84
      exact impl_Operand_isMem.e1
    ·rw [if_neg c83] at H
     have c83b0 : (a0_4 == 4) = false := beq_eq_false_iff_ne.mpr c83
     have c83b1 : (a0_4 != 4) = true := bne_iff_ne.mpr c83
     by_cases c110 : a0_0 = 2
     ·rw [if_pos c110] at H
      have c110b0 : (a0_0 == 2) = true := beq_iff_eq.mpr c110
      have c110b1 : (a0_0 != 2) = false := bne_eq_false_iff_eq.mpr c110
      clear c110
      by_cases c111 : a0_1 = 0
      ·rw [if_pos c111] at H
       have c111b0 : (a0_1 == 0) = true := beq_iff_eq.mpr c111
       have c111b1 : (a0_1 != 0) = false := bne_eq_false_iff_eq.mpr c111
       clear c111
       by_cases c112 : a0_6 = 0
       ·rw [if_pos c112] at H
        have c112b0 : (a0_6 == 0) = true := beq_iff_eq.mpr c112
        have c112b1 : (a0_6 != 0) = false := bne_eq_false_iff_eq.mpr c112
        clear c112
        replace H := Option.bind_eq_some_iff.mp H
        obtain ⟨t214, A1130, H⟩ := H
        replace H : (if t214 = true then ((impl_within.f a0_3 (-1) 15).bind fun t215 => (if t215 = true then (if a0_3 = 4 then (some false) else (if a0_4 = 8 then (if a0_2 = 16 then (some false) else ((impl_fits.f a0_5 4).bind fun t216 => (some t216))) else (some false))) else (some false))) else (some false)) = some r := H
        have A113 := Aside0.mk A1130
        clear A1130
        by_cases c114 : t214 = true
        ·subst c114
         have H1 : ((impl_within.f a0_3 (-1) 15).bind fun t215 => (if t215 = true then (if a0_3 = 4 then (some false) else (if a0_4 = 8 then (if a0_2 = 16 then (some false) else ((impl_fits.f a0_5 4).bind fun t216 => (some t216))) else (some false))) else (some false))) = some r := by rw [if_pos rfl] at H; exact H
         clear H
         have H := H1
         clear H1
         replace H := Option.bind_eq_some_iff.mp H
         obtain ⟨t215, A1150, H⟩ := H
         replace H : (if t215 = true then (if a0_3 = 4 then (some false) else (if a0_4 = 8 then (if a0_2 = 16 then (some false) else ((impl_fits.f a0_5 4).bind fun t216 => (some t216))) else (some false))) else (some false)) = some r := H
         have A115 := Aside0.mk A1150
         clear A1150
         by_cases c116 : t215 = true
         ·subst c116
          have H1 : (if a0_3 = 4 then (some false) else (if a0_4 = 8 then (if a0_2 = 16 then (some false) else ((impl_fits.f a0_5 4).bind fun t216 => (some t216))) else (some false))) = some r := by rw [if_pos rfl] at H; exact H
          clear H
          have H := H1
          clear H1
          by_cases c117 : a0_3 = 4
          ·rw [if_pos c117] at H
           have c117b0 : (a0_3 == 4) = true := beq_iff_eq.mpr c117
           have c117b1 : (a0_3 != 4) = false := bne_eq_false_iff_eq.mpr c117
           clear c117
           exact impl_Operand_isMem.e5
          ·rw [if_neg c117] at H
           have c117b0 : (a0_3 == 4) = false := beq_eq_false_iff_ne.mpr c117
           have c117b1 : (a0_3 != 4) = true := bne_iff_ne.mpr c117
           by_cases c120 : a0_4 = 8
           ·rw [if_pos c120] at H
            have c120b0 : (a0_4 == 8) = true := beq_iff_eq.mpr c120
            have c120b1 : (a0_4 != 8) = false := bne_eq_false_iff_eq.mpr c120
            clear c120
            by_cases c121 : a0_2 = 16
            ·rw [if_pos c121] at H
             have c121b0 : (a0_2 == 16) = true := beq_iff_eq.mpr c121
             have c121b1 : (a0_2 != 16) = false := bne_eq_false_iff_eq.mpr c121
             clear c121
             exact impl_Operand_isMem.e5
            ·rw [if_neg c121] at H
             have c121b0 : (a0_2 == 16) = false := beq_eq_false_iff_ne.mpr c121
             have c121b1 : (a0_2 != 16) = true := bne_iff_ne.mpr c121
             replace H := Option.bind_eq_some_iff.mp H
             obtain ⟨t216, A1240, H⟩ := H
             replace H : (some t216) = some r := H
             have A124 := Aside0.mk A1240
             clear A1240
             obtain rfl := Option.some.inj H
             go_enter Try.func134, Try.ntmps134
             go_wp2_with (first | ((with_reducible refine gate_dst (N := 1) rfl ?_); refine box_event ?hg (N := 1) ?hd (cs := #[.int .i64 a0_0, .int .i64 a0_1, .int .i64 a0_2, .int .i64 a0_3, .int .i64 a0_4, .int .i64 a0_5, .int .i64 a0_6]) (t := 28) ?hr ?_; (case hd => rfl); (case hg => rfl); (case hr => first | (go_simp; done) | (go_simp; rfl)); intro gb201 hg w125 hbox hb; have n0_ := Aside0.mk (below_step by1 hb); have n1_ := Aside0.mk (hbox); have n2_ := Aside0.mk ((by0 : w.heap.size ≤ gb201)); have n3_ := Aside0.mk ((by0 : w.heap.size ≤ gb201)); clear HB; have HB := n0_; have BK201 := n1_; have GW201 := n2_; have GE201 := n3_; clear n0_ n1_ n2_ n3_; clear hb hbox hg; have hcz126_0 := cz BK201.out 0 (.int .i64 a0_0); have hcz126_1 := cz BK201.out 1 (.int .i64 a0_1); have hcz126_2 := cz BK201.out 2 (.int .i64 a0_2); have hcz126_3 := cz BK201.out 3 (.int .i64 a0_3); have hcz126_4 := cz BK201.out 4 (.int .i64 a0_4); have hcz126_5 := cz BK201.out 5 (.int .i64 a0_5); have hcz126_6 := cz BK201.out 6 (.int .i64 a0_6)) | (go_at_call 58; (with_reducible refine (impl_within.calls a0_2 (-1) 16 true _ A113.out).mono ?_); rintro e w' ⟨rfl, ⟨nd, rfl⟩⟩) | (go_at_call 58; (with_reducible refine (impl_within.calls a0_3 (-1) 15 true _ A115.out).mono ?_); rintro e w' ⟨rfl, ⟨nd, rfl⟩⟩) | (go_at_call 119; (with_reducible refine (impl_fits.calls a0_5 4 t216 _ A124.out).mono ?_); rintro e w' ⟨rfl, ⟨nd, rfl⟩⟩))
             go_ret
             exact ⟨by first | rfl | (simp [errW_none, errW_some] <;> rfl) | (simp [*, errW_none, errW_some] <;> rfl), by repeat (first | (with_reducible first | exact HB.out | apply below_alloc | apply pw_below_drewN | apply below_drew1 | refine below_set ?_ GE201.out) | exact HB.out)⟩
           ·rw [if_neg c120] at H
            have c120b0 : (a0_4 == 8) = false := beq_eq_false_iff_ne.mpr c120
            have c120b1 : (a0_4 != 8) = true := bne_iff_ne.mpr c120
            exact impl_Operand_isMem.e5
         ·replace c116 := Bool.eq_false_iff.mpr c116
          subst c116
          have H1 : (some false) = some r := by rw [if_neg (show ¬ (false = true) by decide)] at H; exact H
          clear H
          have H := H1
          clear H1
          obtain rfl := Option.some.inj H
          go_enter Try.func134, Try.ntmps134
          go_wp2_with (first | ((with_reducible refine gate_dst (N := 1) rfl ?_); refine box_event ?hg (N := 1) ?hd (cs := #[.int .i64 a0_0, .int .i64 a0_1, .int .i64 a0_2, .int .i64 a0_3, .int .i64 a0_4, .int .i64 a0_5, .int .i64 a0_6]) (t := 28) ?hr ?_; (case hd => rfl); (case hg => rfl); (case hr => first | (go_simp; done) | (go_simp; rfl)); intro gb201 hg w129 hbox hb; have n0_ := Aside0.mk (below_step by1 hb); have n1_ := Aside0.mk (hbox); have n2_ := Aside0.mk ((by0 : w.heap.size ≤ gb201)); have n3_ := Aside0.mk ((by0 : w.heap.size ≤ gb201)); clear HB; have HB := n0_; have BK201 := n1_; have GW201 := n2_; have GE201 := n3_; clear n0_ n1_ n2_ n3_; clear hb hbox hg; have hcz130_0 := cz BK201.out 0 (.int .i64 a0_0); have hcz130_1 := cz BK201.out 1 (.int .i64 a0_1); have hcz130_2 := cz BK201.out 2 (.int .i64 a0_2); have hcz130_3 := cz BK201.out 3 (.int .i64 a0_3); have hcz130_4 := cz BK201.out 4 (.int .i64 a0_4); have hcz130_5 := cz BK201.out 5 (.int .i64 a0_5); have hcz130_6 := cz BK201.out 6 (.int .i64 a0_6)) | (go_at_call 58; (with_reducible refine (impl_within.calls a0_2 (-1) 16 true _ A113.out).mono ?_); rintro e w' ⟨rfl, ⟨nd, rfl⟩⟩) | (go_at_call 58; (with_reducible refine (impl_within.calls a0_3 (-1) 15 false _ A115.out).mono ?_); rintro e w' ⟨rfl, ⟨nd, rfl⟩⟩))
          go_ret
          exact ⟨by first | rfl | (simp [errW_none, errW_some] <;> rfl) | (simp [*, errW_none, errW_some] <;> rfl), by repeat (first | (with_reducible first | exact HB.out | apply below_alloc | apply pw_below_drewN | apply below_drew1 | refine below_set ?_ GE201.out) | exact HB.out)⟩
        ·replace c114 := Bool.eq_false_iff.mpr c114
         subst c114
         have H1 : (some false) = some r := by rw [if_neg (show ¬ (false = true) by decide)] at H; exact H
         clear H
         have H := H1
         clear H1
         obtain rfl := Option.some.inj H
         go_enter Try.func134, Try.ntmps134
         go_wp2_with (first | ((with_reducible refine gate_dst (N := 1) rfl ?_); refine box_event ?hg (N := 1) ?hd (cs := #[.int .i64 a0_0, .int .i64 a0_1, .int .i64 a0_2, .int .i64 a0_3, .int .i64 a0_4, .int .i64 a0_5, .int .i64 a0_6]) (t := 28) ?hr ?_; (case hd => rfl); (case hg => rfl); (case hr => first | (go_simp; done) | (go_simp; rfl)); intro gb201 hg w131 hbox hb; have n0_ := Aside0.mk (below_step by1 hb); have n1_ := Aside0.mk (hbox); have n2_ := Aside0.mk ((by0 : w.heap.size ≤ gb201)); have n3_ := Aside0.mk ((by0 : w.heap.size ≤ gb201)); clear HB; have HB := n0_; have BK201 := n1_; have GW201 := n2_; have GE201 := n3_; clear n0_ n1_ n2_ n3_; clear hb hbox hg; have hcz132_0 := cz BK201.out 0 (.int .i64 a0_0); have hcz132_1 := cz BK201.out 1 (.int .i64 a0_1); have hcz132_2 := cz BK201.out 2 (.int .i64 a0_2); have hcz132_3 := cz BK201.out 3 (.int .i64 a0_3); have hcz132_4 := cz BK201.out 4 (.int .i64 a0_4); have hcz132_5 := cz BK201.out 5 (.int .i64 a0_5); have hcz132_6 := cz BK201.out 6 (.int .i64 a0_6)) | (go_at_call 58; (with_reducible refine (impl_within.calls a0_2 (-1) 16 false _ A113.out).mono ?_); rintro e w' ⟨rfl, ⟨nd, rfl⟩⟩))
         go_ret
         exact ⟨by first | rfl | (simp [errW_none, errW_some] <;> rfl) | (simp [*, errW_none, errW_some] <;> rfl), by repeat (first | (with_reducible first | exact HB.out | apply below_alloc | apply pw_below_drewN | apply below_drew1 | refine below_set ?_ GE201.out) | exact HB.out)⟩
       ·rw [if_neg c112] at H
        have c112b0 : (a0_6 == 0) = false := beq_eq_false_iff_ne.mpr c112
        have c112b1 : (a0_6 != 0) = true := bne_iff_ne.mpr c112
        exact impl_Operand_isMem.e1
      ·rw [if_neg c111] at H
       have c111b0 : (a0_1 == 0) = false := beq_eq_false_iff_ne.mpr c111
       have c111b1 : (a0_1 != 0) = true := bne_iff_ne.mpr c111
       exact impl_Operand_isMem.e1
     ·rw [if_neg c110] at H
      have c110b0 : (a0_0 == 2) = false := beq_eq_false_iff_ne.mpr c110
      have c110b1 : (a0_0 != 2) = true := bne_iff_ne.mpr c110
      exact impl_Operand_isMem.e1

end Go.Proofs.Ytonogadabgilfaa.PFnExactMaskOf

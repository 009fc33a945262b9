/- Laid by a program of this session (patch_print.py) out of the translation: plain functions and what the calls do. No condition. -/
import Derived.Test.YtigoabhkdipdeaaPFnLogicx0
import Derived.Test.YtigoabhkdipdeaaPFnLogicx2
namespace Go.Proofs.Ytigoabhkdipdeaa.PFnLogic
open Go.RowKit Go.Proofs.YtigoabhkdipdeaaW.PrintWords Go.Proofs.YtigoabhkdipdeaaW.PrintLast Go.Proofs.YtigoabhkdipdeaaW.PrintMore
attribute [local go_sem] max2_int min2_int max_two min_two max_three min_three max_four min_four   -- for this text's walks alone
set_option linter.unusedVariables false
set_option linter.unusedSimpArgs false

/-! ### impl_alu: function 135 -/
def impl_alu.f (a0 : Int) (a1 : Int) (a2 : Int) (a3 : Int) (a4 : Int) : Option (Int × Int) := (impl_zero.f a2 a1).bind fun t203 => ((impl_zero.f a3 a1).bind fun t204 => (if a0 = 1 then ((impl_sum.f a1 t203 t204 0).bind fun bt205 => (some (bt205.1, bt205.2))) else (if a0 = 3 then ((impl_sum.f a1 t203 t204 (Go.bits .and .i64 a4 1)).bind fun bt207 => (some (bt207.1, bt207.2))) else (if a0 = 6 then ((impl_difference.f a1 t203 t204 0).bind fun bt209 => (some (bt209.1, bt209.2))) else (if a0 = 4 then ((impl_difference.f a1 t203 t204 (Go.bits .and .i64 a4 1)).bind fun bt211 => (some (bt211.1, bt211.2))) else (if a0 = 8 then ((impl_difference.f a1 t203 t204 0).bind fun bt213 => (some (t203, bt213.2))) else (if a0 = 2 then ((impl_flagsOf.f a1 (Go.bits .or .i64 t203 t204)).bind fun t215 => (some (Go.bits .or .i64 t203 t204, t215))) else (if a0 = 7 then ((impl_flagsOf.f a1 (Go.bits .xor .i64 t203 t204)).bind fun t216 => (some (Go.bits .xor .i64 t203 t204, t216))) else (if a0 = 10 then ((impl_flagsOf.f a1 (Go.bits .and .i64 t203 t204)).bind fun t217 => (some (t203, t217))) else ((impl_flagsOf.f a1 (Go.bits .and .i64 t203 t204)).bind fun t218 => (some (Go.bits .and .i64 t203 t204, t218))))))))))))
set_option maxHeartbeats 8000000 in
set_option maxRecDepth 100000 in
theorem impl_alu.calls (a0 : Int) (a1 : Int) (a2 : Int) (a3 : Int) (a4 : Int) (r1 : Int) (r2 : Int) (w : World) (h : impl_alu.f a0 a1 a2 a3 a4 = some (r1, r2)) :
  Calls Try.prog 135 #[.int .i64 a0, .int .i64 a1, .int .i64 a2, .int .i64 a3, .int .i64 a4] w fun e w' => e = .returned (.tuple #[.int .i64 r1, .int .i64 r2]) ∧ Drawn0 w w' := by
 have H : ((impl_zero.f a2 a1).bind fun t203 => ((impl_zero.f a3 a1).bind fun t204 => (if a0 = 1 then ((impl_sum.f a1 t203 t204 0).bind fun bt205 => (some (bt205.1, bt205.2))) else (if a0 = 3 then ((impl_sum.f a1 t203 t204 (Go.bits .and .i64 a4 1)).bind fun bt207 => (some (bt207.1, bt207.2))) else (if a0 = 6 then ((impl_difference.f a1 t203 t204 0).bind fun bt209 => (some (bt209.1, bt209.2))) else (if a0 = 4 then ((impl_difference.f a1 t203 t204 (Go.bits .and .i64 a4 1)).bind fun bt211 => (some (bt211.1, bt211.2))) else (if a0 = 8 then ((impl_difference.f a1 t203 t204 0).bind fun bt213 => (some (t203, bt213.2))) else (if a0 = 2 then ((impl_flagsOf.f a1 (Go.bits .or .i64 t203 t204)).bind fun t215 => (some (Go.bits .or .i64 t203 t204, t215))) else (if a0 = 7 then ((impl_flagsOf.f a1 (Go.bits .xor .i64 t203 t204)).bind fun t216 => (some (Go.bits .xor .i64 t203 t204, t216))) else (if a0 = 10 then ((impl_flagsOf.f a1 (Go.bits .and .i64 t203 t204)).bind fun t217 => (some (t203, t217))) else ((impl_flagsOf.f a1 (Go.bits .and .i64 t203 t204)).bind fun t218 => (some (Go.bits .and .i64 t203 t204, t218))))))))))))) = some (r1, r2) := h
 clear h
 replace H := Option.bind_eq_some_iff.mp H
 obtain ⟨t203, A60, H⟩ := H
 replace H : ((impl_zero.f a3 a1).bind fun t204 => (if a0 = 1 then ((impl_sum.f a1 t203 t204 0).bind fun bt205 => (some (bt205.1, bt205.2))) else (if a0 = 3 then ((impl_sum.f a1 t203 t204 (Go.bits .and .i64 a4 1)).bind fun bt207 => (some (bt207.1, bt207.2))) else (if a0 = 6 then ((impl_difference.f a1 t203 t204 0).bind fun bt209 => (some (bt209.1, bt209.2))) else (if a0 = 4 then ((impl_difference.f a1 t203 t204 (Go.bits .and .i64 a4 1)).bind fun bt211 => (some (bt211.1, bt211.2))) else (if a0 = 8 then ((impl_difference.f a1 t203 t204 0).bind fun bt213 => (some (t203, bt213.2))) else (if a0 = 2 then ((impl_flagsOf.f a1 (Go.bits .or .i64 t203 t204)).bind fun t215 => (some (Go.bits .or .i64 t203 t204, t215))) else (if a0 = 7 then ((impl_flagsOf.f a1 (Go.bits .xor .i64 t203 t204)).bind fun t216 => (some (Go.bits .xor .i64 t203 t204, t216))) else (if a0 = 10 then ((impl_flagsOf.f a1 (Go.bits .and .i64 t203 t204)).bind fun t217 => (some (t203, t217))) else ((impl_flagsOf.f a1 (Go.bits .and .i64 t203 t204)).bind fun t218 => (some (Go.bits .and .i64 t203 t204, t218)))))))))))) = some (r1, r2) := H
 have A6 := Aside0.mk A60
 clear A60
 replace H := Option.bind_eq_some_iff.mp H
 obtain ⟨t204, A70, H⟩ := H
 replace H : (if a0 = 1 then ((impl_sum.f a1 t203 t204 0).bind fun bt205 => (some (bt205.1, bt205.2))) else (if a0 = 3 then ((impl_sum.f a1 t203 t204 (Go.bits .and .i64 a4 1)).bind fun bt207 => (some (bt207.1, bt207.2))) else (if a0 = 6 then ((impl_difference.f a1 t203 t204 0).bind fun bt209 => (some (bt209.1, bt209.2))) else (if a0 = 4 then ((impl_difference.f a1 t203 t204 (Go.bits .and .i64 a4 1)).bind fun bt211 => (some (bt211.1, bt211.2))) else (if a0 = 8 then ((impl_difference.f a1 t203 t204 0).bind fun bt213 => (some (t203, bt213.2))) else (if a0 = 2 then ((impl_flagsOf.f a1 (Go.bits .or .i64 t203 t204)).bind fun t215 => (some (Go.bits .or .i64 t203 t204, t215))) else (if a0 = 7 then ((impl_flagsOf.f a1 (Go.bits .xor .i64 t203 t204)).bind fun t216 => (some (Go.bits .xor .i64 t203 t204, t216))) else (if a0 = 10 then ((impl_flagsOf.f a1 (Go.bits .and .i64 t203 t204)).bind fun t217 => (some (t203, t217))) else ((impl_flagsOf.f a1 (Go.bits .and .i64 t203 t204)).bind fun t218 => (some (Go.bits .and .i64 t203 t204, t218))))))))))) = some (r1, r2) := H
 have A7 := Aside0.mk A70
 clear A70
 by_cases c8 : a0 = 1
 ·rw [if_pos c8] at H
  have c8b0 : (a0 == 1) = true := beq_iff_eq.mpr c8
  have c8b1 : (a0 != 1) = false := bne_eq_false_iff_eq.mpr c8
  clear c8
  replace H := Option.bind_eq_some_iff.mp H
  obtain ⟨⟨t205, t206⟩, A90, H⟩ := H
  replace H : (some (t205, t206)) = some (r1, r2) := H
  have A9 := Aside0.mk A90
  clear A90
  simp only [Option.some.injEq, Prod.mk.injEq] at H
  obtain ⟨rfl, rfl⟩ := H
  go_enter Try.func135, Try.ntmps135
  go_wp2_with (first | ((with_reducible refine gate_callee (f := 141) rfl ?_); refine goesL_ (some 18) rfl rfl Try.func141 (by kernel_rfl) rfl #[.int .i64 a2, .int .i64 a1] rfl (by (try simp only [List.map_toArray, List.map_cons, List.map_nil]); first | done | rfl | (simp only [List.length_drop, List.length_take]; rfl)) ?_; (with_reducible refine (impl_zero.calls a2 a1 t203 _ A6.out).mono ?_); rintro e w' ⟨rfl, ⟨nd, rfl⟩⟩; refine ⟨_, rfl, ?_⟩) | ((with_reducible refine gate_callee (f := 141) rfl ?_); refine goesL_ (some 21) rfl rfl Try.func141 (by kernel_rfl) rfl #[.int .i64 a3, .int .i64 a1] rfl (by (try simp only [List.map_toArray, List.map_cons, List.map_nil]); first | done | rfl | (simp only [List.length_drop, List.length_take]; rfl)) ?_; (with_reducible refine (impl_zero.calls a3 a1 t204 _ A7.out).mono ?_); rintro e w' ⟨rfl, ⟨nd, rfl⟩⟩; refine ⟨_, rfl, ?_⟩) | ((with_reducible refine gate_callee (f := 209) rfl ?_); refine goesL_ (some 33) rfl rfl Try.func209 (by kernel_rfl) rfl #[.int .i64 a1, .int .i64 t203, .int .i64 t204, .int .i64 0] rfl (by (try simp only [List.map_toArray, List.map_cons, List.map_nil]); first | done | rfl | (simp only [List.length_drop, List.length_take]; rfl)) ?_; (with_reducible refine (impl_sum.calls a1 t203 t204 0 t205 t206 _ A9.out).mono ?_); rintro e w' ⟨rfl, ⟨nd, rfl⟩⟩; refine ⟨_, rfl, ?_⟩))
  go_ret2
  exact ⟨by first | rfl | (simp; done) | (simp [*]; done), by repeat (first | exact Drawn0.refl _ | apply Drawn0.step)⟩
 ·rw [if_neg c8] at H
  have c8b0 : (a0 == 1) = false := beq_eq_false_iff_ne.mpr c8
  have c8b1 : (a0 != 1) = true := bne_iff_ne.mpr c8
  by_cases c10 : a0 = 3
  ·rw [if_pos c10] at H
   have c10b0 : (a0 == 3) = true := beq_iff_eq.mpr c10
   have c10b1 : (a0 != 3) = false := bne_eq_false_iff_eq.mpr c10
   clear c10
   replace H := Option.bind_eq_some_iff.mp H
   obtain ⟨⟨t207, t208⟩, A110, H⟩ := H
   replace H : (some (t207, t208)) = some (r1, r2) := H
   have A11 := Aside0.mk A110
   clear A110
   simp only [Option.some.injEq, Prod.mk.injEq] at H
   obtain ⟨rfl, rfl⟩ := H
   go_enter Try.func135, Try.ntmps135
   go_wp2_with (first | ((with_reducible refine gate_callee (f := 141) rfl ?_); refine goesL_ (some 18) rfl rfl Try.func141 (by kernel_rfl) rfl #[.int .i64 a2, .int .i64 a1] rfl (by (try simp only [List.map_toArray, List.map_cons, List.map_nil]); first | done | rfl | (simp only [List.length_drop, List.length_take]; rfl)) ?_; (with_reducible refine (impl_zero.calls a2 a1 t203 _ A6.out).mono ?_); rintro e w' ⟨rfl, ⟨nd, rfl⟩⟩; refine ⟨_, rfl, ?_⟩) | ((with_reducible refine gate_callee (f := 141) rfl ?_); refine goesL_ (some 21) rfl rfl Try.func141 (by kernel_rfl) rfl #[.int .i64 a3, .int .i64 a1] rfl (by (try simp only [List.map_toArray, List.map_cons, List.map_nil]); first | done | rfl | (simp only [List.length_drop, List.length_take]; rfl)) ?_; (with_reducible refine (impl_zero.calls a3 a1 t204 _ A7.out).mono ?_); rintro e w' ⟨rfl, ⟨nd, rfl⟩⟩; refine ⟨_, rfl, ?_⟩) | ((with_reducible refine gate_callee (f := 209) rfl ?_); refine goesL_ (some 42) rfl rfl Try.func209 (by kernel_rfl) rfl #[.int .i64 a1, .int .i64 t203, .int .i64 t204, .int .i64 (Go.bits .and .i64 a4 1)] rfl (by (try simp only [List.map_toArray, List.map_cons, List.map_nil]); first | done | rfl | (simp only [List.length_drop, List.length_take]; rfl)) ?_; (with_reducible refine (impl_sum.calls a1 t203 t204 (Go.bits .and .i64 a4 1) t207 t208 _ A11.out).mono ?_); rintro e w' ⟨rfl, ⟨nd, rfl⟩⟩; refine ⟨_, rfl, ?_⟩))
   go_ret2
   exact ⟨by first | rfl | (simp; done) | (simp [*]; done), by repeat (first | exact Drawn0.refl _ | apply Drawn0.step)⟩
  ·rw [if_neg c10] at H
   have c10b0 : (a0 == 3) = false := beq_eq_false_iff_ne.mpr c10
   have c10b1 : (a0 != 3) = true := bne_iff_ne.mpr c10
   by_cases c12 : a0 = 6
   ·rw [if_pos c12] at H
    have c12b0 : (a0 == 6) = true := beq_iff_eq.mpr c12
    have c12b1 : (a0 != 6) = false := bne_eq_false_iff_eq.mpr c12
    clear c12
    replace H := Option.bind_eq_some_iff.mp H
    obtain ⟨⟨t209, t210⟩, A130, H⟩ := H
    replace H : (some (t209, t210)) = some (r1, r2) := H
    have A13 := Aside0.mk A130
    clear A130
    simp only [Option.some.injEq, Prod.mk.injEq] at H
    obtain ⟨rfl, rfl⟩ := H
    go_enter Try.func135, Try.ntmps135
    go_wp2_with (first | ((with_reducible refine gate_callee (f := 141) rfl ?_); refine goesL_ (some 18) rfl rfl Try.func141 (by kernel_rfl) rfl #[.int .i64 a2, .int .i64 a1] rfl (by (try simp only [List.map_toArray, List.map_cons, List.map_nil]); first | done | rfl | (simp only [List.length_drop, List.length_take]; rfl)) ?_; (with_reducible refine (impl_zero.calls a2 a1 t203 _ A6.out).mono ?_); rintro e w' ⟨rfl, ⟨nd, rfl⟩⟩; refine ⟨_, rfl, ?_⟩) | ((with_reducible refine gate_callee (f := 141) rfl ?_); refine goesL_ (some 21) rfl rfl Try.func141 (by kernel_rfl) rfl #[.int .i64 a3, .int .i64 a1] rfl (by (try simp only [List.map_toArray, List.map_cons, List.map_nil]); first | done | rfl | (simp only [List.length_drop, List.length_take]; rfl)) ?_; (with_reducible refine (impl_zero.calls a3 a1 t204 _ A7.out).mono ?_); rintro e w' ⟨rfl, ⟨nd, rfl⟩⟩; refine ⟨_, rfl, ?_⟩) | ((with_reducible refine gate_callee (f := 210) rfl ?_); refine goesL_ (some 50) rfl rfl Try.func210 (by kernel_rfl) rfl #[.int .i64 a1, .int .i64 t203, .int .i64 t204, .int .i64 0] rfl (by (try simp only [List.map_toArray, List.map_cons, List.map_nil]); first | done | rfl | (simp only [List.length_drop, List.length_take]; rfl)) ?_; (with_reducible refine (impl_difference.calls a1 t203 t204 0 t209 t210 _ A13.out).mono ?_); rintro e w' ⟨rfl, ⟨nd, rfl⟩⟩; refine ⟨_, rfl, ?_⟩))
    go_ret2
    exact ⟨by first | rfl | (simp; done) | (simp [*]; done), by repeat (first | exact Drawn0.refl _ | apply Drawn0.step)⟩
   ·rw [if_neg c12] at H
    have c12b0 : (a0 == 6) = false := beq_eq_false_iff_ne.mpr c12
    have c12b1 : (a0 != 6) = true := bne_iff_ne.mpr c12
    by_cases c14 : a0 = 4
    ·rw [if_pos c14] at H
     have c14b0 : (a0 == 4) = true := beq_iff_eq.mpr c14
     have c14b1 : (a0 != 4) = false := bne_eq_false_iff_eq.mpr c14
     clear c14
     replace H := Option.bind_eq_some_iff.mp H
     obtain ⟨⟨t211, t212⟩, A150, H⟩ := H
     replace H : (some (t211, t212)) = some (r1, r2) := H
     have A15 := Aside0.mk A150
     clear A150
     simp only [Option.some.injEq, Prod.mk.injEq] at H
     obtain ⟨rfl, rfl⟩ := H
     go_enter Try.func135, Try.ntmps135
     go_wp2_with (first | ((with_reducible refine gate_callee (f := 141) rfl ?_); refine goesL_ (some 18) rfl rfl Try.func141 (by kernel_rfl) rfl #[.int .i64 a2, .int .i64 a1] rfl (by (try simp only [List.map_toArray, List.map_cons, List.map_nil]); first | done | rfl | (simp only [List.length_drop, List.length_take]; rfl)) ?_; (with_reducible refine (impl_zero.calls a2 a1 t203 _ A6.out).mono ?_); rintro e w' ⟨rfl, ⟨nd, rfl⟩⟩; refine ⟨_, rfl, ?_⟩) | ((with_reducible refine gate_callee (f := 141) rfl ?_); refine goesL_ (some 21) rfl rfl Try.func141 (by kernel_rfl) rfl #[.int .i64 a3, .int .i64 a1] rfl (by (try simp only [List.map_toArray, List.map_cons, List.map_nil]); first | done | rfl | (simp only [List.length_drop, List.length_take]; rfl)) ?_; (with_reducible refine (impl_zero.calls a3 a1 t204 _ A7.out).mono ?_); rintro e w' ⟨rfl, ⟨nd, rfl⟩⟩; refine ⟨_, rfl, ?_⟩) | ((with_reducible refine gate_callee (f := 210) rfl ?_); refine goesL_ (some 59) rfl rfl Try.func210 (by kernel_rfl) rfl #[.int .i64 a1, .int .i64 t203, .int .i64 t204, .int .i64 (Go.bits .and .i64 a4 1)] rfl (by (try simp only [List.map_toArray, List.map_cons, List.map_nil]); first | done | rfl | (simp only [List.length_drop, List.length_take]; rfl)) ?_; (with_reducible refine (impl_difference.calls a1 t203 t204 (Go.bits .and .i64 a4 1) t211 t212 _ A15.out).mono ?_); rintro e w' ⟨rfl, ⟨nd, rfl⟩⟩; refine ⟨_, rfl, ?_⟩))
     go_ret2
     exact ⟨by first | rfl | (simp; done) | (simp [*]; done), by repeat (first | exact Drawn0.refl _ | apply Drawn0.step)⟩
    ·rw [if_neg c14] at H
     have c14b0 : (a0 == 4) = false := beq_eq_false_iff_ne.mpr c14
     have c14b1 : (a0 != 4) = true := bne_iff_ne.mpr c14
     by_cases c16 : a0 = 8
     ·rw [if_pos c16] at H
      have c16b0 : (a0 == 8) = true := beq_iff_eq.mpr c16
      have c16b1 : (a0 != 8) = false := bne_eq_false_iff_eq.mpr c16
      clear c16
      replace H := Option.bind_eq_some_iff.mp H
      obtain ⟨⟨t213, t214⟩, A170, H⟩ := H
      replace H : (some (t203, t214)) = some (r1, r2) := H
      have A17 := Aside0.mk A170
      clear A170
      simp only [Option.some.injEq, Prod.mk.injEq] at H
      obtain ⟨rfl, rfl⟩ := H
      go_enter Try.func135, Try.ntmps135
      go_wp2_with (first | ((with_reducible refine gate_callee (f := 141) rfl ?_); refine goesL_ (some 18) rfl rfl Try.func141 (by kernel_rfl) rfl #[.int .i64 a2, .int .i64 a1] rfl (by (try simp only [List.map_toArray, List.map_cons, List.map_nil]); first | done | rfl | (simp only [List.length_drop, List.length_take]; rfl)) ?_; (with_reducible refine (impl_zero.calls a2 a1 t203 _ A6.out).mono ?_); rintro e w' ⟨rfl, ⟨nd, rfl⟩⟩; refine ⟨_, rfl, ?_⟩) | ((with_reducible refine gate_callee (f := 141) rfl ?_); refine goesL_ (some 21) rfl rfl Try.func141 (by kernel_rfl) rfl #[.int .i64 a3, .int .i64 a1] rfl (by (try simp only [List.map_toArray, List.map_cons, List.map_nil]); first | done | rfl | (simp only [List.length_drop, List.length_take]; rfl)) ?_; (with_reducible refine (impl_zero.calls a3 a1 t204 _ A7.out).mono ?_); rintro e w' ⟨rfl, ⟨nd, rfl⟩⟩; refine ⟨_, rfl, ?_⟩) | ((with_reducible refine gate_callee (f := 210) rfl ?_); refine goesL_ (some 68) rfl rfl Try.func210 (by kernel_rfl) rfl #[.int .i64 a1, .int .i64 t203, .int .i64 t204, .int .i64 0] rfl (by (try simp only [List.map_toArray, List.map_cons, List.map_nil]); first | done | rfl | (simp only [List.length_drop, List.length_take]; rfl)) ?_; (with_reducible refine (impl_difference.calls a1 t203 t204 0 t213 t214 _ A17.out).mono ?_); rintro e w' ⟨rfl, ⟨nd, rfl⟩⟩; refine ⟨_, rfl, ?_⟩))
      go_ret2
      exact ⟨by first | rfl | (simp; done) | (simp [*]; done), by repeat (first | exact Drawn0.refl _ | apply Drawn0.step)⟩
     ·rw [if_neg c16] at H
      have c16b0 : (a0 == 8) = false := beq_eq_false_iff_ne.mpr c16
      have c16b1 : (a0 != 8) = true := bne_iff_ne.mpr c16
      by_cases c18 : a0 = 2
      ·rw [if_pos c18] at H
       have c18b0 : (a0 == 2) = true := beq_iff_eq.mpr c18
       have c18b1 : (a0 != 2) = false := bne_eq_false_iff_eq.mpr c18
       clear c18
       replace H := Option.bind_eq_some_iff.mp H
       obtain ⟨t215, A190, H⟩ := H
       replace H : (some (Go.bits .or .i64 t203 t204, t215)) = some (r1, r2) := H
       have A19 := Aside0.mk A190
       clear A190
       simp only [Option.some.injEq, Prod.mk.injEq] at H
       obtain ⟨rfl, rfl⟩ := H
       go_enter Try.func135, Try.ntmps135
       go_wp2_with (first | ((with_reducible refine gate_callee (f := 141) rfl ?_); refine goesL_ (some 18) rfl rfl Try.func141 (by kernel_rfl) rfl #[.int .i64 a2, .int .i64 a1] rfl (by (try simp only [List.map_toArray, List.map_cons, List.map_nil]); first | done | rfl | (simp only [List.length_drop, List.length_take]; rfl)) ?_; (with_reducible refine (impl_zero.calls a2 a1 t203 _ A6.out).mono ?_); rintro e w' ⟨rfl, ⟨nd, rfl⟩⟩; refine ⟨_, rfl, ?_⟩) | ((with_reducible refine gate_callee (f := 141) rfl ?_); refine goesL_ (some 21) rfl rfl Try.func141 (by kernel_rfl) rfl #[.int .i64 a3, .int .i64 a1] rfl (by (try simp only [List.map_toArray, List.map_cons, List.map_nil]); first | done | rfl | (simp only [List.length_drop, List.length_take]; rfl)) ?_; (with_reducible refine (impl_zero.calls a3 a1 t204 _ A7.out).mono ?_); rintro e w' ⟨rfl, ⟨nd, rfl⟩⟩; refine ⟨_, rfl, ?_⟩) | ((with_reducible refine gate_callee (f := 138) rfl ?_); refine goesL_ (some 92) rfl rfl Try.func138 (by kernel_rfl) rfl #[.int .i64 a1, .int .i64 (Go.bits .or .i64 t203 t204)] rfl (by (try simp only [List.map_toArray, List.map_cons, List.map_nil]); first | done | rfl | (simp only [List.length_drop, List.length_take]; rfl)) ?_; (with_reducible refine (impl_flagsOf.calls a1 (Go.bits .or .i64 t203 t204) t215 _ A19.out).mono ?_); rintro e w' ⟨rfl, ⟨nd, rfl⟩⟩; refine ⟨_, rfl, ?_⟩))
       go_ret2
       exact ⟨by first | rfl | (simp; done) | (simp [*]; done), by repeat (first | exact Drawn0.refl _ | apply Drawn0.step)⟩
      ·rw [if_neg c18] at H
       have c18b0 : (a0 == 2) = false := beq_eq_false_iff_ne.mpr c18
       have c18b1 : (a0 != 2) = true := bne_iff_ne.mpr c18
       by_cases c20 : a0 = 7
       ·rw [if_pos c20] at H
        have c20b0 : (a0 == 7) = true := beq_iff_eq.mpr c20
        have c20b1 : (a0 != 7) = false := bne_eq_false_iff_eq.mpr c20
        clear c20
        replace H := Option.bind_eq_some_iff.mp H
        obtain ⟨t216, A210, H⟩ := H
        replace H : (some (Go.bits .xor .i64 t203 t204, t216)) = some (r1, r2) := H
        have A21 := Aside0.mk A210
        clear A210
        simp only [Option.some.injEq, Prod.mk.injEq] at H
        obtain ⟨rfl, rfl⟩ := H
        go_enter Try.func135, Try.ntmps135
        go_wp2_with (first | ((with_reducible refine gate_callee (f := 141) rfl ?_); refine goesL_ (some 18) rfl rfl Try.func141 (by kernel_rfl) rfl #[.int .i64 a2, .int .i64 a1] rfl (by (try simp only [List.map_toArray, List.map_cons, List.map_nil]); first | done | rfl | (simp only [List.length_drop, List.length_take]; rfl)) ?_; (with_reducible refine (impl_zero.calls a2 a1 t203 _ A6.out).mono ?_); rintro e w' ⟨rfl, ⟨nd, rfl⟩⟩; refine ⟨_, rfl, ?_⟩) | ((with_reducible refine gate_callee (f := 141) rfl ?_); refine goesL_ (some 21) rfl rfl Try.func141 (by kernel_rfl) rfl #[.int .i64 a3, .int .i64 a1] rfl (by (try simp only [List.map_toArray, List.map_cons, List.map_nil]); first | done | rfl | (simp only [List.length_drop, List.length_take]; rfl)) ?_; (with_reducible refine (impl_zero.calls a3 a1 t204 _ A7.out).mono ?_); rintro e w' ⟨rfl, ⟨nd, rfl⟩⟩; refine ⟨_, rfl, ?_⟩) | ((with_reducible refine gate_callee (f := 138) rfl ?_); refine goesL_ (some 92) rfl rfl Try.func138 (by kernel_rfl) rfl #[.int .i64 a1, .int .i64 (Go.bits .xor .i64 t203 t204)] rfl (by (try simp only [List.map_toArray, List.map_cons, List.map_nil]); first | done | rfl | (simp only [List.length_drop, List.length_take]; rfl)) ?_; (with_reducible refine (impl_flagsOf.calls a1 (Go.bits .xor .i64 t203 t204) t216 _ A21.out).mono ?_); rintro e w' ⟨rfl, ⟨nd, rfl⟩⟩; refine ⟨_, rfl, ?_⟩))
        go_ret2
        exact ⟨by first | rfl | (simp; done) | (simp [*]; done), by repeat (first | exact Drawn0.refl _ | apply Drawn0.step)⟩
       ·rw [if_neg c20] at H
        have c20b0 : (a0 == 7) = false := beq_eq_false_iff_ne.mpr c20
        have c20b1 : (a0 != 7) = true := bne_iff_ne.mpr c20
        by_cases c22 : a0 = 10
        ·rw [if_pos c22] at H
         have c22b0 : (a0 == 10) = true := beq_iff_eq.mpr c22
         have c22b1 : (a0 != 10) = false := bne_eq_false_iff_eq.mpr c22
         clear c22
         replace H := Option.bind_eq_some_iff.mp H
         obtain ⟨t217, A230, H⟩ := H
         replace H : (some (t203, t217)) = some (r1, r2) := H
         have A23 := Aside0.mk A230
         clear A230
         simp only [Option.some.injEq, Prod.mk.injEq] at H
         obtain ⟨rfl, rfl⟩ := H
         go_enter Try.func135, Try.ntmps135
         go_wp2_with (first | ((with_reducible refine gate_callee (f := 141) rfl ?_); refine goesL_ (some 18) rfl rfl Try.func141 (by kernel_rfl) rfl #[.int .i64 a2, .int .i64 a1] rfl (by (try simp only [List.map_toArray, List.map_cons, List.map_nil]); first | done | rfl | (simp only [List.length_drop, List.length_take]; rfl)) ?_; (with_reducible refine (impl_zero.calls a2 a1 t203 _ A6.out).mono ?_); rintro e w' ⟨rfl, ⟨nd, rfl⟩⟩; refine ⟨_, rfl, ?_⟩) | ((with_reducible refine gate_callee (f := 141) rfl ?_); refine goesL_ (some 21) rfl rfl Try.func141 (by kernel_rfl) rfl #[.int .i64 a3, .int .i64 a1] rfl (by (try simp only [List.map_toArray, List.map_cons, List.map_nil]); first | done | rfl | (simp only [List.length_drop, List.length_take]; rfl)) ?_; (with_reducible refine (impl_zero.calls a3 a1 t204 _ A7.out).mono ?_); rintro e w' ⟨rfl, ⟨nd, rfl⟩⟩; refine ⟨_, rfl, ?_⟩) | ((with_reducible refine gate_callee (f := 138) rfl ?_); refine goesL_ (some 88) rfl rfl Try.func138 (by kernel_rfl) rfl #[.int .i64 a1, .int .i64 (Go.bits .and .i64 t203 t204)] rfl (by (try simp only [List.map_toArray, List.map_cons, List.map_nil]); first | done | rfl | (simp only [List.length_drop, List.length_take]; rfl)) ?_; (with_reducible refine (impl_flagsOf.calls a1 (Go.bits .and .i64 t203 t204) t217 _ A23.out).mono ?_); rintro e w' ⟨rfl, ⟨nd, rfl⟩⟩; refine ⟨_, rfl, ?_⟩))
         go_ret2
         exact ⟨by first | rfl | (simp; done) | (simp [*]; done), by repeat (first | exact Drawn0.refl _ | apply Drawn0.step)⟩
        ·rw [if_neg c22] at H
         have c22b0 : (a0 == 10) = false := beq_eq_false_iff_ne.mpr c22
         have c22b1 : (a0 != 10) = true := bne_iff_ne.mpr c22
         replace H := Option.bind_eq_some_iff.mp H
         obtain ⟨t218, A240, H⟩ := H
         replace H : (some (Go.bits .and .i64 t203 t204, t218)) = some (r1, r2) := H
         have A24 := Aside0.mk A240
         clear A240
         simp only [Option.some.injEq, Prod.mk.injEq] at H
         obtain ⟨rfl, rfl⟩ := H
         go_enter Try.func135, Try.ntmps135
         go_wp2_with (first | ((with_reducible refine gate_callee (f := 141) rfl ?_); refine goesL_ (some 18) rfl rfl Try.func141 (by kernel_rfl) rfl #[.int .i64 a2, .int .i64 a1] rfl (by (try simp only [List.map_toArray, List.map_cons, List.map_nil]); first | done | rfl | (simp only [List.length_drop, List.length_take]; rfl)) ?_; (with_reducible refine (impl_zero.calls a2 a1 t203 _ A6.out).mono ?_); rintro e w' ⟨rfl, ⟨nd, rfl⟩⟩; refine ⟨_, rfl, ?_⟩) | ((with_reducible refine gate_callee (f := 141) rfl ?_); refine goesL_ (some 21) rfl rfl Try.func141 (by kernel_rfl) rfl #[.int .i64 a3, .int .i64 a1] rfl (by (try simp only [List.map_toArray, List.map_cons, List.map_nil]); first | done | rfl | (simp only [List.length_drop, List.length_take]; rfl)) ?_; (with_reducible refine (impl_zero.calls a3 a1 t204 _ A7.out).mono ?_); rintro e w' ⟨rfl, ⟨nd, rfl⟩⟩; refine ⟨_, rfl, ?_⟩) | ((with_reducible refine gate_callee (f := 138) rfl ?_); refine goesL_ (some 92) rfl rfl Try.func138 (by kernel_rfl) rfl #[.int .i64 a1, .int .i64 (Go.bits .and .i64 t203 t204)] rfl (by (try simp only [List.map_toArray, List.map_cons, List.map_nil]); first | done | rfl | (simp only [List.length_drop, List.length_take]; rfl)) ?_; (with_reducible refine (impl_flagsOf.calls a1 (Go.bits .and .i64 t203 t204) t218 _ A24.out).mono ?_); rintro e w' ⟨rfl, ⟨nd, rfl⟩⟩; refine ⟨_, rfl, ?_⟩))
         go_ret2
         exact ⟨by first | rfl | (simp; done) | (simp [*]; done), by repeat (first | exact Drawn0.refl _ | apply Drawn0.step)⟩

/-! ### impl_Alu: function 57 -/
def impl_Alu.f (a0 : Int) (a1 : Int) (a2 : Int) (a3 : Int) (a4 : Int) : Option (Int × Int × Int) := (impl_areAsked.f a1 a4).bind fun t219 => (if t219 = true then ((impl_isAlu.f a0).bind fun t220 => (if t220 = true then ((impl_alu.f a0 a1 a2 a3 a4).bind fun bt221 => (some (bt221.1, bt221.2, 0))) else (some (0, 0, 11)))) else (some (0, 0, 4)))
set_option maxHeartbeats 8000000 in
set_option maxRecDepth 100000 in
theorem impl_Alu.calls (a0 : Int) (a1 : Int) (a2 : Int) (a3 : Int) (a4 : Int) (r1 : Int) (r2 : Int) (r3 : Int) (w : World) (h : impl_Alu.f a0 a1 a2 a3 a4 = some (r1, r2, r3)) :
  Calls Try.prog 57 #[.int .i64 a0, .int .i64 a1, .int .i64 a2, .int .i64 a3, .int .i64 a4] w fun e w' => e = .returned (.tuple #[.int .i64 r1, .int .i64 r2, .int .i64 r3]) ∧ Drawn0 w w' := by
 have H : ((impl_areAsked.f a1 a4).bind fun t219 => (if t219 = true then ((impl_isAlu.f a0).bind fun t220 => (if t220 = true then ((impl_alu.f a0 a1 a2 a3 a4).bind fun bt221 => (some (bt221.1, bt221.2, 0))) else (some (0, 0, 11)))) else (some (0, 0, 4)))) = some (r1, r2, r3) := h
 clear h
 replace H := Option.bind_eq_some_iff.mp H
 obtain ⟨t219, A60, H⟩ := H
 replace H : (if t219 = true then ((impl_isAlu.f a0).bind fun t220 => (if t220 = true then ((impl_alu.f a0 a1 a2 a3 a4).bind fun bt221 => (some (bt221.1, bt221.2, 0))) else (some (0, 0, 11)))) else (some (0, 0, 4))) = some (r1, r2, r3) := H
 have A6 := Aside0.mk A60
 clear A60
 by_cases c7 : t219 = true
 ·subst c7
  have H1 : ((impl_isAlu.f a0).bind fun t220 => (if t220 = true then ((impl_alu.f a0 a1 a2 a3 a4).bind fun bt221 => (some (bt221.1, bt221.2, 0))) else (some (0, 0, 11)))) = some (r1, r2, r3) := by rw [if_pos rfl] at H; exact H
  clear H
  have H := H1
  clear H1
  replace H := Option.bind_eq_some_iff.mp H
  obtain ⟨t220, A80, H⟩ := H
  replace H : (if t220 = true then ((impl_alu.f a0 a1 a2 a3 a4).bind fun bt221 => (some (bt221.1, bt221.2, 0))) else (some (0, 0, 11))) = some (r1, r2, r3) := H
  have A8 := Aside0.mk A80
  clear A80
  by_cases c9 : t220 = true
  ·subst c9
   have H1 : ((impl_alu.f a0 a1 a2 a3 a4).bind fun bt221 => (some (bt221.1, bt221.2, 0))) = some (r1, r2, r3) := by rw [if_pos rfl] at H; exact H
   clear H
   have H := H1
   clear H1
   replace H := Option.bind_eq_some_iff.mp H
   obtain ⟨⟨t221, t222⟩, A100, H⟩ := H
   replace H : (some (t221, t222, 0)) = some (r1, r2, r3) := H
   have A10 := Aside0.mk A100
   clear A100
   simp only [Option.some.injEq, Prod.mk.injEq] at H
   obtain ⟨rfl, rfl, rfl⟩ := H
   go_enter Try.func57, Try.ntmps57
   go_wp2_with (first | ((with_reducible refine gate_callee (f := 133) rfl ?_); refine goesL_ (some 18) rfl rfl Try.func133 (by kernel_rfl) rfl #[.int .i64 a1, .int .i64 a4] rfl (by (try simp only [List.map_toArray, List.map_cons, List.map_nil]); first | done | rfl | (simp only [List.length_drop, List.length_take]; rfl)) ?_; (with_reducible refine (impl_areAsked.calls a1 a4 true _ A6.out).mono ?_); rintro e w' ⟨rfl, ⟨nd, rfl⟩⟩; refine ⟨_, rfl, ?_⟩) | ((with_reducible refine gate_callee (f := 134) rfl ?_); refine goesL_ (some 22) rfl rfl Try.func134 (by kernel_rfl) rfl #[.int .i64 a0] rfl (by (try simp only [List.map_toArray, List.map_cons, List.map_nil]); first | done | rfl | (simp only [List.length_drop, List.length_take]; rfl)) ?_; (with_reducible refine (impl_isAlu.calls a0 true _ A8.out).mono ?_); rintro e w' ⟨rfl, ⟨nd, rfl⟩⟩; refine ⟨_, rfl, ?_⟩) | ((with_reducible refine gate_callee (f := 135) rfl ?_); refine goesL_ (some 30) rfl rfl Try.func135 (by kernel_rfl) rfl #[.int .i64 a0, .int .i64 a1, .int .i64 a2, .int .i64 a3, .int .i64 a4] rfl (by (try simp only [List.map_toArray, List.map_cons, List.map_nil]); first | done | rfl | (simp only [List.length_drop, List.length_take]; rfl)) ?_; (with_reducible refine (impl_alu.calls a0 a1 a2 a3 a4 t221 t222 _ A10.out).mono ?_); rintro e w' ⟨rfl, ⟨nd, rfl⟩⟩; refine ⟨_, rfl, ?_⟩))
   go_ret3
   exact ⟨by first | rfl | (simp; done) | (simp [*]; done), by repeat (first | exact Drawn0.refl _ | apply Drawn0.step)⟩
  ·replace c9 := Bool.eq_false_iff.mpr c9
   subst c9
   have H1 : (some (0, 0, 11)) = some (r1, r2, r3) := by rw [if_neg (show ¬ (false = true) by decide)] at H; exact H
   clear H
   have H := H1
   clear H1
   simp only [Option.some.injEq, Prod.mk.injEq] at H
   obtain ⟨rfl, rfl, rfl⟩ := H
   go_enter Try.func57, Try.ntmps57
   go_wp2_with (first | ((with_reducible refine gate_callee (f := 133) rfl ?_); refine goesL_ (some 18) rfl rfl Try.func133 (by kernel_rfl) rfl #[.int .i64 a1, .int .i64 a4] rfl (by (try simp only [List.map_toArray, List.map_cons, List.map_nil]); first | done | rfl | (simp only [List.length_drop, List.length_take]; rfl)) ?_; (with_reducible refine (impl_areAsked.calls a1 a4 true _ A6.out).mono ?_); rintro e w' ⟨rfl, ⟨nd, rfl⟩⟩; refine ⟨_, rfl, ?_⟩) | ((with_reducible refine gate_callee (f := 134) rfl ?_); refine goesL_ (some 22) rfl rfl Try.func134 (by kernel_rfl) rfl #[.int .i64 a0] rfl (by (try simp only [List.map_toArray, List.map_cons, List.map_nil]); first | done | rfl | (simp only [List.length_drop, List.length_take]; rfl)) ?_; (with_reducible refine (impl_isAlu.calls a0 false _ A8.out).mono ?_); rintro e w' ⟨rfl, ⟨nd, rfl⟩⟩; refine ⟨_, rfl, ?_⟩))
   go_ret3
   exact ⟨by first | rfl | (simp; done) | (simp [*]; done), by repeat (first | exact Drawn0.refl _ | apply Drawn0.step)⟩
 ·replace c7 := Bool.eq_false_iff.mpr c7
  subst c7
  have H1 : (some (0, 0, 4)) = some (r1, r2, r3) := by rw [if_neg (show ¬ (false = true) by decide)] at H; exact H
  clear H
  have H := H1
  clear H1
  simp only [Option.some.injEq, Prod.mk.injEq] at H
  obtain ⟨rfl, rfl, rfl⟩ := H
  go_enter Try.func57, Try.ntmps57
  go_wp2_with (first | ((with_reducible refine gate_callee (f := 133) rfl ?_); refine goesL_ (some 18) rfl rfl Try.func133 (by kernel_rfl) rfl #[.int .i64 a1, .int .i64 a4] rfl (by (try simp only [List.map_toArray, List.map_cons, List.map_nil]); first | done | rfl | (simp only [List.length_drop, List.length_take]; rfl)) ?_; (with_reducible refine (impl_areAsked.calls a1 a4 false _ A6.out).mono ?_); rintro e w' ⟨rfl, ⟨nd, rfl⟩⟩; refine ⟨_, rfl, ?_⟩))
  go_ret3
  exact ⟨by first | rfl | (simp; done) | (simp [*]; done), by repeat (first | exact Drawn0.refl _ | apply Drawn0.step)⟩

/-! ### laws_plus: function 58 -/
def laws_plus.f (a0 : Int) (a1 : Int) : Option (Int) := some (wrap64 (IntKind.u64.wrap ((IntKind.u64.wrap (a0)) + (IntKind.u64.wrap (a1)))))
set_option maxHeartbeats 8000000 in
set_option maxRecDepth 100000 in
theorem laws_plus.calls (a0 : Int) (a1 : Int) (r : Int) (w : World) (h : laws_plus.f a0 a1 = some r) :
  Calls Try.prog 58 #[.int .i64 a0, .int .i64 a1] w fun e w' => e = .returned (.int .i64 r) ∧ Drawn0 w w' := by
 have H : (some (wrap64 (IntKind.u64.wrap ((IntKind.u64.wrap (a0)) + (IntKind.u64.wrap (a1)))))) = some r := h
 clear h
 obtain rfl := Option.some.inj H
 go_enter Try.func58, Try.ntmps58
 go_wp2
 go_ret
 exact ⟨by first | rfl | (simp; done) | (simp [*]; done), by repeat (first | exact Drawn0.refl _ | apply Drawn0.step)⟩

/-! ### impl_isOne: function 136 -/
def impl_isOne.f (a0 : Int) : Option (Bool) := if a0 = 11 then (some true) else (if a0 = 12 then (some true) else (if a0 = 18 then (some true) else (some (a0 == 19))))
set_option maxHeartbeats 8000000 in
set_option maxRecDepth 100000 in
theorem impl_isOne.calls (a0 : Int) (r : Bool) (w : World) (h : impl_isOne.f a0 = some r) :
  Calls Try.prog 136 #[.int .i64 a0] w fun e w' => e = .returned (.bool r) ∧ Drawn0 w w' := by
 have H : (if a0 = 11 then (some true) else (if a0 = 12 then (some true) else (if a0 = 18 then (some true) else (some (a0 == 19))))) = some r := h
 clear h
 by_cases c2 : a0 = 11
 ·rw [if_pos c2] at H
  have c2b0 : (a0 == 11) = true := beq_iff_eq.mpr c2
  have c2b1 : (a0 != 11) = false := bne_eq_false_iff_eq.mpr c2
  clear c2
  obtain rfl := Option.some.inj H
  go_enter Try.func136, Try.ntmps136
  go_wp2
  go_ret
  exact ⟨by first | rfl | (simp; done) | (simp [*]; done), by repeat (first | exact Drawn0.refl _ | apply Drawn0.step)⟩
 ·rw [if_neg c2] at H
  have c2b0 : (a0 == 11) = false := beq_eq_false_iff_ne.mpr c2
  have c2b1 : (a0 != 11) = true := bne_iff_ne.mpr c2
  by_cases c3 : a0 = 12
  ·rw [if_pos c3] at H
   have c3b0 : (a0 == 12) = true := beq_iff_eq.mpr c3
   have c3b1 : (a0 != 12) = false := bne_eq_false_iff_eq.mpr c3
   clear c3
   obtain rfl := Option.some.inj H
   go_enter Try.func136, Try.ntmps136
   go_wp2
   go_ret
   exact ⟨by first | rfl | (simp; done) | (simp [*]; done), by repeat (first | exact Drawn0.refl _ | apply Drawn0.step)⟩
  ·rw [if_neg c3] at H
   have c3b0 : (a0 == 12) = false := beq_eq_false_iff_ne.mpr c3
   have c3b1 : (a0 != 12) = true := bne_iff_ne.mpr c3
   by_cases c4 : a0 = 18
   ·rw [if_pos c4] at H
    have c4b0 : (a0 == 18) = true := beq_iff_eq.mpr c4
    have c4b1 : (a0 != 18) = false := bne_eq_false_iff_eq.mpr c4
    clear c4
    obtain rfl := Option.some.inj H
    go_enter Try.func136, Try.ntmps136
    go_wp2
    go_ret
    exact ⟨by first | rfl | (simp; done) | (simp [*]; done), by repeat (first | exact Drawn0.refl _ | apply Drawn0.step)⟩
   ·rw [if_neg c4] at H
    have c4b0 : (a0 == 18) = false := beq_eq_false_iff_ne.mpr c4
    have c4b1 : (a0 != 18) = true := bne_iff_ne.mpr c4
    obtain rfl := Option.some.inj H
    go_enter Try.func136, Try.ntmps136
    go_wp2
    go_ret
    exact ⟨by first | rfl | (simp; done) | (simp [*]; done), by repeat (first | exact Drawn0.refl _ | apply Drawn0.step)⟩

/-! ### impl_one: function 137 -/
def impl_one.f (a0 : Int) (a1 : Int) (a2 : Int) (a3 : Int) : Option (Int × Int) := (impl_zero.f a2 a1).bind fun t223 => (if a0 = 11 then ((impl_zero.f (Go.bits .xor .i64 (-1) t223) a1).bind fun t224 => (some (t224, a3))) else (if a0 = 12 then ((impl_difference.f a1 0 t223 0).bind fun bt225 => (some (bt225.1, bt225.2))) else ((impl_sum.f a1 t223 1 0).bind fun bt227 => (if a0 = 19 then ((impl_difference.f a1 t223 1 0).bind fun bt229 => (some (bt229.1, Go.bits .or .i64 (Go.bits .andNot .i64 bt229.2 1) (Go.bits .and .i64 a3 1)))) else (some (bt227.1, Go.bits .or .i64 (Go.bits .andNot .i64 bt227.2 1) (Go.bits .and .i64 a3 1)))))))
set_option maxHeartbeats 8000000 in
set_option maxRecDepth 100000 in
theorem impl_one.calls (a0 : Int) (a1 : Int) (a2 : Int) (a3 : Int) (r1 : Int) (r2 : Int) (w : World) (h : impl_one.f a0 a1 a2 a3 = some (r1, r2)) :
  Calls Try.prog 137 #[.int .i64 a0, .int .i64 a1, .int .i64 a2, .int .i64 a3] w fun e w' => e = .returned (.tuple #[.int .i64 r1, .int .i64 r2]) ∧ Drawn0 w w' := by
 have H : ((impl_zero.f a2 a1).bind fun t223 => (if a0 = 11 then ((impl_zero.f (Go.bits .xor .i64 (-1) t223) a1).bind fun t224 => (some (t224, a3))) else (if a0 = 12 then ((impl_difference.f a1 0 t223 0).bind fun bt225 => (some (bt225.1, bt225.2))) else ((impl_sum.f a1 t223 1 0).bind fun bt227 => (if a0 = 19 then ((impl_difference.f a1 t223 1 0).bind fun bt229 => (some (bt229.1, Go.bits .or .i64 (Go.bits .andNot .i64 bt229.2 1) (Go.bits .and .i64 a3 1)))) else (some (bt227.1, Go.bits .or .i64 (Go.bits .andNot .i64 bt227.2 1) (Go.bits .and .i64 a3 1)))))))) = some (r1, r2) := h
 clear h
 replace H := Option.bind_eq_some_iff.mp H
 obtain ⟨t223, A50, H⟩ := H
 replace H : (if a0 = 11 then ((impl_zero.f (Go.bits .xor .i64 (-1) t223) a1).bind fun t224 => (some (t224, a3))) else (if a0 = 12 then ((impl_difference.f a1 0 t223 0).bind fun bt225 => (some (bt225.1, bt225.2))) else ((impl_sum.f a1 t223 1 0).bind fun bt227 => (if a0 = 19 then ((impl_difference.f a1 t223 1 0).bind fun bt229 => (some (bt229.1, Go.bits .or .i64 (Go.bits .andNot .i64 bt229.2 1) (Go.bits .and .i64 a3 1)))) else (some (bt227.1, Go.bits .or .i64 (Go.bits .andNot .i64 bt227.2 1) (Go.bits .and .i64 a3 1))))))) = some (r1, r2) := H
 have A5 := Aside0.mk A50
 clear A50
 by_cases c6 : a0 = 11
 ·rw [if_pos c6] at H
  have c6b0 : (a0 == 11) = true := beq_iff_eq.mpr c6
  have c6b1 : (a0 != 11) = false := bne_eq_false_iff_eq.mpr c6
  clear c6
  replace H := Option.bind_eq_some_iff.mp H
  obtain ⟨t224, A70, H⟩ := H
  replace H : (some (t224, a3)) = some (r1, r2) := H
  have A7 := Aside0.mk A70
  clear A70
  simp only [Option.some.injEq, Prod.mk.injEq] at H
  obtain ⟨rfl, rfl⟩ := H
  go_enter Try.func137, Try.ntmps137
  go_wp2_with (first | ((with_reducible refine gate_callee (f := 141) rfl ?_); refine goesL_ (some 14) rfl rfl Try.func141 (by kernel_rfl) rfl #[.int .i64 a2, .int .i64 a1] rfl (by (try simp only [List.map_toArray, List.map_cons, List.map_nil]); first | done | rfl | (simp only [List.length_drop, List.length_take]; rfl)) ?_; (with_reducible refine (impl_zero.calls a2 a1 t223 _ A5.out).mono ?_); rintro e w' ⟨rfl, ⟨nd, rfl⟩⟩; refine ⟨_, rfl, ?_⟩) | ((with_reducible refine gate_callee (f := 141) rfl ?_); refine goesL_ (some 21) rfl rfl Try.func141 (by kernel_rfl) rfl #[.int .i64 (Go.bits .xor .i64 (-1) t223), .int .i64 a1] rfl (by (try simp only [List.map_toArray, List.map_cons, List.map_nil]); first | done | rfl | (simp only [List.length_drop, List.length_take]; rfl)) ?_; (with_reducible refine (impl_zero.calls (Go.bits .xor .i64 (-1) t223) a1 t224 _ A7.out).mono ?_); rintro e w' ⟨rfl, ⟨nd, rfl⟩⟩; refine ⟨_, rfl, ?_⟩))
  go_ret2
  exact ⟨by first | rfl | (simp; done) | (simp [*]; done), by repeat (first | exact Drawn0.refl _ | apply Drawn0.step)⟩
 ·rw [if_neg c6] at H
  have c6b0 : (a0 == 11) = false := beq_eq_false_iff_ne.mpr c6
  have c6b1 : (a0 != 11) = true := bne_iff_ne.mpr c6
  by_cases c8 : a0 = 12
  ·rw [if_pos c8] at H
   have c8b0 : (a0 == 12) = true := beq_iff_eq.mpr c8
   have c8b1 : (a0 != 12) = false := bne_eq_false_iff_eq.mpr c8
   clear c8
   replace H := Option.bind_eq_some_iff.mp H
   obtain ⟨⟨t225, t226⟩, A90, H⟩ := H
   replace H : (some (t225, t226)) = some (r1, r2) := H
   have A9 := Aside0.mk A90
   clear A90
   simp only [Option.some.injEq, Prod.mk.injEq] at H
   obtain ⟨rfl, rfl⟩ := H
   go_enter Try.func137, Try.ntmps137
   go_wp2_with (first | ((with_reducible refine gate_callee (f := 141) rfl ?_); refine goesL_ (some 14) rfl rfl Try.func141 (by kernel_rfl) rfl #[.int .i64 a2, .int .i64 a1] rfl (by (try simp only [List.map_toArray, List.map_cons, List.map_nil]); first | done | rfl | (simp only [List.length_drop, List.length_take]; rfl)) ?_; (with_reducible refine (impl_zero.calls a2 a1 t223 _ A5.out).mono ?_); rintro e w' ⟨rfl, ⟨nd, rfl⟩⟩; refine ⟨_, rfl, ?_⟩) | ((with_reducible refine gate_callee (f := 210) rfl ?_); refine goesL_ (some 27) rfl rfl Try.func210 (by kernel_rfl) rfl #[.int .i64 a1, .int .i64 0, .int .i64 t223, .int .i64 0] rfl (by (try simp only [List.map_toArray, List.map_cons, List.map_nil]); first | done | rfl | (simp only [List.length_drop, List.length_take]; rfl)) ?_; (with_reducible refine (impl_difference.calls a1 0 t223 0 t225 t226 _ A9.out).mono ?_); rintro e w' ⟨rfl, ⟨nd, rfl⟩⟩; refine ⟨_, rfl, ?_⟩))
   go_ret2
   exact ⟨by first | rfl | (simp; done) | (simp [*]; done), by repeat (first | exact Drawn0.refl _ | apply Drawn0.step)⟩
  ·rw [if_neg c8] at H
   have c8b0 : (a0 == 12) = false := beq_eq_false_iff_ne.mpr c8
   have c8b1 : (a0 != 12) = true := bne_iff_ne.mpr c8
   replace H := Option.bind_eq_some_iff.mp H
   obtain ⟨⟨t227, t228⟩, A100, H⟩ := H
   replace H : (if a0 = 19 then ((impl_difference.f a1 t223 1 0).bind fun bt229 => (some (bt229.1, Go.bits .or .i64 (Go.bits .andNot .i64 bt229.2 1) (Go.bits .and .i64 a3 1)))) else (some (t227, Go.bits .or .i64 (Go.bits .andNot .i64 t228 1) (Go.bits .and .i64 a3 1)))) = some (r1, r2) := H
   have A10 := Aside0.mk A100
   clear A100
   by_cases c11 : a0 = 19
   ·rw [if_pos c11] at H
    have c11b0 : (a0 == 19) = true := beq_iff_eq.mpr c11
    have c11b1 : (a0 != 19) = false := bne_eq_false_iff_eq.mpr c11
    clear c11
    replace H := Option.bind_eq_some_iff.mp H
    obtain ⟨⟨t229, t230⟩, A120, H⟩ := H
    replace H : (some (t229, Go.bits .or .i64 (Go.bits .andNot .i64 t230 1) (Go.bits .and .i64 a3 1))) = some (r1, r2) := H
    have A12 := Aside0.mk A120
    clear A120
    simp only [Option.some.injEq, Prod.mk.injEq] at H
    obtain ⟨rfl, rfl⟩ := H
    go_enter Try.func137, Try.ntmps137
    go_wp2_with (first | ((with_reducible refine gate_callee (f := 141) rfl ?_); refine goesL_ (some 14) rfl rfl Try.func141 (by kernel_rfl) rfl #[.int .i64 a2, .int .i64 a1] rfl (by (try simp only [List.map_toArray, List.map_cons, List.map_nil]); first | done | rfl | (simp only [List.length_drop, List.length_take]; rfl)) ?_; (with_reducible refine (impl_zero.calls a2 a1 t223 _ A5.out).mono ?_); rintro e w' ⟨rfl, ⟨nd, rfl⟩⟩; refine ⟨_, rfl, ?_⟩) | ((with_reducible refine gate_callee (f := 209) rfl ?_); refine goesL_ (some 33) rfl rfl Try.func209 (by kernel_rfl) rfl #[.int .i64 a1, .int .i64 t223, .int .i64 1, .int .i64 0] rfl (by (try simp only [List.map_toArray, List.map_cons, List.map_nil]); first | done | rfl | (simp only [List.length_drop, List.length_take]; rfl)) ?_; (with_reducible refine (impl_sum.calls a1 t223 1 0 t227 t228 _ A10.out).mono ?_); rintro e w' ⟨rfl, ⟨nd, rfl⟩⟩; refine ⟨_, rfl, ?_⟩) | ((with_reducible refine gate_callee (f := 210) rfl ?_); refine goesL_ (some 41) rfl rfl Try.func210 (by kernel_rfl) rfl #[.int .i64 a1, .int .i64 t223, .int .i64 1, .int .i64 0] rfl (by (try simp only [List.map_toArray, List.map_cons, List.map_nil]); first | done | rfl | (simp only [List.length_drop, List.length_take]; rfl)) ?_; (with_reducible refine (impl_difference.calls a1 t223 1 0 t229 t230 _ A12.out).mono ?_); rintro e w' ⟨rfl, ⟨nd, rfl⟩⟩; refine ⟨_, rfl, ?_⟩))
    go_ret2
    exact ⟨by first | rfl | (simp; done) | (simp [*]; done), by repeat (first | exact Drawn0.refl _ | apply Drawn0.step)⟩
   ·rw [if_neg c11] at H
    have c11b0 : (a0 == 19) = false := beq_eq_false_iff_ne.mpr c11
    have c11b1 : (a0 != 19) = true := bne_iff_ne.mpr c11
    simp only [Option.some.injEq, Prod.mk.injEq] at H
    obtain ⟨rfl, rfl⟩ := H
    go_enter Try.func137, Try.ntmps137
    go_wp2_with (first | ((with_reducible refine gate_callee (f := 141) rfl ?_); refine goesL_ (some 14) rfl rfl Try.func141 (by kernel_rfl) rfl #[.int .i64 a2, .int .i64 a1] rfl (by (try simp only [List.map_toArray, List.map_cons, List.map_nil]); first | done | rfl | (simp only [List.length_drop, List.length_take]; rfl)) ?_; (with_reducible refine (impl_zero.calls a2 a1 t223 _ A5.out).mono ?_); rintro e w' ⟨rfl, ⟨nd, rfl⟩⟩; refine ⟨_, rfl, ?_⟩) | ((with_reducible refine gate_callee (f := 209) rfl ?_); refine goesL_ (some 33) rfl rfl Try.func209 (by kernel_rfl) rfl #[.int .i64 a1, .int .i64 t223, .int .i64 1, .int .i64 0] rfl (by (try simp only [List.map_toArray, List.map_cons, List.map_nil]); first | done | rfl | (simp only [List.length_drop, List.length_take]; rfl)) ?_; (with_reducible refine (impl_sum.calls a1 t223 1 0 t227 t228 _ A10.out).mono ?_); rintro e w' ⟨rfl, ⟨nd, rfl⟩⟩; refine ⟨_, rfl, ?_⟩))
    go_ret2
    exact ⟨by first | rfl | (simp; done) | (simp [*]; done), by repeat (first | exact Drawn0.refl _ | apply Drawn0.step)⟩

/-! ### impl_One: function 59 -/
def impl_One.f (a0 : Int) (a1 : Int) (a2 : Int) (a3 : Int) : Option (Int × Int × Int) := (impl_areAsked.f a1 a3).bind fun t231 => (if t231 = true then ((impl_isOne.f a0).bind fun t232 => (if t232 = true then ((impl_one.f a0 a1 a2 a3).bind fun bt233 => (some (bt233.1, bt233.2, 0))) else (some (0, 0, 11)))) else (some (0, 0, 4)))
set_option maxHeartbeats 8000000 in
set_option maxRecDepth 100000 in
theorem impl_One.calls (a0 : Int) (a1 : Int) (a2 : Int) (a3 : Int) (r1 : Int) (r2 : Int) (r3 : Int) (w : World) (h : impl_One.f a0 a1 a2 a3 = some (r1, r2, r3)) :
  Calls Try.prog 59 #[.int .i64 a0, .int .i64 a1, .int .i64 a2, .int .i64 a3] w fun e w' => e = .returned (.tuple #[.int .i64 r1, .int .i64 r2, .int .i64 r3]) ∧ Drawn0 w w' := by
 have H : ((impl_areAsked.f a1 a3).bind fun t231 => (if t231 = true then ((impl_isOne.f a0).bind fun t232 => (if t232 = true then ((impl_one.f a0 a1 a2 a3).bind fun bt233 => (some (bt233.1, bt233.2, 0))) else (some (0, 0, 11)))) else (some (0, 0, 4)))) = some (r1, r2, r3) := h
 clear h
 replace H := Option.bind_eq_some_iff.mp H
 obtain ⟨t231, A50, H⟩ := H
 replace H : (if t231 = true then ((impl_isOne.f a0).bind fun t232 => (if t232 = true then ((impl_one.f a0 a1 a2 a3).bind fun bt233 => (some (bt233.1, bt233.2, 0))) else (some (0, 0, 11)))) else (some (0, 0, 4))) = some (r1, r2, r3) := H
 have A5 := Aside0.mk A50
 clear A50
 by_cases c6 : t231 = true
 ·subst c6
  have H1 : ((impl_isOne.f a0).bind fun t232 => (if t232 = true then ((impl_one.f a0 a1 a2 a3).bind fun bt233 => (some (bt233.1, bt233.2, 0))) else (some (0, 0, 11)))) = some (r1, r2, r3) := by rw [if_pos rfl] at H; exact H
  clear H
  have H := H1
  clear H1
  replace H := Option.bind_eq_some_iff.mp H
  obtain ⟨t232, A70, H⟩ := H
  replace H : (if t232 = true then ((impl_one.f a0 a1 a2 a3).bind fun bt233 => (some (bt233.1, bt233.2, 0))) else (some (0, 0, 11))) = some (r1, r2, r3) := H
  have A7 := Aside0.mk A70
  clear A70
  by_cases c8 : t232 = true
  ·subst c8
   have H1 : ((impl_one.f a0 a1 a2 a3).bind fun bt233 => (some (bt233.1, bt233.2, 0))) = some (r1, r2, r3) := by rw [if_pos rfl] at H; exact H
   clear H
   have H := H1
   clear H1
   replace H := Option.bind_eq_some_iff.mp H
   obtain ⟨⟨t233, t234⟩, A90, H⟩ := H
   replace H : (some (t233, t234, 0)) = some (r1, r2, r3) := H
   have A9 := Aside0.mk A90
   clear A90
   simp only [Option.some.injEq, Prod.mk.injEq] at H
   obtain ⟨rfl, rfl, rfl⟩ := H
   go_enter Try.func59, Try.ntmps59
   go_wp2_with (first | ((with_reducible refine gate_callee (f := 133) rfl ?_); refine goesL_ (some 16) rfl rfl Try.func133 (by kernel_rfl) rfl #[.int .i64 a1, .int .i64 a3] rfl (by (try simp only [List.map_toArray, List.map_cons, List.map_nil]); first | done | rfl | (simp only [List.length_drop, List.length_take]; rfl)) ?_; (with_reducible refine (impl_areAsked.calls a1 a3 true _ A5.out).mono ?_); rintro e w' ⟨rfl, ⟨nd, rfl⟩⟩; refine ⟨_, rfl, ?_⟩) | ((with_reducible refine gate_callee (f := 136) rfl ?_); refine goesL_ (some 20) rfl rfl Try.func136 (by kernel_rfl) rfl #[.int .i64 a0] rfl (by (try simp only [List.map_toArray, List.map_cons, List.map_nil]); first | done | rfl | (simp only [List.length_drop, List.length_take]; rfl)) ?_; (with_reducible refine (impl_isOne.calls a0 true _ A7.out).mono ?_); rintro e w' ⟨rfl, ⟨nd, rfl⟩⟩; refine ⟨_, rfl, ?_⟩) | ((with_reducible refine gate_callee (f := 137) rfl ?_); refine goesL_ (some 27) rfl rfl Try.func137 (by kernel_rfl) rfl #[.int .i64 a0, .int .i64 a1, .int .i64 a2, .int .i64 a3] rfl (by (try simp only [List.map_toArray, List.map_cons, List.map_nil]); first | done | rfl | (simp only [List.length_drop, List.length_take]; rfl)) ?_; (with_reducible refine (impl_one.calls a0 a1 a2 a3 t233 t234 _ A9.out).mono ?_); rintro e w' ⟨rfl, ⟨nd, rfl⟩⟩; refine ⟨_, rfl, ?_⟩))
   go_ret3
   exact ⟨by first | rfl | (simp; done) | (simp [*]; done), by repeat (first | exact Drawn0.refl _ | apply Drawn0.step)⟩
  ·replace c8 := Bool.eq_false_iff.mpr c8
   subst c8
   have H1 : (some (0, 0, 11)) = some (r1, r2, r3) := by rw [if_neg (show ¬ (false = true) by decide)] at H; exact H
   clear H
   have H := H1
   clear H1
   simp only [Option.some.injEq, Prod.mk.injEq] at H
   obtain ⟨rfl, rfl, rfl⟩ := H
   go_enter Try.func59, Try.ntmps59
   go_wp2_with (first | ((with_reducible refine gate_callee (f := 133) rfl ?_); refine goesL_ (some 16) rfl rfl Try.func133 (by kernel_rfl) rfl #[.int .i64 a1, .int .i64 a3] rfl (by (try simp only [List.map_toArray, List.map_cons, List.map_nil]); first | done | rfl | (simp only [List.length_drop, List.length_take]; rfl)) ?_; (with_reducible refine (impl_areAsked.calls a1 a3 true _ A5.out).mono ?_); rintro e w' ⟨rfl, ⟨nd, rfl⟩⟩; refine ⟨_, rfl, ?_⟩) | ((with_reducible refine gate_callee (f := 136) rfl ?_); refine goesL_ (some 20) rfl rfl Try.func136 (by kernel_rfl) rfl #[.int .i64 a0] rfl (by (try simp only [List.map_toArray, List.map_cons, List.map_nil]); first | done | rfl | (simp only [List.length_drop, List.length_take]; rfl)) ?_; (with_reducible refine (impl_isOne.calls a0 false _ A7.out).mono ?_); rintro e w' ⟨rfl, ⟨nd, rfl⟩⟩; refine ⟨_, rfl, ?_⟩))
   go_ret3
   exact ⟨by first | rfl | (simp; done) | (simp [*]; done), by repeat (first | exact Drawn0.refl _ | apply Drawn0.step)⟩
 ·replace c6 := Bool.eq_false_iff.mpr c6
  subst c6
  have H1 : (some (0, 0, 4)) = some (r1, r2, r3) := by rw [if_neg (show ¬ (false = true) by decide)] at H; exact H
  clear H
  have H := H1
  clear H1
  simp only [Option.some.injEq, Prod.mk.injEq] at H
  obtain ⟨rfl, rfl, rfl⟩ := H
  go_enter Try.func59, Try.ntmps59
  go_wp2_with (first | ((with_reducible refine gate_callee (f := 133) rfl ?_); refine goesL_ (some 16) rfl rfl Try.func133 (by kernel_rfl) rfl #[.int .i64 a1, .int .i64 a3] rfl (by (try simp only [List.map_toArray, List.map_cons, List.map_nil]); first | done | rfl | (simp only [List.length_drop, List.length_take]; rfl)) ?_; (with_reducible refine (impl_areAsked.calls a1 a3 false _ A5.out).mono ?_); rintro e w' ⟨rfl, ⟨nd, rfl⟩⟩; refine ⟨_, rfl, ?_⟩))
  go_ret3
  exact ⟨by first | rfl | (simp; done) | (simp [*]; done), by repeat (first | exact Drawn0.refl _ | apply Drawn0.step)⟩

/-! ### impl_FlagsOf: function 60 -/
def impl_FlagsOf.f (a0 : Int) (a1 : Int) : Option (Int × Int) := (impl_isSize.f a0).bind fun t235 => (if t235 = true then ((impl_flagsOf.f a0 a1).bind fun t236 => (some (t236, 0))) else (some (0, 4)))
set_option maxHeartbeats 8000000 in
set_option maxRecDepth 100000 in
theorem impl_FlagsOf.calls (a0 : Int) (a1 : Int) (r1 : Int) (r2 : Int) (w : World) (h : impl_FlagsOf.f a0 a1 = some (r1, r2)) :
  Calls Try.prog 60 #[.int .i64 a0, .int .i64 a1] w fun e w' => e = .returned (.tuple #[.int .i64 r1, .int .i64 r2]) ∧ Drawn0 w w' := by
 have H : ((impl_isSize.f a0).bind fun t235 => (if t235 = true then ((impl_flagsOf.f a0 a1).bind fun t236 => (some (t236, 0))) else (some (0, 4)))) = some (r1, r2) := h
 clear h
 replace H := Option.bind_eq_some_iff.mp H
 obtain ⟨t235, A30, H⟩ := H
 replace H : (if t235 = true then ((impl_flagsOf.f a0 a1).bind fun t236 => (some (t236, 0))) else (some (0, 4))) = some (r1, r2) := H
 have A3 := Aside0.mk A30
 clear A30
 by_cases c4 : t235 = true
 ·subst c4
  have H1 : ((impl_flagsOf.f a0 a1).bind fun t236 => (some (t236, 0))) = some (r1, r2) := by rw [if_pos rfl] at H; exact H
  clear H
  have H := H1
  clear H1
  replace H := Option.bind_eq_some_iff.mp H
  obtain ⟨t236, A50, H⟩ := H
  replace H : (some (t236, 0)) = some (r1, r2) := H
  have A5 := Aside0.mk A50
  clear A50
  simp only [Option.some.injEq, Prod.mk.injEq] at H
  obtain ⟨rfl, rfl⟩ := H
  go_enter Try.func60, Try.ntmps60
  go_wp2_with (first | ((with_reducible refine gate_callee (f := 96) rfl ?_); refine goesL_ (some 7) rfl rfl Try.func96 (by kernel_rfl) rfl #[.int .i64 a0] rfl (by (try simp only [List.map_toArray, List.map_cons, List.map_nil]); first | done | rfl | (simp only [List.length_drop, List.length_take]; rfl)) ?_; (with_reducible refine (impl_isSize.calls a0 true _ A3.out).mono ?_); rintro e w' ⟨rfl, ⟨nd, rfl⟩⟩; refine ⟨_, rfl, ?_⟩) | ((with_reducible refine gate_callee (f := 138) rfl ?_); refine goesL_ (some 11) rfl rfl Try.func138 (by kernel_rfl) rfl #[.int .i64 a0, .int .i64 a1] rfl (by (try simp only [List.map_toArray, List.map_cons, List.map_nil]); first | done | rfl | (simp only [List.length_drop, List.length_take]; rfl)) ?_; (with_reducible refine (impl_flagsOf.calls a0 a1 t236 _ A5.out).mono ?_); rintro e w' ⟨rfl, ⟨nd, rfl⟩⟩; refine ⟨_, rfl, ?_⟩))
  go_ret2
  exact ⟨by first | rfl | (simp; done) | (simp [*]; done), by repeat (first | exact Drawn0.refl _ | apply Drawn0.step)⟩
 ·replace c4 := Bool.eq_false_iff.mpr c4
  subst c4
  have H1 : (some (0, 4)) = some (r1, r2) := by rw [if_neg (show ¬ (false = true) by decide)] at H; exact H
  clear H
  have H := H1
  clear H1
  simp only [Option.some.injEq, Prod.mk.injEq] at H
  obtain ⟨rfl, rfl⟩ := H
  go_enter Try.func60, Try.ntmps60
  go_wp2_with (first | ((with_reducible refine gate_callee (f := 96) rfl ?_); refine goesL_ (some 7) rfl rfl Try.func96 (by kernel_rfl) rfl #[.int .i64 a0] rfl (by (try simp only [List.map_toArray, List.map_cons, List.map_nil]); first | done | rfl | (simp only [List.length_drop, List.length_take]; rfl)) ?_; (with_reducible refine (impl_isSize.calls a0 false _ A3.out).mono ?_); rintro e w' ⟨rfl, ⟨nd, rfl⟩⟩; refine ⟨_, rfl, ?_⟩))
  go_ret2
  exact ⟨by first | rfl | (simp; done) | (simp [*]; done), by repeat (first | exact Drawn0.refl _ | apply Drawn0.step)⟩

/-! ### spec_l06If: function 221 -/
def spec_l06If.f (a0 : Bool) (a1 : Int) : Option (Int) := if a0 = true then (some a1) else (some 0)
set_option maxHeartbeats 8000000 in
set_option maxRecDepth 100000 in
theorem spec_l06If.calls (a0 : Bool) (a1 : Int) (r : Int) (w : World) (h : spec_l06If.f a0 a1 = some r) :
  Calls Try.prog 221 #[.bool a0, .int .i64 a1] w fun e w' => e = .returned (.int .i64 r) ∧ Drawn0 w w' := by
 have H : (if a0 = true then (some a1) else (some 0)) = some r := h
 clear h
 by_cases c3 : a0 = true
 ·subst c3
  have H1 : (some a1) = some r := by rw [if_pos rfl] at H; exact H
  clear H
  have H := H1
  clear H1
  obtain rfl := Option.some.inj H
  go_enter Try.func221, Try.ntmps221
  go_wp2
  go_ret
  exact ⟨by first | rfl | (simp; done) | (simp [*]; done), by repeat (first | exact Drawn0.refl _ | apply Drawn0.step)⟩
 ·replace c3 := Bool.eq_false_iff.mpr c3
  subst c3
  have H1 : (some 0) = some r := by rw [if_neg (show ¬ (false = true) by decide)] at H; exact H
  clear H
  have H := H1
  clear H1
  obtain rfl := Option.some.inj H
  go_enter Try.func221, Try.ntmps221
  go_wp2
  go_ret
  exact ⟨by first | rfl | (simp; done) | (simp [*]; done), by repeat (first | exact Drawn0.refl _ | apply Drawn0.step)⟩

/-! ### spec_l06Szp: function 215 -/
def spec_l06Szp.l0 : Nat → Int → Int → Int → Int → Option (Int)
 | 0, _, _, _, _ => none
 | k + 1, x0, x1, x5, x6 => if x6 < 8 then ((spec_l01Bit.f x1 x6).bind fun t237 => (spec_l06Szp.l0 k x0 x1 (wrap64 (x5 + t237)) (wrap64 (x6 + 1)))) else ((spec_l01Bit.f x1 (wrap64 ((wrap64 (8 * x0)) - 1))).bind fun t238 => ((spec_l06If.f (t238 == 1) 128).bind fun t239 => ((spec_l01Zero.f k x1 x0).bind fun t240 => ((spec_l06If.f (t240 == 0) 64).bind fun t241 => ((spec_l06If.f ((Int.tmod x5 2) == 0) 4).bind fun t242 => (some (Go.bits .or .i64 (Go.bits .or .i64 t239 t241) t242)))))))
def spec_l06Szp.f (k : Nat) (a0 : Int) (a1 : Int) : Option (Int) := spec_l06Szp.l0 k a0 a1 0 0
theorem spec_l06Szp.mono_l : ∀ k, (∀ y0 y1 y2 y3, LeO (spec_l06Szp.l0 k y0 y1 y2 y3) (spec_l06Szp.l0 (k + 1) y0 y1 y2 y3))
 | 0 => fun _ _ _ _ r h => by simp [spec_l06Szp.l0] at h
 | k + 1 => by
  have ih0 := spec_l06Szp.mono_l k
  ·intro y0 y1 y2 y3
   unfold spec_l06Szp.l0
   repeat' first
   | (with_reducible exact ih0 _ _ _ _)
   | (with_reducible exact spec_l01Zero.mono _ _ _)
   | (with_reducible exact LeO.refl _)
   | (with_reducible exact LeO.none _)
   | (with_reducible refine LeO.ite ?_ ?_)
   | (with_reducible refine LeO.bind ?_ (fun _ => ?_))
   | refine LeO.ite ?_ ?_
   | refine LeO.bind ?_ (fun _ => ?_)
theorem spec_l06Szp.mono : ∀ a0 a1 k, LeO (spec_l06Szp.f k a0 a1) (spec_l06Szp.f (k + 1) a0 a1) := by
 intro a0 a1 k
 have ih0 := spec_l06Szp.mono_l k
 unfold spec_l06Szp.f
 repeat' first
   | (with_reducible exact ih0 _ _ _ _)
   | (with_reducible exact spec_l01Zero.mono _ _ _)
   | (with_reducible exact LeO.refl _)
   | (with_reducible exact LeO.none _)
   | (with_reducible refine LeO.ite ?_ ?_)
   | (with_reducible refine LeO.bind ?_ (fun _ => ?_))
   | refine LeO.ite ?_ ?_
   | refine LeO.bind ?_ (fun _ => ?_)
set_option maxHeartbeats 8000000 in
set_option maxRecDepth 100000 in
theorem spec_l06Szp.calls (k : Nat) (a0 : Int) (a1 : Int) (r : Int) (w : World) (h : spec_l06Szp.f k a0 a1 = some r) :
  Calls Try.prog 215 #[.int .i64 a0, .int .i64 a1] w fun e w' => e = .returned (.int .i64 r) ∧ Drawn0 w w' := by
 have H : (spec_l06Szp.l0 k a0 a1 0 0) = some r := h
 clear h
 have H' := Aside0.mk H
 clear H
 go_enter Try.func215, Try.ntmps215
 go_wp2
 go_loopg [5, 6] k (fun kq v5 v6 w' => ∃ (x5_1 : Int) (x6_1 : Int), v5 = .int .i64 x5_1 ∧ v6 = .int .i64 x6_1 ∧ Aside0 (spec_l06Szp.l0 kq a0 a1 x5_1 x6_1 = some r) ∧ Aside0 (kq ≤ k) ∧ Drawn0 w w')
 case atStart => exact ⟨(0), (0), (by first | rfl | (simp; done) | (simp [*]; done)), (by first | rfl | (simp; done) | (simp [*]; done)), H', ⟨Nat.le_refl _⟩, by repeat (first | exact Drawn0.refl _ | apply Drawn0.step)⟩
 case round =>
  clear H'
  (try clear c2)
  obtain ⟨x5_1, x6_1, rfl, rfl, HA, HK1, ⟨m1, rfl⟩⟩ := hrel
  cases gk with
  | zero => exact absurd HA.out (by simp [spec_l06Szp.l0])
  | succ k1 =>
   have H := HA.out
   clear HA
   simp only [spec_l06Szp.l0] at H
   by_cases c3 : x6_1 < 8
   ·rw [if_pos c3] at H
    have c3b0 : decide (x6_1 < 8) = true := decide_eq_true c3
    clear c3
    replace H := Option.bind_eq_some_iff.mp H
    obtain ⟨t237, A40, H⟩ := H
    replace H : (spec_l06Szp.l0 k1 a0 a1 (wrap64 (x5_1 + t237)) (wrap64 (x6_1 + 1))) = some r := H
    have A4 := Aside0.mk A40
    clear A40
    have H' := Aside0.mk H
    clear H
    go_wp2_with (first | ((with_reducible refine gate_callee (f := 157) rfl ?_); refine goesL_ (some 14) rfl rfl Try.func157 (by kernel_rfl) rfl #[.int .i64 a1, .int .i64 x6_1] rfl (by (try simp only [List.map_toArray, List.map_cons, List.map_nil]); first | done | rfl | (simp only [List.length_drop, List.length_take]; rfl)) ?_; (with_reducible refine (spec_l01Bit.calls a1 x6_1 t237 _ A4.out).mono ?_); rintro e w' ⟨rfl, ⟨nd, rfl⟩⟩; refine ⟨_, rfl, ?_⟩))
    go_roundg k1
    case measure => have := HK1.out; omega
    case rel => exact ⟨(wrap64 (x5_1 + t237)), (wrap64 (x6_1 + 1)), (by first | rfl | (simp; done) | (simp [*]; done)), (by first | rfl | (simp; done) | (simp [*]; done)), H', ⟨by have := HK1.out; omega⟩, by repeat (first | exact Drawn0.refl _ | apply Drawn0.step)⟩
   ·rw [if_neg c3] at H
    have c3b0 : decide (x6_1 < 8) = false := decide_eq_false c3
    clear c3
    replace H := Option.bind_eq_some_iff.mp H
    obtain ⟨t238, A50, H⟩ := H
    replace H : ((spec_l06If.f (t238 == 1) 128).bind fun t239 => ((spec_l01Zero.f k1 a1 a0).bind fun t240 => ((spec_l06If.f (t240 == 0) 64).bind fun t241 => ((spec_l06If.f ((Int.tmod x5_1 2) == 0) 4).bind fun t242 => (some (Go.bits .or .i64 (Go.bits .or .i64 t239 t241) t242)))))) = some r := H
    have A5 := Aside0.mk A50
    clear A50
    replace H := Option.bind_eq_some_iff.mp H
    obtain ⟨t239, A60, H⟩ := H
    replace H : ((spec_l01Zero.f k1 a1 a0).bind fun t240 => ((spec_l06If.f (t240 == 0) 64).bind fun t241 => ((spec_l06If.f ((Int.tmod x5_1 2) == 0) 4).bind fun t242 => (some (Go.bits .or .i64 (Go.bits .or .i64 t239 t241) t242))))) = some r := H
    have A6 := Aside0.mk A60
    clear A60
    replace H := Option.bind_eq_some_iff.mp H
    obtain ⟨t240, A70, H⟩ := H
    replace H : ((spec_l06If.f (t240 == 0) 64).bind fun t241 => ((spec_l06If.f ((Int.tmod x5_1 2) == 0) 4).bind fun t242 => (some (Go.bits .or .i64 (Go.bits .or .i64 t239 t241) t242)))) = some r := H
    have A7 := Aside0.mk A70
    clear A70
    replace H := Option.bind_eq_some_iff.mp H
    obtain ⟨t241, A80, H⟩ := H
    replace H : ((spec_l06If.f ((Int.tmod x5_1 2) == 0) 4).bind fun t242 => (some (Go.bits .or .i64 (Go.bits .or .i64 t239 t241) t242))) = some r := H
    have A8 := Aside0.mk A80
    clear A80
    replace H := Option.bind_eq_some_iff.mp H
    obtain ⟨t242, A90, H⟩ := H
    replace H : (some (Go.bits .or .i64 (Go.bits .or .i64 t239 t241) t242)) = some r := H
    have A9 := Aside0.mk A90
    clear A90
    obtain rfl := Option.some.inj H
    go_wp2_with (first | ((with_reducible refine gate_callee (f := 157) rfl ?_); refine goesL_ (some 20) rfl rfl Try.func157 (by kernel_rfl) rfl #[.int .i64 a1, .int .i64 (wrap64 ((wrap64 (8 * a0)) - 1))] rfl (by (try simp only [List.map_toArray, List.map_cons, List.map_nil]); first | done | rfl | (simp only [List.length_drop, List.length_take]; rfl)) ?_; (with_reducible refine (spec_l01Bit.calls a1 (wrap64 ((wrap64 (8 * a0)) - 1)) t238 _ A5.out).mono ?_); rintro e w' ⟨rfl, ⟨nd, rfl⟩⟩; refine ⟨_, rfl, ?_⟩) | ((with_reducible refine gate_callee (f := 221) rfl ?_); refine goesL_ (some 22) rfl rfl Try.func221 (by kernel_rfl) rfl #[.bool (t238 == 1), .int .i64 128] rfl (by (try simp only [List.map_toArray, List.map_cons, List.map_nil]); first | done | rfl | (simp only [List.length_drop, List.length_take]; rfl)) ?_; (with_reducible refine (spec_l06If.calls (t238 == 1) 128 t239 _ A6.out).mono ?_); rintro e w' ⟨rfl, ⟨nd, rfl⟩⟩; refine ⟨_, rfl, ?_⟩) | ((with_reducible refine gate_callee (f := 132) rfl ?_); refine goesL_ (some 25) rfl rfl Try.func132 (by kernel_rfl) rfl #[.int .i64 a1, .int .i64 a0] rfl (by (try simp only [List.map_toArray, List.map_cons, List.map_nil]); first | done | rfl | (simp only [List.length_drop, List.length_take]; rfl)) ?_; (with_reducible refine (spec_l01Zero.calls k1 a1 a0 t240 _ A7.out).mono ?_); rintro e w' ⟨rfl, ⟨nd, rfl⟩⟩; refine ⟨_, rfl, ?_⟩) | ((with_reducible refine gate_callee (f := 221) rfl ?_); refine goesL_ (some 27) rfl rfl Try.func221 (by kernel_rfl) rfl #[.bool (t240 == 0), .int .i64 64] rfl (by (try simp only [List.map_toArray, List.map_cons, List.map_nil]); first | done | rfl | (simp only [List.length_drop, List.length_take]; rfl)) ?_; (with_reducible refine (spec_l06If.calls (t240 == 0) 64 t241 _ A8.out).mono ?_); rintro e w' ⟨rfl, ⟨nd, rfl⟩⟩; refine ⟨_, rfl, ?_⟩) | ((with_reducible refine gate_callee (f := 221) rfl ?_); refine goesL_ (some 32) rfl rfl Try.func221 (by kernel_rfl) rfl #[.bool ((Int.tmod x5_1 2) == 0), .int .i64 4] rfl (by (try simp only [List.map_toArray, List.map_cons, List.map_nil]); first | done | rfl | (simp only [List.length_drop, List.length_take]; rfl)) ?_; (with_reducible refine (spec_l06If.calls ((Int.tmod x5_1 2) == 0) 4 t242 _ A9.out).mono ?_); rintro e w' ⟨rfl, ⟨nd, rfl⟩⟩; refine ⟨_, rfl, ?_⟩))
    go_ret
    exact ⟨by first | rfl | (simp; done) | (simp [*]; done), by repeat (first | exact Drawn0.refl _ | apply Drawn0.step)⟩

/-! ### spec_l06Bit: function 252 -/
def spec_l06Bit.f (a0 : Bool) : Option (Int) := if a0 = true then (some 1) else (some 0)
set_option maxHeartbeats 8000000 in
set_option maxRecDepth 100000 in
theorem spec_l06Bit.calls (a0 : Bool) (r : Int) (w : World) (h : spec_l06Bit.f a0 = some r) :
  Calls Try.prog 252 #[.bool a0] w fun e w' => e = .returned (.int .i64 r) ∧ Drawn0 w w' := by
 have H : (if a0 = true then (some 1) else (some 0)) = some r := h
 clear h
 by_cases c2 : a0 = true
 ·subst c2
  have H1 : (some 1) = some r := by rw [if_pos rfl] at H; exact H
  clear H
  have H := H1
  clear H1
  obtain rfl := Option.some.inj H
  go_enter Try.func252, Try.ntmps252
  go_wp2
  go_ret
  exact ⟨by first | rfl | (simp; done) | (simp [*]; done), by repeat (first | exact Drawn0.refl _ | apply Drawn0.step)⟩
 ·replace c2 := Bool.eq_false_iff.mpr c2
  subst c2
  have H1 : (some 0) = some r := by rw [if_neg (show ¬ (false = true) by decide)] at H; exact H
  clear H
  have H := H1
  clear H1
  obtain rfl := Option.some.inj H
  go_enter Try.func252, Try.ntmps252
  go_wp2
  go_ret
  exact ⟨by first | rfl | (simp; done) | (simp [*]; done), by repeat (first | exact Drawn0.refl _ | apply Drawn0.step)⟩

/-! ### spec_l06Add: function 214 -/
def spec_l06Add.l0 : Nat → Int → Int → Int → Bool → Int → Int → Int → Int → Option (Int × Int)
 | 0, _, _, _, _, _, _, _, _ => none
 | k + 1, x0, x1, x2, x4, x12, x13, x14, x15 => if x15 < (wrap64 (8 * x0)) then ((spec_l01Bit.f x1 x15).bind fun t246 => ((spec_l01Bit.f x2 x15).bind fun t247 => (if x4 = true then ((spec_l06Bit.f (decide ((wrap64 ((wrap64 ((wrap64 (t246 - t247)) - x13)) + 2)) < 2))).bind fun t248 => (if 0 ≤ (IntKind.u64.wrap (x15)) then (spec_l06Add.l0 k x0 x1 x2 x4 (Go.bits .or .u64 x12 (shl .u64 (IntKind.u64.wrap (Int.tmod (wrap64 ((wrap64 ((wrap64 (t246 - t247)) - x13)) + 2)) 2)) (IntKind.u64.wrap (x15)))) t248 x13 (wrap64 (x15 + 1))) else (none))) else (if 0 ≤ (IntKind.u64.wrap (x15)) then (spec_l06Add.l0 k x0 x1 x2 x4 (Go.bits .or .u64 x12 (shl .u64 (IntKind.u64.wrap (Int.tmod (wrap64 ((wrap64 (t246 + t247)) + x13)) 2)) (IntKind.u64.wrap (x15)))) (wrap64 (Int.tdiv (wrap64 ((wrap64 (t246 + t247)) + x13)) 2)) x13 (wrap64 (x15 + 1))) else (none))))) else ((spec_l06Szp.f k x0 (wrap64 (x12))).bind fun t243 => ((spec_l06If.f (x13 == 1) 1).bind fun t244 => ((spec_l06If.f (x13 != x14) 2048).bind fun t245 => (some (wrap64 (x12), Go.bits .or .i64 (Go.bits .or .i64 t243 t244) t245)))))
def spec_l06Add.f (k : Nat) (a0 : Int) (a1 : Int) (a2 : Int) (a3 : Int) (a4 : Bool) : Option (Int × Int) := spec_l06Add.l0 k a0 a1 a2 a4 0 a3 0 0
theorem spec_l06Add.mono_l : ∀ k, (∀ y0 y1 y2 y3 y4 y5 y6 y7, LeO (spec_l06Add.l0 k y0 y1 y2 y3 y4 y5 y6 y7) (spec_l06Add.l0 (k + 1) y0 y1 y2 y3 y4 y5 y6 y7))
 | 0 => fun _ _ _ _ _ _ _ _ r h => by simp [spec_l06Add.l0] at h
 | k + 1 => by
  have ih0 := spec_l06Add.mono_l k
  ·intro y0 y1 y2 y3 y4 y5 y6 y7
   unfold spec_l06Add.l0
   repeat' first
   | (with_reducible exact ih0 _ _ _ _ _ _ _ _)
   | (with_reducible exact spec_l06Szp.mono _ _ _)
   | (with_reducible exact LeO.refl _)
   | (with_reducible exact LeO.none _)
   | (with_reducible refine LeO.ite ?_ ?_)
   | (with_reducible refine LeO.bind ?_ (fun _ => ?_))
   | refine LeO.ite ?_ ?_
   | refine LeO.bind ?_ (fun _ => ?_)
theorem spec_l06Add.mono : ∀ a0 a1 a2 a3 a4 k, LeO (spec_l06Add.f k a0 a1 a2 a3 a4) (spec_l06Add.f (k + 1) a0 a1 a2 a3 a4) := by
 intro a0 a1 a2 a3 a4 k
 have ih0 := spec_l06Add.mono_l k
 unfold spec_l06Add.f
 repeat' first
   | (with_reducible exact ih0 _ _ _ _ _ _ _ _)
   | (with_reducible exact spec_l06Szp.mono _ _ _)
   | (with_reducible exact LeO.refl _)
   | (with_reducible exact LeO.none _)
   | (with_reducible refine LeO.ite ?_ ?_)
   | (with_reducible refine LeO.bind ?_ (fun _ => ?_))
   | refine LeO.ite ?_ ?_
   | refine LeO.bind ?_ (fun _ => ?_)
set_option maxHeartbeats 8000000 in
set_option maxRecDepth 100000 in
theorem spec_l06Add.calls (k : Nat) (a0 : Int) (a1 : Int) (a2 : Int) (a3 : Int) (a4 : Bool) (r1 : Int) (r2 : Int) (w : World) (h : spec_l06Add.f k a0 a1 a2 a3 a4 = some (r1, r2)) :
  Calls Try.prog 214 #[.int .i64 a0, .int .i64 a1, .int .i64 a2, .int .i64 a3, .bool a4] w fun e w' => e = .returned (.tuple #[.int .i64 r1, .int .i64 r2]) ∧ Drawn0 w w' := by
 have H : (spec_l06Add.l0 k a0 a1 a2 a4 0 a3 0 0) = some (r1, r2) := h
 clear h
 have H' := Aside0.mk H
 clear H
 go_enter Try.func214, Try.ntmps214
 go_wp2
 go_loopg [12, 13, 14, 15] k (fun kq v12 v13 v14 v15 w' => ∃ (x12_1 : Int) (x13_1 : Int) (x14_1 : Int) (x15_1 : Int), v12 = .int .u64 x12_1 ∧ v13 = .int .i64 x13_1 ∧ v14 = .int .i64 x14_1 ∧ v15 = .int .i64 x15_1 ∧ Aside0 (spec_l06Add.l0 kq a0 a1 a2 a4 x12_1 x13_1 x14_1 x15_1 = some (r1, r2)) ∧ Aside0 (kq ≤ k) ∧ Drawn0 w w')
 case atStart => exact ⟨(0), (a3), (0), (0), (by first | rfl | (simp; done) | (simp [*]; done)), (by first | rfl | (simp; done) | (simp [*]; done)), (by first | rfl | (simp; done) | (simp [*]; done)), (by first | rfl | (simp; done) | (simp [*]; done)), H', ⟨Nat.le_refl _⟩, by repeat (first | exact Drawn0.refl _ | apply Drawn0.step)⟩
 case round =>
  clear H'
  (try clear c2)
  obtain ⟨x12_1, x13_1, x14_1, x15_1, rfl, rfl, rfl, rfl, HA, HK1, ⟨m1, rfl⟩⟩ := hrel
  cases gk with
  | zero => exact absurd HA.out (by simp [spec_l06Add.l0])
  | succ k1 =>
   have H := HA.out
   clear HA
   simp only [spec_l06Add.l0] at H
   by_cases c6 : x15_1 < (wrap64 (8 * a0))
   ·rw [if_pos c6] at H
    have c6b0 : decide (x15_1 < (wrap64 (8 * a0))) = true := decide_eq_true c6
    clear c6
    replace H := Option.bind_eq_some_iff.mp H
    obtain ⟨t246, A70, H⟩ := H
    replace H : ((spec_l01Bit.f a2 x15_1).bind fun t247 => (if a4 = true then ((spec_l06Bit.f (decide ((wrap64 ((wrap64 ((wrap64 (t246 - t247)) - x13_1)) + 2)) < 2))).bind fun t248 => (if 0 ≤ (IntKind.u64.wrap (x15_1)) then (spec_l06Add.l0 k1 a0 a1 a2 a4 (Go.bits .or .u64 x12_1 (shl .u64 (IntKind.u64.wrap (Int.tmod (wrap64 ((wrap64 ((wrap64 (t246 - t247)) - x13_1)) + 2)) 2)) (IntKind.u64.wrap (x15_1)))) t248 x13_1 (wrap64 (x15_1 + 1))) else (none))) else (if 0 ≤ (IntKind.u64.wrap (x15_1)) then (spec_l06Add.l0 k1 a0 a1 a2 a4 (Go.bits .or .u64 x12_1 (shl .u64 (IntKind.u64.wrap (Int.tmod (wrap64 ((wrap64 (t246 + t247)) + x13_1)) 2)) (IntKind.u64.wrap (x15_1)))) (wrap64 (Int.tdiv (wrap64 ((wrap64 (t246 + t247)) + x13_1)) 2)) x13_1 (wrap64 (x15_1 + 1))) else (none)))) = some (r1, r2) := H
    have A7 := Aside0.mk A70
    clear A70
    replace H := Option.bind_eq_some_iff.mp H
    obtain ⟨t247, A80, H⟩ := H
    replace H : (if a4 = true then ((spec_l06Bit.f (decide ((wrap64 ((wrap64 ((wrap64 (t246 - t247)) - x13_1)) + 2)) < 2))).bind fun t248 => (if 0 ≤ (IntKind.u64.wrap (x15_1)) then (spec_l06Add.l0 k1 a0 a1 a2 a4 (Go.bits .or .u64 x12_1 (shl .u64 (IntKind.u64.wrap (Int.tmod (wrap64 ((wrap64 ((wrap64 (t246 - t247)) - x13_1)) + 2)) 2)) (IntKind.u64.wrap (x15_1)))) t248 x13_1 (wrap64 (x15_1 + 1))) else (none))) else (if 0 ≤ (IntKind.u64.wrap (x15_1)) then (spec_l06Add.l0 k1 a0 a1 a2 a4 (Go.bits .or .u64 x12_1 (shl .u64 (IntKind.u64.wrap (Int.tmod (wrap64 ((wrap64 (t246 + t247)) + x13_1)) 2)) (IntKind.u64.wrap (x15_1)))) (wrap64 (Int.tdiv (wrap64 ((wrap64 (t246 + t247)) + x13_1)) 2)) x13_1 (wrap64 (x15_1 + 1))) else (none))) = some (r1, r2) := H
    have A8 := Aside0.mk A80
    clear A80
    by_cases c9 : a4 = true
    ·subst c9
     have H1 : ((spec_l06Bit.f (decide ((wrap64 ((wrap64 ((wrap64 (t246 - t247)) - x13_1)) + 2)) < 2))).bind fun t248 => (if 0 ≤ (IntKind.u64.wrap (x15_1)) then (spec_l06Add.l0 k1 a0 a1 a2 true (Go.bits .or .u64 x12_1 (shl .u64 (IntKind.u64.wrap (Int.tmod (wrap64 ((wrap64 ((wrap64 (t246 - t247)) - x13_1)) + 2)) 2)) (IntKind.u64.wrap (x15_1)))) t248 x13_1 (wrap64 (x15_1 + 1))) else (none))) = some (r1, r2) := by rw [if_pos rfl] at H; exact H
     clear H
     have H := H1
     clear H1
     replace H := Option.bind_eq_some_iff.mp H
     obtain ⟨t248, A100, H⟩ := H
     replace H : (if 0 ≤ (IntKind.u64.wrap (x15_1)) then (spec_l06Add.l0 k1 a0 a1 a2 true (Go.bits .or .u64 x12_1 (shl .u64 (IntKind.u64.wrap (Int.tmod (wrap64 ((wrap64 ((wrap64 (t246 - t247)) - x13_1)) + 2)) 2)) (IntKind.u64.wrap (x15_1)))) t248 x13_1 (wrap64 (x15_1 + 1))) else (none)) = some (r1, r2) := H
     have A10 := Aside0.mk A100
     clear A100
     obtain ⟨ji11, hji11⟩ : ∃ j_ : Int, (IntKind.u64.wrap (x15_1)) = j_ := ⟨_, rfl⟩
     replace H : (if 0 ≤ (ji11) then (spec_l06Add.l0 k1 a0 a1 a2 true (Go.bits .or .u64 x12_1 (shl .u64 (IntKind.u64.wrap (Int.tmod (wrap64 ((wrap64 ((wrap64 (t246 - t247)) - x13_1)) + 2)) 2)) (ji11))) t248 x13_1 (wrap64 (x15_1 + 1))) else (none)) = some (r1, r2) := by first | (rw [hji11] at H; exact H) | (simp only [hji11] at H ⊢; exact H)
     (try rw [hji11] at A7)
     (try rw [hji11] at A8)
     (try rw [hji11] at A10)
     by_cases c12 : 0 ≤ (ji11)
     ·rw [if_pos c12] at H
      have c12b0 := eq_true c12
      have c12b1 : decide (0 ≤ (ji11)) = true := decide_eq_true c12
      clear c12
      obtain ⟨ji13, hji13⟩ : ∃ j_ : Int, (shl .u64 (IntKind.u64.wrap (Int.tmod (wrap64 ((wrap64 ((wrap64 (t246 - t247)) - x13_1)) + 2)) 2)) (ji11)) = j_ := ⟨_, rfl⟩
      replace H : (spec_l06Add.l0 k1 a0 a1 a2 true (Go.bits .or .u64 x12_1 (ji13)) t248 x13_1 (wrap64 (x15_1 + 1))) = some (r1, r2) := by first | (rw [hji13] at H; exact H) | (simp only [hji13] at H ⊢; exact H)
      (try rw [hji13] at A7)
      (try rw [hji13] at A8)
      (try rw [hji13] at A10)
      have hji13_ : (IntKind.u64.wrap ((IntKind.u64.wrap (Int.tmod (wrap64 ((wrap64 ((wrap64 (t246 - t247)) - x13_1)) + 2)) 2)) * 2 ^ min (ji11).toNat 64)) = ji13 := hji13
      have hji13z : (ji11) ≤ 64 → (IntKind.u64.wrap ((IntKind.u64.wrap (Int.tmod (wrap64 ((wrap64 ((wrap64 (t246 - t247)) - x13_1)) + 2)) 2)) * 2 ^ (ji11).toNat)) = ji13 := shl_small hji13
      have H' := Aside0.mk H
      clear H
      go_wp2_with (first | ((with_reducible refine gate_callee (f := 157) rfl ?_); refine goesL_ (some 29) rfl rfl Try.func157 (by kernel_rfl) rfl #[.int .i64 a1, .int .i64 x15_1] rfl (by (try simp only [List.map_toArray, List.map_cons, List.map_nil]); first | done | rfl | (simp only [List.length_drop, List.length_take]; rfl)) ?_; (with_reducible refine (spec_l01Bit.calls a1 x15_1 t246 _ A7.out).mono ?_); rintro e w' ⟨rfl, ⟨nd, rfl⟩⟩; refine ⟨_, rfl, ?_⟩) | ((with_reducible refine gate_callee (f := 157) rfl ?_); refine goesL_ (some 32) rfl rfl Try.func157 (by kernel_rfl) rfl #[.int .i64 a2, .int .i64 x15_1] rfl (by (try simp only [List.map_toArray, List.map_cons, List.map_nil]); first | done | rfl | (simp only [List.length_drop, List.length_take]; rfl)) ?_; (with_reducible refine (spec_l01Bit.calls a2 x15_1 t247 _ A8.out).mono ?_); rintro e w' ⟨rfl, ⟨nd, rfl⟩⟩; refine ⟨_, rfl, ?_⟩) | ((with_reducible refine gate_callee (f := 252) rfl ?_); refine goesL_ (some 48) rfl rfl Try.func252 (by kernel_rfl) rfl #[.bool (decide ((wrap64 ((wrap64 ((wrap64 (t246 - t247)) - x13_1)) + 2)) < 2))] rfl (by (try simp only [List.map_toArray, List.map_cons, List.map_nil]); first | done | rfl | (simp only [List.length_drop, List.length_take]; rfl)) ?_; (with_reducible refine (spec_l06Bit.calls (decide ((wrap64 ((wrap64 ((wrap64 (t246 - t247)) - x13_1)) + 2)) < 2)) t248 _ A10.out).mono ?_); rintro e w' ⟨rfl, ⟨nd, rfl⟩⟩; refine ⟨_, rfl, ?_⟩))
      go_roundg k1
      case measure => have := HK1.out; omega
      case rel => exact ⟨(Go.bits .or .u64 x12_1 (ji13)), (t248), (x13_1), (wrap64 (x15_1 + 1)), (by first | rfl | (simp; done) | (simp only [← hji13] <;> (first | rfl | simp)) | (simp [*]; done)), (by first | rfl | (simp; done) | (simp [*]; done)), (by first | rfl | (simp; done) | (simp [*]; done)), (by first | rfl | (simp; done) | (simp [*]; done)), H', ⟨by have := HK1.out; omega⟩, by repeat (first | exact Drawn0.refl _ | apply Drawn0.step)⟩
     ·rw [if_neg c12] at H
      exact absurd H (by simp)
    ·replace c9 := Bool.eq_false_iff.mpr c9
     subst c9
     have H1 : (if 0 ≤ (IntKind.u64.wrap (x15_1)) then (spec_l06Add.l0 k1 a0 a1 a2 false (Go.bits .or .u64 x12_1 (shl .u64 (IntKind.u64.wrap (Int.tmod (wrap64 ((wrap64 (t246 + t247)) + x13_1)) 2)) (IntKind.u64.wrap (x15_1)))) (wrap64 (Int.tdiv (wrap64 ((wrap64 (t246 + t247)) + x13_1)) 2)) x13_1 (wrap64 (x15_1 + 1))) else (none)) = some (r1, r2) := by rw [if_neg (show ¬ (false = true) by decide)] at H; exact H
     clear H
     have H := H1
     clear H1
     obtain ⟨ji14, hji14⟩ : ∃ j_ : Int, (IntKind.u64.wrap (x15_1)) = j_ := ⟨_, rfl⟩
     replace H : (if 0 ≤ (ji14) then (spec_l06Add.l0 k1 a0 a1 a2 false (Go.bits .or .u64 x12_1 (shl .u64 (IntKind.u64.wrap (Int.tmod (wrap64 ((wrap64 (t246 + t247)) + x13_1)) 2)) (ji14))) (wrap64 (Int.tdiv (wrap64 ((wrap64 (t246 + t247)) + x13_1)) 2)) x13_1 (wrap64 (x15_1 + 1))) else (none)) = some (r1, r2) := by first | (rw [hji14] at H; exact H) | (simp only [hji14] at H ⊢; exact H)
     (try rw [hji14] at A7)
     (try rw [hji14] at A8)
     by_cases c15 : 0 ≤ (ji14)
     ·rw [if_pos c15] at H
      have c15b0 := eq_true c15
      have c15b1 : decide (0 ≤ (ji14)) = true := decide_eq_true c15
      clear c15
      obtain ⟨ji16, hji16⟩ : ∃ j_ : Int, (shl .u64 (IntKind.u64.wrap (Int.tmod (wrap64 ((wrap64 (t246 + t247)) + x13_1)) 2)) (ji14)) = j_ := ⟨_, rfl⟩
      replace H : (spec_l06Add.l0 k1 a0 a1 a2 false (Go.bits .or .u64 x12_1 (ji16)) (wrap64 (Int.tdiv (wrap64 ((wrap64 (t246 + t247)) + x13_1)) 2)) x13_1 (wrap64 (x15_1 + 1))) = some (r1, r2) := by first | (rw [hji16] at H; exact H) | (simp only [hji16] at H ⊢; exact H)
      (try rw [hji16] at A7)
      (try rw [hji16] at A8)
      have hji16_ : (IntKind.u64.wrap ((IntKind.u64.wrap (Int.tmod (wrap64 ((wrap64 (t246 + t247)) + x13_1)) 2)) * 2 ^ min (ji14).toNat 64)) = ji16 := hji16
      have hji16z : (ji14) ≤ 64 → (IntKind.u64.wrap ((IntKind.u64.wrap (Int.tmod (wrap64 ((wrap64 (t246 + t247)) + x13_1)) 2)) * 2 ^ (ji14).toNat)) = ji16 := shl_small hji16
      have H' := Aside0.mk H
      clear H
      go_wp2_with (first | ((with_reducible refine gate_callee (f := 157) rfl ?_); refine goesL_ (some 29) rfl rfl Try.func157 (by kernel_rfl) rfl #[.int .i64 a1, .int .i64 x15_1] rfl (by (try simp only [List.map_toArray, List.map_cons, List.map_nil]); first | done | rfl | (simp only [List.length_drop, List.length_take]; rfl)) ?_; (with_reducible refine (spec_l01Bit.calls a1 x15_1 t246 _ A7.out).mono ?_); rintro e w' ⟨rfl, ⟨nd, rfl⟩⟩; refine ⟨_, rfl, ?_⟩) | ((with_reducible refine gate_callee (f := 157) rfl ?_); refine goesL_ (some 32) rfl rfl Try.func157 (by kernel_rfl) rfl #[.int .i64 a2, .int .i64 x15_1] rfl (by (try simp only [List.map_toArray, List.map_cons, List.map_nil]); first | done | rfl | (simp only [List.length_drop, List.length_take]; rfl)) ?_; (with_reducible refine (spec_l01Bit.calls a2 x15_1 t247 _ A8.out).mono ?_); rintro e w' ⟨rfl, ⟨nd, rfl⟩⟩; refine ⟨_, rfl, ?_⟩))
      go_roundg k1
      case measure => have := HK1.out; omega
      case rel => exact ⟨(Go.bits .or .u64 x12_1 (ji16)), (wrap64 (Int.tdiv (wrap64 ((wrap64 (t246 + t247)) + x13_1)) 2)), (x13_1), (wrap64 (x15_1 + 1)), (by first | rfl | (simp; done) | (simp only [← hji16] <;> (first | rfl | simp)) | (simp [*]; done)), (by first | rfl | (simp; done) | (simp [*]; done)), (by first | rfl | (simp; done) | (simp [*]; done)), (by first | rfl | (simp; done) | (simp [*]; done)), H', ⟨by have := HK1.out; omega⟩, by repeat (first | exact Drawn0.refl _ | apply Drawn0.step)⟩
     ·rw [if_neg c15] at H
      exact absurd H (by simp)
   ·rw [if_neg c6] at H
    have c6b0 : decide (x15_1 < (wrap64 (8 * a0))) = false := decide_eq_false c6
    clear c6
    replace H := Option.bind_eq_some_iff.mp H
    obtain ⟨t243, A170, H⟩ := H
    replace H : ((spec_l06If.f (x13_1 == 1) 1).bind fun t244 => ((spec_l06If.f (x13_1 != x14_1) 2048).bind fun t245 => (some (wrap64 (x12_1), Go.bits .or .i64 (Go.bits .or .i64 t243 t244) t245)))) = some (r1, r2) := H
    have A17 := Aside0.mk A170
    clear A170
    replace H := Option.bind_eq_some_iff.mp H
    obtain ⟨t244, A180, H⟩ := H
    replace H : ((spec_l06If.f (x13_1 != x14_1) 2048).bind fun t245 => (some (wrap64 (x12_1), Go.bits .or .i64 (Go.bits .or .i64 t243 t244) t245))) = some (r1, r2) := H
    have A18 := Aside0.mk A180
    clear A180
    replace H := Option.bind_eq_some_iff.mp H
    obtain ⟨t245, A190, H⟩ := H
    replace H : (some (wrap64 (x12_1), Go.bits .or .i64 (Go.bits .or .i64 t243 t244) t245)) = some (r1, r2) := H
    have A19 := Aside0.mk A190
    clear A190
    simp only [Option.some.injEq, Prod.mk.injEq] at H
    obtain ⟨rfl, rfl⟩ := H
    go_wp2_with (first | ((with_reducible refine gate_callee (f := 215) rfl ?_); refine goesL_ (some 67) rfl rfl Try.func215 (by kernel_rfl) rfl #[.int .i64 a0, .int .i64 (wrap64 (x12_1))] rfl (by (try simp only [List.map_toArray, List.map_cons, List.map_nil]); first | done | rfl | (simp only [List.length_drop, List.length_take]; rfl)) ?_; (with_reducible refine (spec_l06Szp.calls k1 a0 (wrap64 (x12_1)) t243 _ A17.out).mono ?_); rintro e w' ⟨rfl, ⟨nd, rfl⟩⟩; refine ⟨_, rfl, ?_⟩) | ((with_reducible refine gate_callee (f := 221) rfl ?_); refine goesL_ (some 70) rfl rfl Try.func221 (by kernel_rfl) rfl #[.bool (x13_1 == 1), .int .i64 1] rfl (by (try simp only [List.map_toArray, List.map_cons, List.map_nil]); first | done | rfl | (simp only [List.length_drop, List.length_take]; rfl)) ?_; (with_reducible refine (spec_l06If.calls (x13_1 == 1) 1 t244 _ A18.out).mono ?_); rintro e w' ⟨rfl, ⟨nd, rfl⟩⟩; refine ⟨_, rfl, ?_⟩) | ((with_reducible refine gate_callee (f := 221) rfl ?_); refine goesL_ (some 75) rfl rfl Try.func221 (by kernel_rfl) rfl #[.bool (x13_1 != x14_1), .int .i64 2048] rfl (by (try simp only [List.map_toArray, List.map_cons, List.map_nil]); first | done | rfl | (simp only [List.length_drop, List.length_take]; rfl)) ?_; (with_reducible refine (spec_l06If.calls (x13_1 != x14_1) 2048 t245 _ A19.out).mono ?_); rintro e w' ⟨rfl, ⟨nd, rfl⟩⟩; refine ⟨_, rfl, ?_⟩))
    go_ret2
    exact ⟨by first | rfl | (simp; done) | (simp [*]; done), by repeat (first | exact Drawn0.refl _ | apply Drawn0.step)⟩

/-! ### spec_l06Wise: function 216 -/
def spec_l06Wise.f (a0 : Int) (a1 : Int) (a2 : Int) : Option (Int) := if a0 = 2 then (some (Go.bits .or .i64 a1 a2)) else (if a0 = 7 then (some (Go.bits .xor .i64 a1 a2)) else (some (Go.bits .and .i64 a1 a2)))
set_option maxHeartbeats 8000000 in
set_option maxRecDepth 100000 in
theorem spec_l06Wise.calls (a0 : Int) (a1 : Int) (a2 : Int) (r : Int) (w : World) (h : spec_l06Wise.f a0 a1 a2 = some r) :
  Calls Try.prog 216 #[.int .i64 a0, .int .i64 a1, .int .i64 a2] w fun e w' => e = .returned (.int .i64 r) ∧ Drawn0 w w' := by
 have H : (if a0 = 2 then (some (Go.bits .or .i64 a1 a2)) else (if a0 = 7 then (some (Go.bits .xor .i64 a1 a2)) else (some (Go.bits .and .i64 a1 a2)))) = some r := h
 clear h
 by_cases c4 : a0 = 2
 ·rw [if_pos c4] at H
  have c4b0 : (a0 == 2) = true := beq_iff_eq.mpr c4
  have c4b1 : (a0 != 2) = false := bne_eq_false_iff_eq.mpr c4
  clear c4
  obtain rfl := Option.some.inj H
  go_enter Try.func216, Try.ntmps216
  go_wp2
  go_ret
  exact ⟨by first | rfl | (simp; done) | (simp [*]; done), by repeat (first | exact Drawn0.refl _ | apply Drawn0.step)⟩
 ·rw [if_neg c4] at H
  have c4b0 : (a0 == 2) = false := beq_eq_false_iff_ne.mpr c4
  have c4b1 : (a0 != 2) = true := bne_iff_ne.mpr c4
  by_cases c5 : a0 = 7
  ·rw [if_pos c5] at H
   have c5b0 : (a0 == 7) = true := beq_iff_eq.mpr c5
   have c5b1 : (a0 != 7) = false := bne_eq_false_iff_eq.mpr c5
   clear c5
   obtain rfl := Option.some.inj H
   go_enter Try.func216, Try.ntmps216
   go_wp2
   go_ret
   exact ⟨by first | rfl | (simp; done) | (simp [*]; done), by repeat (first | exact Drawn0.refl _ | apply Drawn0.step)⟩
  ·rw [if_neg c5] at H
   have c5b0 : (a0 == 7) = false := beq_eq_false_iff_ne.mpr c5
   have c5b1 : (a0 != 7) = true := bne_iff_ne.mpr c5
   obtain rfl := Option.some.inj H
   go_enter Try.func216, Try.ntmps216
   go_wp2
   go_ret
   exact ⟨by first | rfl | (simp; done) | (simp [*]; done), by repeat (first | exact Drawn0.refl _ | apply Drawn0.step)⟩

end Go.Proofs.Ytigoabhkdipdeaa.PFnLogic

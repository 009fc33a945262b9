/- Laid by a program of this session (patch_print.py) out of the translation: plain functions and what the calls do. No condition. -/
import Derived.Test.YtigoabhkdipdeaaPFnLogicx0
import Derived.Test.YtigoabhkdipdeaaPFnLogicx1
import Derived.Test.YtigoabhkdipdeaaPFnLogicx2
import Derived.Test.YtigoabhkdipdeaaPFnLogicx3
namespace Go.Proofs.Ytigoabhkdipdeaa.PFnLogic
open Go.RowKit Go.Proofs.YtigoabhkdipdeaaW.PrintWords Go.Proofs.YtigoabhkdipdeaaW.PrintLast Go.Proofs.YtigoabhkdipdeaaW.PrintMore
attribute [local go_sem] max2_int min2_int max_two min_two max_three min_three max_four min_four   -- for this text's walks alone
set_option linter.unusedVariables false
set_option linter.unusedSimpArgs false

/-! ### spec_l06Alu: function 139 -/
def spec_l06Alu.f (k : Nat) (a0 : Int) (a1 : Int) (a2 : Int) (a3 : Int) (a4 : Int) : Option (Int × Int) := if a0 = 1 then ((spec_l06Add.f k a1 a2 a3 0 false).bind fun bt249 => (some (bt249.1, bt249.2))) else (if a0 = 3 then ((spec_l06Add.f k a1 a2 a3 (Go.bits .and .i64 a4 1) false).bind fun bt251 => (some (bt251.1, bt251.2))) else (if a0 = 6 then ((spec_l06Add.f k a1 a2 a3 0 true).bind fun bt253 => (some (bt253.1, bt253.2))) else (if a0 = 4 then ((spec_l06Add.f k a1 a2 a3 (Go.bits .and .i64 a4 1) true).bind fun bt255 => (some (bt255.1, bt255.2))) else (if a0 = 8 then ((spec_l06Add.f k a1 a2 a3 0 true).bind fun bt257 => ((spec_l01Zero.f k a2 a1).bind fun t259 => (some (t259, bt257.2)))) else (if a0 = 10 then ((spec_l01Zero.f k a2 a1).bind fun t260 => ((spec_l06Szp.f k a1 (Go.bits .and .i64 a2 a3)).bind fun t261 => (some (t260, t261)))) else ((spec_l06Wise.f a0 a2 a3).bind fun t262 => ((spec_l01Zero.f k t262 a1).bind fun t263 => ((spec_l06Szp.f k a1 t262).bind fun t264 => (some (t263, t264))))))))))
theorem spec_l06Alu.mono : ∀ a0 a1 a2 a3 a4 k, LeO (spec_l06Alu.f k a0 a1 a2 a3 a4) (spec_l06Alu.f (k + 1) a0 a1 a2 a3 a4) := by
 intro a0 a1 a2 a3 a4 k
 unfold spec_l06Alu.f
 repeat' first
   | (with_reducible exact spec_l01Zero.mono _ _ _)
   | (with_reducible exact spec_l06Add.mono _ _ _ _ _ _)
   | (with_reducible exact spec_l06Szp.mono _ _ _)
   | (with_reducible exact LeO.refl _)
   | (with_reducible exact LeO.none _)
   | (with_reducible refine LeO.ite ?_ ?_)
   | (with_reducible refine LeO.bind ?_ (fun _ => ?_))
   | refine LeO.ite ?_ ?_
   | refine LeO.bind ?_ (fun _ => ?_)
set_option maxHeartbeats 8000000 in
set_option maxRecDepth 100000 in
theorem spec_l06Alu.calls (k : Nat) (a0 : Int) (a1 : Int) (a2 : Int) (a3 : Int) (a4 : Int) (r1 : Int) (r2 : Int) (w : World) (h : spec_l06Alu.f k a0 a1 a2 a3 a4 = some (r1, r2)) :
  Calls Try.prog 139 #[.int .i64 a0, .int .i64 a1, .int .i64 a2, .int .i64 a3, .int .i64 a4] w fun e w' => e = .returned (.tuple #[.int .i64 r1, .int .i64 r2]) ∧ Drawn0 w w' := by
 have H : (if a0 = 1 then ((spec_l06Add.f k a1 a2 a3 0 false).bind fun bt249 => (some (bt249.1, bt249.2))) else (if a0 = 3 then ((spec_l06Add.f k a1 a2 a3 (Go.bits .and .i64 a4 1) false).bind fun bt251 => (some (bt251.1, bt251.2))) else (if a0 = 6 then ((spec_l06Add.f k a1 a2 a3 0 true).bind fun bt253 => (some (bt253.1, bt253.2))) else (if a0 = 4 then ((spec_l06Add.f k a1 a2 a3 (Go.bits .and .i64 a4 1) true).bind fun bt255 => (some (bt255.1, bt255.2))) else (if a0 = 8 then ((spec_l06Add.f k a1 a2 a3 0 true).bind fun bt257 => ((spec_l01Zero.f k a2 a1).bind fun t259 => (some (t259, bt257.2)))) else (if a0 = 10 then ((spec_l01Zero.f k a2 a1).bind fun t260 => ((spec_l06Szp.f k a1 (Go.bits .and .i64 a2 a3)).bind fun t261 => (some (t260, t261)))) else ((spec_l06Wise.f a0 a2 a3).bind fun t262 => ((spec_l01Zero.f k t262 a1).bind fun t263 => ((spec_l06Szp.f k a1 t262).bind fun t264 => (some (t263, t264))))))))))) = some (r1, r2) := h
 clear h
 by_cases c6 : a0 = 1
 ·rw [if_pos c6] at H
  have c6b0 : (a0 == 1) = true := beq_iff_eq.mpr c6
  have c6b1 : (a0 != 1) = false := bne_eq_false_iff_eq.mpr c6
  clear c6
  replace H := Option.bind_eq_some_iff.mp H
  obtain ⟨⟨t249, t250⟩, A70, H⟩ := H
  replace H : (some (t249, t250)) = some (r1, r2) := H
  have A7 := Aside0.mk A70
  clear A70
  simp only [Option.some.injEq, Prod.mk.injEq] at H
  obtain ⟨rfl, rfl⟩ := H
  go_enter Try.func139, Try.ntmps139
  go_wp2_with (first | ((with_reducible refine gate_callee (f := 214) rfl ?_); refine goesL_ (some 21) rfl rfl Try.func214 (by kernel_rfl) rfl #[.int .i64 a1, .int .i64 a2, .int .i64 a3, .int .i64 0, .bool false] rfl (by (try simp only [List.map_toArray, List.map_cons, List.map_nil]); first | done | rfl | (simp only [List.length_drop, List.length_take]; rfl)) ?_; (with_reducible refine (spec_l06Add.calls k a1 a2 a3 0 false t249 t250 _ A7.out).mono ?_); rintro e w' ⟨rfl, ⟨nd, rfl⟩⟩; refine ⟨_, rfl, ?_⟩))
  go_ret2
  exact ⟨by first | rfl | (simp; done) | (simp [*]; done), by repeat (first | exact Drawn0.refl _ | apply Drawn0.step)⟩
 ·rw [if_neg c6] at H
  have c6b0 : (a0 == 1) = false := beq_eq_false_iff_ne.mpr c6
  have c6b1 : (a0 != 1) = true := bne_iff_ne.mpr c6
  by_cases c8 : a0 = 3
  ·rw [if_pos c8] at H
   have c8b0 : (a0 == 3) = true := beq_iff_eq.mpr c8
   have c8b1 : (a0 != 3) = false := bne_eq_false_iff_eq.mpr c8
   clear c8
   replace H := Option.bind_eq_some_iff.mp H
   obtain ⟨⟨t251, t252⟩, A90, H⟩ := H
   replace H : (some (t251, t252)) = some (r1, r2) := H
   have A9 := Aside0.mk A90
   clear A90
   simp only [Option.some.injEq, Prod.mk.injEq] at H
   obtain ⟨rfl, rfl⟩ := H
   go_enter Try.func139, Try.ntmps139
   go_wp2_with (first | ((with_reducible refine gate_callee (f := 214) rfl ?_); refine goesL_ (some 31) rfl rfl Try.func214 (by kernel_rfl) rfl #[.int .i64 a1, .int .i64 a2, .int .i64 a3, .int .i64 (Go.bits .and .i64 a4 1), .bool false] rfl (by (try simp only [List.map_toArray, List.map_cons, List.map_nil]); first | done | rfl | (simp only [List.length_drop, List.length_take]; rfl)) ?_; (with_reducible refine (spec_l06Add.calls k a1 a2 a3 (Go.bits .and .i64 a4 1) false t251 t252 _ A9.out).mono ?_); rintro e w' ⟨rfl, ⟨nd, rfl⟩⟩; refine ⟨_, rfl, ?_⟩))
   go_ret2
   exact ⟨by first | rfl | (simp; done) | (simp [*]; done), by repeat (first | exact Drawn0.refl _ | apply Drawn0.step)⟩
  ·rw [if_neg c8] at H
   have c8b0 : (a0 == 3) = false := beq_eq_false_iff_ne.mpr c8
   have c8b1 : (a0 != 3) = true := bne_iff_ne.mpr c8
   by_cases c10 : a0 = 6
   ·rw [if_pos c10] at H
    have c10b0 : (a0 == 6) = true := beq_iff_eq.mpr c10
    have c10b1 : (a0 != 6) = false := bne_eq_false_iff_eq.mpr c10
    clear c10
    replace H := Option.bind_eq_some_iff.mp H
    obtain ⟨⟨t253, t254⟩, A110, H⟩ := H
    replace H : (some (t253, t254)) = some (r1, r2) := H
    have A11 := Aside0.mk A110
    clear A110
    simp only [Option.some.injEq, Prod.mk.injEq] at H
    obtain ⟨rfl, rfl⟩ := H
    go_enter Try.func139, Try.ntmps139
    go_wp2_with (first | ((with_reducible refine gate_callee (f := 214) rfl ?_); refine goesL_ (some 39) rfl rfl Try.func214 (by kernel_rfl) rfl #[.int .i64 a1, .int .i64 a2, .int .i64 a3, .int .i64 0, .bool true] rfl (by (try simp only [List.map_toArray, List.map_cons, List.map_nil]); first | done | rfl | (simp only [List.length_drop, List.length_take]; rfl)) ?_; (with_reducible refine (spec_l06Add.calls k a1 a2 a3 0 true t253 t254 _ A11.out).mono ?_); rintro e w' ⟨rfl, ⟨nd, rfl⟩⟩; refine ⟨_, rfl, ?_⟩))
    go_ret2
    exact ⟨by first | rfl | (simp; done) | (simp [*]; done), by repeat (first | exact Drawn0.refl _ | apply Drawn0.step)⟩
   ·rw [if_neg c10] at H
    have c10b0 : (a0 == 6) = false := beq_eq_false_iff_ne.mpr c10
    have c10b1 : (a0 != 6) = true := bne_iff_ne.mpr c10
    by_cases c12 : a0 = 4
    ·rw [if_pos c12] at H
     have c12b0 : (a0 == 4) = true := beq_iff_eq.mpr c12
     have c12b1 : (a0 != 4) = false := bne_eq_false_iff_eq.mpr c12
     clear c12
     replace H := Option.bind_eq_some_iff.mp H
     obtain ⟨⟨t255, t256⟩, A130, H⟩ := H
     replace H : (some (t255, t256)) = some (r1, r2) := H
     have A13 := Aside0.mk A130
     clear A130
     simp only [Option.some.injEq, Prod.mk.injEq] at H
     obtain ⟨rfl, rfl⟩ := H
     go_enter Try.func139, Try.ntmps139
     go_wp2_with (first | ((with_reducible refine gate_callee (f := 214) rfl ?_); refine goesL_ (some 49) rfl rfl Try.func214 (by kernel_rfl) rfl #[.int .i64 a1, .int .i64 a2, .int .i64 a3, .int .i64 (Go.bits .and .i64 a4 1), .bool true] rfl (by (try simp only [List.map_toArray, List.map_cons, List.map_nil]); first | done | rfl | (simp only [List.length_drop, List.length_take]; rfl)) ?_; (with_reducible refine (spec_l06Add.calls k a1 a2 a3 (Go.bits .and .i64 a4 1) true t255 t256 _ A13.out).mono ?_); rintro e w' ⟨rfl, ⟨nd, rfl⟩⟩; refine ⟨_, rfl, ?_⟩))
     go_ret2
     exact ⟨by first | rfl | (simp; done) | (simp [*]; done), by repeat (first | exact Drawn0.refl _ | apply Drawn0.step)⟩
    ·rw [if_neg c12] at H
     have c12b0 : (a0 == 4) = false := beq_eq_false_iff_ne.mpr c12
     have c12b1 : (a0 != 4) = true := bne_iff_ne.mpr c12
     by_cases c14 : a0 = 8
     ·rw [if_pos c14] at H
      have c14b0 : (a0 == 8) = true := beq_iff_eq.mpr c14
      have c14b1 : (a0 != 8) = false := bne_eq_false_iff_eq.mpr c14
      clear c14
      replace H := Option.bind_eq_some_iff.mp H
      obtain ⟨⟨t257, t258⟩, A150, H⟩ := H
      replace H : ((spec_l01Zero.f k a2 a1).bind fun t259 => (some (t259, t258))) = some (r1, r2) := H
      have A15 := Aside0.mk A150
      clear A150
      replace H := Option.bind_eq_some_iff.mp H
      obtain ⟨t259, A160, H⟩ := H
      replace H : (some (t259, t258)) = some (r1, r2) := H
      have A16 := Aside0.mk A160
      clear A160
      simp only [Option.some.injEq, Prod.mk.injEq] at H
      obtain ⟨rfl, rfl⟩ := H
      go_enter Try.func139, Try.ntmps139
      go_wp2_with (first | ((with_reducible refine gate_callee (f := 214) rfl ?_); refine goesL_ (some 58) rfl rfl Try.func214 (by kernel_rfl) rfl #[.int .i64 a1, .int .i64 a2, .int .i64 a3, .int .i64 0, .bool true] rfl (by (try simp only [List.map_toArray, List.map_cons, List.map_nil]); first | done | rfl | (simp only [List.length_drop, List.length_take]; rfl)) ?_; (with_reducible refine (spec_l06Add.calls k a1 a2 a3 0 true t257 t258 _ A15.out).mono ?_); rintro e w' ⟨rfl, ⟨nd, rfl⟩⟩; refine ⟨_, rfl, ?_⟩) | ((with_reducible refine gate_callee (f := 132) rfl ?_); refine goesL_ (some 63) rfl rfl Try.func132 (by kernel_rfl) rfl #[.int .i64 a2, .int .i64 a1] rfl (by (try simp only [List.map_toArray, List.map_cons, List.map_nil]); first | done | rfl | (simp only [List.length_drop, List.length_take]; rfl)) ?_; (with_reducible refine (spec_l01Zero.calls k a2 a1 t259 _ A16.out).mono ?_); rintro e w' ⟨rfl, ⟨nd, rfl⟩⟩; refine ⟨_, rfl, ?_⟩))
      go_ret2
      exact ⟨by first | rfl | (simp; done) | (simp [*]; done), by repeat (first | exact Drawn0.refl _ | apply Drawn0.step)⟩
     ·rw [if_neg c14] at H
      have c14b0 : (a0 == 8) = false := beq_eq_false_iff_ne.mpr c14
      have c14b1 : (a0 != 8) = true := bne_iff_ne.mpr c14
      by_cases c17 : a0 = 10
      ·rw [if_pos c17] at H
       have c17b0 : (a0 == 10) = true := beq_iff_eq.mpr c17
       have c17b1 : (a0 != 10) = false := bne_eq_false_iff_eq.mpr c17
       clear c17
       replace H := Option.bind_eq_some_iff.mp H
       obtain ⟨t260, A180, H⟩ := H
       replace H : ((spec_l06Szp.f k a1 (Go.bits .and .i64 a2 a3)).bind fun t261 => (some (t260, t261))) = some (r1, r2) := H
       have A18 := Aside0.mk A180
       clear A180
       replace H := Option.bind_eq_some_iff.mp H
       obtain ⟨t261, A190, H⟩ := H
       replace H : (some (t260, t261)) = some (r1, r2) := H
       have A19 := Aside0.mk A190
       clear A190
       simp only [Option.some.injEq, Prod.mk.injEq] at H
       obtain ⟨rfl, rfl⟩ := H
       go_enter Try.func139, Try.ntmps139
       go_wp2_with (first | ((with_reducible refine gate_callee (f := 132) rfl ?_); refine goesL_ (some 69) rfl rfl Try.func132 (by kernel_rfl) rfl #[.int .i64 a2, .int .i64 a1] rfl (by (try simp only [List.map_toArray, List.map_cons, List.map_nil]); first | done | rfl | (simp only [List.length_drop, List.length_take]; rfl)) ?_; (with_reducible refine (spec_l01Zero.calls k a2 a1 t260 _ A18.out).mono ?_); rintro e w' ⟨rfl, ⟨nd, rfl⟩⟩; refine ⟨_, rfl, ?_⟩) | ((with_reducible refine gate_callee (f := 215) rfl ?_); refine goesL_ (some 74) rfl rfl Try.func215 (by kernel_rfl) rfl #[.int .i64 a1, .int .i64 (Go.bits .and .i64 a2 a3)] rfl (by (try simp only [List.map_toArray, List.map_cons, List.map_nil]); first | done | rfl | (simp only [List.length_drop, List.length_take]; rfl)) ?_; (with_reducible refine (spec_l06Szp.calls k a1 (Go.bits .and .i64 a2 a3) t261 _ A19.out).mono ?_); rintro e w' ⟨rfl, ⟨nd, rfl⟩⟩; refine ⟨_, rfl, ?_⟩))
       go_ret2
       exact ⟨by first | rfl | (simp; done) | (simp [*]; done), by repeat (first | exact Drawn0.refl _ | apply Drawn0.step)⟩
      ·rw [if_neg c17] at H
       have c17b0 : (a0 == 10) = false := beq_eq_false_iff_ne.mpr c17
       have c17b1 : (a0 != 10) = true := bne_iff_ne.mpr c17
       replace H := Option.bind_eq_some_iff.mp H
       obtain ⟨t262, A200, H⟩ := H
       replace H : ((spec_l01Zero.f k t262 a1).bind fun t263 => ((spec_l06Szp.f k a1 t262).bind fun t264 => (some (t263, t264)))) = some (r1, r2) := H
       have A20 := Aside0.mk A200
       clear A200
       replace H := Option.bind_eq_some_iff.mp H
       obtain ⟨t263, A210, H⟩ := H
       replace H : ((spec_l06Szp.f k a1 t262).bind fun t264 => (some (t263, t264))) = some (r1, r2) := H
       have A21 := Aside0.mk A210
       clear A210
       replace H := Option.bind_eq_some_iff.mp H
       obtain ⟨t264, A220, H⟩ := H
       replace H : (some (t263, t264)) = some (r1, r2) := H
       have A22 := Aside0.mk A220
       clear A220
       simp only [Option.some.injEq, Prod.mk.injEq] at H
       obtain ⟨rfl, rfl⟩ := H
       go_enter Try.func139, Try.ntmps139
       go_wp2_with (first | ((with_reducible refine gate_callee (f := 216) rfl ?_); refine goesL_ (some 78) rfl rfl Try.func216 (by kernel_rfl) rfl #[.int .i64 a0, .int .i64 a2, .int .i64 a3] rfl (by (try simp only [List.map_toArray, List.map_cons, List.map_nil]); first | done | rfl | (simp only [List.length_drop, List.length_take]; rfl)) ?_; (with_reducible refine (spec_l06Wise.calls a0 a2 a3 t262 _ A20.out).mono ?_); rintro e w' ⟨rfl, ⟨nd, rfl⟩⟩; refine ⟨_, rfl, ?_⟩) | ((with_reducible refine gate_callee (f := 132) rfl ?_); refine goesL_ (some 81) rfl rfl Try.func132 (by kernel_rfl) rfl #[.int .i64 t262, .int .i64 a1] rfl (by (try simp only [List.map_toArray, List.map_cons, List.map_nil]); first | done | rfl | (simp only [List.length_drop, List.length_take]; rfl)) ?_; (with_reducible refine (spec_l01Zero.calls k t262 a1 t263 _ A21.out).mono ?_); rintro e w' ⟨rfl, ⟨nd, rfl⟩⟩; refine ⟨_, rfl, ?_⟩) | ((with_reducible refine gate_callee (f := 215) rfl ?_); refine goesL_ (some 84) rfl rfl Try.func215 (by kernel_rfl) rfl #[.int .i64 a1, .int .i64 t262] rfl (by (try simp only [List.map_toArray, List.map_cons, List.map_nil]); first | done | rfl | (simp only [List.length_drop, List.length_take]; rfl)) ?_; (with_reducible refine (spec_l06Szp.calls k a1 t262 t264 _ A22.out).mono ?_); rintro e w' ⟨rfl, ⟨nd, rfl⟩⟩; refine ⟨_, rfl, ?_⟩))
       go_ret2
       exact ⟨by first | rfl | (simp; done) | (simp [*]; done), by repeat (first | exact Drawn0.refl _ | apply Drawn0.step)⟩

/-! ### spec_Alu2: function 61 -/
def spec_Alu2.f (k : Nat) (a0 : Int) (a1 : Int) (a2 : Int) (a3 : Int) (a4 : Int) : Option (Int × Int) := (spec_l06Alu.f k a0 a1 a2 a3 a4).bind fun bt265 => (some (bt265.1, bt265.2))
theorem spec_Alu2.mono : ∀ a0 a1 a2 a3 a4 k, LeO (spec_Alu2.f k a0 a1 a2 a3 a4) (spec_Alu2.f (k + 1) a0 a1 a2 a3 a4) := by
 intro a0 a1 a2 a3 a4 k
 unfold spec_Alu2.f
 repeat' first
   | (with_reducible exact spec_l06Alu.mono _ _ _ _ _ _)
   | (with_reducible exact LeO.refl _)
   | (with_reducible exact LeO.none _)
   | (with_reducible refine LeO.ite ?_ ?_)
   | (with_reducible refine LeO.bind ?_ (fun _ => ?_))
   | refine LeO.ite ?_ ?_
   | refine LeO.bind ?_ (fun _ => ?_)
set_option maxHeartbeats 8000000 in
set_option maxRecDepth 100000 in
theorem spec_Alu2.calls (k : Nat) (a0 : Int) (a1 : Int) (a2 : Int) (a3 : Int) (a4 : Int) (r1 : Int) (r2 : Int) (w : World) (h : spec_Alu2.f k a0 a1 a2 a3 a4 = some (r1, r2)) :
  Calls Try.prog 61 #[.int .i64 a0, .int .i64 a1, .int .i64 a2, .int .i64 a3, .int .i64 a4] w fun e w' => e = .returned (.tuple #[.int .i64 r1, .int .i64 r2]) ∧ Drawn0 w w' := by
 have H : ((spec_l06Alu.f k a0 a1 a2 a3 a4).bind fun bt265 => (some (bt265.1, bt265.2))) = some (r1, r2) := h
 clear h
 replace H := Option.bind_eq_some_iff.mp H
 obtain ⟨⟨t265, t266⟩, A60, H⟩ := H
 replace H : (some (t265, t266)) = some (r1, r2) := H
 have A6 := Aside0.mk A60
 clear A60
 simp only [Option.some.injEq, Prod.mk.injEq] at H
 obtain ⟨rfl, rfl⟩ := H
 go_enter Try.func61, Try.ntmps61
 go_wp2_with (first | ((with_reducible refine gate_callee (f := 139) rfl ?_); refine goesL_ (some 17) rfl rfl Try.func139 (by kernel_rfl) rfl #[.int .i64 a0, .int .i64 a1, .int .i64 a2, .int .i64 a3, .int .i64 a4] rfl (by (try simp only [List.map_toArray, List.map_cons, List.map_nil]); first | done | rfl | (simp only [List.length_drop, List.length_take]; rfl)) ?_; (with_reducible refine (spec_l06Alu.calls k a0 a1 a2 a3 a4 t265 t266 _ A6.out).mono ?_); rintro e w' ⟨rfl, ⟨nd, rfl⟩⟩; refine ⟨_, rfl, ?_⟩))
 go_ret2
 exact ⟨by first | rfl | (simp; done) | (simp [*]; done), by repeat (first | exact Drawn0.refl _ | apply Drawn0.step)⟩

/-! ### laws_FnLogic: function 12 -/
def laws_FnLogic.j0 : Nat → List Int → List Int → Bool → Option (Bool)
  | 0, _, _, _ => none
  | k + 1, x0, x1, x50 => if x50 = true then (some true) else ((spec_NumberOf.f x0).bind fun t267 => ((spec_NumberOf.f x1).bind fun t268 => ((laws_sizeAt.f x1 0).bind fun t269 => ((spec_FlagsDrawn.f k x0).bind fun t270 => ((spec_ZeroOf.f k t267 t269).bind fun bt271 => ((impl_Alu.f 5 t269 t267 t268 t270).bind fun bt273 => ((impl_Alu.f 2 t269 t267 t268 t270).bind fun bt276 => ((impl_Alu.f 7 t269 t267 t268 t270).bind fun bt279 => ((laws_plus.f bt273.1 bt279.1).bind fun t282 => ((spec_ZeroOf.f k t282 t269).bind fun bt283 => ((impl_One.f 18 t269 t267 t270).bind fun bt285 => ((impl_One.f 19 t269 bt285.1 bt285.2.1).bind fun bt288 => ((impl_One.f 11 t269 t267 t270).bind fun bt291 => ((impl_One.f 12 t269 bt291.1 t270).bind fun bt294 => ((laws_plus.f t267 1).bind fun t297 => ((spec_ZeroOf.f k t297 t269).bind fun bt298 => ((impl_FlagsOf.f t269 bt276.1).bind fun bt300 => ((spec_Alu2.f k 10 t269 t267 t268 t270).bind fun bt302 => ((impl_Alu.f 10 t269 t267 t268 t270).bind fun bt304 => (if bt273.2.2 = 0 then (if bt276.2.2 = 0 then (if bt279.2.2 = 0 then (if bt276.1 = bt283.1 then (if (Go.bits .and .i64 bt273.2.1 1) = 0 then (if (Go.bits .and .i64 bt279.2.1 2048) = 0 then (if bt300.2 = 0 then (if bt276.2.1 = bt300.1 then (if bt285.2.2 = 0 then (if bt285.1 = bt298.1 then (if (Go.bits .and .i64 bt285.2.1 1) = (Go.bits .and .i64 t270 1) then (if bt288.2.2 = 0 then (if bt288.1 = bt271.1 then (if (Go.bits .and .i64 bt288.2.1 1) = (Go.bits .and .i64 t270 1) then (if bt291.2.2 = 0 then (if bt291.2.1 = t270 then (if bt294.2.2 = 0 then (if bt294.1 = bt298.1 then (if (((Go.bits .and .i64 bt294.2.1 1) != 0) == (bt291.1 != 0)) = true then (if bt304.2.2 = 0 then (if bt304.2.1 = bt273.2.1 then (if bt302.1 = bt271.1 then (some (bt302.2 == bt304.2.1)) else (some false)) else (some false)) else (some false)) else (some false)) else (some false)) else (some false)) else (some false)) else (some false)) else (some false)) else (some false)) else (some false)) else (some false)) else (some false)) else (some false)) else (some false)) else (some false)) else (some false)) else (some false)) else (some false)) else (some false)) else (some false)) else (some false)))))))))))))))))))))
def laws_FnLogic.f (k : Nat) (l0 : List Int) (l1 : List Int) : Option (Bool) := if (l0.length : Int) > 1048576 then (laws_FnLogic.j0 k l0 l1 true) else (laws_FnLogic.j0 k l0 l1 (decide ((l1.length : Int) > 1048576)))
theorem laws_FnLogic.mono_l : ∀ k, (∀ y0 y1 y2, LeO (laws_FnLogic.j0 k y0 y1 y2) (laws_FnLogic.j0 (k + 1) y0 y1 y2))
  | 0 => fun _ _ _ r h => by simp [laws_FnLogic.j0] at h
  | k + 1 => by
    have ih0 := laws_FnLogic.mono_l k
    · intro y0 y1 y2
      unfold laws_FnLogic.j0
      repeat' first
      | (with_reducible exact ih0 _ _ _)
      | (with_reducible exact spec_Alu2.mono _ _ _ _ _ _)
      | (with_reducible exact spec_FlagsDrawn.mono _ _)
      | (with_reducible exact spec_ZeroOf.mono _ _ _)
      | (with_reducible exact LeO.refl _)
      | (with_reducible exact LeO.none _)
      | (with_reducible refine LeO.ite ?_ ?_)
      | (with_reducible refine LeO.bind ?_ (fun _ => ?_))
      | refine LeO.ite ?_ ?_
      | refine LeO.bind ?_ (fun _ => ?_)
theorem laws_FnLogic.mono : ∀ a0 a1 k, LeO (laws_FnLogic.f k a0 a1) (laws_FnLogic.f (k + 1) a0 a1) := by
  intro a0 a1 k
  have ih0 := laws_FnLogic.mono_l k
  unfold laws_FnLogic.f
  repeat' first
      | (with_reducible exact ih0 _ _ _)
      | (with_reducible exact spec_Alu2.mono _ _ _ _ _ _)
      | (with_reducible exact spec_FlagsDrawn.mono _ _)
      | (with_reducible exact spec_ZeroOf.mono _ _ _)
      | (with_reducible exact LeO.refl _)
      | (with_reducible exact LeO.none _)
      | (with_reducible refine LeO.ite ?_ ?_)
      | (with_reducible refine LeO.bind ?_ (fun _ => ?_))
      | refine LeO.ite ?_ ?_
      | refine LeO.bind ?_ (fun _ => ?_)
theorem laws_FnLogic.e0 {p : Prop} (h : p := by
  obtain rfl := Option.some.inj H
  go_wp2_with (first | ((with_reducible refine gate_callee (f := 53) rfl ?_); refine goesL_ (some 52) rfl rfl Try.func53 (by kernel_rfl) rfl #[.slice A0 l0.length c0] rfl (by (try simp only [List.map_toArray, List.map_cons, List.map_nil]); first | done | rfl | (simp only [List.length_drop, List.length_take]; rfl)) ?_; (with_reducible refine (spec_NumberOf.calls _ _ l0 t267 _ ?side1 ?side2 A6.out).mono ?_); (case side1 => repeat (first | exact (Kd.C_below HR0.out HB.out) | (with_reducible refine Kd.C_alloc ?_ _) | (with_reducible refine Kd.C_drewN ?_ _) | (with_reducible refine Kd.C_drew ?_))); (case side2 => exact HC0.out); rintro e w_y0 ⟨rfl, hb⟩; refine ⟨_, rfl, ?_⟩; have n_y1 := Aside0.mk (below_step (by repeat (first | (with_reducible first | exact HB.out | apply below_alloc | apply pw_below_drewN | apply below_drew1) | exact HB.out)) hb); clear HB; have HB := n_y1; clear n_y1; (try clear hb); (try clear hb2); (try clear hk); (try clear hi)) | ((with_reducible refine gate_callee (f := 53) rfl ?_); refine goesL_ (some 54) rfl rfl Try.func53 (by kernel_rfl) rfl #[.slice A1 l1.length c1] rfl (by (try simp only [List.map_toArray, List.map_cons, List.map_nil]); first | done | rfl | (simp only [List.length_drop, List.length_take]; rfl)) ?_; (with_reducible refine (spec_NumberOf.calls _ _ l1 t268 _ ?side1 ?side2 A7.out).mono ?_); (case side1 => repeat (first | exact (Kd.C_below HR1.out HB.out) | (with_reducible refine Kd.C_alloc ?_ _) | (with_reducible refine Kd.C_drewN ?_ _) | (with_reducible refine Kd.C_drew ?_))); (case side2 => exact HC1.out); rintro e w_y2 ⟨rfl, hb⟩; refine ⟨_, rfl, ?_⟩; have n_y1 := Aside0.mk (below_step (by repeat (first | (with_reducible first | exact HB.out | apply below_alloc | apply pw_below_drewN | apply below_drew1) | exact HB.out)) hb); clear HB; have HB := n_y1; clear n_y1; (try clear hb); (try clear hb2); (try clear hk); (try clear hi)) | ((with_reducible refine gate_callee (f := 54) rfl ?_); refine goesL_ (some 56) rfl rfl Try.func54 (by kernel_rfl) rfl #[.slice A1 l1.length c1, .int .i64 0] rfl (by (try simp only [List.map_toArray, List.map_cons, List.map_nil]); first | done | rfl | (simp only [List.length_drop, List.length_take]; rfl)) ?_; (with_reducible refine (laws_sizeAt.calls _ _ l1 0 t269 _ ?side1 ?side2 A8.out).mono ?_); (case side1 => repeat (first | exact (Kd.C_below HR1.out HB.out) | (with_reducible refine Kd.C_alloc ?_ _) | (with_reducible refine Kd.C_drewN ?_ _) | (with_reducible refine Kd.C_drew ?_))); (case side2 => exact HC1.out); rintro e w_y3 ⟨rfl, hb⟩; refine ⟨_, rfl, ?_⟩; have n_y1 := Aside0.mk (below_step (by repeat (first | (with_reducible first | exact HB.out | apply below_alloc | apply pw_below_drewN | apply below_drew1) | exact HB.out)) hb); clear HB; have HB := n_y1; clear n_y1; (try clear hb); (try clear hb2); (try clear hk); (try clear hi)) | ((with_reducible refine gate_callee (f := 55) rfl ?_); refine goesL_ (some 58) rfl rfl Try.func55 (by kernel_rfl) rfl #[.slice A0 l0.length c0] rfl (by (try simp only [List.map_toArray, List.map_cons, List.map_nil]); first | done | rfl | (simp only [List.length_drop, List.length_take]; rfl)) ?_; (with_reducible refine (spec_FlagsDrawn.calls kj2 _ _ l0 t270 _ ?side1 ?side2 A9.out).mono ?_); (case side1 => repeat (first | exact (Kd.C_below HR0.out HB.out) | (with_reducible refine Kd.C_alloc ?_ _) | (with_reducible refine Kd.C_drewN ?_ _) | (with_reducible refine Kd.C_drew ?_))); (case side2 => exact HC0.out); rintro e w_y4 ⟨rfl, hb⟩; refine ⟨_, rfl, ?_⟩; have n_y1 := Aside0.mk (below_step (by repeat (first | (with_reducible first | exact HB.out | apply below_alloc | apply pw_below_drewN | apply below_drew1) | exact HB.out)) hb); clear HB; have HB := n_y1; clear n_y1; (try clear hb); (try clear hb2); (try clear hk); (try clear hi)) | ((with_reducible refine gate_callee (f := 56) rfl ?_); refine goesL_ (some 62) rfl rfl Try.func56 (by kernel_rfl) rfl #[.int .i64 t267, .int .i64 t269] rfl (by (try simp only [List.map_toArray, List.map_cons, List.map_nil]); first | done | rfl | (simp only [List.length_drop, List.length_take]; rfl)) ?_; (with_reducible refine (spec_ZeroOf.calls kj2 t267 t269 t271 t272 _ A10.out).mono ?_); rintro e w' ⟨rfl, ⟨nd, rfl⟩⟩; refine ⟨_, rfl, ?_⟩) | ((with_reducible refine gate_callee (f := 57) rfl ?_); refine goesL_ (some 70) rfl rfl Try.func57 (by kernel_rfl) rfl #[.int .i64 5, .int .i64 t269, .int .i64 t267, .int .i64 t268, .int .i64 t270] rfl (by (try simp only [List.map_toArray, List.map_cons, List.map_nil]); first | done | rfl | (simp only [List.length_drop, List.length_take]; rfl)) ?_; (with_reducible refine (impl_Alu.calls 5 t269 t267 t268 t270 t273 t274 t275 _ A11.out).mono ?_); rintro e w' ⟨rfl, ⟨nd, rfl⟩⟩; refine ⟨_, rfl, ?_⟩) | ((with_reducible refine gate_callee (f := 57) rfl ?_); refine goesL_ (some 79) rfl rfl Try.func57 (by kernel_rfl) rfl #[.int .i64 2, .int .i64 t269, .int .i64 t267, .int .i64 t268, .int .i64 t270] rfl (by (try simp only [List.map_toArray, List.map_cons, List.map_nil]); first | done | rfl | (simp only [List.length_drop, List.length_take]; rfl)) ?_; (with_reducible refine (impl_Alu.calls 2 t269 t267 t268 t270 t276 t277 t278 _ A12.out).mono ?_); rintro e w' ⟨rfl, ⟨nd, rfl⟩⟩; refine ⟨_, rfl, ?_⟩) | ((with_reducible refine gate_callee (f := 57) rfl ?_); refine goesL_ (some 88) rfl rfl Try.func57 (by kernel_rfl) rfl #[.int .i64 7, .int .i64 t269, .int .i64 t267, .int .i64 t268, .int .i64 t270] rfl (by (try simp only [List.map_toArray, List.map_cons, List.map_nil]); first | done | rfl | (simp only [List.length_drop, List.length_take]; rfl)) ?_; (with_reducible refine (impl_Alu.calls 7 t269 t267 t268 t270 t279 t280 t281 _ A13.out).mono ?_); rintro e w' ⟨rfl, ⟨nd, rfl⟩⟩; refine ⟨_, rfl, ?_⟩) | ((with_reducible refine gate_callee (f := 58) rfl ?_); refine goesL_ (some 95) rfl rfl Try.func58 (by kernel_rfl) rfl #[.int .i64 t273, .int .i64 t279] rfl (by (try simp only [List.map_toArray, List.map_cons, List.map_nil]); first | done | rfl | (simp only [List.length_drop, List.length_take]; rfl)) ?_; (with_reducible refine (laws_plus.calls t273 t279 t282 _ A14.out).mono ?_); rintro e w' ⟨rfl, ⟨nd, rfl⟩⟩; refine ⟨_, rfl, ?_⟩) | ((with_reducible refine gate_callee (f := 56) rfl ?_); refine goesL_ (some 97) rfl rfl Try.func56 (by kernel_rfl) rfl #[.int .i64 t282, .int .i64 t269] rfl (by (try simp only [List.map_toArray, List.map_cons, List.map_nil]); first | done | rfl | (simp only [List.length_drop, List.length_take]; rfl)) ?_; (with_reducible refine (spec_ZeroOf.calls kj2 t282 t269 t283 t284 _ A15.out).mono ?_); rintro e w' ⟨rfl, ⟨nd, rfl⟩⟩; refine ⟨_, rfl, ?_⟩) | ((with_reducible refine gate_callee (f := 59) rfl ?_); refine goesL_ (some 104) rfl rfl Try.func59 (by kernel_rfl) rfl #[.int .i64 18, .int .i64 t269, .int .i64 t267, .int .i64 t270] rfl (by (try simp only [List.map_toArray, List.map_cons, List.map_nil]); first | done | rfl | (simp only [List.length_drop, List.length_take]; rfl)) ?_; (with_reducible refine (impl_One.calls 18 t269 t267 t270 t285 t286 t287 _ A16.out).mono ?_); rintro e w' ⟨rfl, ⟨nd, rfl⟩⟩; refine ⟨_, rfl, ?_⟩) | ((with_reducible refine gate_callee (f := 59) rfl ?_); refine goesL_ (some 112) rfl rfl Try.func59 (by kernel_rfl) rfl #[.int .i64 19, .int .i64 t269, .int .i64 t285, .int .i64 t286] rfl (by (try simp only [List.map_toArray, List.map_cons, List.map_nil]); first | done | rfl | (simp only [List.length_drop, List.length_take]; rfl)) ?_; (with_reducible refine (impl_One.calls 19 t269 t285 t286 t288 t289 t290 _ A17.out).mono ?_); rintro e w' ⟨rfl, ⟨nd, rfl⟩⟩; refine ⟨_, rfl, ?_⟩) | ((with_reducible refine gate_callee (f := 59) rfl ?_); refine goesL_ (some 120) rfl rfl Try.func59 (by kernel_rfl) rfl #[.int .i64 11, .int .i64 t269, .int .i64 t267, .int .i64 t270] rfl (by (try simp only [List.map_toArray, List.map_cons, List.map_nil]); first | done | rfl | (simp only [List.length_drop, List.length_take]; rfl)) ?_; (with_reducible refine (impl_One.calls 11 t269 t267 t270 t291 t292 t293 _ A18.out).mono ?_); rintro e w' ⟨rfl, ⟨nd, rfl⟩⟩; refine ⟨_, rfl, ?_⟩) | ((with_reducible refine gate_callee (f := 59) rfl ?_); refine goesL_ (some 128) rfl rfl Try.func59 (by kernel_rfl) rfl #[.int .i64 12, .int .i64 t269, .int .i64 t291, .int .i64 t270] rfl (by (try simp only [List.map_toArray, List.map_cons, List.map_nil]); first | done | rfl | (simp only [List.length_drop, List.length_take]; rfl)) ?_; (with_reducible refine (impl_One.calls 12 t269 t291 t270 t294 t295 t296 _ A19.out).mono ?_); rintro e w' ⟨rfl, ⟨nd, rfl⟩⟩; refine ⟨_, rfl, ?_⟩) | ((with_reducible refine gate_callee (f := 58) rfl ?_); refine goesL_ (some 134) rfl rfl Try.func58 (by kernel_rfl) rfl #[.int .i64 t267, .int .i64 1] rfl (by (try simp only [List.map_toArray, List.map_cons, List.map_nil]); first | done | rfl | (simp only [List.length_drop, List.length_take]; rfl)) ?_; (with_reducible refine (laws_plus.calls t267 1 t297 _ A20.out).mono ?_); rintro e w' ⟨rfl, ⟨nd, rfl⟩⟩; refine ⟨_, rfl, ?_⟩) | ((with_reducible refine gate_callee (f := 56) rfl ?_); refine goesL_ (some 136) rfl rfl Try.func56 (by kernel_rfl) rfl #[.int .i64 t297, .int .i64 t269] rfl (by (try simp only [List.map_toArray, List.map_cons, List.map_nil]); first | done | rfl | (simp only [List.length_drop, List.length_take]; rfl)) ?_; (with_reducible refine (spec_ZeroOf.calls kj2 t297 t269 t298 t299 _ A21.out).mono ?_); rintro e w' ⟨rfl, ⟨nd, rfl⟩⟩; refine ⟨_, rfl, ?_⟩) | ((with_reducible refine gate_callee (f := 60) rfl ?_); refine goesL_ (some 142) rfl rfl Try.func60 (by kernel_rfl) rfl #[.int .i64 t269, .int .i64 t276] rfl (by (try simp only [List.map_toArray, List.map_cons, List.map_nil]); first | done | rfl | (simp only [List.length_drop, List.length_take]; rfl)) ?_; (with_reducible refine (impl_FlagsOf.calls t269 t276 t300 t301 _ A22.out).mono ?_); rintro e w' ⟨rfl, ⟨nd, rfl⟩⟩; refine ⟨_, rfl, ?_⟩) | ((with_reducible refine gate_callee (f := 61) rfl ?_); refine goesL_ (some 150) rfl rfl Try.func61 (by kernel_rfl) rfl #[.int .i64 10, .int .i64 t269, .int .i64 t267, .int .i64 t268, .int .i64 t270] rfl (by (try simp only [List.map_toArray, List.map_cons, List.map_nil]); first | done | rfl | (simp only [List.length_drop, List.length_take]; rfl)) ?_; (with_reducible refine (spec_Alu2.calls kj2 10 t269 t267 t268 t270 t302 t303 _ A23.out).mono ?_); rintro e w' ⟨rfl, ⟨nd, rfl⟩⟩; refine ⟨_, rfl, ?_⟩) | ((with_reducible refine gate_callee (f := 57) rfl ?_); refine goesL_ (some 158) rfl rfl Try.func57 (by kernel_rfl) rfl #[.int .i64 10, .int .i64 t269, .int .i64 t267, .int .i64 t268, .int .i64 t270] rfl (by (try simp only [List.map_toArray, List.map_cons, List.map_nil]); first | done | rfl | (simp only [List.length_drop, List.length_take]; rfl)) ?_; (with_reducible refine (impl_Alu.calls 10 t269 t267 t268 t270 t304 t305 t306 _ A24.out).mono ?_); rintro e w' ⟨rfl, ⟨nd, rfl⟩⟩; refine ⟨_, rfl, ?_⟩))
  go_ret
  exact ⟨by first | rfl | (simp [errW_none, errW_some] <;> rfl) | (simp [*, errW_none, errW_some] <;> rfl), by repeat (first | (with_reducible first | exact HB.out | apply below_alloc | apply pw_below_drewN | apply below_drew1) | exact HB.out)⟩) : p := h
set_option maxHeartbeats 64000000 in
set_option maxRecDepth 100000 in
theorem laws_FnLogic.calls (k : Nat) (A0 : Option Addr) (c0 : Nat) (l0 : List Int) (A1 : Option Addr) (c1 : Nat) (l1 : List Int) (r : Bool) (w : World) (hr0 : Kd.C (Kd.int .u8) w A0 l0.length l0) (hc0 : l0.length ≤ c0) (hr1 : Kd.C (Kd.int .u8) w A1 l1.length l1) (hc1 : l1.length ≤ c1) (h : laws_FnLogic.f k l0 l1 = some r) (hr_ : r = true := by rfl) :
    Calls Try.prog 12 #[.slice A0 l0.length c0, .slice A1 l1.length c1] w fun e w' => e = .returned (.bool r) ∧ Below w.heap.size w w' := by
  have HR_ := Aside0.mk hr_
  clear hr_
  have HR0 := Aside0.mk hr0
  have HC0 := Aside0.mk hc0
  clear hr0 hc0
  have HR1 := Aside0.mk hr1
  have HC1 := Aside0.mk hc1
  clear hr1 hc1
  have HB := Aside0.mk (Below.refl w.heap.size w)
  have H : (if (l0.length : Int) > 1048576 then (laws_FnLogic.j0 k l0 l1 true) else (laws_FnLogic.j0 k l0 l1 (decide ((l1.length : Int) > 1048576)))) = some r := h
  clear h
  have HC3 := Aside0.mk H
  clear H
  go_enter Try.func12, Try.ntmps12
  go_upto_region 1 with (fail)
  go_cut [50] (fun v50 wc => ∃ (kq : Nat) (x50_2 : Bool), v50 = .bool x50_2 ∧ Aside0 (laws_FnLogic.j0 kq l0 l1 x50_2 = some r) ∧ Aside0 (kq ≤ k) ∧ Aside0 (Below w.heap.size w wc))
  case first =>
    have H := HC3.out
    clear HC3
    by_cases c4 : (l0.length : Int) > 1048576
    · rw [if_pos c4] at H
      have c4b0 : decide (1048576 < (l0.length : Int)) = true := decide_eq_true c4
      have c4b1 : decide (1048576 < l0.length) = true := decide_eq_true (by omega)
      clear c4
      (first | rw [c4b0] | (simp only [i64_w, i32_w]; rw [c4b0]) | rw [c4b1] | skip)
      have H' := Aside0.mk H
      clear H
      go_wp2
      go_meet
      case rel => exact ⟨_, (true), (by first | rfl | (simp; done) | (simp [*]; done)), H', ⟨by first | omega | exact Nat.le_refl _⟩, ⟨by repeat (first | (with_reducible first | exact HB.out | apply below_alloc | apply pw_below_drewN | apply below_drew1) | exact HB.out)⟩⟩
    · rw [if_neg c4] at H
      have c4b0 : decide (1048576 < (l0.length : Int)) = false := decide_eq_false c4
      have c4b1 : decide (1048576 < l0.length) = false := decide_eq_false (by omega)
      clear c4
      (first | rw [c4b0] | (simp only [i64_w, i32_w]; rw [c4b0]) | rw [c4b1] | skip)
      have H' := Aside0.mk H
      clear H
      go_wp2
      go_meet
      case rel => exact ⟨_, (decide ((l1.length : Int) > 1048576)), (by first | rfl | (simp; done) | (simp [*]; done)), H', ⟨by first | omega | exact Nat.le_refl _⟩, ⟨by repeat (first | (with_reducible first | exact HB.out | apply below_alloc | apply pw_below_drewN | apply below_drew1) | exact HB.out)⟩⟩
  case rest =>
    clear HC3
    (try clear c1); (try clear c4); (try clear c4b0); (try clear c4b1)
    obtain ⟨kq, x50_2, rfl, HA, HJ2, HB⟩ := hcut
    cases kq with
    | zero => exact absurd HA.out (by simp [laws_FnLogic.j0])
    | succ kj2 =>
      have H := HA.out
      clear HA
      simp only [laws_FnLogic.j0] at H
      by_cases c5 : x50_2 = true
      · subst c5
        have H1 : (some true) = some r := by rw [if_pos rfl] at H; exact H
        clear H
        have H := H1
        clear H1
        first
          | exact absurd ((Option.some.inj H).trans HR_.out) (by decide)
          | (obtain rfl := Option.some.inj H
             go_wp2
             go_ret
             exact ⟨by first | rfl | (simp [errW_none, errW_some] <;> rfl) | (simp [*, errW_none, errW_some] <;> rfl), by repeat (first | (with_reducible first | exact HB.out | apply below_alloc | apply pw_below_drewN | apply below_drew1) | exact HB.out)⟩)
      · replace c5 := Bool.eq_false_iff.mpr c5
        subst c5
        have H1 : ((spec_NumberOf.f l0).bind fun t267 => ((spec_NumberOf.f l1).bind fun t268 => ((laws_sizeAt.f l1 0).bind fun t269 => ((spec_FlagsDrawn.f kj2 l0).bind fun t270 => ((spec_ZeroOf.f kj2 t267 t269).bind fun bt271 => ((impl_Alu.f 5 t269 t267 t268 t270).bind fun bt273 => ((impl_Alu.f 2 t269 t267 t268 t270).bind fun bt276 => ((impl_Alu.f 7 t269 t267 t268 t270).bind fun bt279 => ((laws_plus.f bt273.1 bt279.1).bind fun t282 => ((spec_ZeroOf.f kj2 t282 t269).bind fun bt283 => ((impl_One.f 18 t269 t267 t270).bind fun bt285 => ((impl_One.f 19 t269 bt285.1 bt285.2.1).bind fun bt288 => ((impl_One.f 11 t269 t267 t270).bind fun bt291 => ((impl_One.f 12 t269 bt291.1 t270).bind fun bt294 => ((laws_plus.f t267 1).bind fun t297 => ((spec_ZeroOf.f kj2 t297 t269).bind fun bt298 => ((impl_FlagsOf.f t269 bt276.1).bind fun bt300 => ((spec_Alu2.f kj2 10 t269 t267 t268 t270).bind fun bt302 => ((impl_Alu.f 10 t269 t267 t268 t270).bind fun bt304 => (if bt273.2.2 = 0 then (if bt276.2.2 = 0 then (if bt279.2.2 = 0 then (if bt276.1 = bt283.1 then (if (Go.bits .and .i64 bt273.2.1 1) = 0 then (if (Go.bits .and .i64 bt279.2.1 2048) = 0 then (if bt300.2 = 0 then (if bt276.2.1 = bt300.1 then (if bt285.2.2 = 0 then (if bt285.1 = bt298.1 then (if (Go.bits .and .i64 bt285.2.1 1) = (Go.bits .and .i64 t270 1) then (if bt288.2.2 = 0 then (if bt288.1 = bt271.1 then (if (Go.bits .and .i64 bt288.2.1 1) = (Go.bits .and .i64 t270 1) then (if bt291.2.2 = 0 then (if bt291.2.1 = t270 then (if bt294.2.2 = 0 then (if bt294.1 = bt298.1 then (if (((Go.bits .and .i64 bt294.2.1 1) != 0) == (bt291.1 != 0)) = true then (if bt304.2.2 = 0 then (if bt304.2.1 = bt273.2.1 then (if bt302.1 = bt271.1 then (some (bt302.2 == bt304.2.1)) else (some false)) else (some false)) else (some false)) else (some false)) else (some false)) else (some false)) else (some false)) else (some false)) else (some false)) else (some false)) else (some false)) else (some false)) else (some false)) else (some false)) else (some false)) else (some false)) else (some false)) else (some false)) else (some false)) else (some false)) else (some false)) else (some false))))))))))))))))))))) = some r := by rw [if_neg (show ¬ (false = true) by decide)] at H; exact H
        clear H
        have H := H1
        clear H1
        replace H := Option.bind_eq_some_iff.mp H
        obtain ⟨t267, A60, H⟩ := H
        replace H : ((spec_NumberOf.f l1).bind fun t268 => ((laws_sizeAt.f l1 0).bind fun t269 => ((spec_FlagsDrawn.f kj2 l0).bind fun t270 => ((spec_ZeroOf.f kj2 t267 t269).bind fun bt271 => ((impl_Alu.f 5 t269 t267 t268 t270).bind fun bt273 => ((impl_Alu.f 2 t269 t267 t268 t270).bind fun bt276 => ((impl_Alu.f 7 t269 t267 t268 t270).bind fun bt279 => ((laws_plus.f bt273.1 bt279.1).bind fun t282 => ((spec_ZeroOf.f kj2 t282 t269).bind fun bt283 => ((impl_One.f 18 t269 t267 t270).bind fun bt285 => ((impl_One.f 19 t269 bt285.1 bt285.2.1).bind fun bt288 => ((impl_One.f 11 t269 t267 t270).bind fun bt291 => ((impl_One.f 12 t269 bt291.1 t270).bind fun bt294 => ((laws_plus.f t267 1).bind fun t297 => ((spec_ZeroOf.f kj2 t297 t269).bind fun bt298 => ((impl_FlagsOf.f t269 bt276.1).bind fun bt300 => ((spec_Alu2.f kj2 10 t269 t267 t268 t270).bind fun bt302 => ((impl_Alu.f 10 t269 t267 t268 t270).bind fun bt304 => (if bt273.2.2 = 0 then (if bt276.2.2 = 0 then (if bt279.2.2 = 0 then (if bt276.1 = bt283.1 then (if (Go.bits .and .i64 bt273.2.1 1) = 0 then (if (Go.bits .and .i64 bt279.2.1 2048) = 0 then (if bt300.2 = 0 then (if bt276.2.1 = bt300.1 then (if bt285.2.2 = 0 then (if bt285.1 = bt298.1 then (if (Go.bits .and .i64 bt285.2.1 1) = (Go.bits .and .i64 t270 1) then (if bt288.2.2 = 0 then (if bt288.1 = bt271.1 then (if (Go.bits .and .i64 bt288.2.1 1) = (Go.bits .and .i64 t270 1) then (if bt291.2.2 = 0 then (if bt291.2.1 = t270 then (if bt294.2.2 = 0 then (if bt294.1 = bt298.1 then (if (((Go.bits .and .i64 bt294.2.1 1) != 0) == (bt291.1 != 0)) = true then (if bt304.2.2 = 0 then (if bt304.2.1 = bt273.2.1 then (if bt302.1 = bt271.1 then (some (bt302.2 == bt304.2.1)) else (some false)) else (some false)) else (some false)) else (some false)) else (some false)) else (some false)) else (some false)) else (some false)) else (some false)) else (some false)) else (some false)) else (some false)) else (some false)) else (some false)) else (some false)) else (some false)) else (some false)) else (some false)) else (some false)) else (some false)) else (some false)) else (some false)))))))))))))))))))) = some r := H
        have A6 := Aside0.mk A60
        clear A60
        replace H := Option.bind_eq_some_iff.mp H
        obtain ⟨t268, A70, H⟩ := H
        replace H : ((laws_sizeAt.f l1 0).bind fun t269 => ((spec_FlagsDrawn.f kj2 l0).bind fun t270 => ((spec_ZeroOf.f kj2 t267 t269).bind fun bt271 => ((impl_Alu.f 5 t269 t267 t268 t270).bind fun bt273 => ((impl_Alu.f 2 t269 t267 t268 t270).bind fun bt276 => ((impl_Alu.f 7 t269 t267 t268 t270).bind fun bt279 => ((laws_plus.f bt273.1 bt279.1).bind fun t282 => ((spec_ZeroOf.f kj2 t282 t269).bind fun bt283 => ((impl_One.f 18 t269 t267 t270).bind fun bt285 => ((impl_One.f 19 t269 bt285.1 bt285.2.1).bind fun bt288 => ((impl_One.f 11 t269 t267 t270).bind fun bt291 => ((impl_One.f 12 t269 bt291.1 t270).bind fun bt294 => ((laws_plus.f t267 1).bind fun t297 => ((spec_ZeroOf.f kj2 t297 t269).bind fun bt298 => ((impl_FlagsOf.f t269 bt276.1).bind fun bt300 => ((spec_Alu2.f kj2 10 t269 t267 t268 t270).bind fun bt302 => ((impl_Alu.f 10 t269 t267 t268 t270).bind fun bt304 => (if bt273.2.2 = 0 then (if bt276.2.2 = 0 then (if bt279.2.2 = 0 then (if bt276.1 = bt283.1 then (if (Go.bits .and .i64 bt273.2.1 1) = 0 then (if (Go.bits .and .i64 bt279.2.1 2048) = 0 then (if bt300.2 = 0 then (if bt276.2.1 = bt300.1 then (if bt285.2.2 = 0 then (if bt285.1 = bt298.1 then (if (Go.bits .and .i64 bt285.2.1 1) = (Go.bits .and .i64 t270 1) then (if bt288.2.2 = 0 then (if bt288.1 = bt271.1 then (if (Go.bits .and .i64 bt288.2.1 1) = (Go.bits .and .i64 t270 1) then (if bt291.2.2 = 0 then (if bt291.2.1 = t270 then (if bt294.2.2 = 0 then (if bt294.1 = bt298.1 then (if (((Go.bits .and .i64 bt294.2.1 1) != 0) == (bt291.1 != 0)) = true then (if bt304.2.2 = 0 then (if bt304.2.1 = bt273.2.1 then (if bt302.1 = bt271.1 then (some (bt302.2 == bt304.2.1)) else (some false)) else (some false)) else (some false)) else (some false)) else (some false)) else (some false)) else (some false)) else (some false)) else (some false)) else (some false)) else (some false)) else (some false)) else (some false)) else (some false)) else (some false)) else (some false)) else (some false)) else (some false)) else (some false)) else (some false)) else (some false)) else (some false))))))))))))))))))) = some r := H
        have A7 := Aside0.mk A70
        clear A70
        replace H := Option.bind_eq_some_iff.mp H
        obtain ⟨t269, A80, H⟩ := H
        replace H : ((spec_FlagsDrawn.f kj2 l0).bind fun t270 => ((spec_ZeroOf.f kj2 t267 t269).bind fun bt271 => ((impl_Alu.f 5 t269 t267 t268 t270).bind fun bt273 => ((impl_Alu.f 2 t269 t267 t268 t270).bind fun bt276 => ((impl_Alu.f 7 t269 t267 t268 t270).bind fun bt279 => ((laws_plus.f bt273.1 bt279.1).bind fun t282 => ((spec_ZeroOf.f kj2 t282 t269).bind fun bt283 => ((impl_One.f 18 t269 t267 t270).bind fun bt285 => ((impl_One.f 19 t269 bt285.1 bt285.2.1).bind fun bt288 => ((impl_One.f 11 t269 t267 t270).bind fun bt291 => ((impl_One.f 12 t269 bt291.1 t270).bind fun bt294 => ((laws_plus.f t267 1).bind fun t297 => ((spec_ZeroOf.f kj2 t297 t269).bind fun bt298 => ((impl_FlagsOf.f t269 bt276.1).bind fun bt300 => ((spec_Alu2.f kj2 10 t269 t267 t268 t270).bind fun bt302 => ((impl_Alu.f 10 t269 t267 t268 t270).bind fun bt304 => (if bt273.2.2 = 0 then (if bt276.2.2 = 0 then (if bt279.2.2 = 0 then (if bt276.1 = bt283.1 then (if (Go.bits .and .i64 bt273.2.1 1) = 0 then (if (Go.bits .and .i64 bt279.2.1 2048) = 0 then (if bt300.2 = 0 then (if bt276.2.1 = bt300.1 then (if bt285.2.2 = 0 then (if bt285.1 = bt298.1 then (if (Go.bits .and .i64 bt285.2.1 1) = (Go.bits .and .i64 t270 1) then (if bt288.2.2 = 0 then (if bt288.1 = bt271.1 then (if (Go.bits .and .i64 bt288.2.1 1) = (Go.bits .and .i64 t270 1) then (if bt291.2.2 = 0 then (if bt291.2.1 = t270 then (if bt294.2.2 = 0 then (if bt294.1 = bt298.1 then (if (((Go.bits .and .i64 bt294.2.1 1) != 0) == (bt291.1 != 0)) = true then (if bt304.2.2 = 0 then (if bt304.2.1 = bt273.2.1 then (if bt302.1 = bt271.1 then (some (bt302.2 == bt304.2.1)) else (some false)) else (some false)) else (some false)) else (some false)) else (some false)) else (some false)) else (some false)) else (some false)) else (some false)) else (some false)) else (some false)) else (some false)) else (some false)) else (some false)) else (some false)) else (some false)) else (some false)) else (some false)) else (some false)) else (some false)) else (some false)) else (some false)))))))))))))))))) = some r := H
        have A8 := Aside0.mk A80
        clear A80
        replace H := Option.bind_eq_some_iff.mp H
        obtain ⟨t270, A90, H⟩ := H
        replace H : ((spec_ZeroOf.f kj2 t267 t269).bind fun bt271 => ((impl_Alu.f 5 t269 t267 t268 t270).bind fun bt273 => ((impl_Alu.f 2 t269 t267 t268 t270).bind fun bt276 => ((impl_Alu.f 7 t269 t267 t268 t270).bind fun bt279 => ((laws_plus.f bt273.1 bt279.1).bind fun t282 => ((spec_ZeroOf.f kj2 t282 t269).bind fun bt283 => ((impl_One.f 18 t269 t267 t270).bind fun bt285 => ((impl_One.f 19 t269 bt285.1 bt285.2.1).bind fun bt288 => ((impl_One.f 11 t269 t267 t270).bind fun bt291 => ((impl_One.f 12 t269 bt291.1 t270).bind fun bt294 => ((laws_plus.f t267 1).bind fun t297 => ((spec_ZeroOf.f kj2 t297 t269).bind fun bt298 => ((impl_FlagsOf.f t269 bt276.1).bind fun bt300 => ((spec_Alu2.f kj2 10 t269 t267 t268 t270).bind fun bt302 => ((impl_Alu.f 10 t269 t267 t268 t270).bind fun bt304 => (if bt273.2.2 = 0 then (if bt276.2.2 = 0 then (if bt279.2.2 = 0 then (if bt276.1 = bt283.1 then (if (Go.bits .and .i64 bt273.2.1 1) = 0 then (if (Go.bits .and .i64 bt279.2.1 2048) = 0 then (if bt300.2 = 0 then (if bt276.2.1 = bt300.1 then (if bt285.2.2 = 0 then (if bt285.1 = bt298.1 then (if (Go.bits .and .i64 bt285.2.1 1) = (Go.bits .and .i64 t270 1) then (if bt288.2.2 = 0 then (if bt288.1 = bt271.1 then (if (Go.bits .and .i64 bt288.2.1 1) = (Go.bits .and .i64 t270 1) then (if bt291.2.2 = 0 then (if bt291.2.1 = t270 then (if bt294.2.2 = 0 then (if bt294.1 = bt298.1 then (if (((Go.bits .and .i64 bt294.2.1 1) != 0) == (bt291.1 != 0)) = true then (if bt304.2.2 = 0 then (if bt304.2.1 = bt273.2.1 then (if bt302.1 = bt271.1 then (some (bt302.2 == bt304.2.1)) else (some false)) else (some false)) else (some false)) else (some false)) else (some false)) else (some false)) else (some false)) else (some false)) else (some false)) else (some false)) else (some false)) else (some false)) else (some false)) else (some false)) else (some false)) else (some false)) else (some false)) else (some false)) else (some false)) else (some false)) else (some false)) else (some false))))))))))))))))) = some r := H
        have A9 := Aside0.mk A90
        clear A90
        replace H := Option.bind_eq_some_iff.mp H
        obtain ⟨⟨t271, t272⟩, A100, H⟩ := H
        replace H : ((impl_Alu.f 5 t269 t267 t268 t270).bind fun bt273 => ((impl_Alu.f 2 t269 t267 t268 t270).bind fun bt276 => ((impl_Alu.f 7 t269 t267 t268 t270).bind fun bt279 => ((laws_plus.f bt273.1 bt279.1).bind fun t282 => ((spec_ZeroOf.f kj2 t282 t269).bind fun bt283 => ((impl_One.f 18 t269 t267 t270).bind fun bt285 => ((impl_One.f 19 t269 bt285.1 bt285.2.1).bind fun bt288 => ((impl_One.f 11 t269 t267 t270).bind fun bt291 => ((impl_One.f 12 t269 bt291.1 t270).bind fun bt294 => ((laws_plus.f t267 1).bind fun t297 => ((spec_ZeroOf.f kj2 t297 t269).bind fun bt298 => ((impl_FlagsOf.f t269 bt276.1).bind fun bt300 => ((spec_Alu2.f kj2 10 t269 t267 t268 t270).bind fun bt302 => ((impl_Alu.f 10 t269 t267 t268 t270).bind fun bt304 => (if bt273.2.2 = 0 then (if bt276.2.2 = 0 then (if bt279.2.2 = 0 then (if bt276.1 = bt283.1 then (if (Go.bits .and .i64 bt273.2.1 1) = 0 then (if (Go.bits .and .i64 bt279.2.1 2048) = 0 then (if bt300.2 = 0 then (if bt276.2.1 = bt300.1 then (if bt285.2.2 = 0 then (if bt285.1 = bt298.1 then (if (Go.bits .and .i64 bt285.2.1 1) = (Go.bits .and .i64 t270 1) then (if bt288.2.2 = 0 then (if bt288.1 = t271 then (if (Go.bits .and .i64 bt288.2.1 1) = (Go.bits .and .i64 t270 1) then (if bt291.2.2 = 0 then (if bt291.2.1 = t270 then (if bt294.2.2 = 0 then (if bt294.1 = bt298.1 then (if (((Go.bits .and .i64 bt294.2.1 1) != 0) == (bt291.1 != 0)) = true then (if bt304.2.2 = 0 then (if bt304.2.1 = bt273.2.1 then (if bt302.1 = t271 then (some (bt302.2 == bt304.2.1)) else (some false)) else (some false)) else (some false)) else (some false)) else (some false)) else (some false)) else (some false)) else (some false)) else (some false)) else (some false)) else (some false)) else (some false)) else (some false)) else (some false)) else (some false)) else (some false)) else (some false)) else (some false)) else (some false)) else (some false)) else (some false)) else (some false)))))))))))))))) = some r := H
        have A10 := Aside0.mk A100
        clear A100
        replace H := Option.bind_eq_some_iff.mp H
        obtain ⟨⟨t273, t274, t275⟩, A110, H⟩ := H
        replace H : ((impl_Alu.f 2 t269 t267 t268 t270).bind fun bt276 => ((impl_Alu.f 7 t269 t267 t268 t270).bind fun bt279 => ((laws_plus.f t273 bt279.1).bind fun t282 => ((spec_ZeroOf.f kj2 t282 t269).bind fun bt283 => ((impl_One.f 18 t269 t267 t270).bind fun bt285 => ((impl_One.f 19 t269 bt285.1 bt285.2.1).bind fun bt288 => ((impl_One.f 11 t269 t267 t270).bind fun bt291 => ((impl_One.f 12 t269 bt291.1 t270).bind fun bt294 => ((laws_plus.f t267 1).bind fun t297 => ((spec_ZeroOf.f kj2 t297 t269).bind fun bt298 => ((impl_FlagsOf.f t269 bt276.1).bind fun bt300 => ((spec_Alu2.f kj2 10 t269 t267 t268 t270).bind fun bt302 => ((impl_Alu.f 10 t269 t267 t268 t270).bind fun bt304 => (if t275 = 0 then (if bt276.2.2 = 0 then (if bt279.2.2 = 0 then (if bt276.1 = bt283.1 then (if (Go.bits .and .i64 t274 1) = 0 then (if (Go.bits .and .i64 bt279.2.1 2048) = 0 then (if bt300.2 = 0 then (if bt276.2.1 = bt300.1 then (if bt285.2.2 = 0 then (if bt285.1 = bt298.1 then (if (Go.bits .and .i64 bt285.2.1 1) = (Go.bits .and .i64 t270 1) then (if bt288.2.2 = 0 then (if bt288.1 = t271 then (if (Go.bits .and .i64 bt288.2.1 1) = (Go.bits .and .i64 t270 1) then (if bt291.2.2 = 0 then (if bt291.2.1 = t270 then (if bt294.2.2 = 0 then (if bt294.1 = bt298.1 then (if (((Go.bits .and .i64 bt294.2.1 1) != 0) == (bt291.1 != 0)) = true then (if bt304.2.2 = 0 then (if bt304.2.1 = t274 then (if bt302.1 = t271 then (some (bt302.2 == bt304.2.1)) else (some false)) else (some false)) else (some false)) else (some false)) else (some false)) else (some false)) else (some false)) else (some false)) else (some false)) else (some false)) else (some false)) else (some false)) else (some false)) else (some false)) else (some false)) else (some false)) else (some false)) else (some false)) else (some false)) else (some false)) else (some false)) else (some false))))))))))))))) = some r := H
        have A11 := Aside0.mk A110
        clear A110
        replace H := Option.bind_eq_some_iff.mp H
        obtain ⟨⟨t276, t277, t278⟩, A120, H⟩ := H
        replace H : ((impl_Alu.f 7 t269 t267 t268 t270).bind fun bt279 => ((laws_plus.f t273 bt279.1).bind fun t282 => ((spec_ZeroOf.f kj2 t282 t269).bind fun bt283 => ((impl_One.f 18 t269 t267 t270).bind fun bt285 => ((impl_One.f 19 t269 bt285.1 bt285.2.1).bind fun bt288 => ((impl_One.f 11 t269 t267 t270).bind fun bt291 => ((impl_One.f 12 t269 bt291.1 t270).bind fun bt294 => ((laws_plus.f t267 1).bind fun t297 => ((spec_ZeroOf.f kj2 t297 t269).bind fun bt298 => ((impl_FlagsOf.f t269 t276).bind fun bt300 => ((spec_Alu2.f kj2 10 t269 t267 t268 t270).bind fun bt302 => ((impl_Alu.f 10 t269 t267 t268 t270).bind fun bt304 => (if t275 = 0 then (if t278 = 0 then (if bt279.2.2 = 0 then (if t276 = bt283.1 then (if (Go.bits .and .i64 t274 1) = 0 then (if (Go.bits .and .i64 bt279.2.1 2048) = 0 then (if bt300.2 = 0 then (if t277 = bt300.1 then (if bt285.2.2 = 0 then (if bt285.1 = bt298.1 then (if (Go.bits .and .i64 bt285.2.1 1) = (Go.bits .and .i64 t270 1) then (if bt288.2.2 = 0 then (if bt288.1 = t271 then (if (Go.bits .and .i64 bt288.2.1 1) = (Go.bits .and .i64 t270 1) then (if bt291.2.2 = 0 then (if bt291.2.1 = t270 then (if bt294.2.2 = 0 then (if bt294.1 = bt298.1 then (if (((Go.bits .and .i64 bt294.2.1 1) != 0) == (bt291.1 != 0)) = true then (if bt304.2.2 = 0 then (if bt304.2.1 = t274 then (if bt302.1 = t271 then (some (bt302.2 == bt304.2.1)) else (some false)) else (some false)) else (some false)) else (some false)) else (some false)) else (some false)) else (some false)) else (some false)) else (some false)) else (some false)) else (some false)) else (some false)) else (some false)) else (some false)) else (some false)) else (some false)) else (some false)) else (some false)) else (some false)) else (some false)) else (some false)) else (some false)))))))))))))) = some r := H
        have A12 := Aside0.mk A120
        clear A120
        replace H := Option.bind_eq_some_iff.mp H
        obtain ⟨⟨t279, t280, t281⟩, A130, H⟩ := H
        replace H : ((laws_plus.f t273 t279).bind fun t282 => ((spec_ZeroOf.f kj2 t282 t269).bind fun bt283 => ((impl_One.f 18 t269 t267 t270).bind fun bt285 => ((impl_One.f 19 t269 bt285.1 bt285.2.1).bind fun bt288 => ((impl_One.f 11 t269 t267 t270).bind fun bt291 => ((impl_One.f 12 t269 bt291.1 t270).bind fun bt294 => ((laws_plus.f t267 1).bind fun t297 => ((spec_ZeroOf.f kj2 t297 t269).bind fun bt298 => ((impl_FlagsOf.f t269 t276).bind fun bt300 => ((spec_Alu2.f kj2 10 t269 t267 t268 t270).bind fun bt302 => ((impl_Alu.f 10 t269 t267 t268 t270).bind fun bt304 => (if t275 = 0 then (if t278 = 0 then (if t281 = 0 then (if t276 = bt283.1 then (if (Go.bits .and .i64 t274 1) = 0 then (if (Go.bits .and .i64 t280 2048) = 0 then (if bt300.2 = 0 then (if t277 = bt300.1 then (if bt285.2.2 = 0 then (if bt285.1 = bt298.1 then (if (Go.bits .and .i64 bt285.2.1 1) = (Go.bits .and .i64 t270 1) then (if bt288.2.2 = 0 then (if bt288.1 = t271 then (if (Go.bits .and .i64 bt288.2.1 1) = (Go.bits .and .i64 t270 1) then (if bt291.2.2 = 0 then (if bt291.2.1 = t270 then (if bt294.2.2 = 0 then (if bt294.1 = bt298.1 then (if (((Go.bits .and .i64 bt294.2.1 1) != 0) == (bt291.1 != 0)) = true then (if bt304.2.2 = 0 then (if bt304.2.1 = t274 then (if bt302.1 = t271 then (some (bt302.2 == bt304.2.1)) else (some false)) else (some false)) else (some false)) else (some false)) else (some false)) else (some false)) else (some false)) else (some false)) else (some false)) else (some false)) else (some false)) else (some false)) else (some false)) else (some false)) else (some false)) else (some false)) else (some false)) else (some false)) else (some false)) else (some false)) else (some false)) else (some false))))))))))))) = some r := H
        have A13 := Aside0.mk A130
        clear A130
        replace H := Option.bind_eq_some_iff.mp H
        obtain ⟨t282, A140, H⟩ := H
        replace H : ((spec_ZeroOf.f kj2 t282 t269).bind fun bt283 => ((impl_One.f 18 t269 t267 t270).bind fun bt285 => ((impl_One.f 19 t269 bt285.1 bt285.2.1).bind fun bt288 => ((impl_One.f 11 t269 t267 t270).bind fun bt291 => ((impl_One.f 12 t269 bt291.1 t270).bind fun bt294 => ((laws_plus.f t267 1).bind fun t297 => ((spec_ZeroOf.f kj2 t297 t269).bind fun bt298 => ((impl_FlagsOf.f t269 t276).bind fun bt300 => ((spec_Alu2.f kj2 10 t269 t267 t268 t270).bind fun bt302 => ((impl_Alu.f 10 t269 t267 t268 t270).bind fun bt304 => (if t275 = 0 then (if t278 = 0 then (if t281 = 0 then (if t276 = bt283.1 then (if (Go.bits .and .i64 t274 1) = 0 then (if (Go.bits .and .i64 t280 2048) = 0 then (if bt300.2 = 0 then (if t277 = bt300.1 then (if bt285.2.2 = 0 then (if bt285.1 = bt298.1 then (if (Go.bits .and .i64 bt285.2.1 1) = (Go.bits .and .i64 t270 1) then (if bt288.2.2 = 0 then (if bt288.1 = t271 then (if (Go.bits .and .i64 bt288.2.1 1) = (Go.bits .and .i64 t270 1) then (if bt291.2.2 = 0 then (if bt291.2.1 = t270 then (if bt294.2.2 = 0 then (if bt294.1 = bt298.1 then (if (((Go.bits .and .i64 bt294.2.1 1) != 0) == (bt291.1 != 0)) = true then (if bt304.2.2 = 0 then (if bt304.2.1 = t274 then (if bt302.1 = t271 then (some (bt302.2 == bt304.2.1)) else (some false)) else (some false)) else (some false)) else (some false)) else (some false)) else (some false)) else (some false)) else (some false)) else (some false)) else (some false)) else (some false)) else (some false)) else (some false)) else (some false)) else (some false)) else (some false)) else (some false)) else (some false)) else (some false)) else (some false)) else (some false)) else (some false)))))))))))) = some r := H
        have A14 := Aside0.mk A140
        clear A140
        replace H := Option.bind_eq_some_iff.mp H
        obtain ⟨⟨t283, t284⟩, A150, H⟩ := H
        replace H : ((impl_One.f 18 t269 t267 t270).bind fun bt285 => ((impl_One.f 19 t269 bt285.1 bt285.2.1).bind fun bt288 => ((impl_One.f 11 t269 t267 t270).bind fun bt291 => ((impl_One.f 12 t269 bt291.1 t270).bind fun bt294 => ((laws_plus.f t267 1).bind fun t297 => ((spec_ZeroOf.f kj2 t297 t269).bind fun bt298 => ((impl_FlagsOf.f t269 t276).bind fun bt300 => ((spec_Alu2.f kj2 10 t269 t267 t268 t270).bind fun bt302 => ((impl_Alu.f 10 t269 t267 t268 t270).bind fun bt304 => (if t275 = 0 then (if t278 = 0 then (if t281 = 0 then (if t276 = t283 then (if (Go.bits .and .i64 t274 1) = 0 then (if (Go.bits .and .i64 t280 2048) = 0 then (if bt300.2 = 0 then (if t277 = bt300.1 then (if bt285.2.2 = 0 then (if bt285.1 = bt298.1 then (if (Go.bits .and .i64 bt285.2.1 1) = (Go.bits .and .i64 t270 1) then (if bt288.2.2 = 0 then (if bt288.1 = t271 then (if (Go.bits .and .i64 bt288.2.1 1) = (Go.bits .and .i64 t270 1) then (if bt291.2.2 = 0 then (if bt291.2.1 = t270 then (if bt294.2.2 = 0 then (if bt294.1 = bt298.1 then (if (((Go.bits .and .i64 bt294.2.1 1) != 0) == (bt291.1 != 0)) = true then (if bt304.2.2 = 0 then (if bt304.2.1 = t274 then (if bt302.1 = t271 then (some (bt302.2 == bt304.2.1)) else (some false)) else (some false)) else (some false)) else (some false)) else (some false)) else (some false)) else (some false)) else (some false)) else (some false)) else (some false)) else (some false)) else (some false)) else (some false)) else (some false)) else (some false)) else (some false)) else (some false)) else (some false)) else (some false)) else (some false)) else (some false)) else (some false))))))))))) = some r := H
        have A15 := Aside0.mk A150
        clear A150
        replace H := Option.bind_eq_some_iff.mp H
        obtain ⟨⟨t285, t286, t287⟩, A160, H⟩ := H
        replace H : ((impl_One.f 19 t269 t285 t286).bind fun bt288 => ((impl_One.f 11 t269 t267 t270).bind fun bt291 => ((impl_One.f 12 t269 bt291.1 t270).bind fun bt294 => ((laws_plus.f t267 1).bind fun t297 => ((spec_ZeroOf.f kj2 t297 t269).bind fun bt298 => ((impl_FlagsOf.f t269 t276).bind fun bt300 => ((spec_Alu2.f kj2 10 t269 t267 t268 t270).bind fun bt302 => ((impl_Alu.f 10 t269 t267 t268 t270).bind fun bt304 => (if t275 = 0 then (if t278 = 0 then (if t281 = 0 then (if t276 = t283 then (if (Go.bits .and .i64 t274 1) = 0 then (if (Go.bits .and .i64 t280 2048) = 0 then (if bt300.2 = 0 then (if t277 = bt300.1 then (if t287 = 0 then (if t285 = bt298.1 then (if (Go.bits .and .i64 t286 1) = (Go.bits .and .i64 t270 1) then (if bt288.2.2 = 0 then (if bt288.1 = t271 then (if (Go.bits .and .i64 bt288.2.1 1) = (Go.bits .and .i64 t270 1) then (if bt291.2.2 = 0 then (if bt291.2.1 = t270 then (if bt294.2.2 = 0 then (if bt294.1 = bt298.1 then (if (((Go.bits .and .i64 bt294.2.1 1) != 0) == (bt291.1 != 0)) = true then (if bt304.2.2 = 0 then (if bt304.2.1 = t274 then (if bt302.1 = t271 then (some (bt302.2 == bt304.2.1)) else (some false)) else (some false)) else (some false)) else (some false)) else (some false)) else (some false)) else (some false)) else (some false)) else (some false)) else (some false)) else (some false)) else (some false)) else (some false)) else (some false)) else (some false)) else (some false)) else (some false)) else (some false)) else (some false)) else (some false)) else (some false)) else (some false)))))))))) = some r := H
        have A16 := Aside0.mk A160
        clear A160
        replace H := Option.bind_eq_some_iff.mp H
        obtain ⟨⟨t288, t289, t290⟩, A170, H⟩ := H
        replace H : ((impl_One.f 11 t269 t267 t270).bind fun bt291 => ((impl_One.f 12 t269 bt291.1 t270).bind fun bt294 => ((laws_plus.f t267 1).bind fun t297 => ((spec_ZeroOf.f kj2 t297 t269).bind fun bt298 => ((impl_FlagsOf.f t269 t276).bind fun bt300 => ((spec_Alu2.f kj2 10 t269 t267 t268 t270).bind fun bt302 => ((impl_Alu.f 10 t269 t267 t268 t270).bind fun bt304 => (if t275 = 0 then (if t278 = 0 then (if t281 = 0 then (if t276 = t283 then (if (Go.bits .and .i64 t274 1) = 0 then (if (Go.bits .and .i64 t280 2048) = 0 then (if bt300.2 = 0 then (if t277 = bt300.1 then (if t287 = 0 then (if t285 = bt298.1 then (if (Go.bits .and .i64 t286 1) = (Go.bits .and .i64 t270 1) then (if t290 = 0 then (if t288 = t271 then (if (Go.bits .and .i64 t289 1) = (Go.bits .and .i64 t270 1) then (if bt291.2.2 = 0 then (if bt291.2.1 = t270 then (if bt294.2.2 = 0 then (if bt294.1 = bt298.1 then (if (((Go.bits .and .i64 bt294.2.1 1) != 0) == (bt291.1 != 0)) = true then (if bt304.2.2 = 0 then (if bt304.2.1 = t274 then (if bt302.1 = t271 then (some (bt302.2 == bt304.2.1)) else (some false)) else (some false)) else (some false)) else (some false)) else (some false)) else (some false)) else (some false)) else (some false)) else (some false)) else (some false)) else (some false)) else (some false)) else (some false)) else (some false)) else (some false)) else (some false)) else (some false)) else (some false)) else (some false)) else (some false)) else (some false)) else (some false))))))))) = some r := H
        have A17 := Aside0.mk A170
        clear A170
        replace H := Option.bind_eq_some_iff.mp H
        obtain ⟨⟨t291, t292, t293⟩, A180, H⟩ := H
        replace H : ((impl_One.f 12 t269 t291 t270).bind fun bt294 => ((laws_plus.f t267 1).bind fun t297 => ((spec_ZeroOf.f kj2 t297 t269).bind fun bt298 => ((impl_FlagsOf.f t269 t276).bind fun bt300 => ((spec_Alu2.f kj2 10 t269 t267 t268 t270).bind fun bt302 => ((impl_Alu.f 10 t269 t267 t268 t270).bind fun bt304 => (if t275 = 0 then (if t278 = 0 then (if t281 = 0 then (if t276 = t283 then (if (Go.bits .and .i64 t274 1) = 0 then (if (Go.bits .and .i64 t280 2048) = 0 then (if bt300.2 = 0 then (if t277 = bt300.1 then (if t287 = 0 then (if t285 = bt298.1 then (if (Go.bits .and .i64 t286 1) = (Go.bits .and .i64 t270 1) then (if t290 = 0 then (if t288 = t271 then (if (Go.bits .and .i64 t289 1) = (Go.bits .and .i64 t270 1) then (if t293 = 0 then (if t292 = t270 then (if bt294.2.2 = 0 then (if bt294.1 = bt298.1 then (if (((Go.bits .and .i64 bt294.2.1 1) != 0) == (t291 != 0)) = true then (if bt304.2.2 = 0 then (if bt304.2.1 = t274 then (if bt302.1 = t271 then (some (bt302.2 == bt304.2.1)) else (some false)) else (some false)) else (some false)) else (some false)) else (some false)) else (some false)) else (some false)) else (some false)) else (some false)) else (some false)) else (some false)) else (some false)) else (some false)) else (some false)) else (some false)) else (some false)) else (some false)) else (some false)) else (some false)) else (some false)) else (some false)) else (some false)))))))) = some r := H
        have A18 := Aside0.mk A180
        clear A180
        replace H := Option.bind_eq_some_iff.mp H
        obtain ⟨⟨t294, t295, t296⟩, A190, H⟩ := H
        replace H : ((laws_plus.f t267 1).bind fun t297 => ((spec_ZeroOf.f kj2 t297 t269).bind fun bt298 => ((impl_FlagsOf.f t269 t276).bind fun bt300 => ((spec_Alu2.f kj2 10 t269 t267 t268 t270).bind fun bt302 => ((impl_Alu.f 10 t269 t267 t268 t270).bind fun bt304 => (if t275 = 0 then (if t278 = 0 then (if t281 = 0 then (if t276 = t283 then (if (Go.bits .and .i64 t274 1) = 0 then (if (Go.bits .and .i64 t280 2048) = 0 then (if bt300.2 = 0 then (if t277 = bt300.1 then (if t287 = 0 then (if t285 = bt298.1 then (if (Go.bits .and .i64 t286 1) = (Go.bits .and .i64 t270 1) then (if t290 = 0 then (if t288 = t271 then (if (Go.bits .and .i64 t289 1) = (Go.bits .and .i64 t270 1) then (if t293 = 0 then (if t292 = t270 then (if t296 = 0 then (if t294 = bt298.1 then (if (((Go.bits .and .i64 t295 1) != 0) == (t291 != 0)) = true then (if bt304.2.2 = 0 then (if bt304.2.1 = t274 then (if bt302.1 = t271 then (some (bt302.2 == bt304.2.1)) else (some false)) else (some false)) else (some false)) else (some false)) else (some false)) else (some false)) else (some false)) else (some false)) else (some false)) else (some false)) else (some false)) else (some false)) else (some false)) else (some false)) else (some false)) else (some false)) else (some false)) else (some false)) else (some false)) else (some false)) else (some false)) else (some false))))))) = some r := H
        have A19 := Aside0.mk A190
        clear A190
        replace H := Option.bind_eq_some_iff.mp H
        obtain ⟨t297, A200, H⟩ := H
        replace H : ((spec_ZeroOf.f kj2 t297 t269).bind fun bt298 => ((impl_FlagsOf.f t269 t276).bind fun bt300 => ((spec_Alu2.f kj2 10 t269 t267 t268 t270).bind fun bt302 => ((impl_Alu.f 10 t269 t267 t268 t270).bind fun bt304 => (if t275 = 0 then (if t278 = 0 then (if t281 = 0 then (if t276 = t283 then (if (Go.bits .and .i64 t274 1) = 0 then (if (Go.bits .and .i64 t280 2048) = 0 then (if bt300.2 = 0 then (if t277 = bt300.1 then (if t287 = 0 then (if t285 = bt298.1 then (if (Go.bits .and .i64 t286 1) = (Go.bits .and .i64 t270 1) then (if t290 = 0 then (if t288 = t271 then (if (Go.bits .and .i64 t289 1) = (Go.bits .and .i64 t270 1) then (if t293 = 0 then (if t292 = t270 then (if t296 = 0 then (if t294 = bt298.1 then (if (((Go.bits .and .i64 t295 1) != 0) == (t291 != 0)) = true then (if bt304.2.2 = 0 then (if bt304.2.1 = t274 then (if bt302.1 = t271 then (some (bt302.2 == bt304.2.1)) else (some false)) else (some false)) else (some false)) else (some false)) else (some false)) else (some false)) else (some false)) else (some false)) else (some false)) else (some false)) else (some false)) else (some false)) else (some false)) else (some false)) else (some false)) else (some false)) else (some false)) else (some false)) else (some false)) else (some false)) else (some false)) else (some false)))))) = some r := H
        have A20 := Aside0.mk A200
        clear A200
        replace H := Option.bind_eq_some_iff.mp H
        obtain ⟨⟨t298, t299⟩, A210, H⟩ := H
        replace H : ((impl_FlagsOf.f t269 t276).bind fun bt300 => ((spec_Alu2.f kj2 10 t269 t267 t268 t270).bind fun bt302 => ((impl_Alu.f 10 t269 t267 t268 t270).bind fun bt304 => (if t275 = 0 then (if t278 = 0 then (if t281 = 0 then (if t276 = t283 then (if (Go.bits .and .i64 t274 1) = 0 then (if (Go.bits .and .i64 t280 2048) = 0 then (if bt300.2 = 0 then (if t277 = bt300.1 then (if t287 = 0 then (if t285 = t298 then (if (Go.bits .and .i64 t286 1) = (Go.bits .and .i64 t270 1) then (if t290 = 0 then (if t288 = t271 then (if (Go.bits .and .i64 t289 1) = (Go.bits .and .i64 t270 1) then (if t293 = 0 then (if t292 = t270 then (if t296 = 0 then (if t294 = t298 then (if (((Go.bits .and .i64 t295 1) != 0) == (t291 != 0)) = true then (if bt304.2.2 = 0 then (if bt304.2.1 = t274 then (if bt302.1 = t271 then (some (bt302.2 == bt304.2.1)) else (some false)) else (some false)) else (some false)) else (some false)) else (some false)) else (some false)) else (some false)) else (some false)) else (some false)) else (some false)) else (some false)) else (some false)) else (some false)) else (some false)) else (some false)) else (some false)) else (some false)) else (some false)) else (some false)) else (some false)) else (some false)) else (some false))))) = some r := H
        have A21 := Aside0.mk A210
        clear A210
        replace H := Option.bind_eq_some_iff.mp H
        obtain ⟨⟨t300, t301⟩, A220, H⟩ := H
        replace H : ((spec_Alu2.f kj2 10 t269 t267 t268 t270).bind fun bt302 => ((impl_Alu.f 10 t269 t267 t268 t270).bind fun bt304 => (if t275 = 0 then (if t278 = 0 then (if t281 = 0 then (if t276 = t283 then (if (Go.bits .and .i64 t274 1) = 0 then (if (Go.bits .and .i64 t280 2048) = 0 then (if t301 = 0 then (if t277 = t300 then (if t287 = 0 then (if t285 = t298 then (if (Go.bits .and .i64 t286 1) = (Go.bits .and .i64 t270 1) then (if t290 = 0 then (if t288 = t271 then (if (Go.bits .and .i64 t289 1) = (Go.bits .and .i64 t270 1) then (if t293 = 0 then (if t292 = t270 then (if t296 = 0 then (if t294 = t298 then (if (((Go.bits .and .i64 t295 1) != 0) == (t291 != 0)) = true then (if bt304.2.2 = 0 then (if bt304.2.1 = t274 then (if bt302.1 = t271 then (some (bt302.2 == bt304.2.1)) else (some false)) else (some false)) else (some false)) else (some false)) else (some false)) else (some false)) else (some false)) else (some false)) else (some false)) else (some false)) else (some false)) else (some false)) else (some false)) else (some false)) else (some false)) else (some false)) else (some false)) else (some false)) else (some false)) else (some false)) else (some false)) else (some false)))) = some r := H
        have A22 := Aside0.mk A220
        clear A220
        replace H := Option.bind_eq_some_iff.mp H
        obtain ⟨⟨t302, t303⟩, A230, H⟩ := H
        replace H : ((impl_Alu.f 10 t269 t267 t268 t270).bind fun bt304 => (if t275 = 0 then (if t278 = 0 then (if t281 = 0 then (if t276 = t283 then (if (Go.bits .and .i64 t274 1) = 0 then (if (Go.bits .and .i64 t280 2048) = 0 then (if t301 = 0 then (if t277 = t300 then (if t287 = 0 then (if t285 = t298 then (if (Go.bits .and .i64 t286 1) = (Go.bits .and .i64 t270 1) then (if t290 = 0 then (if t288 = t271 then (if (Go.bits .and .i64 t289 1) = (Go.bits .and .i64 t270 1) then (if t293 = 0 then (if t292 = t270 then (if t296 = 0 then (if t294 = t298 then (if (((Go.bits .and .i64 t295 1) != 0) == (t291 != 0)) = true then (if bt304.2.2 = 0 then (if bt304.2.1 = t274 then (if t302 = t271 then (some (t303 == bt304.2.1)) else (some false)) else (some false)) else (some false)) else (some false)) else (some false)) else (some false)) else (some false)) else (some false)) else (some false)) else (some false)) else (some false)) else (some false)) else (some false)) else (some false)) else (some false)) else (some false)) else (some false)) else (some false)) else (some false)) else (some false)) else (some false)) else (some false))) = some r := H
        have A23 := Aside0.mk A230
        clear A230
        replace H := Option.bind_eq_some_iff.mp H
        obtain ⟨⟨t304, t305, t306⟩, A240, H⟩ := H
        replace H : (if t275 = 0 then (if t278 = 0 then (if t281 = 0 then (if t276 = t283 then (if (Go.bits .and .i64 t274 1) = 0 then (if (Go.bits .and .i64 t280 2048) = 0 then (if t301 = 0 then (if t277 = t300 then (if t287 = 0 then (if t285 = t298 then (if (Go.bits .and .i64 t286 1) = (Go.bits .and .i64 t270 1) then (if t290 = 0 then (if t288 = t271 then (if (Go.bits .and .i64 t289 1) = (Go.bits .and .i64 t270 1) then (if t293 = 0 then (if t292 = t270 then (if t296 = 0 then (if t294 = t298 then (if (((Go.bits .and .i64 t295 1) != 0) == (t291 != 0)) = true then (if t306 = 0 then (if t305 = t274 then (if t302 = t271 then (some (t303 == t305)) else (some false)) else (some false)) else (some false)) else (some false)) else (some false)) else (some false)) else (some false)) else (some false)) else (some false)) else (some false)) else (some false)) else (some false)) else (some false)) else (some false)) else (some false)) else (some false)) else (some false)) else (some false)) else (some false)) else (some false)) else (some false)) else (some false)) = some r := H
        have A24 := Aside0.mk A240
        clear A240
        by_cases c25 : t275 = 0
        · rw [if_pos c25] at H
          have c25b0 : (t275 == 0) = true := beq_iff_eq.mpr c25
          have c25b1 : (t275 != 0) = false := bne_eq_false_iff_eq.mpr c25
          clear c25
          by_cases c26 : t278 = 0
          · rw [if_pos c26] at H
            have c26b0 : (t278 == 0) = true := beq_iff_eq.mpr c26
            have c26b1 : (t278 != 0) = false := bne_eq_false_iff_eq.mpr c26
            clear c26
            by_cases c27 : t281 = 0
            · rw [if_pos c27] at H
              have c27b0 : (t281 == 0) = true := beq_iff_eq.mpr c27
              have c27b1 : (t281 != 0) = false := bne_eq_false_iff_eq.mpr c27
              clear c27
              by_cases c28 : t276 = t283
              · rw [if_pos c28] at H
                have c28b0 : (t276 == t283) = true := beq_iff_eq.mpr c28
                have c28b1 : (t276 != t283) = false := bne_eq_false_iff_eq.mpr c28
                clear c28
                by_cases c29 : (Go.bits .and .i64 t274 1) = 0
                · rw [if_pos c29] at H
                  have c29b0 : ((Go.bits .and .i64 t274 1) == 0) = true := beq_iff_eq.mpr c29
                  have c29b1 : ((Go.bits .and .i64 t274 1) != 0) = false := bne_eq_false_iff_eq.mpr c29
                  clear c29
                  by_cases c30 : (Go.bits .and .i64 t280 2048) = 0
                  · rw [if_pos c30] at H
                    have c30b0 : ((Go.bits .and .i64 t280 2048) == 0) = true := beq_iff_eq.mpr c30
                    have c30b1 : ((Go.bits .and .i64 t280 2048) != 0) = false := bne_eq_false_iff_eq.mpr c30
                    clear c30
                    by_cases c31 : t301 = 0
                    · rw [if_pos c31] at H
                      have c31b0 : (t301 == 0) = true := beq_iff_eq.mpr c31
                      have c31b1 : (t301 != 0) = false := bne_eq_false_iff_eq.mpr c31
                      clear c31
                      by_cases c32 : t277 = t300
                      · rw [if_pos c32] at H
                        have c32b0 : (t277 == t300) = true := beq_iff_eq.mpr c32
                        have c32b1 : (t277 != t300) = false := bne_eq_false_iff_eq.mpr c32
                        clear c32
                        by_cases c33 : t287 = 0
                        · rw [if_pos c33] at H
                          have c33b0 : (t287 == 0) = true := beq_iff_eq.mpr c33
                          have c33b1 : (t287 != 0) = false := bne_eq_false_iff_eq.mpr c33
                          clear c33
                          by_cases c34 : t285 = t298
                          · rw [if_pos c34] at H
                            have c34b0 : (t285 == t298) = true := beq_iff_eq.mpr c34
                            have c34b1 : (t285 != t298) = false := bne_eq_false_iff_eq.mpr c34
                            clear c34
                            by_cases c35 : (Go.bits .and .i64 t286 1) = (Go.bits .and .i64 t270 1)
                            · rw [if_pos c35] at H
                              have c35b0 : ((Go.bits .and .i64 t286 1) == (Go.bits .and .i64 t270 1)) = true := beq_iff_eq.mpr c35
                              have c35b1 : ((Go.bits .and .i64 t286 1) != (Go.bits .and .i64 t270 1)) = false := bne_eq_false_iff_eq.mpr c35
                              clear c35
                              by_cases c36 : t290 = 0
                              · rw [if_pos c36] at H
                                have c36b0 : (t290 == 0) = true := beq_iff_eq.mpr c36
                                have c36b1 : (t290 != 0) = false := bne_eq_false_iff_eq.mpr c36
                                clear c36
                                by_cases c37 : t288 = t271
                                · rw [if_pos c37] at H
                                  have c37b0 : (t288 == t271) = true := beq_iff_eq.mpr c37
                                  have c37b1 : (t288 != t271) = false := bne_eq_false_iff_eq.mpr c37
                                  clear c37
                                  by_cases c38 : (Go.bits .and .i64 t289 1) = (Go.bits .and .i64 t270 1)
                                  · rw [if_pos c38] at H
                                    have c38b0 : ((Go.bits .and .i64 t289 1) == (Go.bits .and .i64 t270 1)) = true := beq_iff_eq.mpr c38
                                    have c38b1 : ((Go.bits .and .i64 t289 1) != (Go.bits .and .i64 t270 1)) = false := bne_eq_false_iff_eq.mpr c38
                                    clear c38
                                    by_cases c39 : t293 = 0
                                    · rw [if_pos c39] at H
                                      have c39b0 : (t293 == 0) = true := beq_iff_eq.mpr c39
                                      have c39b1 : (t293 != 0) = false := bne_eq_false_iff_eq.mpr c39
                                      clear c39
                                      by_cases c40 : t292 = t270
                                      · rw [if_pos c40] at H
                                        have c40b0 : (t292 == t270) = true := beq_iff_eq.mpr c40
                                        have c40b1 : (t292 != t270) = false := bne_eq_false_iff_eq.mpr c40
                                        clear c40
                                        by_cases c41 : t296 = 0
                                        · rw [if_pos c41] at H
                                          have c41b0 : (t296 == 0) = true := beq_iff_eq.mpr c41
                                          have c41b1 : (t296 != 0) = false := bne_eq_false_iff_eq.mpr c41
                                          clear c41
                                          by_cases c42 : t294 = t298
                                          · rw [if_pos c42] at H
                                            have c42b0 : (t294 == t298) = true := beq_iff_eq.mpr c42
                                            have c42b1 : (t294 != t298) = false := bne_eq_false_iff_eq.mpr c42
                                            clear c42
                                            by_cases c43 : (((Go.bits .and .i64 t295 1) != 0) == (t291 != 0)) = true
                                            · rw [if_pos c43] at H
                                              have c43b0 : (((Go.bits .and .i64 t295 1) != 0) == (t291 != 0)) = true := c43
                                              (try (have c43b1 : decide (((Go.bits .and .i64 t295 1) != 0) = (t291 != 0)) = true := by simpa using c43))
                                              (try (have c43b2 : (((Go.bits .and .i64 t295 1) != 0) == (t291 != 0)) = true := by simpa using c43))
                                              clear c43
                                              by_cases c44 : t306 = 0
                                              · rw [if_pos c44] at H
                                                have c44b0 : (t306 == 0) = true := beq_iff_eq.mpr c44
                                                have c44b1 : (t306 != 0) = false := bne_eq_false_iff_eq.mpr c44
                                                clear c44
                                                by_cases c45 : t305 = t274
                                                · rw [if_pos c45] at H
                                                  have c45b0 : (t305 == t274) = true := beq_iff_eq.mpr c45
                                                  have c45b1 : (t305 != t274) = false := bne_eq_false_iff_eq.mpr c45
                                                  clear c45
                                                  by_cases c46 : t302 = t271
                                                  · rw [if_pos c46] at H
                                                    have c46b0 : (t302 == t271) = true := beq_iff_eq.mpr c46
                                                    have c46b1 : (t302 != t271) = false := bne_eq_false_iff_eq.mpr c46
                                                    clear c46
                                                    first | exact absurd ((Option.some.inj H).trans HR_.out) (by decide) | exact laws_FnLogic.e0
                                                  · rw [if_neg c46] at H
                                                    have c46b0 : (t302 == t271) = false := beq_eq_false_iff_ne.mpr c46
                                                    have c46b1 : (t302 != t271) = true := bne_iff_ne.mpr c46
                                                    first | exact absurd ((Option.some.inj H).trans HR_.out) (by decide) | exact laws_FnLogic.e0
                                                · rw [if_neg c45] at H
                                                  have c45b0 : (t305 == t274) = false := beq_eq_false_iff_ne.mpr c45
                                                  have c45b1 : (t305 != t274) = true := bne_iff_ne.mpr c45
                                                  first | exact absurd ((Option.some.inj H).trans HR_.out) (by decide) | exact laws_FnLogic.e0
                                              · rw [if_neg c44] at H
                                                have c44b0 : (t306 == 0) = false := beq_eq_false_iff_ne.mpr c44
                                                have c44b1 : (t306 != 0) = true := bne_iff_ne.mpr c44
                                                first | exact absurd ((Option.some.inj H).trans HR_.out) (by decide) | exact laws_FnLogic.e0
                                            · rw [if_neg c43] at H
                                              have c43b0 : (((Go.bits .and .i64 t295 1) != 0) == (t291 != 0)) = false := by simpa using c43
                                              (try (have c43b1 : decide (((Go.bits .and .i64 t295 1) != 0) = (t291 != 0)) = false := by simpa using c43))
                                              (try (have c43b2 : (((Go.bits .and .i64 t295 1) != 0) == (t291 != 0)) = false := by simpa using c43))
                                              (try (have c43b3 : ¬ (((Go.bits .and .i64 t295 1) != 0) = (t291 != 0)) := by simpa using c43))
                                              clear c43
                                              first | exact absurd ((Option.some.inj H).trans HR_.out) (by decide) | exact laws_FnLogic.e0
                                          · rw [if_neg c42] at H
                                            have c42b0 : (t294 == t298) = false := beq_eq_false_iff_ne.mpr c42
                                            have c42b1 : (t294 != t298) = true := bne_iff_ne.mpr c42
                                            first | exact absurd ((Option.some.inj H).trans HR_.out) (by decide) | exact laws_FnLogic.e0
                                        · rw [if_neg c41] at H
                                          have c41b0 : (t296 == 0) = false := beq_eq_false_iff_ne.mpr c41
                                          have c41b1 : (t296 != 0) = true := bne_iff_ne.mpr c41
                                          first | exact absurd ((Option.some.inj H).trans HR_.out) (by decide) | exact laws_FnLogic.e0
                                      · rw [if_neg c40] at H
                                        have c40b0 : (t292 == t270) = false := beq_eq_false_iff_ne.mpr c40
                                        have c40b1 : (t292 != t270) = true := bne_iff_ne.mpr c40
                                        first | exact absurd ((Option.some.inj H).trans HR_.out) (by decide) | exact laws_FnLogic.e0
                                    · rw [if_neg c39] at H
                                      have c39b0 : (t293 == 0) = false := beq_eq_false_iff_ne.mpr c39
                                      have c39b1 : (t293 != 0) = true := bne_iff_ne.mpr c39
                                      first | exact absurd ((Option.some.inj H).trans HR_.out) (by decide) | exact laws_FnLogic.e0
                                  · rw [if_neg c38] at H
                                    have c38b0 : ((Go.bits .and .i64 t289 1) == (Go.bits .and .i64 t270 1)) = false := beq_eq_false_iff_ne.mpr c38
                                    have c38b1 : ((Go.bits .and .i64 t289 1) != (Go.bits .and .i64 t270 1)) = true := bne_iff_ne.mpr c38
                                    first | exact absurd ((Option.some.inj H).trans HR_.out) (by decide) | exact laws_FnLogic.e0
                                · rw [if_neg c37] at H
                                  have c37b0 : (t288 == t271) = false := beq_eq_false_iff_ne.mpr c37
                                  have c37b1 : (t288 != t271) = true := bne_iff_ne.mpr c37
                                  first | exact absurd ((Option.some.inj H).trans HR_.out) (by decide) | exact laws_FnLogic.e0
                              · rw [if_neg c36] at H
                                have c36b0 : (t290 == 0) = false := beq_eq_false_iff_ne.mpr c36
                                have c36b1 : (t290 != 0) = true := bne_iff_ne.mpr c36
                                first | exact absurd ((Option.some.inj H).trans HR_.out) (by decide) | exact laws_FnLogic.e0
                            · rw [if_neg c35] at H
                              have c35b0 : ((Go.bits .and .i64 t286 1) == (Go.bits .and .i64 t270 1)) = false := beq_eq_false_iff_ne.mpr c35
                              have c35b1 : ((Go.bits .and .i64 t286 1) != (Go.bits .and .i64 t270 1)) = true := bne_iff_ne.mpr c35
                              first | exact absurd ((Option.some.inj H).trans HR_.out) (by decide) | exact laws_FnLogic.e0
                          · rw [if_neg c34] at H
                            have c34b0 : (t285 == t298) = false := beq_eq_false_iff_ne.mpr c34
                            have c34b1 : (t285 != t298) = true := bne_iff_ne.mpr c34
                            first | exact absurd ((Option.some.inj H).trans HR_.out) (by decide) | exact laws_FnLogic.e0
                        · rw [if_neg c33] at H
                          have c33b0 : (t287 == 0) = false := beq_eq_false_iff_ne.mpr c33
                          have c33b1 : (t287 != 0) = true := bne_iff_ne.mpr c33
                          first | exact absurd ((Option.some.inj H).trans HR_.out) (by decide) | exact laws_FnLogic.e0
                      · rw [if_neg c32] at H
                        have c32b0 : (t277 == t300) = false := beq_eq_false_iff_ne.mpr c32
                        have c32b1 : (t277 != t300) = true := bne_iff_ne.mpr c32
                        first | exact absurd ((Option.some.inj H).trans HR_.out) (by decide) | exact laws_FnLogic.e0
                    · rw [if_neg c31] at H
                      have c31b0 : (t301 == 0) = false := beq_eq_false_iff_ne.mpr c31
                      have c31b1 : (t301 != 0) = true := bne_iff_ne.mpr c31
                      first | exact absurd ((Option.some.inj H).trans HR_.out) (by decide) | exact laws_FnLogic.e0
                  · rw [if_neg c30] at H
                    have c30b0 : ((Go.bits .and .i64 t280 2048) == 0) = false := beq_eq_false_iff_ne.mpr c30
                    have c30b1 : ((Go.bits .and .i64 t280 2048) != 0) = true := bne_iff_ne.mpr c30
                    first | exact absurd ((Option.some.inj H).trans HR_.out) (by decide) | exact laws_FnLogic.e0
                · rw [if_neg c29] at H
                  have c29b0 : ((Go.bits .and .i64 t274 1) == 0) = false := beq_eq_false_iff_ne.mpr c29
                  have c29b1 : ((Go.bits .and .i64 t274 1) != 0) = true := bne_iff_ne.mpr c29
                  first | exact absurd ((Option.some.inj H).trans HR_.out) (by decide) | exact laws_FnLogic.e0
              · rw [if_neg c28] at H
                have c28b0 : (t276 == t283) = false := beq_eq_false_iff_ne.mpr c28
                have c28b1 : (t276 != t283) = true := bne_iff_ne.mpr c28
                first | exact absurd ((Option.some.inj H).trans HR_.out) (by decide) | exact laws_FnLogic.e0
            · rw [if_neg c27] at H
              have c27b0 : (t281 == 0) = false := beq_eq_false_iff_ne.mpr c27
              have c27b1 : (t281 != 0) = true := bne_iff_ne.mpr c27
              first | exact absurd ((Option.some.inj H).trans HR_.out) (by decide) | exact laws_FnLogic.e0
          · rw [if_neg c26] at H
            have c26b0 : (t278 == 0) = false := beq_eq_false_iff_ne.mpr c26
            have c26b1 : (t278 != 0) = true := bne_iff_ne.mpr c26
            first | exact absurd ((Option.some.inj H).trans HR_.out) (by decide) | exact laws_FnLogic.e0
        · rw [if_neg c25] at H
          have c25b0 : (t275 == 0) = false := beq_eq_false_iff_ne.mpr c25
          have c25b1 : (t275 != 0) = true := bne_iff_ne.mpr c25
          first | exact absurd ((Option.some.inj H).trans HR_.out) (by decide) | exact laws_FnLogic.e0

/-- THE ONE PURE STATEMENT of laws_FnLogic: yours. -/
def laws_FnLogic.Pure : Prop := ∀ (l0 : List Int) (l1 : List Int), l0.length ≤ maxLen → l0.length * 1 ≤ 140737488351232 → (∀ x ∈ l0, (Lit.int .u8 x).wf = true) → l1.length ≤ maxLen → l1.length * 1 ≤ 140737488351232 → (∀ x ∈ l1, (Lit.int .u8 x).wf = true) → ∃ k, laws_FnLogic.f k l0 l1 = some true
theorem laws_FnLogic.walk (P : laws_FnLogic.Pure) (a0 : Option Addr) (len0 cap0 : Nat) (z0 : List Int) (a1 : Option Addr) (len1 cap1 : Nat) (z1 : List Int) (w : World) (w0 : (a0 = none ∧ len0 = 0 ∧ cap0 = 0 ∧ z0 = []) ∨ ∃ x, a0 = some x ∧ len0 ≤ cap0 ∧ cap0 ≤ maxLen ∧ z0.length = cap0 ∧ (∀ i, i < z0.length → w.cell? (x.add i) = some (.int .u8 (z0.getD i 0))) ∧ ∀ n ∈ z0, (Lit.int .u8 n).wf = true) (y0 : len0 * 1 ≤ 140737488351232) (w1 : (a1 = none ∧ len1 = 0 ∧ cap1 = 0 ∧ z1 = []) ∨ ∃ x, a1 = some x ∧ len1 ≤ cap1 ∧ cap1 ≤ maxLen ∧ z1.length = cap1 ∧ (∀ i, i < z1.length → w.cell? (x.add i) = some (.int .u8 (z1.getD i 0))) ∧ ∀ n ∈ z1, (Lit.int .u8 n).wf = true) (y1 : len1 * 1 ≤ 140737488351232) :
    Calls Try.prog 12 #[.slice a0 len0 cap0, .slice a1 len1 cap1] w fun e w' => e = .returned (.bool true) ∧ Below w.heap.size w w' := by
  obtain ⟨l0, rfl, hr0, hm0, hw0, hc0⟩ := ReadsInt.ofRowC w0
  obtain ⟨l1, rfl, hr1, hm1, hw1, hc1⟩ := ReadsInt.ofRowC w1
  obtain ⟨k, h⟩ := P l0 l1 hm0 y0 hw0 hm1 y1 hw1
  refine (laws_FnLogic.calls k _ _ l0 _ _ l1 true w (Kd.C_of_reads (d := (0 : Int)) (h1 := fun _ => rfl) hr0) hc0 (Kd.C_of_reads (d := (0 : Int)) (h1 := fun _ => rfl) hr1) hc1 h).mono ?_
  rintro e w' ⟨rfl, hd⟩
  exact ⟨rfl, hd⟩

end Go.Proofs.Ytigoabhkdipdeaa.PFnLogic

/- Laid by a program of this session (patch_print.py) out of the translation: plain functions and what the calls do. No condition. -/
import Derived.Test.YtigoabhkdipdeaaPFnAddx0
namespace Go.Proofs.Ytigoabhkdipdeaa.PFnAdd
open Go.RowKit Go.Proofs.YtigoabhkdipdeaaW.PrintWords Go.Proofs.YtigoabhkdipdeaaW.PrintLast Go.Proofs.YtigoabhkdipdeaaW.PrintMore
attribute [local go_sem] max2_int min2_int max_two min_two max_three min_three max_four min_four   -- for this text's walks alone
set_option linter.unusedVariables false
set_option linter.unusedSimpArgs false

/-! ### spec_l01Size: function 92 -/
def spec_l01Size.f (a0 : Int) : Option (Bool) := if a0 = 1 then (some true) else (if a0 = 2 then (some true) else (if a0 = 4 then (some true) else (some (a0 == 8))))
set_option maxHeartbeats 8000000 in
set_option maxRecDepth 100000 in
theorem spec_l01Size.calls (a0 : Int) (r : Bool) (w : World) (h : spec_l01Size.f a0 = some r) :
  Calls Try.prog 92 #[.int .i64 a0] w fun e w' => e = .returned (.bool r) ∧ Drawn0 w w' := by
 have H : (if a0 = 1 then (some true) else (if a0 = 2 then (some true) else (if a0 = 4 then (some true) else (some (a0 == 8))))) = some r := h
 clear h
 by_cases c2 : a0 = 1
 ·rw [if_pos c2] at H
  have c2b0 : (a0 == 1) = true := beq_iff_eq.mpr c2
  have c2b1 : (a0 != 1) = false := bne_eq_false_iff_eq.mpr c2
  clear c2
  obtain rfl := Option.some.inj H
  go_enter Try.func92, Try.ntmps92
  go_wp2
  go_ret
  exact ⟨by first | rfl | (simp; done) | (simp [*]; done), by repeat (first | exact Drawn0.refl _ | apply Drawn0.step)⟩
 ·rw [if_neg c2] at H
  have c2b0 : (a0 == 1) = false := beq_eq_false_iff_ne.mpr c2
  have c2b1 : (a0 != 1) = true := bne_iff_ne.mpr c2
  by_cases c3 : a0 = 2
  ·rw [if_pos c3] at H
   have c3b0 : (a0 == 2) = true := beq_iff_eq.mpr c3
   have c3b1 : (a0 != 2) = false := bne_eq_false_iff_eq.mpr c3
   clear c3
   obtain rfl := Option.some.inj H
   go_enter Try.func92, Try.ntmps92
   go_wp2
   go_ret
   exact ⟨by first | rfl | (simp; done) | (simp [*]; done), by repeat (first | exact Drawn0.refl _ | apply Drawn0.step)⟩
  ·rw [if_neg c3] at H
   have c3b0 : (a0 == 2) = false := beq_eq_false_iff_ne.mpr c3
   have c3b1 : (a0 != 2) = true := bne_iff_ne.mpr c3
   by_cases c4 : a0 = 4
   ·rw [if_pos c4] at H
    have c4b0 : (a0 == 4) = true := beq_iff_eq.mpr c4
    have c4b1 : (a0 != 4) = false := bne_eq_false_iff_eq.mpr c4
    clear c4
    obtain rfl := Option.some.inj H
    go_enter Try.func92, Try.ntmps92
    go_wp2
    go_ret
    exact ⟨by first | rfl | (simp; done) | (simp [*]; done), by repeat (first | exact Drawn0.refl _ | apply Drawn0.step)⟩
   ·rw [if_neg c4] at H
    have c4b0 : (a0 == 4) = false := beq_eq_false_iff_ne.mpr c4
    have c4b1 : (a0 != 4) = true := bne_iff_ne.mpr c4
    obtain rfl := Option.some.inj H
    go_enter Try.func92, Try.ntmps92
    go_wp2
    go_ret
    exact ⟨by first | rfl | (simp; done) | (simp [*]; done), by repeat (first | exact Drawn0.refl _ | apply Drawn0.step)⟩

/-! ### spec_l01Bit: function 157 -/
def spec_l01Bit.f (a0 : Int) (a1 : Int) : Option (Int) := if 0 ≤ (IntKind.u64.wrap (a1)) then (if (Int.tmod (shr .u64 (IntKind.u64.wrap (a0)) (IntKind.u64.wrap (a1))) 2) = 1 then (some 1) else (some 0)) else (none)
theorem spec_l01Bit.e0 {p : Prop} (h : p := by
 obtain rfl := Option.some.inj H
 go_enter Try.func157, Try.ntmps157
 go_wp2
 go_ret
 exact ⟨by first | rfl | (simp; done) | (simp only [← hji3, ← hji5] <;> (first | rfl | simp)) | (simp [*]; done), by repeat (first | exact Drawn0.refl _ | apply Drawn0.step)⟩) : p := h
set_option maxHeartbeats 8000000 in
set_option maxRecDepth 100000 in
theorem spec_l01Bit.calls (a0 : Int) (a1 : Int) (r : Int) (w : World) (h : spec_l01Bit.f a0 a1 = some r) :
  Calls Try.prog 157 #[.int .i64 a0, .int .i64 a1] w fun e w' => e = .returned (.int .i64 r) ∧ Drawn0 w w' := by
 have H : (if 0 ≤ (IntKind.u64.wrap (a1)) then (if (Int.tmod (shr .u64 (IntKind.u64.wrap (a0)) (IntKind.u64.wrap (a1))) 2) = 1 then (some 1) else (some 0)) else (none)) = some r := h
 clear h
 obtain ⟨ji3, hji3⟩ : ∃ j_ : Int, (IntKind.u64.wrap (a1)) = j_ := ⟨_, rfl⟩
 replace H : (if 0 ≤ (ji3) then (if (Int.tmod (shr .u64 (IntKind.u64.wrap (a0)) (ji3)) 2) = 1 then (some 1) else (some 0)) else (none)) = some r := by first | (rw [hji3] at H; exact H) | (simp only [hji3] at H ⊢; exact H)
 by_cases c4 : 0 ≤ (ji3)
 ·rw [if_pos c4] at H
  have c4b0 := eq_true c4
  have c4b1 : decide (0 ≤ (ji3)) = true := decide_eq_true c4
  clear c4
  obtain ⟨ji5, hji5⟩ : ∃ j_ : Int, (shr .u64 (IntKind.u64.wrap (a0)) (ji3)) = j_ := ⟨_, rfl⟩
  replace H : (if (Int.tmod (ji5) 2) = 1 then (some 1) else (some 0)) = some r := by first | (rw [hji5] at H; exact H) | (simp only [hji5] at H ⊢; exact H)
  have hji5_ : ((IntKind.u64.wrap (a0)) / 2 ^ min (ji3).toNat 64) = ji5 := hji5
  have hji5z : (ji3) ≤ 64 → ((IntKind.u64.wrap (a0)) / 2 ^ (ji3).toNat) = ji5 := shr_small hji5
  by_cases c6 : (Int.tmod (ji5) 2) = 1
  ·rw [if_pos c6] at H
   have c6b0 : ((Int.tmod (ji5) 2) == 1) = true := beq_iff_eq.mpr c6
   have c6b1 : ((Int.tmod (ji5) 2) != 1) = false := bne_eq_false_iff_eq.mpr c6
   clear c6
   exact spec_l01Bit.e0
  ·rw [if_neg c6] at H
   have c6b0 : ((Int.tmod (ji5) 2) == 1) = false := beq_eq_false_iff_ne.mpr c6
   have c6b1 : ((Int.tmod (ji5) 2) != 1) = true := bne_iff_ne.mpr c6
   exact spec_l01Bit.e0
 ·rw [if_neg c4] at H
  exact absurd H (by simp)

/-! ### spec_l01Zero: function 132 -/
def spec_l01Zero.l0 : Nat → Int → Int → Int → Option (Int)
 | 0, _, _, _ => none
 | k + 1, x0, x5, x6 => if x6 ≥ 0 then ((spec_l01Bit.f x0 x6).bind fun t220 => (spec_l01Zero.l0 k x0 (IntKind.u64.wrap ((IntKind.u64.wrap (2 * x5)) + (IntKind.u64.wrap (t220)))) (wrap64 (x6 - 1)))) else (some (wrap64 (x5)))
def spec_l01Zero.f (k : Nat) (a0 : Int) (a1 : Int) : Option (Int) := spec_l01Zero.l0 k a0 0 (wrap64 ((wrap64 (8 * a1)) - 1))
theorem spec_l01Zero.mono_l : ∀ k, (∀ y0 y1 y2, LeO (spec_l01Zero.l0 k y0 y1 y2) (spec_l01Zero.l0 (k + 1) y0 y1 y2))
 | 0 => fun _ _ _ r h => by simp [spec_l01Zero.l0] at h
 | k + 1 => by
  have ih0 := spec_l01Zero.mono_l k
  ·intro y0 y1 y2
   unfold spec_l01Zero.l0
   repeat' first
   | (with_reducible exact ih0 _ _ _)
   | (with_reducible exact LeO.refl _)
   | (with_reducible exact LeO.none _)
   | (with_reducible refine LeO.ite ?_ ?_)
   | (with_reducible refine LeO.bind ?_ (fun _ => ?_))
   | refine LeO.ite ?_ ?_
   | refine LeO.bind ?_ (fun _ => ?_)
theorem spec_l01Zero.mono : ∀ a0 a1 k, LeO (spec_l01Zero.f k a0 a1) (spec_l01Zero.f (k + 1) a0 a1) := by
 intro a0 a1 k
 have ih0 := spec_l01Zero.mono_l k
 unfold spec_l01Zero.f
 repeat' first
   | (with_reducible exact ih0 _ _ _)
   | (with_reducible exact LeO.refl _)
   | (with_reducible exact LeO.none _)
   | (with_reducible refine LeO.ite ?_ ?_)
   | (with_reducible refine LeO.bind ?_ (fun _ => ?_))
   | refine LeO.ite ?_ ?_
   | refine LeO.bind ?_ (fun _ => ?_)
set_option maxHeartbeats 8000000 in
set_option maxRecDepth 100000 in
theorem spec_l01Zero.calls (k : Nat) (a0 : Int) (a1 : Int) (r : Int) (w : World) (h : spec_l01Zero.f k a0 a1 = some r) :
  Calls Try.prog 132 #[.int .i64 a0, .int .i64 a1] w fun e w' => e = .returned (.int .i64 r) ∧ Drawn0 w w' := by
 have H : (spec_l01Zero.l0 k a0 0 (wrap64 ((wrap64 (8 * a1)) - 1))) = some r := h
 clear h
 have H' := Aside0.mk H
 clear H
 go_enter Try.func132, Try.ntmps132
 go_wp2
 go_loopg [5, 6] k (fun kq v5 v6 w' => ∃ (x5_1 : Int) (x6_1 : Int), v5 = .int .u64 x5_1 ∧ v6 = .int .i64 x6_1 ∧ Aside0 (spec_l01Zero.l0 kq a0 x5_1 x6_1 = some r) ∧ Aside0 (kq ≤ k) ∧ Drawn0 w w')
 case atStart => exact ⟨(0), (wrap64 ((wrap64 (8 * a1)) - 1)), (by first | rfl | (simp; done) | (simp [*]; done)), (by first | rfl | (simp; done) | (simp [*]; done)), H', ⟨Nat.le_refl _⟩, by repeat (first | exact Drawn0.refl _ | apply Drawn0.step)⟩
 case round =>
  clear H'
  obtain ⟨x5_1, x6_1, rfl, rfl, HA, HK1, ⟨m1, rfl⟩⟩ := hrel
  cases gk with
  | zero => exact absurd HA.out (by simp [spec_l01Zero.l0])
  | succ k1 =>
   have H := HA.out
   clear HA
   simp only [spec_l01Zero.l0] at H
   by_cases c3 : x6_1 ≥ 0
   ·rw [if_pos c3] at H
    have c3b0 : decide (0 ≤ x6_1) = true := decide_eq_true c3
    clear c3
    replace H := Option.bind_eq_some_iff.mp H
    obtain ⟨t220, A40, H⟩ := H
    replace H : (spec_l01Zero.l0 k1 a0 (IntKind.u64.wrap ((IntKind.u64.wrap (2 * x5_1)) + (IntKind.u64.wrap (t220)))) (wrap64 (x6_1 - 1))) = some r := H
    have A4 := Aside0.mk A40
    clear A40
    have H' := Aside0.mk H
    clear H
    go_wp2_with (first | ((with_reducible refine gate_callee (f := 157) rfl ?_); refine goesL_ (some 18) rfl rfl Try.func157 (by kernel_rfl) rfl #[.int .i64 a0, .int .i64 x6_1] rfl (by (try simp only [List.map_toArray, List.map_cons, List.map_nil]); first | done | rfl | (simp only [List.length_drop, List.length_take]; rfl)) ?_; (with_reducible refine (spec_l01Bit.calls a0 x6_1 t220 _ A4.out).mono ?_); rintro e w' ⟨rfl, ⟨nd, rfl⟩⟩; refine ⟨_, rfl, ?_⟩))
    go_roundg k1
    case measure => have := HK1.out; omega
    case rel => exact ⟨(IntKind.u64.wrap ((IntKind.u64.wrap (2 * x5_1)) + (IntKind.u64.wrap (t220)))), (wrap64 (x6_1 - 1)), (by first | rfl | (simp; done) | (simp [*]; done)), (by first | rfl | (simp; done) | (simp [*]; done)), H', ⟨by have := HK1.out; omega⟩, by repeat (first | exact Drawn0.refl _ | apply Drawn0.step)⟩
   ·rw [if_neg c3] at H
    have c3b0 : decide (0 ≤ x6_1) = false := decide_eq_false c3
    clear c3
    obtain rfl := Option.some.inj H
    go_wp2
    go_ret
    exact ⟨by first | rfl | (simp; done) | (simp [*]; done), by repeat (first | exact Drawn0.refl _ | apply Drawn0.step)⟩

/-! ### spec_l06If: function 221 -/
def spec_l06If.f (a0 : Bool) (a1 : Int) : Option (Int) := if a0 = true then (some a1) else (some 0)
set_option maxHeartbeats 8000000 in
set_option maxRecDepth 100000 in
theorem spec_l06If.calls (a0 : Bool) (a1 : Int) (r : Int) (w : World) (h : spec_l06If.f a0 a1 = some r) :
  Calls Try.prog 221 #[.bool a0, .int .i64 a1] w fun e w' => e = .returned (.int .i64 r) ∧ Drawn0 w w' := by
 have H : (if a0 = true then (some a1) else (some 0)) = some r := h
 clear h
 by_cases c3 : a0 = true
 ·subst c3
  have H1 : (some a1) = some r := by rw [if_pos rfl] at H; exact H
  clear H
  have H := H1
  clear H1
  obtain rfl := Option.some.inj H
  go_enter Try.func221, Try.ntmps221
  go_wp2
  go_ret
  exact ⟨by first | rfl | (simp; done) | (simp [*]; done), by repeat (first | exact Drawn0.refl _ | apply Drawn0.step)⟩
 ·replace c3 := Bool.eq_false_iff.mpr c3
  subst c3
  have H1 : (some 0) = some r := by rw [if_neg (show ¬ (false = true) by decide)] at H; exact H
  clear H
  have H := H1
  clear H1
  obtain rfl := Option.some.inj H
  go_enter Try.func221, Try.ntmps221
  go_wp2
  go_ret
  exact ⟨by first | rfl | (simp; done) | (simp [*]; done), by repeat (first | exact Drawn0.refl _ | apply Drawn0.step)⟩

/-! ### spec_l06Szp: function 215 -/
def spec_l06Szp.l0 : Nat → Int → Int → Int → Int → Option (Int)
 | 0, _, _, _, _ => none
 | k + 1, x0, x1, x5, x6 => if x6 < 8 then ((spec_l01Bit.f x1 x6).bind fun t221 => (spec_l06Szp.l0 k x0 x1 (wrap64 (x5 + t221)) (wrap64 (x6 + 1)))) else ((spec_l01Bit.f x1 (wrap64 ((wrap64 (8 * x0)) - 1))).bind fun t222 => ((spec_l06If.f (t222 == 1) 128).bind fun t223 => ((spec_l01Zero.f k x1 x0).bind fun t224 => ((spec_l06If.f (t224 == 0) 64).bind fun t225 => ((spec_l06If.f ((Int.tmod x5 2) == 0) 4).bind fun t226 => (some (Go.bits .or .i64 (Go.bits .or .i64 t223 t225) t226)))))))
def spec_l06Szp.f (k : Nat) (a0 : Int) (a1 : Int) : Option (Int) := spec_l06Szp.l0 k a0 a1 0 0
theorem spec_l06Szp.mono_l : ∀ k, (∀ y0 y1 y2 y3, LeO (spec_l06Szp.l0 k y0 y1 y2 y3) (spec_l06Szp.l0 (k + 1) y0 y1 y2 y3))
 | 0 => fun _ _ _ _ r h => by simp [spec_l06Szp.l0] at h
 | k + 1 => by
  have ih0 := spec_l06Szp.mono_l k
  ·intro y0 y1 y2 y3
   unfold spec_l06Szp.l0
   repeat' first
   | (with_reducible exact ih0 _ _ _ _)
   | (with_reducible exact spec_l01Zero.mono _ _ _)
   | (with_reducible exact LeO.refl _)
   | (with_reducible exact LeO.none _)
   | (with_reducible refine LeO.ite ?_ ?_)
   | (with_reducible refine LeO.bind ?_ (fun _ => ?_))
   | refine LeO.ite ?_ ?_
   | refine LeO.bind ?_ (fun _ => ?_)
theorem spec_l06Szp.mono : ∀ a0 a1 k, LeO (spec_l06Szp.f k a0 a1) (spec_l06Szp.f (k + 1) a0 a1) := by
 intro a0 a1 k
 have ih0 := spec_l06Szp.mono_l k
 unfold spec_l06Szp.f
 repeat' first
   | (with_reducible exact ih0 _ _ _ _)
   | (with_reducible exact spec_l01Zero.mono _ _ _)
   | (with_reducible exact LeO.refl _)
   | (with_reducible exact LeO.none _)
   | (with_reducible refine LeO.ite ?_ ?_)
   | (with_reducible refine LeO.bind ?_ (fun _ => ?_))
   | refine LeO.ite ?_ ?_
   | refine LeO.bind ?_ (fun _ => ?_)
set_option maxHeartbeats 8000000 in
set_option maxRecDepth 100000 in
theorem spec_l06Szp.calls (k : Nat) (a0 : Int) (a1 : Int) (r : Int) (w : World) (h : spec_l06Szp.f k a0 a1 = some r) :
  Calls Try.prog 215 #[.int .i64 a0, .int .i64 a1] w fun e w' => e = .returned (.int .i64 r) ∧ Drawn0 w w' := by
 have H : (spec_l06Szp.l0 k a0 a1 0 0) = some r := h
 clear h
 have H' := Aside0.mk H
 clear H
 go_enter Try.func215, Try.ntmps215
 go_wp2
 go_loopg [5, 6] k (fun kq v5 v6 w' => ∃ (x5_1 : Int) (x6_1 : Int), v5 = .int .i64 x5_1 ∧ v6 = .int .i64 x6_1 ∧ Aside0 (spec_l06Szp.l0 kq a0 a1 x5_1 x6_1 = some r) ∧ Aside0 (kq ≤ k) ∧ Drawn0 w w')
 case atStart => exact ⟨(0), (0), (by first | rfl | (simp; done) | (simp [*]; done)), (by first | rfl | (simp; done) | (simp [*]; done)), H', ⟨Nat.le_refl _⟩, by repeat (first | exact Drawn0.refl _ | apply Drawn0.step)⟩
 case round =>
  clear H'
  (try clear c2)
  obtain ⟨x5_1, x6_1, rfl, rfl, HA, HK1, ⟨m1, rfl⟩⟩ := hrel
  cases gk with
  | zero => exact absurd HA.out (by simp [spec_l06Szp.l0])
  | succ k1 =>
   have H := HA.out
   clear HA
   simp only [spec_l06Szp.l0] at H
   by_cases c3 : x6_1 < 8
   ·rw [if_pos c3] at H
    have c3b0 : decide (x6_1 < 8) = true := decide_eq_true c3
    clear c3
    replace H := Option.bind_eq_some_iff.mp H
    obtain ⟨t221, A40, H⟩ := H
    replace H : (spec_l06Szp.l0 k1 a0 a1 (wrap64 (x5_1 + t221)) (wrap64 (x6_1 + 1))) = some r := H
    have A4 := Aside0.mk A40
    clear A40
    have H' := Aside0.mk H
    clear H
    go_wp2_with (first | ((with_reducible refine gate_callee (f := 157) rfl ?_); refine goesL_ (some 14) rfl rfl Try.func157 (by kernel_rfl) rfl #[.int .i64 a1, .int .i64 x6_1] rfl (by (try simp only [List.map_toArray, List.map_cons, List.map_nil]); first | done | rfl | (simp only [List.length_drop, List.length_take]; rfl)) ?_; (with_reducible refine (spec_l01Bit.calls a1 x6_1 t221 _ A4.out).mono ?_); rintro e w' ⟨rfl, ⟨nd, rfl⟩⟩; refine ⟨_, rfl, ?_⟩))
    go_roundg k1
    case measure => have := HK1.out; omega
    case rel => exact ⟨(wrap64 (x5_1 + t221)), (wrap64 (x6_1 + 1)), (by first | rfl | (simp; done) | (simp [*]; done)), (by first | rfl | (simp; done) | (simp [*]; done)), H', ⟨by have := HK1.out; omega⟩, by repeat (first | exact Drawn0.refl _ | apply Drawn0.step)⟩
   ·rw [if_neg c3] at H
    have c3b0 : decide (x6_1 < 8) = false := decide_eq_false c3
    clear c3
    replace H := Option.bind_eq_some_iff.mp H
    obtain ⟨t222, A50, H⟩ := H
    replace H : ((spec_l06If.f (t222 == 1) 128).bind fun t223 => ((spec_l01Zero.f k1 a1 a0).bind fun t224 => ((spec_l06If.f (t224 == 0) 64).bind fun t225 => ((spec_l06If.f ((Int.tmod x5_1 2) == 0) 4).bind fun t226 => (some (Go.bits .or .i64 (Go.bits .or .i64 t223 t225) t226)))))) = some r := H
    have A5 := Aside0.mk A50
    clear A50
    replace H := Option.bind_eq_some_iff.mp H
    obtain ⟨t223, A60, H⟩ := H
    replace H : ((spec_l01Zero.f k1 a1 a0).bind fun t224 => ((spec_l06If.f (t224 == 0) 64).bind fun t225 => ((spec_l06If.f ((Int.tmod x5_1 2) == 0) 4).bind fun t226 => (some (Go.bits .or .i64 (Go.bits .or .i64 t223 t225) t226))))) = some r := H
    have A6 := Aside0.mk A60
    clear A60
    replace H := Option.bind_eq_some_iff.mp H
    obtain ⟨t224, A70, H⟩ := H
    replace H : ((spec_l06If.f (t224 == 0) 64).bind fun t225 => ((spec_l06If.f ((Int.tmod x5_1 2) == 0) 4).bind fun t226 => (some (Go.bits .or .i64 (Go.bits .or .i64 t223 t225) t226)))) = some r := H
    have A7 := Aside0.mk A70
    clear A70
    replace H := Option.bind_eq_some_iff.mp H
    obtain ⟨t225, A80, H⟩ := H
    replace H : ((spec_l06If.f ((Int.tmod x5_1 2) == 0) 4).bind fun t226 => (some (Go.bits .or .i64 (Go.bits .or .i64 t223 t225) t226))) = some r := H
    have A8 := Aside0.mk A80
    clear A80
    replace H := Option.bind_eq_some_iff.mp H
    obtain ⟨t226, A90, H⟩ := H
    replace H : (some (Go.bits .or .i64 (Go.bits .or .i64 t223 t225) t226)) = some r := H
    have A9 := Aside0.mk A90
    clear A90
    obtain rfl := Option.some.inj H
    go_wp2_with (first | ((with_reducible refine gate_callee (f := 157) rfl ?_); refine goesL_ (some 20) rfl rfl Try.func157 (by kernel_rfl) rfl #[.int .i64 a1, .int .i64 (wrap64 ((wrap64 (8 * a0)) - 1))] rfl (by (try simp only [List.map_toArray, List.map_cons, List.map_nil]); first | done | rfl | (simp only [List.length_drop, List.length_take]; rfl)) ?_; (with_reducible refine (spec_l01Bit.calls a1 (wrap64 ((wrap64 (8 * a0)) - 1)) t222 _ A5.out).mono ?_); rintro e w' ⟨rfl, ⟨nd, rfl⟩⟩; refine ⟨_, rfl, ?_⟩) | ((with_reducible refine gate_callee (f := 221) rfl ?_); refine goesL_ (some 22) rfl rfl Try.func221 (by kernel_rfl) rfl #[.bool (t222 == 1), .int .i64 128] rfl (by (try simp only [List.map_toArray, List.map_cons, List.map_nil]); first | done | rfl | (simp only [List.length_drop, List.length_take]; rfl)) ?_; (with_reducible refine (spec_l06If.calls (t222 == 1) 128 t223 _ A6.out).mono ?_); rintro e w' ⟨rfl, ⟨nd, rfl⟩⟩; refine ⟨_, rfl, ?_⟩) | ((with_reducible refine gate_callee (f := 132) rfl ?_); refine goesL_ (some 25) rfl rfl Try.func132 (by kernel_rfl) rfl #[.int .i64 a1, .int .i64 a0] rfl (by (try simp only [List.map_toArray, List.map_cons, List.map_nil]); first | done | rfl | (simp only [List.length_drop, List.length_take]; rfl)) ?_; (with_reducible refine (spec_l01Zero.calls k1 a1 a0 t224 _ A7.out).mono ?_); rintro e w' ⟨rfl, ⟨nd, rfl⟩⟩; refine ⟨_, rfl, ?_⟩) | ((with_reducible refine gate_callee (f := 221) rfl ?_); refine goesL_ (some 27) rfl rfl Try.func221 (by kernel_rfl) rfl #[.bool (t224 == 0), .int .i64 64] rfl (by (try simp only [List.map_toArray, List.map_cons, List.map_nil]); first | done | rfl | (simp only [List.length_drop, List.length_take]; rfl)) ?_; (with_reducible refine (spec_l06If.calls (t224 == 0) 64 t225 _ A8.out).mono ?_); rintro e w' ⟨rfl, ⟨nd, rfl⟩⟩; refine ⟨_, rfl, ?_⟩) | ((with_reducible refine gate_callee (f := 221) rfl ?_); refine goesL_ (some 32) rfl rfl Try.func221 (by kernel_rfl) rfl #[.bool ((Int.tmod x5_1 2) == 0), .int .i64 4] rfl (by (try simp only [List.map_toArray, List.map_cons, List.map_nil]); first | done | rfl | (simp only [List.length_drop, List.length_take]; rfl)) ?_; (with_reducible refine (spec_l06If.calls ((Int.tmod x5_1 2) == 0) 4 t226 _ A9.out).mono ?_); rintro e w' ⟨rfl, ⟨nd, rfl⟩⟩; refine ⟨_, rfl, ?_⟩))
    go_ret
    exact ⟨by first | rfl | (simp; done) | (simp [*]; done), by repeat (first | exact Drawn0.refl _ | apply Drawn0.step)⟩

/-! ### spec_l06Bit: function 252 -/
def spec_l06Bit.f (a0 : Bool) : Option (Int) := if a0 = true then (some 1) else (some 0)
set_option maxHeartbeats 8000000 in
set_option maxRecDepth 100000 in
theorem spec_l06Bit.calls (a0 : Bool) (r : Int) (w : World) (h : spec_l06Bit.f a0 = some r) :
  Calls Try.prog 252 #[.bool a0] w fun e w' => e = .returned (.int .i64 r) ∧ Drawn0 w w' := by
 have H : (if a0 = true then (some 1) else (some 0)) = some r := h
 clear h
 by_cases c2 : a0 = true
 ·subst c2
  have H1 : (some 1) = some r := by rw [if_pos rfl] at H; exact H
  clear H
  have H := H1
  clear H1
  obtain rfl := Option.some.inj H
  go_enter Try.func252, Try.ntmps252
  go_wp2
  go_ret
  exact ⟨by first | rfl | (simp; done) | (simp [*]; done), by repeat (first | exact Drawn0.refl _ | apply Drawn0.step)⟩
 ·replace c2 := Bool.eq_false_iff.mpr c2
  subst c2
  have H1 : (some 0) = some r := by rw [if_neg (show ¬ (false = true) by decide)] at H; exact H
  clear H
  have H := H1
  clear H1
  obtain rfl := Option.some.inj H
  go_enter Try.func252, Try.ntmps252
  go_wp2
  go_ret
  exact ⟨by first | rfl | (simp; done) | (simp [*]; done), by repeat (first | exact Drawn0.refl _ | apply Drawn0.step)⟩

/-! ### spec_l06Add: function 214 -/
def spec_l06Add.l0 : Nat → Int → Int → Int → Bool → Int → Int → Int → Int → Option (Int × Int)
 | 0, _, _, _, _, _, _, _, _ => none
 | k + 1, x0, x1, x2, x4, x12, x13, x14, x15 => if x15 < (wrap64 (8 * x0)) then ((spec_l01Bit.f x1 x15).bind fun t230 => ((spec_l01Bit.f x2 x15).bind fun t231 => (if x4 = true then ((spec_l06Bit.f (decide ((wrap64 ((wrap64 ((wrap64 (t230 - t231)) - x13)) + 2)) < 2))).bind fun t232 => (if 0 ≤ (IntKind.u64.wrap (x15)) then (spec_l06Add.l0 k x0 x1 x2 x4 (Go.bits .or .u64 x12 (shl .u64 (IntKind.u64.wrap (Int.tmod (wrap64 ((wrap64 ((wrap64 (t230 - t231)) - x13)) + 2)) 2)) (IntKind.u64.wrap (x15)))) t232 x13 (wrap64 (x15 + 1))) else (none))) else (if 0 ≤ (IntKind.u64.wrap (x15)) then (spec_l06Add.l0 k x0 x1 x2 x4 (Go.bits .or .u64 x12 (shl .u64 (IntKind.u64.wrap (Int.tmod (wrap64 ((wrap64 (t230 + t231)) + x13)) 2)) (IntKind.u64.wrap (x15)))) (wrap64 (Int.tdiv (wrap64 ((wrap64 (t230 + t231)) + x13)) 2)) x13 (wrap64 (x15 + 1))) else (none))))) else ((spec_l06Szp.f k x0 (wrap64 (x12))).bind fun t227 => ((spec_l06If.f (x13 == 1) 1).bind fun t228 => ((spec_l06If.f (x13 != x14) 2048).bind fun t229 => (some (wrap64 (x12), Go.bits .or .i64 (Go.bits .or .i64 t227 t228) t229)))))
def spec_l06Add.f (k : Nat) (a0 : Int) (a1 : Int) (a2 : Int) (a3 : Int) (a4 : Bool) : Option (Int × Int) := spec_l06Add.l0 k a0 a1 a2 a4 0 a3 0 0
theorem spec_l06Add.mono_l : ∀ k, (∀ y0 y1 y2 y3 y4 y5 y6 y7, LeO (spec_l06Add.l0 k y0 y1 y2 y3 y4 y5 y6 y7) (spec_l06Add.l0 (k + 1) y0 y1 y2 y3 y4 y5 y6 y7))
 | 0 => fun _ _ _ _ _ _ _ _ r h => by simp [spec_l06Add.l0] at h
 | k + 1 => by
  have ih0 := spec_l06Add.mono_l k
  ·intro y0 y1 y2 y3 y4 y5 y6 y7
   unfold spec_l06Add.l0
   repeat' first
   | (with_reducible exact ih0 _ _ _ _ _ _ _ _)
   | (with_reducible exact spec_l06Szp.mono _ _ _)
   | (with_reducible exact LeO.refl _)
   | (with_reducible exact LeO.none _)
   | (with_reducible refine LeO.ite ?_ ?_)
   | (with_reducible refine LeO.bind ?_ (fun _ => ?_))
   | refine LeO.ite ?_ ?_
   | refine LeO.bind ?_ (fun _ => ?_)
theorem spec_l06Add.mono : ∀ a0 a1 a2 a3 a4 k, LeO (spec_l06Add.f k a0 a1 a2 a3 a4) (spec_l06Add.f (k + 1) a0 a1 a2 a3 a4) := by
 intro a0 a1 a2 a3 a4 k
 have ih0 := spec_l06Add.mono_l k
 unfold spec_l06Add.f
 repeat' first
   | (with_reducible exact ih0 _ _ _ _ _ _ _ _)
   | (with_reducible exact spec_l06Szp.mono _ _ _)
   | (with_reducible exact LeO.refl _)
   | (with_reducible exact LeO.none _)
   | (with_reducible refine LeO.ite ?_ ?_)
   | (with_reducible refine LeO.bind ?_ (fun _ => ?_))
   | refine LeO.ite ?_ ?_
   | refine LeO.bind ?_ (fun _ => ?_)
set_option maxHeartbeats 8000000 in
set_option maxRecDepth 100000 in
theorem spec_l06Add.calls (k : Nat) (a0 : Int) (a1 : Int) (a2 : Int) (a3 : Int) (a4 : Bool) (r1 : Int) (r2 : Int) (w : World) (h : spec_l06Add.f k a0 a1 a2 a3 a4 = some (r1, r2)) :
  Calls Try.prog 214 #[.int .i64 a0, .int .i64 a1, .int .i64 a2, .int .i64 a3, .bool a4] w fun e w' => e = .returned (.tuple #[.int .i64 r1, .int .i64 r2]) ∧ Drawn0 w w' := by
 have H : (spec_l06Add.l0 k a0 a1 a2 a4 0 a3 0 0) = some (r1, r2) := h
 clear h
 have H' := Aside0.mk H
 clear H
 go_enter Try.func214, Try.ntmps214
 go_wp2
 go_loopg [12, 13, 14, 15] k (fun kq v12 v13 v14 v15 w' => ∃ (x12_1 : Int) (x13_1 : Int) (x14_1 : Int) (x15_1 : Int), v12 = .int .u64 x12_1 ∧ v13 = .int .i64 x13_1 ∧ v14 = .int .i64 x14_1 ∧ v15 = .int .i64 x15_1 ∧ Aside0 (spec_l06Add.l0 kq a0 a1 a2 a4 x12_1 x13_1 x14_1 x15_1 = some (r1, r2)) ∧ Aside0 (kq ≤ k) ∧ Drawn0 w w')
 case atStart => exact ⟨(0), (a3), (0), (0), (by first | rfl | (simp; done) | (simp [*]; done)), (by first | rfl | (simp; done) | (simp [*]; done)), (by first | rfl | (simp; done) | (simp [*]; done)), (by first | rfl | (simp; done) | (simp [*]; done)), H', ⟨Nat.le_refl _⟩, by repeat (first | exact Drawn0.refl _ | apply Drawn0.step)⟩
 case round =>
  clear H'
  (try clear c2)
  obtain ⟨x12_1, x13_1, x14_1, x15_1, rfl, rfl, rfl, rfl, HA, HK1, ⟨m1, rfl⟩⟩ := hrel
  cases gk with
  | zero => exact absurd HA.out (by simp [spec_l06Add.l0])
  | succ k1 =>
   have H := HA.out
   clear HA
   simp only [spec_l06Add.l0] at H
   by_cases c6 : x15_1 < (wrap64 (8 * a0))
   ·rw [if_pos c6] at H
    have c6b0 : decide (x15_1 < (wrap64 (8 * a0))) = true := decide_eq_true c6
    clear c6
    replace H := Option.bind_eq_some_iff.mp H
    obtain ⟨t230, A70, H⟩ := H
    replace H : ((spec_l01Bit.f a2 x15_1).bind fun t231 => (if a4 = true then ((spec_l06Bit.f (decide ((wrap64 ((wrap64 ((wrap64 (t230 - t231)) - x13_1)) + 2)) < 2))).bind fun t232 => (if 0 ≤ (IntKind.u64.wrap (x15_1)) then (spec_l06Add.l0 k1 a0 a1 a2 a4 (Go.bits .or .u64 x12_1 (shl .u64 (IntKind.u64.wrap (Int.tmod (wrap64 ((wrap64 ((wrap64 (t230 - t231)) - x13_1)) + 2)) 2)) (IntKind.u64.wrap (x15_1)))) t232 x13_1 (wrap64 (x15_1 + 1))) else (none))) else (if 0 ≤ (IntKind.u64.wrap (x15_1)) then (spec_l06Add.l0 k1 a0 a1 a2 a4 (Go.bits .or .u64 x12_1 (shl .u64 (IntKind.u64.wrap (Int.tmod (wrap64 ((wrap64 (t230 + t231)) + x13_1)) 2)) (IntKind.u64.wrap (x15_1)))) (wrap64 (Int.tdiv (wrap64 ((wrap64 (t230 + t231)) + x13_1)) 2)) x13_1 (wrap64 (x15_1 + 1))) else (none)))) = some (r1, r2) := H
    have A7 := Aside0.mk A70
    clear A70
    replace H := Option.bind_eq_some_iff.mp H
    obtain ⟨t231, A80, H⟩ := H
    replace H : (if a4 = true then ((spec_l06Bit.f (decide ((wrap64 ((wrap64 ((wrap64 (t230 - t231)) - x13_1)) + 2)) < 2))).bind fun t232 => (if 0 ≤ (IntKind.u64.wrap (x15_1)) then (spec_l06Add.l0 k1 a0 a1 a2 a4 (Go.bits .or .u64 x12_1 (shl .u64 (IntKind.u64.wrap (Int.tmod (wrap64 ((wrap64 ((wrap64 (t230 - t231)) - x13_1)) + 2)) 2)) (IntKind.u64.wrap (x15_1)))) t232 x13_1 (wrap64 (x15_1 + 1))) else (none))) else (if 0 ≤ (IntKind.u64.wrap (x15_1)) then (spec_l06Add.l0 k1 a0 a1 a2 a4 (Go.bits .or .u64 x12_1 (shl .u64 (IntKind.u64.wrap (Int.tmod (wrap64 ((wrap64 (t230 + t231)) + x13_1)) 2)) (IntKind.u64.wrap (x15_1)))) (wrap64 (Int.tdiv (wrap64 ((wrap64 (t230 + t231)) + x13_1)) 2)) x13_1 (wrap64 (x15_1 + 1))) else (none))) = some (r1, r2) := H
    have A8 := Aside0.mk A80
    clear A80
    by_cases c9 : a4 = true
    ·subst c9
     have H1 : ((spec_l06Bit.f (decide ((wrap64 ((wrap64 ((wrap64 (t230 - t231)) - x13_1)) + 2)) < 2))).bind fun t232 => (if 0 ≤ (IntKind.u64.wrap (x15_1)) then (spec_l06Add.l0 k1 a0 a1 a2 true (Go.bits .or .u64 x12_1 (shl .u64 (IntKind.u64.wrap (Int.tmod (wrap64 ((wrap64 ((wrap64 (t230 - t231)) - x13_1)) + 2)) 2)) (IntKind.u64.wrap (x15_1)))) t232 x13_1 (wrap64 (x15_1 + 1))) else (none))) = some (r1, r2) := by rw [if_pos rfl] at H; exact H
     clear H
     have H := H1
     clear H1
     replace H := Option.bind_eq_some_iff.mp H
     obtain ⟨t232, A100, H⟩ := H
     replace H : (if 0 ≤ (IntKind.u64.wrap (x15_1)) then (spec_l06Add.l0 k1 a0 a1 a2 true (Go.bits .or .u64 x12_1 (shl .u64 (IntKind.u64.wrap (Int.tmod (wrap64 ((wrap64 ((wrap64 (t230 - t231)) - x13_1)) + 2)) 2)) (IntKind.u64.wrap (x15_1)))) t232 x13_1 (wrap64 (x15_1 + 1))) else (none)) = some (r1, r2) := H
     have A10 := Aside0.mk A100
     clear A100
     obtain ⟨ji11, hji11⟩ : ∃ j_ : Int, (IntKind.u64.wrap (x15_1)) = j_ := ⟨_, rfl⟩
     replace H : (if 0 ≤ (ji11) then (spec_l06Add.l0 k1 a0 a1 a2 true (Go.bits .or .u64 x12_1 (shl .u64 (IntKind.u64.wrap (Int.tmod (wrap64 ((wrap64 ((wrap64 (t230 - t231)) - x13_1)) + 2)) 2)) (ji11))) t232 x13_1 (wrap64 (x15_1 + 1))) else (none)) = some (r1, r2) := by first | (rw [hji11] at H; exact H) | (simp only [hji11] at H ⊢; exact H)
     (try rw [hji11] at A7)
     (try rw [hji11] at A8)
     (try rw [hji11] at A10)
     by_cases c12 : 0 ≤ (ji11)
     ·rw [if_pos c12] at H
      have c12b0 := eq_true c12
      have c12b1 : decide (0 ≤ (ji11)) = true := decide_eq_true c12
      clear c12
      obtain ⟨ji13, hji13⟩ : ∃ j_ : Int, (shl .u64 (IntKind.u64.wrap (Int.tmod (wrap64 ((wrap64 ((wrap64 (t230 - t231)) - x13_1)) + 2)) 2)) (ji11)) = j_ := ⟨_, rfl⟩
      replace H : (spec_l06Add.l0 k1 a0 a1 a2 true (Go.bits .or .u64 x12_1 (ji13)) t232 x13_1 (wrap64 (x15_1 + 1))) = some (r1, r2) := by first | (rw [hji13] at H; exact H) | (simp only [hji13] at H ⊢; exact H)
      (try rw [hji13] at A7)
      (try rw [hji13] at A8)
      (try rw [hji13] at A10)
      have hji13_ : (IntKind.u64.wrap ((IntKind.u64.wrap (Int.tmod (wrap64 ((wrap64 ((wrap64 (t230 - t231)) - x13_1)) + 2)) 2)) * 2 ^ min (ji11).toNat 64)) = ji13 := hji13
      have hji13z : (ji11) ≤ 64 → (IntKind.u64.wrap ((IntKind.u64.wrap (Int.tmod (wrap64 ((wrap64 ((wrap64 (t230 - t231)) - x13_1)) + 2)) 2)) * 2 ^ (ji11).toNat)) = ji13 := shl_small hji13
      have H' := Aside0.mk H
      clear H
      go_wp2_with (first | ((with_reducible refine gate_callee (f := 157) rfl ?_); refine goesL_ (some 29) rfl rfl Try.func157 (by kernel_rfl) rfl #[.int .i64 a1, .int .i64 x15_1] rfl (by (try simp only [List.map_toArray, List.map_cons, List.map_nil]); first | done | rfl | (simp only [List.length_drop, List.length_take]; rfl)) ?_; (with_reducible refine (spec_l01Bit.calls a1 x15_1 t230 _ A7.out).mono ?_); rintro e w' ⟨rfl, ⟨nd, rfl⟩⟩; refine ⟨_, rfl, ?_⟩) | ((with_reducible refine gate_callee (f := 157) rfl ?_); refine goesL_ (some 32) rfl rfl Try.func157 (by kernel_rfl) rfl #[.int .i64 a2, .int .i64 x15_1] rfl (by (try simp only [List.map_toArray, List.map_cons, List.map_nil]); first | done | rfl | (simp only [List.length_drop, List.length_take]; rfl)) ?_; (with_reducible refine (spec_l01Bit.calls a2 x15_1 t231 _ A8.out).mono ?_); rintro e w' ⟨rfl, ⟨nd, rfl⟩⟩; refine ⟨_, rfl, ?_⟩) | ((with_reducible refine gate_callee (f := 252) rfl ?_); refine goesL_ (some 48) rfl rfl Try.func252 (by kernel_rfl) rfl #[.bool (decide ((wrap64 ((wrap64 ((wrap64 (t230 - t231)) - x13_1)) + 2)) < 2))] rfl (by (try simp only [List.map_toArray, List.map_cons, List.map_nil]); first | done | rfl | (simp only [List.length_drop, List.length_take]; rfl)) ?_; (with_reducible refine (spec_l06Bit.calls (decide ((wrap64 ((wrap64 ((wrap64 (t230 - t231)) - x13_1)) + 2)) < 2)) t232 _ A10.out).mono ?_); rintro e w' ⟨rfl, ⟨nd, rfl⟩⟩; refine ⟨_, rfl, ?_⟩))
      go_roundg k1
      case measure => have := HK1.out; omega
      case rel => exact ⟨(Go.bits .or .u64 x12_1 (ji13)), (t232), (x13_1), (wrap64 (x15_1 + 1)), (by first | rfl | (simp; done) | (simp only [← hji13] <;> (first | rfl | simp)) | (simp [*]; done)), (by first | rfl | (simp; done) | (simp [*]; done)), (by first | rfl | (simp; done) | (simp [*]; done)), (by first | rfl | (simp; done) | (simp [*]; done)), H', ⟨by have := HK1.out; omega⟩, by repeat (first | exact Drawn0.refl _ | apply Drawn0.step)⟩
     ·rw [if_neg c12] at H
      exact absurd H (by simp)
    ·replace c9 := Bool.eq_false_iff.mpr c9
     subst c9
     have H1 : (if 0 ≤ (IntKind.u64.wrap (x15_1)) then (spec_l06Add.l0 k1 a0 a1 a2 false (Go.bits .or .u64 x12_1 (shl .u64 (IntKind.u64.wrap (Int.tmod (wrap64 ((wrap64 (t230 + t231)) + x13_1)) 2)) (IntKind.u64.wrap (x15_1)))) (wrap64 (Int.tdiv (wrap64 ((wrap64 (t230 + t231)) + x13_1)) 2)) x13_1 (wrap64 (x15_1 + 1))) else (none)) = some (r1, r2) := by rw [if_neg (show ¬ (false = true) by decide)] at H; exact H
     clear H
     have H := H1
     clear H1
     obtain ⟨ji14, hji14⟩ : ∃ j_ : Int, (IntKind.u64.wrap (x15_1)) = j_ := ⟨_, rfl⟩
     replace H : (if 0 ≤ (ji14) then (spec_l06Add.l0 k1 a0 a1 a2 false (Go.bits .or .u64 x12_1 (shl .u64 (IntKind.u64.wrap (Int.tmod (wrap64 ((wrap64 (t230 + t231)) + x13_1)) 2)) (ji14))) (wrap64 (Int.tdiv (wrap64 ((wrap64 (t230 + t231)) + x13_1)) 2)) x13_1 (wrap64 (x15_1 + 1))) else (none)) = some (r1, r2) := by first | (rw [hji14] at H; exact H) | (simp only [hji14] at H ⊢; exact H)
     (try rw [hji14] at A7)
     (try rw [hji14] at A8)
     by_cases c15 : 0 ≤ (ji14)
     ·rw [if_pos c15] at H
      have c15b0 := eq_true c15
      have c15b1 : decide (0 ≤ (ji14)) = true := decide_eq_true c15
      clear c15
      obtain ⟨ji16, hji16⟩ : ∃ j_ : Int, (shl .u64 (IntKind.u64.wrap (Int.tmod (wrap64 ((wrap64 (t230 + t231)) + x13_1)) 2)) (ji14)) = j_ := ⟨_, rfl⟩
      replace H : (spec_l06Add.l0 k1 a0 a1 a2 false (Go.bits .or .u64 x12_1 (ji16)) (wrap64 (Int.tdiv (wrap64 ((wrap64 (t230 + t231)) + x13_1)) 2)) x13_1 (wrap64 (x15_1 + 1))) = some (r1, r2) := by first | (rw [hji16] at H; exact H) | (simp only [hji16] at H ⊢; exact H)
      (try rw [hji16] at A7)
      (try rw [hji16] at A8)
      have hji16_ : (IntKind.u64.wrap ((IntKind.u64.wrap (Int.tmod (wrap64 ((wrap64 (t230 + t231)) + x13_1)) 2)) * 2 ^ min (ji14).toNat 64)) = ji16 := hji16
      have hji16z : (ji14) ≤ 64 → (IntKind.u64.wrap ((IntKind.u64.wrap (Int.tmod (wrap64 ((wrap64 (t230 + t231)) + x13_1)) 2)) * 2 ^ (ji14).toNat)) = ji16 := shl_small hji16
      have H' := Aside0.mk H
      clear H
      go_wp2_with (first | ((with_reducible refine gate_callee (f := 157) rfl ?_); refine goesL_ (some 29) rfl rfl Try.func157 (by kernel_rfl) rfl #[.int .i64 a1, .int .i64 x15_1] rfl (by (try simp only [List.map_toArray, List.map_cons, List.map_nil]); first | done | rfl | (simp only [List.length_drop, List.length_take]; rfl)) ?_; (with_reducible refine (spec_l01Bit.calls a1 x15_1 t230 _ A7.out).mono ?_); rintro e w' ⟨rfl, ⟨nd, rfl⟩⟩; refine ⟨_, rfl, ?_⟩) | ((with_reducible refine gate_callee (f := 157) rfl ?_); refine goesL_ (some 32) rfl rfl Try.func157 (by kernel_rfl) rfl #[.int .i64 a2, .int .i64 x15_1] rfl (by (try simp only [List.map_toArray, List.map_cons, List.map_nil]); first | done | rfl | (simp only [List.length_drop, List.length_take]; rfl)) ?_; (with_reducible refine (spec_l01Bit.calls a2 x15_1 t231 _ A8.out).mono ?_); rintro e w' ⟨rfl, ⟨nd, rfl⟩⟩; refine ⟨_, rfl, ?_⟩))
      go_roundg k1
      case measure => have := HK1.out; omega
      case rel => exact ⟨(Go.bits .or .u64 x12_1 (ji16)), (wrap64 (Int.tdiv (wrap64 ((wrap64 (t230 + t231)) + x13_1)) 2)), (x13_1), (wrap64 (x15_1 + 1)), (by first | rfl | (simp; done) | (simp only [← hji16] <;> (first | rfl | simp)) | (simp [*]; done)), (by first | rfl | (simp; done) | (simp [*]; done)), (by first | rfl | (simp; done) | (simp [*]; done)), (by first | rfl | (simp; done) | (simp [*]; done)), H', ⟨by have := HK1.out; omega⟩, by repeat (first | exact Drawn0.refl _ | apply Drawn0.step)⟩
     ·rw [if_neg c15] at H
      exact absurd H (by simp)
   ·rw [if_neg c6] at H
    have c6b0 : decide (x15_1 < (wrap64 (8 * a0))) = false := decide_eq_false c6
    clear c6
    replace H := Option.bind_eq_some_iff.mp H
    obtain ⟨t227, A170, H⟩ := H
    replace H : ((spec_l06If.f (x13_1 == 1) 1).bind fun t228 => ((spec_l06If.f (x13_1 != x14_1) 2048).bind fun t229 => (some (wrap64 (x12_1), Go.bits .or .i64 (Go.bits .or .i64 t227 t228) t229)))) = some (r1, r2) := H
    have A17 := Aside0.mk A170
    clear A170
    replace H := Option.bind_eq_some_iff.mp H
    obtain ⟨t228, A180, H⟩ := H
    replace H : ((spec_l06If.f (x13_1 != x14_1) 2048).bind fun t229 => (some (wrap64 (x12_1), Go.bits .or .i64 (Go.bits .or .i64 t227 t228) t229))) = some (r1, r2) := H
    have A18 := Aside0.mk A180
    clear A180
    replace H := Option.bind_eq_some_iff.mp H
    obtain ⟨t229, A190, H⟩ := H
    replace H : (some (wrap64 (x12_1), Go.bits .or .i64 (Go.bits .or .i64 t227 t228) t229)) = some (r1, r2) := H
    have A19 := Aside0.mk A190
    clear A190
    simp only [Option.some.injEq, Prod.mk.injEq] at H
    obtain ⟨rfl, rfl⟩ := H
    go_wp2_with (first | ((with_reducible refine gate_callee (f := 215) rfl ?_); refine goesL_ (some 67) rfl rfl Try.func215 (by kernel_rfl) rfl #[.int .i64 a0, .int .i64 (wrap64 (x12_1))] rfl (by (try simp only [List.map_toArray, List.map_cons, List.map_nil]); first | done | rfl | (simp only [List.length_drop, List.length_take]; rfl)) ?_; (with_reducible refine (spec_l06Szp.calls k1 a0 (wrap64 (x12_1)) t227 _ A17.out).mono ?_); rintro e w' ⟨rfl, ⟨nd, rfl⟩⟩; refine ⟨_, rfl, ?_⟩) | ((with_reducible refine gate_callee (f := 221) rfl ?_); refine goesL_ (some 70) rfl rfl Try.func221 (by kernel_rfl) rfl #[.bool (x13_1 == 1), .int .i64 1] rfl (by (try simp only [List.map_toArray, List.map_cons, List.map_nil]); first | done | rfl | (simp only [List.length_drop, List.length_take]; rfl)) ?_; (with_reducible refine (spec_l06If.calls (x13_1 == 1) 1 t228 _ A18.out).mono ?_); rintro e w' ⟨rfl, ⟨nd, rfl⟩⟩; refine ⟨_, rfl, ?_⟩) | ((with_reducible refine gate_callee (f := 221) rfl ?_); refine goesL_ (some 75) rfl rfl Try.func221 (by kernel_rfl) rfl #[.bool (x13_1 != x14_1), .int .i64 2048] rfl (by (try simp only [List.map_toArray, List.map_cons, List.map_nil]); first | done | rfl | (simp only [List.length_drop, List.length_take]; rfl)) ?_; (with_reducible refine (spec_l06If.calls (x13_1 != x14_1) 2048 t229 _ A19.out).mono ?_); rintro e w' ⟨rfl, ⟨nd, rfl⟩⟩; refine ⟨_, rfl, ?_⟩))
    go_ret2
    exact ⟨by first | rfl | (simp; done) | (simp [*]; done), by repeat (first | exact Drawn0.refl _ | apply Drawn0.step)⟩

/-! ### spec_l06Wise: function 216 -/
def spec_l06Wise.f (a0 : Int) (a1 : Int) (a2 : Int) : Option (Int) := if a0 = 2 then (some (Go.bits .or .i64 a1 a2)) else (if a0 = 7 then (some (Go.bits .xor .i64 a1 a2)) else (some (Go.bits .and .i64 a1 a2)))
set_option maxHeartbeats 8000000 in
set_option maxRecDepth 100000 in
theorem spec_l06Wise.calls (a0 : Int) (a1 : Int) (a2 : Int) (r : Int) (w : World) (h : spec_l06Wise.f a0 a1 a2 = some r) :
  Calls Try.prog 216 #[.int .i64 a0, .int .i64 a1, .int .i64 a2] w fun e w' => e = .returned (.int .i64 r) ∧ Drawn0 w w' := by
 have H : (if a0 = 2 then (some (Go.bits .or .i64 a1 a2)) else (if a0 = 7 then (some (Go.bits .xor .i64 a1 a2)) else (some (Go.bits .and .i64 a1 a2)))) = some r := h
 clear h
 by_cases c4 : a0 = 2
 ·rw [if_pos c4] at H
  have c4b0 : (a0 == 2) = true := beq_iff_eq.mpr c4
  have c4b1 : (a0 != 2) = false := bne_eq_false_iff_eq.mpr c4
  clear c4
  obtain rfl := Option.some.inj H
  go_enter Try.func216, Try.ntmps216
  go_wp2
  go_ret
  exact ⟨by first | rfl | (simp; done) | (simp [*]; done), by repeat (first | exact Drawn0.refl _ | apply Drawn0.step)⟩
 ·rw [if_neg c4] at H
  have c4b0 : (a0 == 2) = false := beq_eq_false_iff_ne.mpr c4
  have c4b1 : (a0 != 2) = true := bne_iff_ne.mpr c4
  by_cases c5 : a0 = 7
  ·rw [if_pos c5] at H
   have c5b0 : (a0 == 7) = true := beq_iff_eq.mpr c5
   have c5b1 : (a0 != 7) = false := bne_eq_false_iff_eq.mpr c5
   clear c5
   obtain rfl := Option.some.inj H
   go_enter Try.func216, Try.ntmps216
   go_wp2
   go_ret
   exact ⟨by first | rfl | (simp; done) | (simp [*]; done), by repeat (first | exact Drawn0.refl _ | apply Drawn0.step)⟩
  ·rw [if_neg c5] at H
   have c5b0 : (a0 == 7) = false := beq_eq_false_iff_ne.mpr c5
   have c5b1 : (a0 != 7) = true := bne_iff_ne.mpr c5
   obtain rfl := Option.some.inj H
   go_enter Try.func216, Try.ntmps216
   go_wp2
   go_ret
   exact ⟨by first | rfl | (simp; done) | (simp [*]; done), by repeat (first | exact Drawn0.refl _ | apply Drawn0.step)⟩

/-! ### spec_l06Alu: function 139 -/
def spec_l06Alu.f (k : Nat) (a0 : Int) (a1 : Int) (a2 : Int) (a3 : Int) (a4 : Int) : Option (Int × Int) := if a0 = 1 then ((spec_l06Add.f k a1 a2 a3 0 false).bind fun bt233 => (some (bt233.1, bt233.2))) else (if a0 = 3 then ((spec_l06Add.f k a1 a2 a3 (Go.bits .and .i64 a4 1) false).bind fun bt235 => (some (bt235.1, bt235.2))) else (if a0 = 6 then ((spec_l06Add.f k a1 a2 a3 0 true).bind fun bt237 => (some (bt237.1, bt237.2))) else (if a0 = 4 then ((spec_l06Add.f k a1 a2 a3 (Go.bits .and .i64 a4 1) true).bind fun bt239 => (some (bt239.1, bt239.2))) else (if a0 = 8 then ((spec_l06Add.f k a1 a2 a3 0 true).bind fun bt241 => ((spec_l01Zero.f k a2 a1).bind fun t243 => (some (t243, bt241.2)))) else (if a0 = 10 then ((spec_l01Zero.f k a2 a1).bind fun t244 => ((spec_l06Szp.f k a1 (Go.bits .and .i64 a2 a3)).bind fun t245 => (some (t244, t245)))) else ((spec_l06Wise.f a0 a2 a3).bind fun t246 => ((spec_l01Zero.f k t246 a1).bind fun t247 => ((spec_l06Szp.f k a1 t246).bind fun t248 => (some (t247, t248))))))))))
theorem spec_l06Alu.mono : ∀ a0 a1 a2 a3 a4 k, LeO (spec_l06Alu.f k a0 a1 a2 a3 a4) (spec_l06Alu.f (k + 1) a0 a1 a2 a3 a4) := by
 intro a0 a1 a2 a3 a4 k
 unfold spec_l06Alu.f
 repeat' first
   | (with_reducible exact spec_l01Zero.mono _ _ _)
   | (with_reducible exact spec_l06Add.mono _ _ _ _ _ _)
   | (with_reducible exact spec_l06Szp.mono _ _ _)
   | (with_reducible exact LeO.refl _)
   | (with_reducible exact LeO.none _)
   | (with_reducible refine LeO.ite ?_ ?_)
   | (with_reducible refine LeO.bind ?_ (fun _ => ?_))
   | refine LeO.ite ?_ ?_
   | refine LeO.bind ?_ (fun _ => ?_)
set_option maxHeartbeats 8000000 in
set_option maxRecDepth 100000 in
theorem spec_l06Alu.calls (k : Nat) (a0 : Int) (a1 : Int) (a2 : Int) (a3 : Int) (a4 : Int) (r1 : Int) (r2 : Int) (w : World) (h : spec_l06Alu.f k a0 a1 a2 a3 a4 = some (r1, r2)) :
  Calls Try.prog 139 #[.int .i64 a0, .int .i64 a1, .int .i64 a2, .int .i64 a3, .int .i64 a4] w fun e w' => e = .returned (.tuple #[.int .i64 r1, .int .i64 r2]) ∧ Drawn0 w w' := by
 have H : (if a0 = 1 then ((spec_l06Add.f k a1 a2 a3 0 false).bind fun bt233 => (some (bt233.1, bt233.2))) else (if a0 = 3 then ((spec_l06Add.f k a1 a2 a3 (Go.bits .and .i64 a4 1) false).bind fun bt235 => (some (bt235.1, bt235.2))) else (if a0 = 6 then ((spec_l06Add.f k a1 a2 a3 0 true).bind fun bt237 => (some (bt237.1, bt237.2))) else (if a0 = 4 then ((spec_l06Add.f k a1 a2 a3 (Go.bits .and .i64 a4 1) true).bind fun bt239 => (some (bt239.1, bt239.2))) else (if a0 = 8 then ((spec_l06Add.f k a1 a2 a3 0 true).bind fun bt241 => ((spec_l01Zero.f k a2 a1).bind fun t243 => (some (t243, bt241.2)))) else (if a0 = 10 then ((spec_l01Zero.f k a2 a1).bind fun t244 => ((spec_l06Szp.f k a1 (Go.bits .and .i64 a2 a3)).bind fun t245 => (some (t244, t245)))) else ((spec_l06Wise.f a0 a2 a3).bind fun t246 => ((spec_l01Zero.f k t246 a1).bind fun t247 => ((spec_l06Szp.f k a1 t246).bind fun t248 => (some (t247, t248))))))))))) = some (r1, r2) := h
 clear h
 by_cases c6 : a0 = 1
 ·rw [if_pos c6] at H
  have c6b0 : (a0 == 1) = true := beq_iff_eq.mpr c6
  have c6b1 : (a0 != 1) = false := bne_eq_false_iff_eq.mpr c6
  clear c6
  replace H := Option.bind_eq_some_iff.mp H
  obtain ⟨⟨t233, t234⟩, A70, H⟩ := H
  replace H : (some (t233, t234)) = some (r1, r2) := H
  have A7 := Aside0.mk A70
  clear A70
  simp only [Option.some.injEq, Prod.mk.injEq] at H
  obtain ⟨rfl, rfl⟩ := H
  go_enter Try.func139, Try.ntmps139
  go_wp2_with (first | ((with_reducible refine gate_callee (f := 214) rfl ?_); refine goesL_ (some 21) rfl rfl Try.func214 (by kernel_rfl) rfl #[.int .i64 a1, .int .i64 a2, .int .i64 a3, .int .i64 0, .bool false] rfl (by (try simp only [List.map_toArray, List.map_cons, List.map_nil]); first | done | rfl | (simp only [List.length_drop, List.length_take]; rfl)) ?_; (with_reducible refine (spec_l06Add.calls k a1 a2 a3 0 false t233 t234 _ A7.out).mono ?_); rintro e w' ⟨rfl, ⟨nd, rfl⟩⟩; refine ⟨_, rfl, ?_⟩))
  go_ret2
  exact ⟨by first | rfl | (simp; done) | (simp [*]; done), by repeat (first | exact Drawn0.refl _ | apply Drawn0.step)⟩
 ·rw [if_neg c6] at H
  have c6b0 : (a0 == 1) = false := beq_eq_false_iff_ne.mpr c6
  have c6b1 : (a0 != 1) = true := bne_iff_ne.mpr c6
  by_cases c8 : a0 = 3
  ·rw [if_pos c8] at H
   have c8b0 : (a0 == 3) = true := beq_iff_eq.mpr c8
   have c8b1 : (a0 != 3) = false := bne_eq_false_iff_eq.mpr c8
   clear c8
   replace H := Option.bind_eq_some_iff.mp H
   obtain ⟨⟨t235, t236⟩, A90, H⟩ := H
   replace H : (some (t235, t236)) = some (r1, r2) := H
   have A9 := Aside0.mk A90
   clear A90
   simp only [Option.some.injEq, Prod.mk.injEq] at H
   obtain ⟨rfl, rfl⟩ := H
   go_enter Try.func139, Try.ntmps139
   go_wp2_with (first | ((with_reducible refine gate_callee (f := 214) rfl ?_); refine goesL_ (some 31) rfl rfl Try.func214 (by kernel_rfl) rfl #[.int .i64 a1, .int .i64 a2, .int .i64 a3, .int .i64 (Go.bits .and .i64 a4 1), .bool false] rfl (by (try simp only [List.map_toArray, List.map_cons, List.map_nil]); first | done | rfl | (simp only [List.length_drop, List.length_take]; rfl)) ?_; (with_reducible refine (spec_l06Add.calls k a1 a2 a3 (Go.bits .and .i64 a4 1) false t235 t236 _ A9.out).mono ?_); rintro e w' ⟨rfl, ⟨nd, rfl⟩⟩; refine ⟨_, rfl, ?_⟩))
   go_ret2
   exact ⟨by first | rfl | (simp; done) | (simp [*]; done), by repeat (first | exact Drawn0.refl _ | apply Drawn0.step)⟩
  ·rw [if_neg c8] at H
   have c8b0 : (a0 == 3) = false := beq_eq_false_iff_ne.mpr c8
   have c8b1 : (a0 != 3) = true := bne_iff_ne.mpr c8
   by_cases c10 : a0 = 6
   ·rw [if_pos c10] at H
    have c10b0 : (a0 == 6) = true := beq_iff_eq.mpr c10
    have c10b1 : (a0 != 6) = false := bne_eq_false_iff_eq.mpr c10
    clear c10
    replace H := Option.bind_eq_some_iff.mp H
    obtain ⟨⟨t237, t238⟩, A110, H⟩ := H
    replace H : (some (t237, t238)) = some (r1, r2) := H
    have A11 := Aside0.mk A110
    clear A110
    simp only [Option.some.injEq, Prod.mk.injEq] at H
    obtain ⟨rfl, rfl⟩ := H
    go_enter Try.func139, Try.ntmps139
    go_wp2_with (first | ((with_reducible refine gate_callee (f := 214) rfl ?_); refine goesL_ (some 39) rfl rfl Try.func214 (by kernel_rfl) rfl #[.int .i64 a1, .int .i64 a2, .int .i64 a3, .int .i64 0, .bool true] rfl (by (try simp only [List.map_toArray, List.map_cons, List.map_nil]); first | done | rfl | (simp only [List.length_drop, List.length_take]; rfl)) ?_; (with_reducible refine (spec_l06Add.calls k a1 a2 a3 0 true t237 t238 _ A11.out).mono ?_); rintro e w' ⟨rfl, ⟨nd, rfl⟩⟩; refine ⟨_, rfl, ?_⟩))
    go_ret2
    exact ⟨by first | rfl | (simp; done) | (simp [*]; done), by repeat (first | exact Drawn0.refl _ | apply Drawn0.step)⟩
   ·rw [if_neg c10] at H
    have c10b0 : (a0 == 6) = false := beq_eq_false_iff_ne.mpr c10
    have c10b1 : (a0 != 6) = true := bne_iff_ne.mpr c10
    by_cases c12 : a0 = 4
    ·rw [if_pos c12] at H
     have c12b0 : (a0 == 4) = true := beq_iff_eq.mpr c12
     have c12b1 : (a0 != 4) = false := bne_eq_false_iff_eq.mpr c12
     clear c12
     replace H := Option.bind_eq_some_iff.mp H
     obtain ⟨⟨t239, t240⟩, A130, H⟩ := H
     replace H : (some (t239, t240)) = some (r1, r2) := H
     have A13 := Aside0.mk A130
     clear A130
     simp only [Option.some.injEq, Prod.mk.injEq] at H
     obtain ⟨rfl, rfl⟩ := H
     go_enter Try.func139, Try.ntmps139
     go_wp2_with (first | ((with_reducible refine gate_callee (f := 214) rfl ?_); refine goesL_ (some 49) rfl rfl Try.func214 (by kernel_rfl) rfl #[.int .i64 a1, .int .i64 a2, .int .i64 a3, .int .i64 (Go.bits .and .i64 a4 1), .bool true] rfl (by (try simp only [List.map_toArray, List.map_cons, List.map_nil]); first | done | rfl | (simp only [List.length_drop, List.length_take]; rfl)) ?_; (with_reducible refine (spec_l06Add.calls k a1 a2 a3 (Go.bits .and .i64 a4 1) true t239 t240 _ A13.out).mono ?_); rintro e w' ⟨rfl, ⟨nd, rfl⟩⟩; refine ⟨_, rfl, ?_⟩))
     go_ret2
     exact ⟨by first | rfl | (simp; done) | (simp [*]; done), by repeat (first | exact Drawn0.refl _ | apply Drawn0.step)⟩
    ·rw [if_neg c12] at H
     have c12b0 : (a0 == 4) = false := beq_eq_false_iff_ne.mpr c12
     have c12b1 : (a0 != 4) = true := bne_iff_ne.mpr c12
     by_cases c14 : a0 = 8
     ·rw [if_pos c14] at H
      have c14b0 : (a0 == 8) = true := beq_iff_eq.mpr c14
      have c14b1 : (a0 != 8) = false := bne_eq_false_iff_eq.mpr c14
      clear c14
      replace H := Option.bind_eq_some_iff.mp H
      obtain ⟨⟨t241, t242⟩, A150, H⟩ := H
      replace H : ((spec_l01Zero.f k a2 a1).bind fun t243 => (some (t243, t242))) = some (r1, r2) := H
      have A15 := Aside0.mk A150
      clear A150
      replace H := Option.bind_eq_some_iff.mp H
      obtain ⟨t243, A160, H⟩ := H
      replace H : (some (t243, t242)) = some (r1, r2) := H
      have A16 := Aside0.mk A160
      clear A160
      simp only [Option.some.injEq, Prod.mk.injEq] at H
      obtain ⟨rfl, rfl⟩ := H
      go_enter Try.func139, Try.ntmps139
      go_wp2_with (first | ((with_reducible refine gate_callee (f := 214) rfl ?_); refine goesL_ (some 58) rfl rfl Try.func214 (by kernel_rfl) rfl #[.int .i64 a1, .int .i64 a2, .int .i64 a3, .int .i64 0, .bool true] rfl (by (try simp only [List.map_toArray, List.map_cons, List.map_nil]); first | done | rfl | (simp only [List.length_drop, List.length_take]; rfl)) ?_; (with_reducible refine (spec_l06Add.calls k a1 a2 a3 0 true t241 t242 _ A15.out).mono ?_); rintro e w' ⟨rfl, ⟨nd, rfl⟩⟩; refine ⟨_, rfl, ?_⟩) | ((with_reducible refine gate_callee (f := 132) rfl ?_); refine goesL_ (some 63) rfl rfl Try.func132 (by kernel_rfl) rfl #[.int .i64 a2, .int .i64 a1] rfl (by (try simp only [List.map_toArray, List.map_cons, List.map_nil]); first | done | rfl | (simp only [List.length_drop, List.length_take]; rfl)) ?_; (with_reducible refine (spec_l01Zero.calls k a2 a1 t243 _ A16.out).mono ?_); rintro e w' ⟨rfl, ⟨nd, rfl⟩⟩; refine ⟨_, rfl, ?_⟩))
      go_ret2
      exact ⟨by first | rfl | (simp; done) | (simp [*]; done), by repeat (first | exact Drawn0.refl _ | apply Drawn0.step)⟩
     ·rw [if_neg c14] at H
      have c14b0 : (a0 == 8) = false := beq_eq_false_iff_ne.mpr c14
      have c14b1 : (a0 != 8) = true := bne_iff_ne.mpr c14
      by_cases c17 : a0 = 10
      ·rw [if_pos c17] at H
       have c17b0 : (a0 == 10) = true := beq_iff_eq.mpr c17
       have c17b1 : (a0 != 10) = false := bne_eq_false_iff_eq.mpr c17
       clear c17
       replace H := Option.bind_eq_some_iff.mp H
       obtain ⟨t244, A180, H⟩ := H
       replace H : ((spec_l06Szp.f k a1 (Go.bits .and .i64 a2 a3)).bind fun t245 => (some (t244, t245))) = some (r1, r2) := H
       have A18 := Aside0.mk A180
       clear A180
       replace H := Option.bind_eq_some_iff.mp H
       obtain ⟨t245, A190, H⟩ := H
       replace H : (some (t244, t245)) = some (r1, r2) := H
       have A19 := Aside0.mk A190
       clear A190
       simp only [Option.some.injEq, Prod.mk.injEq] at H
       obtain ⟨rfl, rfl⟩ := H
       go_enter Try.func139, Try.ntmps139
       go_wp2_with (first | ((with_reducible refine gate_callee (f := 132) rfl ?_); refine goesL_ (some 69) rfl rfl Try.func132 (by kernel_rfl) rfl #[.int .i64 a2, .int .i64 a1] rfl (by (try simp only [List.map_toArray, List.map_cons, List.map_nil]); first | done | rfl | (simp only [List.length_drop, List.length_take]; rfl)) ?_; (with_reducible refine (spec_l01Zero.calls k a2 a1 t244 _ A18.out).mono ?_); rintro e w' ⟨rfl, ⟨nd, rfl⟩⟩; refine ⟨_, rfl, ?_⟩) | ((with_reducible refine gate_callee (f := 215) rfl ?_); refine goesL_ (some 74) rfl rfl Try.func215 (by kernel_rfl) rfl #[.int .i64 a1, .int .i64 (Go.bits .and .i64 a2 a3)] rfl (by (try simp only [List.map_toArray, List.map_cons, List.map_nil]); first | done | rfl | (simp only [List.length_drop, List.length_take]; rfl)) ?_; (with_reducible refine (spec_l06Szp.calls k a1 (Go.bits .and .i64 a2 a3) t245 _ A19.out).mono ?_); rintro e w' ⟨rfl, ⟨nd, rfl⟩⟩; refine ⟨_, rfl, ?_⟩))
       go_ret2
       exact ⟨by first | rfl | (simp; done) | (simp [*]; done), by repeat (first | exact Drawn0.refl _ | apply Drawn0.step)⟩
      ·rw [if_neg c17] at H
       have c17b0 : (a0 == 10) = false := beq_eq_false_iff_ne.mpr c17
       have c17b1 : (a0 != 10) = true := bne_iff_ne.mpr c17
       replace H := Option.bind_eq_some_iff.mp H
       obtain ⟨t246, A200, H⟩ := H
       replace H : ((spec_l01Zero.f k t246 a1).bind fun t247 => ((spec_l06Szp.f k a1 t246).bind fun t248 => (some (t247, t248)))) = some (r1, r2) := H
       have A20 := Aside0.mk A200
       clear A200
       replace H := Option.bind_eq_some_iff.mp H
       obtain ⟨t247, A210, H⟩ := H
       replace H : ((spec_l06Szp.f k a1 t246).bind fun t248 => (some (t247, t248))) = some (r1, r2) := H
       have A21 := Aside0.mk A210
       clear A210
       replace H := Option.bind_eq_some_iff.mp H
       obtain ⟨t248, A220, H⟩ := H
       replace H : (some (t247, t248)) = some (r1, r2) := H
       have A22 := Aside0.mk A220
       clear A220
       simp only [Option.some.injEq, Prod.mk.injEq] at H
       obtain ⟨rfl, rfl⟩ := H
       go_enter Try.func139, Try.ntmps139
       go_wp2_with (first | ((with_reducible refine gate_callee (f := 216) rfl ?_); refine goesL_ (some 78) rfl rfl Try.func216 (by kernel_rfl) rfl #[.int .i64 a0, .int .i64 a2, .int .i64 a3] rfl (by (try simp only [List.map_toArray, List.map_cons, List.map_nil]); first | done | rfl | (simp only [List.length_drop, List.length_take]; rfl)) ?_; (with_reducible refine (spec_l06Wise.calls a0 a2 a3 t246 _ A20.out).mono ?_); rintro e w' ⟨rfl, ⟨nd, rfl⟩⟩; refine ⟨_, rfl, ?_⟩) | ((with_reducible refine gate_callee (f := 132) rfl ?_); refine goesL_ (some 81) rfl rfl Try.func132 (by kernel_rfl) rfl #[.int .i64 t246, .int .i64 a1] rfl (by (try simp only [List.map_toArray, List.map_cons, List.map_nil]); first | done | rfl | (simp only [List.length_drop, List.length_take]; rfl)) ?_; (with_reducible refine (spec_l01Zero.calls k t246 a1 t247 _ A21.out).mono ?_); rintro e w' ⟨rfl, ⟨nd, rfl⟩⟩; refine ⟨_, rfl, ?_⟩) | ((with_reducible refine gate_callee (f := 215) rfl ?_); refine goesL_ (some 84) rfl rfl Try.func215 (by kernel_rfl) rfl #[.int .i64 a1, .int .i64 t246] rfl (by (try simp only [List.map_toArray, List.map_cons, List.map_nil]); first | done | rfl | (simp only [List.length_drop, List.length_take]; rfl)) ?_; (with_reducible refine (spec_l06Szp.calls k a1 t246 t248 _ A22.out).mono ?_); rintro e w' ⟨rfl, ⟨nd, rfl⟩⟩; refine ⟨_, rfl, ?_⟩))
       go_ret2
       exact ⟨by first | rfl | (simp; done) | (simp [*]; done), by repeat (first | exact Drawn0.refl _ | apply Drawn0.step)⟩

/-! ### spec_l06Flags: function 140 -/
def spec_l06Flags.f (a0 : Int) : Option (Bool) := if a0 ≥ 0 then (some ((Go.bits .and .i64 a0 2245) == a0)) else (some false)
set_option maxHeartbeats 8000000 in
set_option maxRecDepth 100000 in
theorem spec_l06Flags.calls (a0 : Int) (r : Bool) (w : World) (h : spec_l06Flags.f a0 = some r) :
  Calls Try.prog 140 #[.int .i64 a0] w fun e w' => e = .returned (.bool r) ∧ Drawn0 w w' := by
 have H : (if a0 ≥ 0 then (some ((Go.bits .and .i64 a0 2245) == a0)) else (some false)) = some r := h
 clear h
 by_cases c2 : a0 ≥ 0
 ·rw [if_pos c2] at H
  have c2b0 : decide (0 ≤ a0) = true := decide_eq_true c2
  clear c2
  obtain rfl := Option.some.inj H
  go_enter Try.func140, Try.ntmps140
  go_wp2
  go_ret
  exact ⟨by first | rfl | (simp; done) | (simp [*]; done), by repeat (first | exact Drawn0.refl _ | apply Drawn0.step)⟩
 ·rw [if_neg c2] at H
  have c2b0 : decide (0 ≤ a0) = false := decide_eq_false c2
  clear c2
  obtain rfl := Option.some.inj H
  go_enter Try.func140, Try.ntmps140
  go_wp2
  go_ret
  exact ⟨by first | rfl | (simp; done) | (simp [*]; done), by repeat (first | exact Drawn0.refl _ | apply Drawn0.step)⟩

end Go.Proofs.Ytigoabhkdipdeaa.PFnAdd

/- Laid by a program of this session (patch_print.py) out of the translation: plain functions and what the calls do. No condition. -/
import Derived.Test.YtonogadabgilfaaPFnExactBaseAddOfx0
namespace Go.Proofs.Ytonogadabgilfaa.PFnExactBaseAddOf
open Go.RowKit Go.Proofs.YtonogadabgilfaaW.PrintWords Go.Proofs.YtonogadabgilfaaW.PrintLast Go.Proofs.YtonogadabgilfaaW.PrintMore
attribute [local go_sem] max2_int min2_int max_two min_two max_three min_three max_four min_four   -- for this text's walks alone
set_option linter.unusedVariables false
set_option linter.unusedSimpArgs false

/-! ### spec_l01In: function 56 -/
def spec_l01In.f (a0 : Int) (a1 : Int) (a2 : Int) : Option (Bool) := if a0 ≥ a1 then (some (decide (a0 ≤ a2))) else (some false)
set_option maxHeartbeats 8000000 in
set_option maxRecDepth 100000 in
theorem spec_l01In.calls (a0 : Int) (a1 : Int) (a2 : Int) (r : Bool) (w : World) (h : spec_l01In.f a0 a1 a2 = some r) :
  Calls Try.prog 56 #[.int .i64 a0, .int .i64 a1, .int .i64 a2] w fun e w' => e = .returned (.bool r) ∧ Drawn0 w w' := by
 have H : (if a0 ≥ a1 then (some (decide (a0 ≤ a2))) else (some false)) = some r := h
 clear h
 by_cases c4 : a0 ≥ a1
 ·rw [if_pos c4] at H
  have c4b0 : decide (a1 ≤ a0) = true := decide_eq_true c4
  clear c4
  obtain rfl := Option.some.inj H
  go_enter Try.func56, Try.ntmps56
  go_wp2
  go_ret
  exact ⟨by first | rfl | (simp; done) | (simp [*]; done), by repeat (first | exact Drawn0.refl _ | apply Drawn0.step)⟩
 ·rw [if_neg c4] at H
  have c4b0 : decide (a1 ≤ a0) = false := decide_eq_false c4
  clear c4
  obtain rfl := Option.some.inj H
  go_enter Try.func56, Try.ntmps56
  go_wp2
  go_ret
  exact ⟨by first | rfl | (simp; done) | (simp [*]; done), by repeat (first | exact Drawn0.refl _ | apply Drawn0.step)⟩

/-! ### spec_l03Op: function 95 -/
def spec_l03Op.f (a0 : Int) : Option (Bool) := (spec_l01In.f a0 1 44).bind fun t101 => (some t101)
set_option maxHeartbeats 8000000 in
set_option maxRecDepth 100000 in
theorem spec_l03Op.calls (a0 : Int) (r : Bool) (w : World) (h : spec_l03Op.f a0 = some r) :
  Calls Try.prog 95 #[.int .i64 a0] w fun e w' => e = .returned (.bool r) ∧ Drawn0 w w' := by
 have H : ((spec_l01In.f a0 1 44).bind fun t101 => (some t101)) = some r := h
 clear h
 replace H := Option.bind_eq_some_iff.mp H
 obtain ⟨t101, A20, H⟩ := H
 replace H : (some t101) = some r := H
 have A2 := Aside0.mk A20
 clear A20
 obtain rfl := Option.some.inj H
 go_enter Try.func95, Try.ntmps95
 go_wp2_with (first | ((with_reducible refine gate_callee (f := 56) rfl ?_); refine goesL_ (some 4) rfl rfl Try.func56 by4 rfl #[.int .i64 a0, .int .i64 1, .int .i64 44] rfl by1 ?_; (with_reducible refine (spec_l01In.calls a0 1 44 t101 _ A2.out).mono ?_); rintro e w' ⟨rfl, ⟨nd, rfl⟩⟩; refine ⟨_, rfl, ?_⟩))
 go_ret
 exact ⟨by first | rfl | (simp; done) | (simp [*]; done), by repeat (first | exact Drawn0.refl _ | apply Drawn0.step)⟩

/-! ### spec_l01Bit: function 183 -/
def spec_l01Bit.f (a0 : Int) (a1 : Int) : Option (Int) := if 0 ≤ (IntKind.u64.wrap (a1)) then (if (Int.tmod (shr .u64 (IntKind.u64.wrap (a0)) (IntKind.u64.wrap (a1))) 2) = 1 then (some 1) else (some 0)) else (none)
theorem spec_l01Bit.e0 {p : Prop} (h : p := by
 obtain rfl := Option.some.inj H
 go_enter Try.func183, Try.ntmps183
 go_wp2
 go_ret
 exact ⟨by first | rfl | (simp; done) | (simp only [← hji3, ← hji5] <;> (first | rfl | simp)) | (simp [*]; done), by repeat (first | exact Drawn0.refl _ | apply Drawn0.step)⟩) : p := h
set_option maxHeartbeats 8000000 in
set_option maxRecDepth 100000 in
theorem spec_l01Bit.calls (a0 : Int) (a1 : Int) (r : Int) (w : World) (h : spec_l01Bit.f a0 a1 = some r) :
  Calls Try.prog 183 #[.int .i64 a0, .int .i64 a1] w fun e w' => e = .returned (.int .i64 r) ∧ Drawn0 w w' := by
 have H : (if 0 ≤ (IntKind.u64.wrap (a1)) then (if (Int.tmod (shr .u64 (IntKind.u64.wrap (a0)) (IntKind.u64.wrap (a1))) 2) = 1 then (some 1) else (some 0)) else (none)) = some r := h
 clear h
 obtain ⟨ji3, hji3⟩ : ∃ j_ : Int, (IntKind.u64.wrap (a1)) = j_ := ⟨_, rfl⟩
 replace H : (if 0 ≤ (ji3) then (if (Int.tmod (shr .u64 (IntKind.u64.wrap (a0)) (ji3)) 2) = 1 then (some 1) else (some 0)) else (none)) = some r := by first | (rw [hji3] at H; exact H) | (simp only [hji3] at H ⊢; exact H)
 by_cases c4 : 0 ≤ (ji3)
 ·rw [if_pos c4] at H
  have c4b0 := eq_true c4
  have c4b1 : decide (0 ≤ (ji3)) = true := decide_eq_true c4
  clear c4
  obtain ⟨ji5, hji5⟩ : ∃ j_ : Int, (shr .u64 (IntKind.u64.wrap (a0)) (ji3)) = j_ := ⟨_, rfl⟩
  replace H : (if (Int.tmod (ji5) 2) = 1 then (some 1) else (some 0)) = some r := by first | (rw [hji5] at H; exact H) | (simp only [hji5] at H ⊢; exact H)
  have hji5_ : ((IntKind.u64.wrap (a0)) / 2 ^ min (ji3).toNat 64) = ji5 := hji5
  have hji5z : (ji3) ≤ 64 → ((IntKind.u64.wrap (a0)) / 2 ^ (ji3).toNat) = ji5 := shr_small hji5
  by_cases c6 : (Int.tmod (ji5) 2) = 1
  ·rw [if_pos c6] at H
   have c6b0 : ((Int.tmod (ji5) 2) == 1) = true := beq_iff_eq.mpr c6
   have c6b1 : ((Int.tmod (ji5) 2) != 1) = false := bne_eq_false_iff_eq.mpr c6
   clear c6
   exact spec_l01Bit.e0
  ·rw [if_neg c6] at H
   have c6b0 : ((Int.tmod (ji5) 2) == 1) = false := beq_eq_false_iff_ne.mpr c6
   have c6b1 : ((Int.tmod (ji5) 2) != 1) = true := bne_iff_ne.mpr c6
   exact spec_l01Bit.e0
 ·rw [if_neg c4] at H
  exact absurd H (by simp)

/-! ### spec_l01Sign: function 160 -/
def spec_l01Sign.l0 : Nat → Int → Int → Int → Int → Option (Int)
 | 0, _, _, _, _ => none
 | k + 1, x0, x1, x5, x6 => if x6 ≥ 0 then ((spec_l01Bit.f x0 (mn x6 (wrap64 ((wrap64 (8 * x1)) - 1)))).bind fun t102 => (spec_l01Sign.l0 k x0 x1 (IntKind.u64.wrap ((IntKind.u64.wrap (2 * x5)) + (IntKind.u64.wrap (t102)))) (wrap64 (x6 - 1)))) else (some (wrap64 (x5)))
def spec_l01Sign.f (k : Nat) (a0 : Int) (a1 : Int) : Option (Int) := spec_l01Sign.l0 k a0 a1 0 63
theorem spec_l01Sign.mono_l : ∀ k, (∀ y0 y1 y2 y3, LeO (spec_l01Sign.l0 k y0 y1 y2 y3) (spec_l01Sign.l0 (k + 1) y0 y1 y2 y3))
 | 0 => fun _ _ _ _ r h => by simp [spec_l01Sign.l0] at h
 | k + 1 => by
  have ih0 := spec_l01Sign.mono_l k
  ·intro y0 y1 y2 y3
   unfold spec_l01Sign.l0
   repeat' first
   | (with_reducible exact ih0 _ _ _ _)
   | (with_reducible exact LeO.refl _)
   | (with_reducible exact LeO.none _)
   | (with_reducible refine LeO.ite ?_ ?_)
   | (with_reducible refine LeO.bind ?_ (fun _ => ?_))
   | refine LeO.ite ?_ ?_
   | refine LeO.bind ?_ (fun _ => ?_)
theorem spec_l01Sign.mono : ∀ a0 a1 k, LeO (spec_l01Sign.f k a0 a1) (spec_l01Sign.f (k + 1) a0 a1) := by
 intro a0 a1 k
 have ih0 := spec_l01Sign.mono_l k
 unfold spec_l01Sign.f
 repeat' first
   | (with_reducible exact ih0 _ _ _ _)
   | (with_reducible exact LeO.refl _)
   | (with_reducible exact LeO.none _)
   | (with_reducible refine LeO.ite ?_ ?_)
   | (with_reducible refine LeO.bind ?_ (fun _ => ?_))
   | refine LeO.ite ?_ ?_
   | refine LeO.bind ?_ (fun _ => ?_)
set_option maxHeartbeats 8000000 in
set_option maxRecDepth 100000 in
theorem spec_l01Sign.calls (k : Nat) (a0 : Int) (a1 : Int) (r : Int) (w : World) (h : spec_l01Sign.f k a0 a1 = some r) :
  Calls Try.prog 160 #[.int .i64 a0, .int .i64 a1] w fun e w' => e = .returned (.int .i64 r) ∧ Below w.heap.size w w' := by
 have HB := Aside0.mk (Below.refl w.heap.size w)
 have H : (spec_l01Sign.l0 k a0 a1 0 63) = some r := h
 clear h
 have H' := Aside0.mk H
 clear H
 go_enter Try.func160, Try.ntmps160
 go_wp2
 go_loopg [5, 6] k (fun kq v5 v6 w' => ∃ (x5_1 : Int) (x6_1 : Int), v5 = .int .u64 x5_1 ∧ v6 = .int .i64 x6_1 ∧ Aside0 (spec_l01Sign.l0 kq a0 a1 x5_1 x6_1 = some r) ∧ Aside0 (kq ≤ k) ∧ Aside0 (Below w.heap.size w w'))
 case atStart => exact ⟨(0), (63), by8, by8, H', ⟨Nat.le_refl _⟩, ⟨by repeat (first | (with_reducible first | exact HB.out | apply below_alloc | apply pw_below_drewN | apply below_drew1) | exact HB.out)⟩⟩
 case round =>
  clear H'
  obtain ⟨x5_1, x6_1, rfl, rfl, HA, HK1, HB⟩ := hrel
  cases gk with
  | zero => exact absurd HA.out (by simp [spec_l01Sign.l0])
  | succ k1 =>
   have H := HA.out
   clear HA
   simp only [spec_l01Sign.l0] at H
   by_cases c3 : x6_1 ≥ 0
   ·rw [if_pos c3] at H
    have c3b0 : decide (0 ≤ x6_1) = true := decide_eq_true c3
    clear c3
    obtain ⟨ji4, hji4⟩ : ∃ j_ : Int, (mn x6_1 (wrap64 ((wrap64 (8 * a1)) - 1))) = j_ := ⟨_, rfl⟩
    replace H : ((spec_l01Bit.f a0 (ji4)).bind fun t102 => (spec_l01Sign.l0 k1 a0 a1 (IntKind.u64.wrap ((IntKind.u64.wrap (2 * x5_1)) + (IntKind.u64.wrap (t102)))) (wrap64 (x6_1 - 1)))) = some r := by first | (rw [hji4] at H; exact H) | (simp only [hji4] at H ⊢; exact H)
    have hji4_ : (if (wrap64 ((wrap64 (8 * a1)) - 1)) < x6_1 then (wrap64 ((wrap64 (8 * a1)) - 1)) else x6_1) = ji4 := hji4
    replace H := Option.bind_eq_some_iff.mp H
    obtain ⟨t102, A50, H⟩ := H
    replace H : (spec_l01Sign.l0 k1 a0 a1 (IntKind.u64.wrap ((IntKind.u64.wrap (2 * x5_1)) + (IntKind.u64.wrap (t102)))) (wrap64 (x6_1 - 1))) = some r := H
    have A5 := Aside0.mk A50
    clear A50
    have H' := Aside0.mk H
    clear H
    go_wp2_with (first | ((with_reducible refine gate_callee (f := 183) rfl ?_); refine goesL_ (some 19) rfl rfl Try.func183 by4 rfl #[.int .i64 a0, .int .i64 ji4] rfl (by (try simp only [List.map_toArray, List.map_cons, List.map_nil]); first | done | (simp only [hji4]; rfl) | rfl | (simp only [List.length_drop, List.length_take]; rfl)) ?_; (with_reducible refine (spec_l01Bit.calls a0 ji4 t102 _ A5.out).mono ?_); rintro e w' ⟨rfl, ⟨nd, rfl⟩⟩; refine ⟨_, rfl, ?_⟩))
    go_roundg k1
    case measure => have := HK1.out; omega
    case rel => exact ⟨(IntKind.u64.wrap ((IntKind.u64.wrap (2 * x5_1)) + (IntKind.u64.wrap (t102)))), (wrap64 (x6_1 - 1)), by8, by8, H', ⟨by have := HK1.out; omega⟩, ⟨by repeat (first | (with_reducible first | exact HB.out | apply below_alloc | apply pw_below_drewN | apply below_drew1) | exact HB.out)⟩⟩
   ·rw [if_neg c3] at H
    have c3b0 : decide (0 ≤ x6_1) = false := decide_eq_false c3
    clear c3
    obtain rfl := Option.some.inj H
    go_wp2
    go_ret
    exact ⟨by first | rfl | (simp [errW_none, errW_some] <;> rfl) | (simp [*, errW_none, errW_some] <;> rfl), by repeat (first | (with_reducible first | exact HB.out | apply below_alloc | apply pw_below_drewN | apply below_drew1) | exact HB.out)⟩

/-! ### spec_l05Fits: function 110 -/
def spec_l05Fits.f (k : Nat) (a0 : Int) (a1 : Int) : Option (Bool) := (spec_l01Sign.f k a0 (mn a1 4)).bind fun t103 => (some (t103 == a0))
theorem spec_l05Fits.mono : ∀ a0 a1 k, LeO (spec_l05Fits.f k a0 a1) (spec_l05Fits.f (k + 1) a0 a1) := by
 intro a0 a1 k
 unfold spec_l05Fits.f
 repeat' first
   | (with_reducible exact spec_l01Sign.mono _ _ _)
   | (with_reducible exact LeO.refl _)
   | (with_reducible exact LeO.none _)
   | (with_reducible refine LeO.ite ?_ ?_)
   | (with_reducible refine LeO.bind ?_ (fun _ => ?_))
   | refine LeO.ite ?_ ?_
   | refine LeO.bind ?_ (fun _ => ?_)
set_option maxHeartbeats 8000000 in
set_option maxRecDepth 100000 in
theorem spec_l05Fits.calls (k : Nat) (a0 : Int) (a1 : Int) (r : Bool) (w : World) (h : spec_l05Fits.f k a0 a1 = some r) :
  Calls Try.prog 110 #[.int .i64 a0, .int .i64 a1] w fun e w' => e = .returned (.bool r) ∧ Below w.heap.size w w' := by
 have HB := Aside0.mk (Below.refl w.heap.size w)
 have H : ((spec_l01Sign.f k a0 (mn a1 4)).bind fun t103 => (some (t103 == a0))) = some r := h
 clear h
 obtain ⟨ji3, hji3⟩ : ∃ j_ : Int, (mn a1 4) = j_ := ⟨_, rfl⟩
 replace H : ((spec_l01Sign.f k a0 (ji3)).bind fun t103 => (some (t103 == a0))) = some r := by first | (rw [hji3] at H; exact H) | (simp only [hji3] at H ⊢; exact H)
 (try (have hji3h : ji3 ≤ 4 := by (rw [← hji3]; unfold mn; (repeat' split) <;> omega)))
 (try (have hji3g : ji3 ≤ 64 := by omega))
 have hji3_ : (if 4 < a1 then 4 else a1) = ji3 := hji3
 replace H := Option.bind_eq_some_iff.mp H
 obtain ⟨t103, A40, H⟩ := H
 replace H : (some (t103 == a0)) = some r := H
 have A4 := Aside0.mk A40
 clear A40
 obtain rfl := Option.some.inj H
 go_enter Try.func110, Try.ntmps110
 go_wp2_with (first | ((with_reducible refine gate_callee (f := 160) rfl ?_); refine goesL_ (some 8) rfl rfl Try.func160 by4 rfl #[.int .i64 a0, .int .i64 ji3] rfl (by (try simp only [List.map_toArray, List.map_cons, List.map_nil]); first | done | (simp only [hji3]; rfl) | rfl | (simp only [List.length_drop, List.length_take]; rfl)) ?_; (with_reducible refine (spec_l01Sign.calls k a0 ji3 t103 _ A4.out).mono ?_); rintro e w5 ⟨rfl, hb⟩; refine ⟨_, rfl, ?_⟩; have n0_ := Aside0.mk (below_step by0 hb); clear HB; have HB := n0_; clear n0_; (try clear hb); (try clear hb2); (try clear hk); (try clear hi)))
 go_ret
 exact ⟨by first | rfl | (simp [errW_none, errW_some] <;> rfl) | (simp only [← hji3]; first | rfl | (simp [errW_none, errW_some] <;> rfl)) | (simp [*, errW_none, errW_some] <;> rfl), by repeat (first | (with_reducible first | exact HB.out | apply below_alloc | apply pw_below_drewN | apply below_drew1) | exact HB.out)⟩

/-! ### spec_l01Size: function 152 -/
def spec_l01Size.f (a0 : Int) : Option (Bool) := if a0 = 1 then (some true) else (if a0 = 2 then (some true) else (if a0 = 4 then (some true) else (some (a0 == 8))))
set_option maxHeartbeats 8000000 in
set_option maxRecDepth 100000 in
theorem spec_l01Size.calls (a0 : Int) (r : Bool) (w : World) (h : spec_l01Size.f a0 = some r) :
  Calls Try.prog 152 #[.int .i64 a0] w fun e w' => e = .returned (.bool r) ∧ Drawn0 w w' := by
 have H : (if a0 = 1 then (some true) else (if a0 = 2 then (some true) else (if a0 = 4 then (some true) else (some (a0 == 8))))) = some r := h
 clear h
 by_cases c2 : a0 = 1
 ·rw [if_pos c2] at H
  have c2b0 : (a0 == 1) = true := beq_iff_eq.mpr c2
  have c2b1 : (a0 != 1) = false := bne_eq_false_iff_eq.mpr c2
  clear c2
  obtain rfl := Option.some.inj H
  go_enter Try.func152, Try.ntmps152
  go_wp2
  go_ret
  exact ⟨by first | rfl | (simp; done) | (simp [*]; done), by repeat (first | exact Drawn0.refl _ | apply Drawn0.step)⟩
 ·rw [if_neg c2] at H
  have c2b0 : (a0 == 1) = false := beq_eq_false_iff_ne.mpr c2
  have c2b1 : (a0 != 1) = true := bne_iff_ne.mpr c2
  by_cases c3 : a0 = 2
  ·rw [if_pos c3] at H
   have c3b0 : (a0 == 2) = true := beq_iff_eq.mpr c3
   have c3b1 : (a0 != 2) = false := bne_eq_false_iff_eq.mpr c3
   clear c3
   obtain rfl := Option.some.inj H
   go_enter Try.func152, Try.ntmps152
   go_wp2
   go_ret
   exact ⟨by first | rfl | (simp; done) | (simp [*]; done), by repeat (first | exact Drawn0.refl _ | apply Drawn0.step)⟩
  ·rw [if_neg c3] at H
   have c3b0 : (a0 == 2) = false := beq_eq_false_iff_ne.mpr c3
   have c3b1 : (a0 != 2) = true := bne_iff_ne.mpr c3
   by_cases c4 : a0 = 4
   ·rw [if_pos c4] at H
    have c4b0 : (a0 == 4) = true := beq_iff_eq.mpr c4
    have c4b1 : (a0 != 4) = false := bne_eq_false_iff_eq.mpr c4
    clear c4
    obtain rfl := Option.some.inj H
    go_enter Try.func152, Try.ntmps152
    go_wp2
    go_ret
    exact ⟨by first | rfl | (simp; done) | (simp [*]; done), by repeat (first | exact Drawn0.refl _ | apply Drawn0.step)⟩
   ·rw [if_neg c4] at H
    have c4b0 : (a0 == 4) = false := beq_eq_false_iff_ne.mpr c4
    have c4b1 : (a0 != 4) = true := bne_iff_ne.mpr c4
    obtain rfl := Option.some.inj H
    go_enter Try.func152, Try.ntmps152
    go_wp2
    go_ret
    exact ⟨by first | rfl | (simp; done) | (simp [*]; done), by repeat (first | exact Drawn0.refl _ | apply Drawn0.step)⟩

/-! ### spec_l05Has: function 219 -/
def spec_l05Has.l0 : Nat → ByteArray → Int → Int → Option (Bool)
 | 0, _, _, _ => none
 | k + 1, x0, x1, x5 => if x5 < (x0.size : Int) then (if 0 ≤ x5 then (if (bt x0 x5) = x1 then (some true) else (spec_l05Has.l0 k x0 x1 (wrap64 (x5 + 1)))) else (none)) else (some false)
def spec_l05Has.f (k : Nat) (a0 : ByteArray) (a1 : Int) : Option (Bool) := spec_l05Has.l0 k a0 a1 0
theorem spec_l05Has.mono_l : ∀ k, (∀ y0 y1 y2, LeO (spec_l05Has.l0 k y0 y1 y2) (spec_l05Has.l0 (k + 1) y0 y1 y2))
 | 0 => fun _ _ _ r h => by simp [spec_l05Has.l0] at h
 | k + 1 => by
  have ih0 := spec_l05Has.mono_l k
  ·intro y0 y1 y2
   unfold spec_l05Has.l0
   repeat' first
   | (with_reducible exact ih0 _ _ _)
   | (with_reducible exact LeO.refl _)
   | (with_reducible exact LeO.none _)
   | (with_reducible refine LeO.ite ?_ ?_)
   | (with_reducible refine LeO.bind ?_ (fun _ => ?_))
   | refine LeO.ite ?_ ?_
   | refine LeO.bind ?_ (fun _ => ?_)
theorem spec_l05Has.mono : ∀ a0 a1 k, LeO (spec_l05Has.f k a0 a1) (spec_l05Has.f (k + 1) a0 a1) := by
 intro a0 a1 k
 have ih0 := spec_l05Has.mono_l k
 unfold spec_l05Has.f
 repeat' first
   | (with_reducible exact ih0 _ _ _)
   | (with_reducible exact LeO.refl _)
   | (with_reducible exact LeO.none _)
   | (with_reducible refine LeO.ite ?_ ?_)
   | (with_reducible refine LeO.bind ?_ (fun _ => ?_))
   | refine LeO.ite ?_ ?_
   | refine LeO.bind ?_ (fun _ => ?_)
set_option maxHeartbeats 8000000 in
set_option maxRecDepth 100000 in
theorem spec_l05Has.calls (k : Nat) (a0 : ByteArray) (a1 : Int) (r : Bool) (w : World) (h : spec_l05Has.f k a0 a1 = some r) :
  Calls Try.prog 219 #[.string a0, .int .u8 a1] w fun e w' => e = .returned (.bool r) ∧ Drawn0 w w' := by
 have H : (spec_l05Has.l0 k a0 a1 0) = some r := h
 clear h
 have H' := Aside0.mk H
 clear H
 go_enter Try.func219, Try.ntmps219
 go_wp2
 go_loopg [5] k (fun kq v5 w' => ∃ (x5_1 : Int), v5 = .int .i64 x5_1 ∧ Aside0 (spec_l05Has.l0 kq a0 a1 x5_1 = some r) ∧ Aside0 (kq ≤ k) ∧ Drawn0 w w')
 case atStart => exact ⟨(0), by8, H', ⟨Nat.le_refl _⟩, by repeat (first | exact Drawn0.refl _ | apply Drawn0.step)⟩
 case round =>
  clear H'
  (try clear c2)
  obtain ⟨x5_1, rfl, HA, HK1, ⟨m1, rfl⟩⟩ := hrel
  cases gk with
  | zero => exact absurd HA.out (by simp [spec_l05Has.l0])
  | succ k1 =>
   have H := HA.out
   clear HA
   simp only [spec_l05Has.l0] at H
   by_cases c3 : x5_1 < (a0.size : Int)
   ·rw [if_pos c3] at H
    have c3b0 : decide (x5_1 < (a0.size : Int)) = true := decide_eq_true c3
    clear c3
    by_cases c4 : 0 ≤ x5_1
    ·rw [if_pos c4] at H
     have c4b0 : decide (0 ≤ x5_1) = true := decide_eq_true c4
     clear c4
     by_cases c6 : (bt a0 x5_1) = a1
     ·rw [if_pos c6] at H
      have c6b0 : ((bt a0 x5_1) == a1) = true := beq_iff_eq.mpr c6
      have c6b1 : ((bt a0 x5_1) != a1) = false := bne_eq_false_iff_eq.mpr c6
      clear c6
      obtain rfl := Option.some.inj H
      have p5 : 0 ≤ (x5_1 : Int) := of_decide_eq_true by47
      have q5 : x5_1 < (a0.size : Int) := of_decide_eq_true by47
      have hx5 := bt_at a0 x5_1
      replace p5 := eq_true p5
      replace q5 := eq_true q5
      go_wp2
      go_ret
      exact ⟨by first | rfl | (simp; done) | (simp [*]; done), by repeat (first | exact Drawn0.refl _ | apply Drawn0.step)⟩
     ·rw [if_neg c6] at H
      have c6b0 : ((bt a0 x5_1) == a1) = false := beq_eq_false_iff_ne.mpr c6
      have c6b1 : ((bt a0 x5_1) != a1) = true := bne_iff_ne.mpr c6
      have H' := Aside0.mk H
      clear H
      have p5 : 0 ≤ (x5_1 : Int) := of_decide_eq_true by47
      have q5 : x5_1 < (a0.size : Int) := of_decide_eq_true by47
      have hx5 := bt_at a0 x5_1
      replace p5 := eq_true p5
      replace q5 := eq_true q5
      go_wp2
      go_roundg k1
      case measure => have := HK1.out; omega
      case rel => exact ⟨(wrap64 (x5_1 + 1)), by8, H', ⟨by have := HK1.out; omega⟩, by repeat (first | exact Drawn0.refl _ | apply Drawn0.step)⟩
    ·rw [if_neg c4] at H
     exact absurd H (by simp)
   ·rw [if_neg c3] at H
    have c3b0 : decide (x5_1 < (a0.size : Int)) = false := decide_eq_false c3
    clear c3
    obtain rfl := Option.some.inj H
    go_wp2
    go_ret
    exact ⟨by first | rfl | (simp; done) | (simp [*]; done), by repeat (first | exact Drawn0.refl _ | apply Drawn0.step)⟩

/-! ### spec_l05Kind: function 203 -/
def spec_l05Kind.f (k : Nat) (a0_0 : Int) (a0_1 : Int) (a0_2 : Int) (a0_3 : Int) (a0_4 : Int) (a0_5 : Int) (a0_6 : Int) (a1 : ByteArray) : Option (Bool) := if a0_0 = 1 then ((spec_l05Has.f k a1 114).bind fun t105 => (if t105 = true then (some true) else (if a0_0 = 2 then ((spec_l05Has.f k a1 109).bind fun t106 => (if t106 = true then (some true) else (if a0_0 = 3 then ((spec_l05Has.f k a1 105).bind fun t107 => (if t107 = true then (some true) else (if a0_0 = 0 then ((spec_l05Has.f k a1 48).bind fun t108 => (some t108)) else (some false)))) else (if a0_0 = 0 then ((spec_l05Has.f k a1 48).bind fun t109 => (some t109)) else (some false))))) else (if a0_0 = 3 then ((spec_l05Has.f k a1 105).bind fun t110 => (if t110 = true then (some true) else (if a0_0 = 0 then ((spec_l05Has.f k a1 48).bind fun t111 => (some t111)) else (some false)))) else (if a0_0 = 0 then ((spec_l05Has.f k a1 48).bind fun t112 => (some t112)) else (some false)))))) else (if a0_0 = 2 then ((spec_l05Has.f k a1 109).bind fun t113 => (if t113 = true then (some true) else (if a0_0 = 3 then ((spec_l05Has.f k a1 105).bind fun t114 => (if t114 = true then (some true) else (if a0_0 = 0 then ((spec_l05Has.f k a1 48).bind fun t115 => (some t115)) else (some false)))) else (if a0_0 = 0 then ((spec_l05Has.f k a1 48).bind fun t116 => (some t116)) else (some false))))) else (if a0_0 = 3 then ((spec_l05Has.f k a1 105).bind fun t117 => (if t117 = true then (some true) else (if a0_0 = 0 then ((spec_l05Has.f k a1 48).bind fun t118 => (some t118)) else (some false)))) else (if a0_0 = 0 then ((spec_l05Has.f k a1 48).bind fun t119 => (some t119)) else (some false))))
theorem spec_l05Kind.mono : ∀ a0 a1 a2 a3 a4 a5 a6 a7 k, LeO (spec_l05Kind.f k a0 a1 a2 a3 a4 a5 a6 a7) (spec_l05Kind.f (k + 1) a0 a1 a2 a3 a4 a5 a6 a7) := by
 intro a0 a1 a2 a3 a4 a5 a6 a7 k
 unfold spec_l05Kind.f
 repeat' first
   | (with_reducible exact spec_l05Has.mono _ _ _)
   | (with_reducible exact LeO.refl _)
   | (with_reducible exact LeO.none _)
   | (with_reducible refine LeO.ite ?_ ?_)
   | (with_reducible refine LeO.bind ?_ (fun _ => ?_))
   | refine LeO.ite ?_ ?_
   | refine LeO.bind ?_ (fun _ => ?_)
set_option maxHeartbeats 8000000 in
set_option maxRecDepth 100000 in
theorem spec_l05Kind.calls (k : Nat) (a0_0 : Int) (a0_1 : Int) (a0_2 : Int) (a0_3 : Int) (a0_4 : Int) (a0_5 : Int) (a0_6 : Int) (a1 : ByteArray) (r : Bool) (w : World) (h : spec_l05Kind.f k a0_0 a0_1 a0_2 a0_3 a0_4 a0_5 a0_6 a1 = some r) :
  Calls Try.prog 203 #[.agg #[.int .i64 a0_0, .int .i64 a0_1, .int .i64 a0_2, .int .i64 a0_3, .int .i64 a0_4, .int .i64 a0_5, .int .i64 a0_6], .string a1] w fun e w' => e = .returned (.bool r) ∧ Below w.heap.size w w' := by
 have hu28 := Try.underlying28
 have HB := Aside0.mk (Below.refl w.heap.size w)
 have H : (if a0_0 = 1 then ((spec_l05Has.f k a1 114).bind fun t105 => (if t105 = true then (some true) else (if a0_0 = 2 then ((spec_l05Has.f k a1 109).bind fun t106 => (if t106 = true then (some true) else (if a0_0 = 3 then ((spec_l05Has.f k a1 105).bind fun t107 => (if t107 = true then (some true) else (if a0_0 = 0 then ((spec_l05Has.f k a1 48).bind fun t108 => (some t108)) else (some false)))) else (if a0_0 = 0 then ((spec_l05Has.f k a1 48).bind fun t109 => (some t109)) else (some false))))) else (if a0_0 = 3 then ((spec_l05Has.f k a1 105).bind fun t110 => (if t110 = true then (some true) else (if a0_0 = 0 then ((spec_l05Has.f k a1 48).bind fun t111 => (some t111)) else (some false)))) else (if a0_0 = 0 then ((spec_l05Has.f k a1 48).bind fun t112 => (some t112)) else (some false)))))) else (if a0_0 = 2 then ((spec_l05Has.f k a1 109).bind fun t113 => (if t113 = true then (some true) else (if a0_0 = 3 then ((spec_l05Has.f k a1 105).bind fun t114 => (if t114 = true then (some true) else (if a0_0 = 0 then ((spec_l05Has.f k a1 48).bind fun t115 => (some t115)) else (some false)))) else (if a0_0 = 0 then ((spec_l05Has.f k a1 48).bind fun t116 => (some t116)) else (some false))))) else (if a0_0 = 3 then ((spec_l05Has.f k a1 105).bind fun t117 => (if t117 = true then (some true) else (if a0_0 = 0 then ((spec_l05Has.f k a1 48).bind fun t118 => (some t118)) else (some false)))) else (if a0_0 = 0 then ((spec_l05Has.f k a1 48).bind fun t119 => (some t119)) else (some false))))) = some r := h
 clear h
 by_cases c3 : a0_0 = 1
 ·rw [if_pos c3] at H
  have c3b0 : (a0_0 == 1) = true := beq_iff_eq.mpr c3
  have c3b1 : (a0_0 != 1) = false := bne_eq_false_iff_eq.mpr c3
  clear c3
  replace H := Option.bind_eq_some_iff.mp H
  obtain ⟨t105, A40, H⟩ := H
  replace H : (if t105 = true then (some true) else (if a0_0 = 2 then ((spec_l05Has.f k a1 109).bind fun t106 => (if t106 = true then (some true) else (if a0_0 = 3 then ((spec_l05Has.f k a1 105).bind fun t107 => (if t107 = true then (some true) else (if a0_0 = 0 then ((spec_l05Has.f k a1 48).bind fun t108 => (some t108)) else (some false)))) else (if a0_0 = 0 then ((spec_l05Has.f k a1 48).bind fun t109 => (some t109)) else (some false))))) else (if a0_0 = 3 then ((spec_l05Has.f k a1 105).bind fun t110 => (if t110 = true then (some true) else (if a0_0 = 0 then ((spec_l05Has.f k a1 48).bind fun t111 => (some t111)) else (some false)))) else (if a0_0 = 0 then ((spec_l05Has.f k a1 48).bind fun t112 => (some t112)) else (some false))))) = some r := H
  have A4 := Aside0.mk A40
  clear A40
  by_cases c5 : t105 = true
  ·subst c5
   have H1 : (some true) = some r := by rw [if_pos rfl] at H; exact H
   clear H
   have H := H1
   clear H1
   obtain rfl := Option.some.inj H
   go_enter Try.func203, Try.ntmps203
   go_wp2_with (first | ((with_reducible refine gate_dst (N := 2) rfl ?_); refine bx28 (w := w) (N := 2) rfl rfl rfl rfl by0 ?_; intro gb104 w6 n0_ BK104 GW104 GE104; clear HB; have HB := n0_; clear n0_; have hcz7_0 := cz BK104.out 0 (.int .i64 a0_0)) | (go_at_call 219; (with_reducible refine (spec_l05Has.calls k a1 114 true _ A4.out).mono ?_); rintro e w' ⟨rfl, ⟨nd, rfl⟩⟩))
   go_ret
   exact ⟨by first | rfl | (simp [errW_none, errW_some] <;> rfl) | (simp [*, errW_none, errW_some] <;> rfl), by repeat (first | (with_reducible first | exact HB.out | apply below_alloc | apply pw_below_drewN | apply below_drew1 | refine below_set ?_ GE104.out) | exact HB.out)⟩
  ·replace c5 := Bool.eq_false_iff.mpr c5
   subst c5
   have H1 : (if a0_0 = 2 then ((spec_l05Has.f k a1 109).bind fun t106 => (if t106 = true then (some true) else (if a0_0 = 3 then ((spec_l05Has.f k a1 105).bind fun t107 => (if t107 = true then (some true) else (if a0_0 = 0 then ((spec_l05Has.f k a1 48).bind fun t108 => (some t108)) else (some false)))) else (if a0_0 = 0 then ((spec_l05Has.f k a1 48).bind fun t109 => (some t109)) else (some false))))) else (if a0_0 = 3 then ((spec_l05Has.f k a1 105).bind fun t110 => (if t110 = true then (some true) else (if a0_0 = 0 then ((spec_l05Has.f k a1 48).bind fun t111 => (some t111)) else (some false)))) else (if a0_0 = 0 then ((spec_l05Has.f k a1 48).bind fun t112 => (some t112)) else (some false)))) = some r := by rw [if_neg (show ¬ (false = true) by decide)] at H; exact H
   clear H
   have H := H1
   clear H1
   by_cases c8 : a0_0 = 2
   ·rw [if_pos c8] at H
    have c8b0 : (a0_0 == 2) = true := beq_iff_eq.mpr c8
    have c8b1 : (a0_0 != 2) = false := bne_eq_false_iff_eq.mpr c8
    clear c8
    replace H := Option.bind_eq_some_iff.mp H
    obtain ⟨t106, A90, H⟩ := H
    replace H : (if t106 = true then (some true) else (if a0_0 = 3 then ((spec_l05Has.f k a1 105).bind fun t107 => (if t107 = true then (some true) else (if a0_0 = 0 then ((spec_l05Has.f k a1 48).bind fun t108 => (some t108)) else (some false)))) else (if a0_0 = 0 then ((spec_l05Has.f k a1 48).bind fun t109 => (some t109)) else (some false)))) = some r := H
    have A9 := Aside0.mk A90
    clear A90
    by_cases c10 : t106 = true
    ·subst c10
     have H1 : (some true) = some r := by rw [if_pos rfl] at H; exact H
     clear H
     have H := H1
     clear H1
     obtain rfl := Option.some.inj H
     go_enter Try.func203, Try.ntmps203
     go_wp2_with (first | ((with_reducible refine gate_dst (N := 2) rfl ?_); refine bx28 (w := w) (N := 2) rfl rfl rfl rfl by0 ?_; intro gb104 w11 n0_ BK104 GW104 GE104; clear HB; have HB := n0_; clear n0_; have hcz12_0 := cz BK104.out 0 (.int .i64 a0_0)) | (go_at_call 219; (with_reducible refine (spec_l05Has.calls k a1 114 false _ A4.out).mono ?_); rintro e w' ⟨rfl, ⟨nd, rfl⟩⟩) | (go_at_call 219; (with_reducible refine (spec_l05Has.calls k a1 109 true _ A9.out).mono ?_); rintro e w' ⟨rfl, ⟨nd, rfl⟩⟩))
     go_ret
     exact ⟨by first | rfl | (simp [errW_none, errW_some] <;> rfl) | (simp [*, errW_none, errW_some] <;> rfl), by repeat (first | (with_reducible first | exact HB.out | apply below_alloc | apply pw_below_drewN | apply below_drew1 | refine below_set ?_ GE104.out) | exact HB.out)⟩
    ·replace c10 := Bool.eq_false_iff.mpr c10
     subst c10
     have H1 : (if a0_0 = 3 then ((spec_l05Has.f k a1 105).bind fun t107 => (if t107 = true then (some true) else (if a0_0 = 0 then ((spec_l05Has.f k a1 48).bind fun t108 => (some t108)) else (some false)))) else (if a0_0 = 0 then ((spec_l05Has.f k a1 48).bind fun t109 => (some t109)) else (some false))) = some r := by rw [if_neg (show ¬ (false = true) by decide)] at H; exact H
     clear H
     have H := H1
     clear H1
     by_cases c13 : a0_0 = 3
     ·rw [if_pos c13] at H
      have c13b0 : (a0_0 == 3) = true := beq_iff_eq.mpr c13
      have c13b1 : (a0_0 != 3) = false := bne_eq_false_iff_eq.mpr c13
      clear c13
      replace H := Option.bind_eq_some_iff.mp H
      obtain ⟨t107, A140, H⟩ := H
      replace H : (if t107 = true then (some true) else (if a0_0 = 0 then ((spec_l05Has.f k a1 48).bind fun t108 => (some t108)) else (some false))) = some r := H
      have A14 := Aside0.mk A140
      clear A140
      by_cases c15 : t107 = true
      ·subst c15
       have H1 : (some true) = some r := by rw [if_pos rfl] at H; exact H
       clear H
       have H := H1
       clear H1
       obtain rfl := Option.some.inj H
       go_enter Try.func203, Try.ntmps203
       go_wp2_with (first | ((with_reducible refine gate_dst (N := 2) rfl ?_); refine bx28 (w := w) (N := 2) rfl rfl rfl rfl by0 ?_; intro gb104 w16 n0_ BK104 GW104 GE104; clear HB; have HB := n0_; clear n0_; have hcz17_0 := cz BK104.out 0 (.int .i64 a0_0)) | (go_at_call 219; (with_reducible refine (spec_l05Has.calls k a1 114 false _ A4.out).mono ?_); rintro e w' ⟨rfl, ⟨nd, rfl⟩⟩) | (go_at_call 219; (with_reducible refine (spec_l05Has.calls k a1 109 false _ A9.out).mono ?_); rintro e w' ⟨rfl, ⟨nd, rfl⟩⟩) | (go_at_call 219; (with_reducible refine (spec_l05Has.calls k a1 105 true _ A14.out).mono ?_); rintro e w' ⟨rfl, ⟨nd, rfl⟩⟩))
       go_ret
       exact ⟨by first | rfl | (simp [errW_none, errW_some] <;> rfl) | (simp [*, errW_none, errW_some] <;> rfl), by repeat (first | (with_reducible first | exact HB.out | apply below_alloc | apply pw_below_drewN | apply below_drew1 | refine below_set ?_ GE104.out) | exact HB.out)⟩
      ·replace c15 := Bool.eq_false_iff.mpr c15
       subst c15
       have H1 : (if a0_0 = 0 then ((spec_l05Has.f k a1 48).bind fun t108 => (some t108)) else (some false)) = some r := by rw [if_neg (show ¬ (false = true) by decide)] at H; exact H
       clear H
       have H := H1
       clear H1
       by_cases c18 : a0_0 = 0
       ·rw [if_pos c18] at H
        have c18b0 : (a0_0 == 0) = true := beq_iff_eq.mpr c18
        have c18b1 : (a0_0 != 0) = false := bne_eq_false_iff_eq.mpr c18
        clear c18
        replace H := Option.bind_eq_some_iff.mp H
        obtain ⟨t108, A190, H⟩ := H
        replace H : (some t108) = some r := H
        have A19 := Aside0.mk A190
        clear A190
        obtain rfl := Option.some.inj H
        go_enter Try.func203, Try.ntmps203
        go_wp2_with (first | ((with_reducible refine gate_dst (N := 2) rfl ?_); refine bx28 (w := w) (N := 2) rfl rfl rfl rfl by0 ?_; intro gb104 w20 n0_ BK104 GW104 GE104; clear HB; have HB := n0_; clear n0_; have hcz21_0 := cz BK104.out 0 (.int .i64 a0_0)) | (go_at_call 219; (with_reducible refine (spec_l05Has.calls k a1 114 false _ A4.out).mono ?_); rintro e w' ⟨rfl, ⟨nd, rfl⟩⟩) | (go_at_call 219; (with_reducible refine (spec_l05Has.calls k a1 109 false _ A9.out).mono ?_); rintro e w' ⟨rfl, ⟨nd, rfl⟩⟩) | (go_at_call 219; (with_reducible refine (spec_l05Has.calls k a1 105 false _ A14.out).mono ?_); rintro e w' ⟨rfl, ⟨nd, rfl⟩⟩) | (go_at_call 219; (with_reducible refine (spec_l05Has.calls k a1 48 t108 _ A19.out).mono ?_); rintro e w' ⟨rfl, ⟨nd, rfl⟩⟩))
        go_ret
        exact ⟨by first | rfl | (simp [errW_none, errW_some] <;> rfl) | (simp [*, errW_none, errW_some] <;> rfl), by repeat (first | (with_reducible first | exact HB.out | apply below_alloc | apply pw_below_drewN | apply below_drew1 | refine below_set ?_ GE104.out) | exact HB.out)⟩
       ·rw [if_neg c18] at H
        have c18b0 : (a0_0 == 0) = false := beq_eq_false_iff_ne.mpr c18
        have c18b1 : (a0_0 != 0) = true := bne_iff_ne.mpr c18
        obtain rfl := Option.some.inj H
        go_enter Try.func203, Try.ntmps203
        go_wp2_with (first | ((with_reducible refine gate_dst (N := 2) rfl ?_); refine bx28 (w := w) (N := 2) rfl rfl rfl rfl by0 ?_; intro gb104 w22 n0_ BK104 GW104 GE104; clear HB; have HB := n0_; clear n0_; have hcz23_0 := cz BK104.out 0 (.int .i64 a0_0)) | (go_at_call 219; (with_reducible refine (spec_l05Has.calls k a1 114 false _ A4.out).mono ?_); rintro e w' ⟨rfl, ⟨nd, rfl⟩⟩) | (go_at_call 219; (with_reducible refine (spec_l05Has.calls k a1 109 false _ A9.out).mono ?_); rintro e w' ⟨rfl, ⟨nd, rfl⟩⟩) | (go_at_call 219; (with_reducible refine (spec_l05Has.calls k a1 105 false _ A14.out).mono ?_); rintro e w' ⟨rfl, ⟨nd, rfl⟩⟩))
        go_ret
        exact ⟨by first | rfl | (simp [errW_none, errW_some] <;> rfl) | (simp [*, errW_none, errW_some] <;> rfl), by repeat (first | (with_reducible first | exact HB.out | apply below_alloc | apply pw_below_drewN | apply below_drew1 | refine below_set ?_ GE104.out) | exact HB.out)⟩
     ·rw [if_neg c13] at H
      have c13b0 : (a0_0 == 3) = false := beq_eq_false_iff_ne.mpr c13
      have c13b1 : (a0_0 != 3) = true := bne_iff_ne.mpr c13
      by_cases c24 : a0_0 = 0
      ·rw [if_pos c24] at H
       have c24b0 : (a0_0 == 0) = true := beq_iff_eq.mpr c24
       have c24b1 : (a0_0 != 0) = false := bne_eq_false_iff_eq.mpr c24
       clear c24
       replace H := Option.bind_eq_some_iff.mp H
       obtain ⟨t109, A250, H⟩ := H
       replace H : (some t109) = some r := H
       have A25 := Aside0.mk A250
       clear A250
       obtain rfl := Option.some.inj H
       go_enter Try.func203, Try.ntmps203
       go_wp2_with (first | ((with_reducible refine gate_dst (N := 2) rfl ?_); refine bx28 (w := w) (N := 2) rfl rfl rfl rfl by0 ?_; intro gb104 w26 n0_ BK104 GW104 GE104; clear HB; have HB := n0_; clear n0_; have hcz27_0 := cz BK104.out 0 (.int .i64 a0_0)) | (go_at_call 219; (with_reducible refine (spec_l05Has.calls k a1 114 false _ A4.out).mono ?_); rintro e w' ⟨rfl, ⟨nd, rfl⟩⟩) | (go_at_call 219; (with_reducible refine (spec_l05Has.calls k a1 109 false _ A9.out).mono ?_); rintro e w' ⟨rfl, ⟨nd, rfl⟩⟩) | (go_at_call 219; (with_reducible refine (spec_l05Has.calls k a1 48 t109 _ A25.out).mono ?_); rintro e w' ⟨rfl, ⟨nd, rfl⟩⟩))
       go_ret
       exact ⟨by first | rfl | (simp [errW_none, errW_some] <;> rfl) | (simp [*, errW_none, errW_some] <;> rfl), by repeat (first | (with_reducible first | exact HB.out | apply below_alloc | apply pw_below_drewN | apply below_drew1 | refine below_set ?_ GE104.out) | exact HB.out)⟩
      ·rw [if_neg c24] at H
       have c24b0 : (a0_0 == 0) = false := beq_eq_false_iff_ne.mpr c24
       have c24b1 : (a0_0 != 0) = true := bne_iff_ne.mpr c24
       obtain rfl := Option.some.inj H
       go_enter Try.func203, Try.ntmps203
       go_wp2_with (first | ((with_reducible refine gate_dst (N := 2) rfl ?_); refine bx28 (w := w) (N := 2) rfl rfl rfl rfl by0 ?_; intro gb104 w28 n0_ BK104 GW104 GE104; clear HB; have HB := n0_; clear n0_; have hcz29_0 := cz BK104.out 0 (.int .i64 a0_0)) | (go_at_call 219; (with_reducible refine (spec_l05Has.calls k a1 114 false _ A4.out).mono ?_); rintro e w' ⟨rfl, ⟨nd, rfl⟩⟩) | (go_at_call 219; (with_reducible refine (spec_l05Has.calls k a1 109 false _ A9.out).mono ?_); rintro e w' ⟨rfl, ⟨nd, rfl⟩⟩))
       go_ret
       exact ⟨by first | rfl | (simp [errW_none, errW_some] <;> rfl) | (simp [*, errW_none, errW_some] <;> rfl), by repeat (first | (with_reducible first | exact HB.out | apply below_alloc | apply pw_below_drewN | apply below_drew1 | refine below_set ?_ GE104.out) | exact HB.out)⟩
   ·rw [if_neg c8] at H
    have c8b0 : (a0_0 == 2) = false := beq_eq_false_iff_ne.mpr c8
    have c8b1 : (a0_0 != 2) = true := bne_iff_ne.mpr c8
    by_cases c30 : a0_0 = 3
    ·rw [if_pos c30] at H
     have c30b0 : (a0_0 == 3) = true := beq_iff_eq.mpr c30
     have c30b1 : (a0_0 != 3) = false := bne_eq_false_iff_eq.mpr c30
     clear c30
     replace H := Option.bind_eq_some_iff.mp H
     obtain ⟨t110, A310, H⟩ := H
     replace H : (if t110 = true then (some true) else (if a0_0 = 0 then ((spec_l05Has.f k a1 48).bind fun t111 => (some t111)) else (some false))) = some r := H
     have A31 := Aside0.mk A310
     clear A310
     by_cases c32 : t110 = true
     ·subst c32
      have H1 : (some true) = some r := by rw [if_pos rfl] at H; exact H
      clear H
      have H := H1
      clear H1
      obtain rfl := Option.some.inj H
      go_enter Try.func203, Try.ntmps203
      go_wp2_with (first | ((with_reducible refine gate_dst (N := 2) rfl ?_); refine bx28 (w := w) (N := 2) rfl rfl rfl rfl by0 ?_; intro gb104 w33 n0_ BK104 GW104 GE104; clear HB; have HB := n0_; clear n0_; have hcz34_0 := cz BK104.out 0 (.int .i64 a0_0)) | (go_at_call 219; (with_reducible refine (spec_l05Has.calls k a1 114 false _ A4.out).mono ?_); rintro e w' ⟨rfl, ⟨nd, rfl⟩⟩) | (go_at_call 219; (with_reducible refine (spec_l05Has.calls k a1 105 true _ A31.out).mono ?_); rintro e w' ⟨rfl, ⟨nd, rfl⟩⟩))
      go_ret
      exact ⟨by first | rfl | (simp [errW_none, errW_some] <;> rfl) | (simp [*, errW_none, errW_some] <;> rfl), by repeat (first | (with_reducible first | exact HB.out | apply below_alloc | apply pw_below_drewN | apply below_drew1 | refine below_set ?_ GE104.out) | exact HB.out)⟩
     ·replace c32 := Bool.eq_false_iff.mpr c32
      subst c32
      have H1 : (if a0_0 = 0 then ((spec_l05Has.f k a1 48).bind fun t111 => (some t111)) else (some false)) = some r := by rw [if_neg (show ¬ (false = true) by decide)] at H; exact H
      clear H
      have H := H1
      clear H1
      by_cases c35 : a0_0 = 0
      ·rw [if_pos c35] at H
       have c35b0 : (a0_0 == 0) = true := beq_iff_eq.mpr c35
       have c35b1 : (a0_0 != 0) = false := bne_eq_false_iff_eq.mpr c35
       clear c35
       replace H := Option.bind_eq_some_iff.mp H
       obtain ⟨t111, A360, H⟩ := H
       replace H : (some t111) = some r := H
       have A36 := Aside0.mk A360
       clear A360
       obtain rfl := Option.some.inj H
       go_enter Try.func203, Try.ntmps203
       go_wp2_with (first | ((with_reducible refine gate_dst (N := 2) rfl ?_); refine bx28 (w := w) (N := 2) rfl rfl rfl rfl by0 ?_; intro gb104 w37 n0_ BK104 GW104 GE104; clear HB; have HB := n0_; clear n0_; have hcz38_0 := cz BK104.out 0 (.int .i64 a0_0)) | (go_at_call 219; (with_reducible refine (spec_l05Has.calls k a1 114 false _ A4.out).mono ?_); rintro e w' ⟨rfl, ⟨nd, rfl⟩⟩) | (go_at_call 219; (with_reducible refine (spec_l05Has.calls k a1 105 false _ A31.out).mono ?_); rintro e w' ⟨rfl, ⟨nd, rfl⟩⟩) | (go_at_call 219; (with_reducible refine (spec_l05Has.calls k a1 48 t111 _ A36.out).mono ?_); rintro e w' ⟨rfl, ⟨nd, rfl⟩⟩))
       go_ret
       exact ⟨by first | rfl | (simp [errW_none, errW_some] <;> rfl) | (simp [*, errW_none, errW_some] <;> rfl), by repeat (first | (with_reducible first | exact HB.out | apply below_alloc | apply pw_below_drewN | apply below_drew1 | refine below_set ?_ GE104.out) | exact HB.out)⟩
      ·rw [if_neg c35] at H
       have c35b0 : (a0_0 == 0) = false := beq_eq_false_iff_ne.mpr c35
       have c35b1 : (a0_0 != 0) = true := bne_iff_ne.mpr c35
       obtain rfl := Option.some.inj H
       go_enter Try.func203, Try.ntmps203
       go_wp2_with (first | ((with_reducible refine gate_dst (N := 2) rfl ?_); refine bx28 (w := w) (N := 2) rfl rfl rfl rfl by0 ?_; intro gb104 w39 n0_ BK104 GW104 GE104; clear HB; have HB := n0_; clear n0_; have hcz40_0 := cz BK104.out 0 (.int .i64 a0_0)) | (go_at_call 219; (with_reducible refine (spec_l05Has.calls k a1 114 false _ A4.out).mono ?_); rintro e w' ⟨rfl, ⟨nd, rfl⟩⟩) | (go_at_call 219; (with_reducible refine (spec_l05Has.calls k a1 105 false _ A31.out).mono ?_); rintro e w' ⟨rfl, ⟨nd, rfl⟩⟩))
       go_ret
       exact ⟨by first | rfl | (simp [errW_none, errW_some] <;> rfl) | (simp [*, errW_none, errW_some] <;> rfl), by repeat (first | (with_reducible first | exact HB.out | apply below_alloc | apply pw_below_drewN | apply below_drew1 | refine below_set ?_ GE104.out) | exact HB.out)⟩
    ·rw [if_neg c30] at H
     have c30b0 : (a0_0 == 3) = false := beq_eq_false_iff_ne.mpr c30
     have c30b1 : (a0_0 != 3) = true := bne_iff_ne.mpr c30
     by_cases c41 : a0_0 = 0
     ·rw [if_pos c41] at H
      have c41b0 : (a0_0 == 0) = true := beq_iff_eq.mpr c41
      have c41b1 : (a0_0 != 0) = false := bne_eq_false_iff_eq.mpr c41
      clear c41
      replace H := Option.bind_eq_some_iff.mp H
      obtain ⟨t112, A420, H⟩ := H
      replace H : (some t112) = some r := H
      have A42 := Aside0.mk A420
      clear A420
      obtain rfl := Option.some.inj H
      go_enter Try.func203, Try.ntmps203
      go_wp2_with (first | ((with_reducible refine gate_dst (N := 2) rfl ?_); refine bx28 (w := w) (N := 2) rfl rfl rfl rfl by0 ?_; intro gb104 w43 n0_ BK104 GW104 GE104; clear HB; have HB := n0_; clear n0_; have hcz44_0 := cz BK104.out 0 (.int .i64 a0_0)) | (go_at_call 219; (with_reducible refine (spec_l05Has.calls k a1 114 false _ A4.out).mono ?_); rintro e w' ⟨rfl, ⟨nd, rfl⟩⟩) | (go_at_call 219; (with_reducible refine (spec_l05Has.calls k a1 48 t112 _ A42.out).mono ?_); rintro e w' ⟨rfl, ⟨nd, rfl⟩⟩))
      go_ret
      exact ⟨by first | rfl | (simp [errW_none, errW_some] <;> rfl) | (simp [*, errW_none, errW_some] <;> rfl), by repeat (first | (with_reducible first | exact HB.out | apply below_alloc | apply pw_below_drewN | apply below_drew1 | refine below_set ?_ GE104.out) | exact HB.out)⟩
     ·rw [if_neg c41] at H
      have c41b0 : (a0_0 == 0) = false := beq_eq_false_iff_ne.mpr c41
      have c41b1 : (a0_0 != 0) = true := bne_iff_ne.mpr c41
      obtain rfl := Option.some.inj H
      go_enter Try.func203, Try.ntmps203
      go_wp2_with (first | ((with_reducible refine gate_dst (N := 2) rfl ?_); refine bx28 (w := w) (N := 2) rfl rfl rfl rfl by0 ?_; intro gb104 w45 n0_ BK104 GW104 GE104; clear HB; have HB := n0_; clear n0_; have hcz46_0 := cz BK104.out 0 (.int .i64 a0_0)) | (go_at_call 219; (with_reducible refine (spec_l05Has.calls k a1 114 false _ A4.out).mono ?_); rintro e w' ⟨rfl, ⟨nd, rfl⟩⟩))
      go_ret
      exact ⟨by first | rfl | (simp [errW_none, errW_some] <;> rfl) | (simp [*, errW_none, errW_some] <;> rfl), by repeat (first | (with_reducible first | exact HB.out | apply below_alloc | apply pw_below_drewN | apply below_drew1 | refine below_set ?_ GE104.out) | exact HB.out)⟩
 ·rw [if_neg c3] at H
  have c3b0 : (a0_0 == 1) = false := beq_eq_false_iff_ne.mpr c3
  have c3b1 : (a0_0 != 1) = true := bne_iff_ne.mpr c3
  by_cases c47 : a0_0 = 2
  ·rw [if_pos c47] at H
   have c47b0 : (a0_0 == 2) = true := beq_iff_eq.mpr c47
   have c47b1 : (a0_0 != 2) = false := bne_eq_false_iff_eq.mpr c47
   clear c47
   replace H := Option.bind_eq_some_iff.mp H
   obtain ⟨t113, A480, H⟩ := H
   replace H : (if t113 = true then (some true) else (if a0_0 = 3 then ((spec_l05Has.f k a1 105).bind fun t114 => (if t114 = true then (some true) else (if a0_0 = 0 then ((spec_l05Has.f k a1 48).bind fun t115 => (some t115)) else (some false)))) else (if a0_0 = 0 then ((spec_l05Has.f k a1 48).bind fun t116 => (some t116)) else (some false)))) = some r := H
   have A48 := Aside0.mk A480
   clear A480
   by_cases c49 : t113 = true
   ·subst c49
    have H1 : (some true) = some r := by rw [if_pos rfl] at H; exact H
    clear H
    have H := H1
    clear H1
    obtain rfl := Option.some.inj H
    go_enter Try.func203, Try.ntmps203
    go_wp2_with (first | ((with_reducible refine gate_dst (N := 2) rfl ?_); refine bx28 (w := w) (N := 2) rfl rfl rfl rfl by0 ?_; intro gb104 w50 n0_ BK104 GW104 GE104; clear HB; have HB := n0_; clear n0_; have hcz51_0 := cz BK104.out 0 (.int .i64 a0_0)) | (go_at_call 219; (with_reducible refine (spec_l05Has.calls k a1 109 true _ A48.out).mono ?_); rintro e w' ⟨rfl, ⟨nd, rfl⟩⟩))
    go_ret
    exact ⟨by first | rfl | (simp [errW_none, errW_some] <;> rfl) | (simp [*, errW_none, errW_some] <;> rfl), by repeat (first | (with_reducible first | exact HB.out | apply below_alloc | apply pw_below_drewN | apply below_drew1 | refine below_set ?_ GE104.out) | exact HB.out)⟩
   ·replace c49 := Bool.eq_false_iff.mpr c49
    subst c49
    have H1 : (if a0_0 = 3 then ((spec_l05Has.f k a1 105).bind fun t114 => (if t114 = true then (some true) else (if a0_0 = 0 then ((spec_l05Has.f k a1 48).bind fun t115 => (some t115)) else (some false)))) else (if a0_0 = 0 then ((spec_l05Has.f k a1 48).bind fun t116 => (some t116)) else (some false))) = some r := by rw [if_neg (show ¬ (false = true) by decide)] at H; exact H
    clear H
    have H := H1
    clear H1
    by_cases c52 : a0_0 = 3
    ·rw [if_pos c52] at H
     have c52b0 : (a0_0 == 3) = true := beq_iff_eq.mpr c52
     have c52b1 : (a0_0 != 3) = false := bne_eq_false_iff_eq.mpr c52
     clear c52
     replace H := Option.bind_eq_some_iff.mp H
     obtain ⟨t114, A530, H⟩ := H
     replace H : (if t114 = true then (some true) else (if a0_0 = 0 then ((spec_l05Has.f k a1 48).bind fun t115 => (some t115)) else (some false))) = some r := H
     have A53 := Aside0.mk A530
     clear A530
     by_cases c54 : t114 = true
     ·subst c54
      have H1 : (some true) = some r := by rw [if_pos rfl] at H; exact H
      clear H
      have H := H1
      clear H1
      obtain rfl := Option.some.inj H
      go_enter Try.func203, Try.ntmps203
      go_wp2_with (first | ((with_reducible refine gate_dst (N := 2) rfl ?_); refine bx28 (w := w) (N := 2) rfl rfl rfl rfl by0 ?_; intro gb104 w55 n0_ BK104 GW104 GE104; clear HB; have HB := n0_; clear n0_; have hcz56_0 := cz BK104.out 0 (.int .i64 a0_0)) | (go_at_call 219; (with_reducible refine (spec_l05Has.calls k a1 109 false _ A48.out).mono ?_); rintro e w' ⟨rfl, ⟨nd, rfl⟩⟩) | (go_at_call 219; (with_reducible refine (spec_l05Has.calls k a1 105 true _ A53.out).mono ?_); rintro e w' ⟨rfl, ⟨nd, rfl⟩⟩))
      go_ret
      exact ⟨by first | rfl | (simp [errW_none, errW_some] <;> rfl) | (simp [*, errW_none, errW_some] <;> rfl), by repeat (first | (with_reducible first | exact HB.out | apply below_alloc | apply pw_below_drewN | apply below_drew1 | refine below_set ?_ GE104.out) | exact HB.out)⟩
     ·replace c54 := Bool.eq_false_iff.mpr c54
      subst c54
      have H1 : (if a0_0 = 0 then ((spec_l05Has.f k a1 48).bind fun t115 => (some t115)) else (some false)) = some r := by rw [if_neg (show ¬ (false = true) by decide)] at H; exact H
      clear H
      have H := H1
      clear H1
      by_cases c57 : a0_0 = 0
      ·rw [if_pos c57] at H
       have c57b0 : (a0_0 == 0) = true := beq_iff_eq.mpr c57
       have c57b1 : (a0_0 != 0) = false := bne_eq_false_iff_eq.mpr c57
       clear c57
       replace H := Option.bind_eq_some_iff.mp H
       obtain ⟨t115, A580, H⟩ := H
       replace H : (some t115) = some r := H
       have A58 := Aside0.mk A580
       clear A580
       obtain rfl := Option.some.inj H
       go_enter Try.func203, Try.ntmps203
       go_wp2_with (first | ((with_reducible refine gate_dst (N := 2) rfl ?_); refine bx28 (w := w) (N := 2) rfl rfl rfl rfl by0 ?_; intro gb104 w59 n0_ BK104 GW104 GE104; clear HB; have HB := n0_; clear n0_; have hcz60_0 := cz BK104.out 0 (.int .i64 a0_0)) | (go_at_call 219; (with_reducible refine (spec_l05Has.calls k a1 109 false _ A48.out).mono ?_); rintro e w' ⟨rfl, ⟨nd, rfl⟩⟩) | (go_at_call 219; (with_reducible refine (spec_l05Has.calls k a1 105 false _ A53.out).mono ?_); rintro e w' ⟨rfl, ⟨nd, rfl⟩⟩) | (go_at_call 219; (with_reducible refine (spec_l05Has.calls k a1 48 t115 _ A58.out).mono ?_); rintro e w' ⟨rfl, ⟨nd, rfl⟩⟩))
       go_ret
       exact ⟨by first | rfl | (simp [errW_none, errW_some] <;> rfl) | (simp [*, errW_none, errW_some] <;> rfl), by repeat (first | (with_reducible first | exact HB.out | apply below_alloc | apply pw_below_drewN | apply below_drew1 | refine below_set ?_ GE104.out) | exact HB.out)⟩
      ·rw [if_neg c57] at H
       have c57b0 : (a0_0 == 0) = false := beq_eq_false_iff_ne.mpr c57
       have c57b1 : (a0_0 != 0) = true := bne_iff_ne.mpr c57
       obtain rfl := Option.some.inj H
       go_enter Try.func203, Try.ntmps203
       go_wp2_with (first | ((with_reducible refine gate_dst (N := 2) rfl ?_); refine bx28 (w := w) (N := 2) rfl rfl rfl rfl by0 ?_; intro gb104 w61 n0_ BK104 GW104 GE104; clear HB; have HB := n0_; clear n0_; have hcz62_0 := cz BK104.out 0 (.int .i64 a0_0)) | (go_at_call 219; (with_reducible refine (spec_l05Has.calls k a1 109 false _ A48.out).mono ?_); rintro e w' ⟨rfl, ⟨nd, rfl⟩⟩) | (go_at_call 219; (with_reducible refine (spec_l05Has.calls k a1 105 false _ A53.out).mono ?_); rintro e w' ⟨rfl, ⟨nd, rfl⟩⟩))
       go_ret
       exact ⟨by first | rfl | (simp [errW_none, errW_some] <;> rfl) | (simp [*, errW_none, errW_some] <;> rfl), by repeat (first | (with_reducible first | exact HB.out | apply below_alloc | apply pw_below_drewN | apply below_drew1 | refine below_set ?_ GE104.out) | exact HB.out)⟩
    ·rw [if_neg c52] at H
     have c52b0 : (a0_0 == 3) = false := beq_eq_false_iff_ne.mpr c52
     have c52b1 : (a0_0 != 3) = true := bne_iff_ne.mpr c52
     by_cases c63 : a0_0 = 0
     ·rw [if_pos c63] at H
      have c63b0 : (a0_0 == 0) = true := beq_iff_eq.mpr c63
      have c63b1 : (a0_0 != 0) = false := bne_eq_false_iff_eq.mpr c63
      clear c63
      replace H := Option.bind_eq_some_iff.mp H
      obtain ⟨t116, A640, H⟩ := H
      replace H : (some t116) = some r := H
      have A64 := Aside0.mk A640
      clear A640
      obtain rfl := Option.some.inj H
      go_enter Try.func203, Try.ntmps203
      go_wp2_with (first | ((with_reducible refine gate_dst (N := 2) rfl ?_); refine bx28 (w := w) (N := 2) rfl rfl rfl rfl by0 ?_; intro gb104 w65 n0_ BK104 GW104 GE104; clear HB; have HB := n0_; clear n0_; have hcz66_0 := cz BK104.out 0 (.int .i64 a0_0)) | (go_at_call 219; (with_reducible refine (spec_l05Has.calls k a1 109 false _ A48.out).mono ?_); rintro e w' ⟨rfl, ⟨nd, rfl⟩⟩) | (go_at_call 219; (with_reducible refine (spec_l05Has.calls k a1 48 t116 _ A64.out).mono ?_); rintro e w' ⟨rfl, ⟨nd, rfl⟩⟩))
      go_ret
      exact ⟨by first | rfl | (simp [errW_none, errW_some] <;> rfl) | (simp [*, errW_none, errW_some] <;> rfl), by repeat (first | (with_reducible first | exact HB.out | apply below_alloc | apply pw_below_drewN | apply below_drew1 | refine below_set ?_ GE104.out) | exact HB.out)⟩
     ·rw [if_neg c63] at H
      have c63b0 : (a0_0 == 0) = false := beq_eq_false_iff_ne.mpr c63
      have c63b1 : (a0_0 != 0) = true := bne_iff_ne.mpr c63
      obtain rfl := Option.some.inj H
      go_enter Try.func203, Try.ntmps203
      go_wp2_with (first | ((with_reducible refine gate_dst (N := 2) rfl ?_); refine bx28 (w := w) (N := 2) rfl rfl rfl rfl by0 ?_; intro gb104 w67 n0_ BK104 GW104 GE104; clear HB; have HB := n0_; clear n0_; have hcz68_0 := cz BK104.out 0 (.int .i64 a0_0)) | (go_at_call 219; (with_reducible refine (spec_l05Has.calls k a1 109 false _ A48.out).mono ?_); rintro e w' ⟨rfl, ⟨nd, rfl⟩⟩))
      go_ret
      exact ⟨by first | rfl | (simp [errW_none, errW_some] <;> rfl) | (simp [*, errW_none, errW_some] <;> rfl), by repeat (first | (with_reducible first | exact HB.out | apply below_alloc | apply pw_below_drewN | apply below_drew1 | refine below_set ?_ GE104.out) | exact HB.out)⟩
  ·rw [if_neg c47] at H
   have c47b0 : (a0_0 == 2) = false := beq_eq_false_iff_ne.mpr c47
   have c47b1 : (a0_0 != 2) = true := bne_iff_ne.mpr c47
   by_cases c69 : a0_0 = 3
   ·rw [if_pos c69] at H
    have c69b0 : (a0_0 == 3) = true := beq_iff_eq.mpr c69
    have c69b1 : (a0_0 != 3) = false := bne_eq_false_iff_eq.mpr c69
    clear c69
    replace H := Option.bind_eq_some_iff.mp H
    obtain ⟨t117, A700, H⟩ := H
    replace H : (if t117 = true then (some true) else (if a0_0 = 0 then ((spec_l05Has.f k a1 48).bind fun t118 => (some t118)) else (some false))) = some r := H
    have A70 := Aside0.mk A700
    clear A700
    by_cases c71 : t117 = true
    ·subst c71
     have H1 : (some true) = some r := by rw [if_pos rfl] at H; exact H
     clear H
     have H := H1
     clear H1
     obtain rfl := Option.some.inj H
     go_enter Try.func203, Try.ntmps203
     go_wp2_with (first | ((with_reducible refine gate_dst (N := 2) rfl ?_); refine bx28 (w := w) (N := 2) rfl rfl rfl rfl by0 ?_; intro gb104 w72 n0_ BK104 GW104 GE104; clear HB; have HB := n0_; clear n0_; have hcz73_0 := cz BK104.out 0 (.int .i64 a0_0)) | (go_at_call 219; (with_reducible refine (spec_l05Has.calls k a1 105 true _ A70.out).mono ?_); rintro e w' ⟨rfl, ⟨nd, rfl⟩⟩))
     go_ret
     exact ⟨by first | rfl | (simp [errW_none, errW_some] <;> rfl) | (simp [*, errW_none, errW_some] <;> rfl), by repeat (first | (with_reducible first | exact HB.out | apply below_alloc | apply pw_below_drewN | apply below_drew1 | refine below_set ?_ GE104.out) | exact HB.out)⟩
    ·replace c71 := Bool.eq_false_iff.mpr c71
     subst c71
     have H1 : (if a0_0 = 0 then ((spec_l05Has.f k a1 48).bind fun t118 => (some t118)) else (some false)) = some r := by rw [if_neg (show ¬ (false = true) by decide)] at H; exact H
     clear H
     have H := H1
     clear H1
     by_cases c74 : a0_0 = 0
     ·rw [if_pos c74] at H
      have c74b0 : (a0_0 == 0) = true := beq_iff_eq.mpr c74
      have c74b1 : (a0_0 != 0) = false := bne_eq_false_iff_eq.mpr c74
      clear c74
      replace H := Option.bind_eq_some_iff.mp H
      obtain ⟨t118, A750, H⟩ := H
      replace H : (some t118) = some r := H
      have A75 := Aside0.mk A750
      clear A750
      obtain rfl := Option.some.inj H
      go_enter Try.func203, Try.ntmps203
      go_wp2_with (first | ((with_reducible refine gate_dst (N := 2) rfl ?_); refine bx28 (w := w) (N := 2) rfl rfl rfl rfl by0 ?_; intro gb104 w76 n0_ BK104 GW104 GE104; clear HB; have HB := n0_; clear n0_; have hcz77_0 := cz BK104.out 0 (.int .i64 a0_0)) | (go_at_call 219; (with_reducible refine (spec_l05Has.calls k a1 105 false _ A70.out).mono ?_); rintro e w' ⟨rfl, ⟨nd, rfl⟩⟩) | (go_at_call 219; (with_reducible refine (spec_l05Has.calls k a1 48 t118 _ A75.out).mono ?_); rintro e w' ⟨rfl, ⟨nd, rfl⟩⟩))
      go_ret
      exact ⟨by first | rfl | (simp [errW_none, errW_some] <;> rfl) | (simp [*, errW_none, errW_some] <;> rfl), by repeat (first | (with_reducible first | exact HB.out | apply below_alloc | apply pw_below_drewN | apply below_drew1 | refine below_set ?_ GE104.out) | exact HB.out)⟩
     ·rw [if_neg c74] at H
      have c74b0 : (a0_0 == 0) = false := beq_eq_false_iff_ne.mpr c74
      have c74b1 : (a0_0 != 0) = true := bne_iff_ne.mpr c74
      obtain rfl := Option.some.inj H
      go_enter Try.func203, Try.ntmps203
      go_wp2_with (first | ((with_reducible refine gate_dst (N := 2) rfl ?_); refine bx28 (w := w) (N := 2) rfl rfl rfl rfl by0 ?_; intro gb104 w78 n0_ BK104 GW104 GE104; clear HB; have HB := n0_; clear n0_; have hcz79_0 := cz BK104.out 0 (.int .i64 a0_0)) | (go_at_call 219; (with_reducible refine (spec_l05Has.calls k a1 105 false _ A70.out).mono ?_); rintro e w' ⟨rfl, ⟨nd, rfl⟩⟩))
      go_ret
      exact ⟨by first | rfl | (simp [errW_none, errW_some] <;> rfl) | (simp [*, errW_none, errW_some] <;> rfl), by repeat (first | (with_reducible first | exact HB.out | apply below_alloc | apply pw_below_drewN | apply below_drew1 | refine below_set ?_ GE104.out) | exact HB.out)⟩
   ·rw [if_neg c69] at H
    have c69b0 : (a0_0 == 3) = false := beq_eq_false_iff_ne.mpr c69
    have c69b1 : (a0_0 != 3) = true := bne_iff_ne.mpr c69
    by_cases c80 : a0_0 = 0
    ·rw [if_pos c80] at H
     have c80b0 : (a0_0 == 0) = true := beq_iff_eq.mpr c80
     have c80b1 : (a0_0 != 0) = false := bne_eq_false_iff_eq.mpr c80
     clear c80
     replace H := Option.bind_eq_some_iff.mp H
     obtain ⟨t119, A810, H⟩ := H
     replace H : (some t119) = some r := H
     have A81 := Aside0.mk A810
     clear A810
     obtain rfl := Option.some.inj H
     go_enter Try.func203, Try.ntmps203
     go_wp2_with (first | ((with_reducible refine gate_dst (N := 2) rfl ?_); refine bx28 (w := w) (N := 2) rfl rfl rfl rfl by0 ?_; intro gb104 w82 n0_ BK104 GW104 GE104; clear HB; have HB := n0_; clear n0_; have hcz83_0 := cz BK104.out 0 (.int .i64 a0_0)) | (go_at_call 219; (with_reducible refine (spec_l05Has.calls k a1 48 t119 _ A81.out).mono ?_); rintro e w' ⟨rfl, ⟨nd, rfl⟩⟩))
     go_ret
     exact ⟨by first | rfl | (simp [errW_none, errW_some] <;> rfl) | (simp [*, errW_none, errW_some] <;> rfl), by repeat (first | (with_reducible first | exact HB.out | apply below_alloc | apply pw_below_drewN | apply below_drew1 | refine below_set ?_ GE104.out) | exact HB.out)⟩
    ·rw [if_neg c80] at H
     have c80b0 : (a0_0 == 0) = false := beq_eq_false_iff_ne.mpr c80
     have c80b1 : (a0_0 != 0) = true := bne_iff_ne.mpr c80
     obtain rfl := Option.some.inj H
     go_enter Try.func203, Try.ntmps203
     go_wp2_with (first | ((with_reducible refine gate_dst (N := 2) rfl ?_); refine bx28 (w := w) (N := 2) rfl rfl rfl rfl by0 ?_; intro gb104 w84 n0_ BK104 GW104 GE104; clear HB; have HB := n0_; clear n0_; have hcz85_0 := cz BK104.out 0 (.int .i64 a0_0)))
     go_ret
     exact ⟨by first | rfl | (simp [errW_none, errW_some] <;> rfl) | (simp [*, errW_none, errW_some] <;> rfl), by repeat (first | (with_reducible first | exact HB.out | apply below_alloc | apply pw_below_drewN | apply below_drew1 | refine below_set ?_ GE104.out) | exact HB.out)⟩

end Go.Proofs.Ytonogadabgilfaa.PFnExactBaseAddOf

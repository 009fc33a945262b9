/- Laid by a program of this session (patch_print.py) out of the translation: plain functions and what the calls do. No condition. -/
import Derived.Shelf.Strings.Search2
import Derived.Shelf.Strings.Search3
import Derived.Shelf.Vars
import Derived.Test.YtonogadabgilfaaPFnExactBaseAddOfx0
import Derived.Test.YtonogadabgilfaaPFnExactBaseAddOfx1
import Derived.Test.YtonogadabgilfaaPFnExactBaseAddOfx2
import Derived.Test.YtonogadabgilfaaPFnExactBaseAddOfx6
import Derived.Test.YtonogadabgilfaaPFnExactBaseAddOfx7
import Derived.Test.YtonogadabgilfaaPFnExactBaseAddOfx14
namespace Go.Proofs.Ytonogadabgilfaa.PFnExactGoalOf
open Go.RowKit Go.Proofs.Ytonogadabgilfaa.PFnExactBaseAddOf Go.Proofs.YtonogadabgilfaaW.PrintWords Go.Proofs.YtonogadabgilfaaW.PrintLast Go.Proofs.YtonogadabgilfaaW.PrintMore
attribute [local go_sem] max2_int min2_int max_two min_two max_three min_three max_four min_four   -- for this text's walks alone
set_option linter.unusedVariables false
set_option linter.unusedSimpArgs false

/-! ### spec_l03Class: function 155 -/
def spec_l03Class.j0 : Nat → Int → Bool → Option (Int)
 | 0, _, _ => none
 | k + 1, x3, x4 => if x4 = true then (some 2) else (if x3 = 34 then (some 3) else (if x3 = 41 then (some 3) else (if x3 = 42 then (some 3) else (if x3 = 43 then (some 3) else (if x3 = 44 then (some 3) else (some 1))))))
def spec_l03Class.f (k : Nat) (a0 : Int) : Option (Int) := if a0 = 31 then (spec_l03Class.j0 k a0 (a0 == 31)) else (if a0 = 32 then (spec_l03Class.j0 k a0 (a0 == 32)) else (spec_l03Class.j0 k a0 (a0 == 33)))
theorem spec_l03Class.mono_l : ∀ k, (∀ y0 y1, LeO (spec_l03Class.j0 k y0 y1) (spec_l03Class.j0 (k + 1) y0 y1))
 | 0 => fun _ _ r h => by simp [spec_l03Class.j0] at h
 | k + 1 => by
  have ih0 := spec_l03Class.mono_l k
  ·intro y0 y1
   unfold spec_l03Class.j0
   repeat' first
   | (with_reducible exact ih0 _ _)
   | (with_reducible exact LeO.refl _)
   | (with_reducible exact LeO.none _)
   | (with_reducible refine LeO.ite ?_ ?_)
   | (with_reducible refine LeO.bind ?_ (fun _ => ?_))
   | refine LeO.ite ?_ ?_
   | refine LeO.bind ?_ (fun _ => ?_)
theorem spec_l03Class.mono : ∀ a0 k, LeO (spec_l03Class.f k a0) (spec_l03Class.f (k + 1) a0) := by
 intro a0 k
 have ih0 := spec_l03Class.mono_l k
 unfold spec_l03Class.f
 repeat' first
   | (with_reducible exact ih0 _ _)
   | (with_reducible exact LeO.refl _)
   | (with_reducible exact LeO.none _)
   | (with_reducible refine LeO.ite ?_ ?_)
   | (with_reducible refine LeO.bind ?_ (fun _ => ?_))
   | refine LeO.ite ?_ ?_
   | refine LeO.bind ?_ (fun _ => ?_)
set_option maxHeartbeats 8000000 in
set_option maxRecDepth 100000 in
theorem spec_l03Class.calls (k : Nat) (a0 : Int) (r : Int) (w : World) (h : spec_l03Class.f k a0 = some r) :
  Calls Try.prog 155 #[.int .i64 a0] w fun e w' => e = .returned (.int .i64 r) ∧ Drawn0 w w' := by
 have H : (if a0 = 31 then (spec_l03Class.j0 k a0 (a0 == 31)) else (if a0 = 32 then (spec_l03Class.j0 k a0 (a0 == 32)) else (spec_l03Class.j0 k a0 (a0 == 33)))) = some r := h
 clear h
 have HC2 := Aside0.mk H
 clear H
 go_enter Try.func155, Try.ntmps155
 go_upto_if 4 with (fail)
 go_cut [4] (fun v4 wc => ∃ (kq : Nat) (x4_1 : Bool), v4 = .bool x4_1 ∧ Aside0 (spec_l03Class.j0 kq a0 x4_1 = some r) ∧ Aside0 (kq ≤ k) ∧ Drawn0 w wc)
 case first =>
  have H := HC2.out
  clear HC2
  by_cases c3 : a0 = 31
  ·rw [if_pos c3] at H
   have c3b0 : (a0 == 31) = true := beq_iff_eq.mpr c3
   have c3b1 : (a0 != 31) = false := bne_eq_false_iff_eq.mpr c3
   clear c3
   (first | rw [c3b0] | (simp only [i64_w, i32_w]; rw [c3b0]) | rw [c3b1] | skip)
   have H' := Aside0.mk H
   clear H
   go_wp2
   go_meet
   case rel => exact ⟨_, ((a0 == 31)), by8, H', ⟨by first | omega | exact Nat.le_refl _⟩, by repeat (first | exact Drawn0.refl _ | apply Drawn0.step)⟩
  ·rw [if_neg c3] at H
   have c3b0 : (a0 == 31) = false := beq_eq_false_iff_ne.mpr c3
   have c3b1 : (a0 != 31) = true := bne_iff_ne.mpr c3
   (first | rw [c3b0] | (simp only [i64_w, i32_w]; rw [c3b0]) | rw [c3b1] | skip)
   by_cases c4 : a0 = 32
   ·rw [if_pos c4] at H
    have c4b0 : (a0 == 32) = true := beq_iff_eq.mpr c4
    have c4b1 : (a0 != 32) = false := bne_eq_false_iff_eq.mpr c4
    clear c4
    have H' := Aside0.mk H
    clear H
    go_wp2
    go_meet
    case rel => exact ⟨_, ((a0 == 32)), by8, H', ⟨by first | omega | exact Nat.le_refl _⟩, by repeat (first | exact Drawn0.refl _ | apply Drawn0.step)⟩
   ·rw [if_neg c4] at H
    have c4b0 : (a0 == 32) = false := beq_eq_false_iff_ne.mpr c4
    have c4b1 : (a0 != 32) = true := bne_iff_ne.mpr c4
    have H' := Aside0.mk H
    clear H
    go_wp2
    go_meet
    case rel => exact ⟨_, ((a0 == 33)), by8, H', ⟨by first | omega | exact Nat.le_refl _⟩, by repeat (first | exact Drawn0.refl _ | apply Drawn0.step)⟩
 case rest =>
  clear HC2
  (try clear c3); (try clear c3b0); (try clear c3b1); (try clear c4); (try clear c4b0); (try clear c4b1)
  obtain ⟨kq, x4_1, rfl, HA, HJ1, ⟨mc1, rfl⟩⟩ := hcut
  cases kq with
  | zero => exact absurd HA.out (by simp [spec_l03Class.j0])
  | succ kj1 =>
   have H := HA.out
   clear HA
   simp only [spec_l03Class.j0] at H
   by_cases c5 : x4_1 = true
   ·subst c5
    have H1 : (some 2) = some r := by rw [if_pos rfl] at H; exact H
    clear H
    have H := H1
    clear H1
    obtain rfl := Option.some.inj H
    go_wp2
    go_ret
    exact ⟨by first | rfl | (simp; done) | (simp [*]; done), by repeat (first | exact Drawn0.refl _ | apply Drawn0.step)⟩
   ·replace c5 := Bool.eq_false_iff.mpr c5
    subst c5
    have H1 : (if a0 = 34 then (some 3) else (if a0 = 41 then (some 3) else (if a0 = 42 then (some 3) else (if a0 = 43 then (some 3) else (if a0 = 44 then (some 3) else (some 1)))))) = some r := by rw [if_neg (show ¬ (false = true) by decide)] at H; exact H
    clear H
    have H := H1
    clear H1
    by_cases c6 : a0 = 34
    ·rw [if_pos c6] at H
     have c6b0 : (a0 == 34) = true := beq_iff_eq.mpr c6
     have c6b1 : (a0 != 34) = false := bne_eq_false_iff_eq.mpr c6
     clear c6
     obtain rfl := Option.some.inj H
     go_wp2
     go_ret
     exact ⟨by first | rfl | (simp; done) | (simp [*]; done), by repeat (first | exact Drawn0.refl _ | apply Drawn0.step)⟩
    ·rw [if_neg c6] at H
     have c6b0 : (a0 == 34) = false := beq_eq_false_iff_ne.mpr c6
     have c6b1 : (a0 != 34) = true := bne_iff_ne.mpr c6
     by_cases c7 : a0 = 41
     ·rw [if_pos c7] at H
      have c7b0 : (a0 == 41) = true := beq_iff_eq.mpr c7
      have c7b1 : (a0 != 41) = false := bne_eq_false_iff_eq.mpr c7
      clear c7
      obtain rfl := Option.some.inj H
      go_wp2
      go_ret
      exact ⟨by first | rfl | (simp; done) | (simp [*]; done), by repeat (first | exact Drawn0.refl _ | apply Drawn0.step)⟩
     ·rw [if_neg c7] at H
      have c7b0 : (a0 == 41) = false := beq_eq_false_iff_ne.mpr c7
      have c7b1 : (a0 != 41) = true := bne_iff_ne.mpr c7
      by_cases c8 : a0 = 42
      ·rw [if_pos c8] at H
       have c8b0 : (a0 == 42) = true := beq_iff_eq.mpr c8
       have c8b1 : (a0 != 42) = false := bne_eq_false_iff_eq.mpr c8
       clear c8
       obtain rfl := Option.some.inj H
       go_wp2
       go_ret
       exact ⟨by first | rfl | (simp; done) | (simp [*]; done), by repeat (first | exact Drawn0.refl _ | apply Drawn0.step)⟩
      ·rw [if_neg c8] at H
       have c8b0 : (a0 == 42) = false := beq_eq_false_iff_ne.mpr c8
       have c8b1 : (a0 != 42) = true := bne_iff_ne.mpr c8
       by_cases c9 : a0 = 43
       ·rw [if_pos c9] at H
        have c9b0 : (a0 == 43) = true := beq_iff_eq.mpr c9
        have c9b1 : (a0 != 43) = false := bne_eq_false_iff_eq.mpr c9
        clear c9
        obtain rfl := Option.some.inj H
        go_wp2
        go_ret
        exact ⟨by first | rfl | (simp; done) | (simp [*]; done), by repeat (first | exact Drawn0.refl _ | apply Drawn0.step)⟩
       ·rw [if_neg c9] at H
        have c9b0 : (a0 == 43) = false := beq_eq_false_iff_ne.mpr c9
        have c9b1 : (a0 != 43) = true := bne_iff_ne.mpr c9
        by_cases c10 : a0 = 44
        ·rw [if_pos c10] at H
         have c10b0 : (a0 == 44) = true := beq_iff_eq.mpr c10
         have c10b1 : (a0 != 44) = false := bne_eq_false_iff_eq.mpr c10
         clear c10
         obtain rfl := Option.some.inj H
         go_wp2
         go_ret
         exact ⟨by first | rfl | (simp; done) | (simp [*]; done), by repeat (first | exact Drawn0.refl _ | apply Drawn0.step)⟩
        ·rw [if_neg c10] at H
         have c10b0 : (a0 == 44) = false := beq_eq_false_iff_ne.mpr c10
         have c10b1 : (a0 != 44) = true := bne_iff_ne.mpr c10
         obtain rfl := Option.some.inj H
         go_wp2
         go_ret
         exact ⟨by first | rfl | (simp; done) | (simp [*]; done), by repeat (first | exact Drawn0.refl _ | apply Drawn0.step)⟩

/-! ### spec_l08Flow: function 102 -/
def spec_l08Flow.f (k : Nat) (a0 : Int) : Option (Bool) := (spec_l03Class.f k a0).bind fun t161 => (some (t161 == 2))
theorem spec_l08Flow.mono : ∀ a0 k, LeO (spec_l08Flow.f k a0) (spec_l08Flow.f (k + 1) a0) := by
 intro a0 k
 unfold spec_l08Flow.f
 repeat' first
   | (with_reducible exact spec_l03Class.mono _ _)
   | (with_reducible exact LeO.refl _)
   | (with_reducible exact LeO.none _)
   | (with_reducible refine LeO.ite ?_ ?_)
   | (with_reducible refine LeO.bind ?_ (fun _ => ?_))
   | refine LeO.ite ?_ ?_
   | refine LeO.bind ?_ (fun _ => ?_)
set_option maxHeartbeats 8000000 in
set_option maxRecDepth 100000 in
theorem spec_l08Flow.calls (k : Nat) (a0 : Int) (r : Bool) (w : World) (h : spec_l08Flow.f k a0 = some r) :
  Calls Try.prog 102 #[.int .i64 a0] w fun e w' => e = .returned (.bool r) ∧ Drawn0 w w' := by
 have H : ((spec_l03Class.f k a0).bind fun t161 => (some (t161 == 2))) = some r := h
 clear h
 replace H := Option.bind_eq_some_iff.mp H
 obtain ⟨t161, A20, H⟩ := H
 replace H : (some (t161 == 2)) = some r := H
 have A2 := Aside0.mk A20
 clear A20
 obtain rfl := Option.some.inj H
 go_enter Try.func102, Try.ntmps102
 go_wp2_with (first | ((with_reducible refine gate_callee (f := 155) rfl ?_); refine goesL_ (some 4) rfl rfl Try.func155 by4 rfl #[.int .i64 a0] rfl by1 ?_; (with_reducible refine (spec_l03Class.calls k a0 t161 _ A2.out).mono ?_); rintro e w' ⟨rfl, ⟨nd, rfl⟩⟩; refine ⟨_, rfl, ?_⟩))
 go_ret
 exact ⟨by first | rfl | (simp; done) | (simp [*]; done), by repeat (first | exact Drawn0.refl _ | apply Drawn0.step)⟩

/-! ### spec_l08Goal: function 57 -/
def spec_l08Goal.f (k : Nat) (a0_0 : Int) (a0_1 : Int) (a0_2 : Int) (a0_3 : Int) (a0_4 : Int) (a0_5 : Int) (a0_6 : Int) (a0_7 : Int) (a0_8 : Int) (a0_9 : Int) (a0_10 : Int) (a0_11 : Int) (a0_12 : Int) (a0_13 : Int) (a0_14 : Int) (a0_15 : Int) (a0_16 : Int) (a0_17 : Int) (a0_18 : Int) (a1 : Int) : Option (Int × Bool) := (spec_l08Flow.f k a0_0).bind fun t163 => (if t163 = true then (if a0_11 = 3 then (some (wrap64 ((wrap64 (a1 + a0_18)) + a0_17), true)) else (some (0, false))) else (some (0, false)))
theorem spec_l08Goal.mono : ∀ a0 a1 a2 a3 a4 a5 a6 a7 a8 a9 a10 a11 a12 a13 a14 a15 a16 a17 a18 a19 k, LeO (spec_l08Goal.f k a0 a1 a2 a3 a4 a5 a6 a7 a8 a9 a10 a11 a12 a13 a14 a15 a16 a17 a18 a19) (spec_l08Goal.f (k + 1) a0 a1 a2 a3 a4 a5 a6 a7 a8 a9 a10 a11 a12 a13 a14 a15 a16 a17 a18 a19) := by
 intro a0 a1 a2 a3 a4 a5 a6 a7 a8 a9 a10 a11 a12 a13 a14 a15 a16 a17 a18 a19 k
 unfold spec_l08Goal.f
 repeat' first
   | (with_reducible exact spec_l08Flow.mono _ _)
   | (with_reducible exact LeO.refl _)
   | (with_reducible exact LeO.none _)
   | (with_reducible refine LeO.ite ?_ ?_)
   | (with_reducible refine LeO.bind ?_ (fun _ => ?_))
   | refine LeO.ite ?_ ?_
   | refine LeO.bind ?_ (fun _ => ?_)
theorem spec_l08Goal.e0 {p : Prop} (h : p := by
 simp only [Option.some.injEq, Prod.mk.injEq] at H
 obtain ⟨rfl, rfl⟩ := H
 go_enter Try.func57, Try.ntmps57
 go_wp2_with (first | ((with_reducible refine gate_dst (N := 2) rfl ?_); refine bx30 (w := w) (N := 2) rfl rfl rfl rfl by0 ?_; intro gb_y0 w_y1 n_y2 BK_y3 GW_y4 GE_y5; clear HB; have HB := n_y2; clear n_y2; have hcz_y6 := cz BK_y3.out 0 (.int .i64 a0_0); have hcz_y7 := cz BK_y3.out 11 (.int .i64 a0_11); have hcz_y8 := cz BK_y3.out 17 (.int .i64 a0_17); have hcz_y9 := cz BK_y3.out 18 (.int .i64 a0_18)) | ((with_reducible refine gate_callee (f := 102) rfl ?_); refine goesL_ (some 8) rfl rfl Try.func102 by4 rfl #[.int .i64 a0_0] rfl by1 ?_; (with_reducible refine (spec_l08Flow.calls k a0_0 true _ A3.out).mono ?_); rintro e w' ⟨rfl, ⟨nd, rfl⟩⟩; refine ⟨_, rfl, ?_⟩))
 go_ret2
 exact ⟨by first | rfl | (simp [errW_none, errW_some] <;> rfl) | (simp [*, errW_none, errW_some] <;> rfl), by repeat (first | (with_reducible first | exact HB.out | apply below_alloc | apply pw_below_drewN | apply below_drew1 | refine below_set ?_ GE_y5.out) | exact HB.out)⟩) : p := h
set_option maxHeartbeats 8000000 in
set_option maxRecDepth 100000 in
theorem spec_l08Goal.calls (k : Nat) (a0_0 : Int) (a0_1 : Int) (a0_2 : Int) (a0_3 : Int) (a0_4 : Int) (a0_5 : Int) (a0_6 : Int) (a0_7 : Int) (a0_8 : Int) (a0_9 : Int) (a0_10 : Int) (a0_11 : Int) (a0_12 : Int) (a0_13 : Int) (a0_14 : Int) (a0_15 : Int) (a0_16 : Int) (a0_17 : Int) (a0_18 : Int) (a1 : Int) (r1 : Int) (r2 : Bool) (w : World) (h : spec_l08Goal.f k a0_0 a0_1 a0_2 a0_3 a0_4 a0_5 a0_6 a0_7 a0_8 a0_9 a0_10 a0_11 a0_12 a0_13 a0_14 a0_15 a0_16 a0_17 a0_18 a1 = some (r1, r2)) :
  Calls Try.prog 57 #[.agg #[.int .i64 a0_0, .int .i64 a0_1, .int .i64 a0_2, .int .i64 a0_3, .int .i64 a0_4, .int .i64 a0_5, .int .i64 a0_6, .int .i64 a0_7, .int .i64 a0_8, .int .i64 a0_9, .int .i64 a0_10, .int .i64 a0_11, .int .i64 a0_12, .int .i64 a0_13, .int .i64 a0_14, .int .i64 a0_15, .int .i64 a0_16, .int .i64 a0_17, .int .i64 a0_18], .int .i64 a1] w fun e w' => e = .returned (.tuple #[.int .i64 r1, .bool r2]) ∧ Below w.heap.size w w' := by
 have hu30 := Try.underlying30
 have HB := Aside0.mk (Below.refl w.heap.size w)
 have H : ((spec_l08Flow.f k a0_0).bind fun t163 => (if t163 = true then (if a0_11 = 3 then (some (wrap64 ((wrap64 (a1 + a0_18)) + a0_17), true)) else (some (0, false))) else (some (0, false)))) = some (r1, r2) := h
 clear h
 replace H := Option.bind_eq_some_iff.mp H
 obtain ⟨t163, A30, H⟩ := H
 replace H : (if t163 = true then (if a0_11 = 3 then (some (wrap64 ((wrap64 (a1 + a0_18)) + a0_17), true)) else (some (0, false))) else (some (0, false))) = some (r1, r2) := H
 have A3 := Aside0.mk A30
 clear A30
 by_cases c4 : t163 = true
 ·subst c4
  have H1 : (if a0_11 = 3 then (some (wrap64 ((wrap64 (a1 + a0_18)) + a0_17), true)) else (some (0, false))) = some (r1, r2) := by rw [if_pos rfl] at H; exact H
  clear H
  have H := H1
  clear H1
  by_cases c5 : a0_11 = 3
  ·rw [if_pos c5] at H
   have c5b0 : (a0_11 == 3) = true := beq_iff_eq.mpr c5
   have c5b1 : (a0_11 != 3) = false := bne_eq_false_iff_eq.mpr c5
   clear c5
   exact spec_l08Goal.e0
  ·rw [if_neg c5] at H
   have c5b0 : (a0_11 == 3) = false := beq_eq_false_iff_ne.mpr c5
   have c5b1 : (a0_11 != 3) = true := bne_iff_ne.mpr c5
   exact spec_l08Goal.e0
 ·replace c4 := Bool.eq_false_iff.mpr c4
  subst c4
  have H1 : (some (0, false)) = some (r1, r2) := by rw [if_neg (show ¬ (false = true) by decide)] at H; exact H
  clear H
  have H := H1
  clear H1
  simp only [Option.some.injEq, Prod.mk.injEq] at H
  obtain ⟨rfl, rfl⟩ := H
  go_enter Try.func57, Try.ntmps57
  go_wp2_with (first | ((with_reducible refine gate_dst (N := 2) rfl ?_); refine bx30 (w := w) (N := 2) rfl rfl rfl rfl by0 ?_; intro gb162 w10 n0_ BK162 GW162 GE162; clear HB; have HB := n0_; clear n0_; have hcz11_0 := cz BK162.out 0 (.int .i64 a0_0); have hcz11_11 := cz BK162.out 11 (.int .i64 a0_11); have hcz11_17 := cz BK162.out 17 (.int .i64 a0_17); have hcz11_18 := cz BK162.out 18 (.int .i64 a0_18)) | ((with_reducible refine gate_callee (f := 102) rfl ?_); refine goesL_ (some 8) rfl rfl Try.func102 by4 rfl #[.int .i64 a0_0] rfl by1 ?_; (with_reducible refine (spec_l08Flow.calls k a0_0 false _ A3.out).mono ?_); rintro e w' ⟨rfl, ⟨nd, rfl⟩⟩; refine ⟨_, rfl, ?_⟩))
  go_ret2
  exact ⟨by first | rfl | (simp [errW_none, errW_some] <;> rfl) | (simp [*, errW_none, errW_some] <;> rfl), by repeat (first | (with_reducible first | exact HB.out | apply below_alloc | apply pw_below_drewN | apply below_drew1 | refine below_set ?_ GE162.out) | exact HB.out)⟩

/-! ### spec_GoalOf: function 20 -/
def spec_GoalOf.f (k : Nat) (a0_0 : Int) (a0_1 : Int) (a0_2 : Int) (a0_3 : Int) (a0_4 : Int) (a0_5 : Int) (a0_6 : Int) (a0_7 : Int) (a0_8 : Int) (a0_9 : Int) (a0_10 : Int) (a0_11 : Int) (a0_12 : Int) (a0_13 : Int) (a0_14 : Int) (a0_15 : Int) (a0_16 : Int) (a0_17 : Int) (a0_18 : Int) (a1 : Int) : Option (Int × Bool × Int) := (spec_l05OK.f k a0_0 a0_1 a0_2 a0_3 a0_4 a0_5 a0_6 a0_7 a0_8 a0_9 a0_10 a0_11 a0_12 a0_13 a0_14 a0_15 a0_16 a0_17 a0_18).bind fun t165 => (if t165 = true then ((spec_l01In.f a1 0 65535).bind fun t166 => (if t166 = true then ((spec_l08Goal.f k a0_0 a0_1 a0_2 a0_3 a0_4 a0_5 a0_6 a0_7 a0_8 a0_9 a0_10 a0_11 a0_12 a0_13 a0_14 a0_15 a0_16 a0_17 a0_18 a1).bind fun bt167 => (some (bt167.1, bt167.2, 0))) else (some (0, false, 4)))) else (some (0, false, 1)))
theorem spec_GoalOf.mono : ∀ a0 a1 a2 a3 a4 a5 a6 a7 a8 a9 a10 a11 a12 a13 a14 a15 a16 a17 a18 a19 k, LeO (spec_GoalOf.f k a0 a1 a2 a3 a4 a5 a6 a7 a8 a9 a10 a11 a12 a13 a14 a15 a16 a17 a18 a19) (spec_GoalOf.f (k + 1) a0 a1 a2 a3 a4 a5 a6 a7 a8 a9 a10 a11 a12 a13 a14 a15 a16 a17 a18 a19) := by
 intro a0 a1 a2 a3 a4 a5 a6 a7 a8 a9 a10 a11 a12 a13 a14 a15 a16 a17 a18 a19 k
 unfold spec_GoalOf.f
 repeat' first
   | (with_reducible exact spec_l05OK.mono _ _ _ _ _ _ _ _ _ _ _ _ _ _ _ _ _ _ _ _)
   | (with_reducible exact spec_l08Goal.mono _ _ _ _ _ _ _ _ _ _ _ _ _ _ _ _ _ _ _ _ _)
   | (with_reducible exact LeO.refl _)
   | (with_reducible exact LeO.none _)
   | (with_reducible refine LeO.ite ?_ ?_)
   | (with_reducible refine LeO.bind ?_ (fun _ => ?_))
   | refine LeO.ite ?_ ?_
   | refine LeO.bind ?_ (fun _ => ?_)
set_option maxHeartbeats 8000000 in
set_option maxRecDepth 100000 in
theorem spec_GoalOf.calls (k : Nat) (a0_0 : Int) (a0_1 : Int) (a0_2 : Int) (a0_3 : Int) (a0_4 : Int) (a0_5 : Int) (a0_6 : Int) (a0_7 : Int) (a0_8 : Int) (a0_9 : Int) (a0_10 : Int) (a0_11 : Int) (a0_12 : Int) (a0_13 : Int) (a0_14 : Int) (a0_15 : Int) (a0_16 : Int) (a0_17 : Int) (a0_18 : Int) (a1 : Int) (r1 : Int) (r2 : Bool) (r3 : Int) (w : World) (h : spec_GoalOf.f k a0_0 a0_1 a0_2 a0_3 a0_4 a0_5 a0_6 a0_7 a0_8 a0_9 a0_10 a0_11 a0_12 a0_13 a0_14 a0_15 a0_16 a0_17 a0_18 a1 = some (r1, r2, r3)) :
  Calls Try.prog 20 #[.agg #[.int .i64 a0_0, .int .i64 a0_1, .int .i64 a0_2, .int .i64 a0_3, .int .i64 a0_4, .int .i64 a0_5, .int .i64 a0_6, .int .i64 a0_7, .int .i64 a0_8, .int .i64 a0_9, .int .i64 a0_10, .int .i64 a0_11, .int .i64 a0_12, .int .i64 a0_13, .int .i64 a0_14, .int .i64 a0_15, .int .i64 a0_16, .int .i64 a0_17, .int .i64 a0_18], .int .i64 a1] w fun e w' => e = .returned (.tuple #[.int .i64 r1, .bool r2, .int .i64 r3]) ∧ Below w.heap.size w w' := by
 have hu30 := Try.underlying30
 have HB := Aside0.mk (Below.refl w.heap.size w)
 have H : ((spec_l05OK.f k a0_0 a0_1 a0_2 a0_3 a0_4 a0_5 a0_6 a0_7 a0_8 a0_9 a0_10 a0_11 a0_12 a0_13 a0_14 a0_15 a0_16 a0_17 a0_18).bind fun t165 => (if t165 = true then ((spec_l01In.f a1 0 65535).bind fun t166 => (if t166 = true then ((spec_l08Goal.f k a0_0 a0_1 a0_2 a0_3 a0_4 a0_5 a0_6 a0_7 a0_8 a0_9 a0_10 a0_11 a0_12 a0_13 a0_14 a0_15 a0_16 a0_17 a0_18 a1).bind fun bt167 => (some (bt167.1, bt167.2, 0))) else (some (0, false, 4)))) else (some (0, false, 1)))) = some (r1, r2, r3) := h
 clear h
 replace H := Option.bind_eq_some_iff.mp H
 obtain ⟨t165, A30, H⟩ := H
 replace H : (if t165 = true then ((spec_l01In.f a1 0 65535).bind fun t166 => (if t166 = true then ((spec_l08Goal.f k a0_0 a0_1 a0_2 a0_3 a0_4 a0_5 a0_6 a0_7 a0_8 a0_9 a0_10 a0_11 a0_12 a0_13 a0_14 a0_15 a0_16 a0_17 a0_18 a1).bind fun bt167 => (some (bt167.1, bt167.2, 0))) else (some (0, false, 4)))) else (some (0, false, 1))) = some (r1, r2, r3) := H
 have A3 := Aside0.mk A30
 clear A30
 by_cases c4 : t165 = true
 ·subst c4
  have H1 : ((spec_l01In.f a1 0 65535).bind fun t166 => (if t166 = true then ((spec_l08Goal.f k a0_0 a0_1 a0_2 a0_3 a0_4 a0_5 a0_6 a0_7 a0_8 a0_9 a0_10 a0_11 a0_12 a0_13 a0_14 a0_15 a0_16 a0_17 a0_18 a1).bind fun bt167 => (some (bt167.1, bt167.2, 0))) else (some (0, false, 4)))) = some (r1, r2, r3) := by rw [if_pos rfl] at H; exact H
  clear H
  have H := H1
  clear H1
  replace H := Option.bind_eq_some_iff.mp H
  obtain ⟨t166, A50, H⟩ := H
  replace H : (if t166 = true then ((spec_l08Goal.f k a0_0 a0_1 a0_2 a0_3 a0_4 a0_5 a0_6 a0_7 a0_8 a0_9 a0_10 a0_11 a0_12 a0_13 a0_14 a0_15 a0_16 a0_17 a0_18 a1).bind fun bt167 => (some (bt167.1, bt167.2, 0))) else (some (0, false, 4))) = some (r1, r2, r3) := H
  have A5 := Aside0.mk A50
  clear A50
  by_cases c6 : t166 = true
  ·subst c6
   have H1 : ((spec_l08Goal.f k a0_0 a0_1 a0_2 a0_3 a0_4 a0_5 a0_6 a0_7 a0_8 a0_9 a0_10 a0_11 a0_12 a0_13 a0_14 a0_15 a0_16 a0_17 a0_18 a1).bind fun bt167 => (some (bt167.1, bt167.2, 0))) = some (r1, r2, r3) := by rw [if_pos rfl] at H; exact H
   clear H
   have H := H1
   clear H1
   replace H := Option.bind_eq_some_iff.mp H
   obtain ⟨⟨t167, t168⟩, A70, H⟩ := H
   replace H : (some (t167, t168, 0)) = some (r1, r2, r3) := H
   have A7 := Aside0.mk A70
   clear A70
   simp only [Option.some.injEq, Prod.mk.injEq] at H
   obtain ⟨rfl, rfl, rfl⟩ := H
   go_enter Try.func20, Try.ntmps20
   go_wp2_with (first | ((with_reducible refine gate_dst (N := 9) rfl ?_); (try refine gate_guard (by rfl) ?_); refine ldw 30 (.tmp 2) rfl rfl rfl by37 Try.underlying30 rfl by4 ?_) | ((with_reducible refine gate_dst (N := 16) rfl ?_); (try refine gate_guard (by rfl) ?_); refine ldw 30 (.tmp 2) rfl rfl rfl by37 Try.underlying30 rfl by4 ?_) | ((with_reducible refine gate_dst (N := 2) rfl ?_); refine bx30 (w := w) (N := 2) rfl rfl rfl rfl by0 ?_; intro gb164 w8 n0_ BK164 GW164 GE164; clear HB; have HB := n0_; clear n0_; obtain ⟨hcz9_0, hcz9_1, hcz9_2, hcz9_3, hcz9_4, hcz9_5, hcz9_6, hcz9_7, hcz9_8, hcz9_9, hcz9_10, hcz9_11, hcz9_12, hcz9_13, hcz9_14, hcz9_15, hcz9_16, hcz9_17, hcz9_18⟩ := cs19 BK164.out) | ((with_reducible refine gate_callee (f := 50) rfl ?_); refine goesL_ (some 10) rfl rfl Try.func50 by4 rfl _ rfl by1 (Calls.mono (spec_l05OK.calls _ _ _ _ _ _ _ _ _ _ _ _ _ _ _ _ _ _ _ _ _ _ A3.out) ?_); rintro e w10 ⟨rfl, hb⟩; refine ⟨_, rfl, ?_⟩; have n0_ := Aside0.mk (blk_below by37 hb); have n1_ := Aside0.mk (below_step by65 hb); clear BK164; clear HB; have BK164 := n0_; have HB := n1_; clear n0_ n1_; (try clear hb); (try clear hb2); (try clear hk); (try clear hi)) | ((with_reducible refine gate_callee (f := 56) rfl ?_); refine goesL_ (some 13) rfl rfl Try.func56 by4 rfl #[.int .i64 a1, .int .i64 0, .int .i64 65535] rfl by1 ?_; (with_reducible refine (spec_l01In.calls a1 0 65535 true _ A5.out).mono ?_); rintro e w' ⟨rfl, ⟨nd, rfl⟩⟩; refine ⟨_, rfl, ?_⟩; obtain ⟨hcz11_0, hcz11_1, hcz11_2, hcz11_3, hcz11_4, hcz11_5, hcz11_6, hcz11_7, hcz11_8, hcz11_9, hcz11_10, hcz11_11, hcz11_12, hcz11_13, hcz11_14, hcz11_15, hcz11_16, hcz11_17, hcz11_18⟩ := cs19 BK164.out) | ((with_reducible refine gate_callee (f := 57) rfl ?_); refine goesL_ (some 18) rfl rfl Try.func57 by4 rfl _ rfl by1 (Calls.mono (spec_l08Goal.calls _ _ _ _ _ _ _ _ _ _ _ _ _ _ _ _ _ _ _ _ _ _ _ _ A7.out) ?_); rintro e w12 ⟨rfl, hb⟩; refine ⟨_, rfl, ?_⟩; have n0_ := Aside0.mk (blk_below by37 hb); have n1_ := Aside0.mk (below_step by65 hb); clear BK164; clear HB; have BK164 := n0_; have HB := n1_; clear n0_ n1_; (try clear hb); (try clear hb2); (try clear hk); (try clear hi)))
   go_ret3
   exact ⟨by first | rfl | (simp [errW_none, errW_some] <;> rfl) | (simp [*, errW_none, errW_some] <;> rfl), by repeat (first | (with_reducible first | exact HB.out | apply below_alloc | apply pw_below_drewN | apply below_drew1 | refine below_set ?_ GE164.out) | exact HB.out)⟩
  ·replace c6 := Bool.eq_false_iff.mpr c6
   subst c6
   have H1 : (some (0, false, 4)) = some (r1, r2, r3) := by rw [if_neg (show ¬ (false = true) by decide)] at H; exact H
   clear H
   have H := H1
   clear H1
   simp only [Option.some.injEq, Prod.mk.injEq] at H
   obtain ⟨rfl, rfl, rfl⟩ := H
   go_enter Try.func20, Try.ntmps20
   go_wp2_with (first | ((with_reducible refine gate_dst (N := 9) rfl ?_); (try refine gate_guard (by rfl) ?_); refine ldw 30 (.tmp 2) rfl rfl rfl by37 Try.underlying30 rfl by4 ?_) | ((with_reducible refine gate_dst (N := 16) rfl ?_); (try refine gate_guard (by rfl) ?_); refine ldw 30 (.tmp 2) rfl rfl rfl by37 Try.underlying30 rfl by4 ?_) | ((with_reducible refine gate_dst (N := 2) rfl ?_); refine bx30 (w := w) (N := 2) rfl rfl rfl rfl by0 ?_; intro gb164 w13 n0_ BK164 GW164 GE164; clear HB; have HB := n0_; clear n0_; obtain ⟨hcz14_0, hcz14_1, hcz14_2, hcz14_3, hcz14_4, hcz14_5, hcz14_6, hcz14_7, hcz14_8, hcz14_9, hcz14_10, hcz14_11, hcz14_12, hcz14_13, hcz14_14, hcz14_15, hcz14_16, hcz14_17, hcz14_18⟩ := cs19 BK164.out) | ((with_reducible refine gate_callee (f := 50) rfl ?_); refine goesL_ (some 10) rfl rfl Try.func50 by4 rfl _ rfl by1 (Calls.mono (spec_l05OK.calls _ _ _ _ _ _ _ _ _ _ _ _ _ _ _ _ _ _ _ _ _ _ A3.out) ?_); rintro e w15 ⟨rfl, hb⟩; refine ⟨_, rfl, ?_⟩; have n0_ := Aside0.mk (blk_below by37 hb); have n1_ := Aside0.mk (below_step by65 hb); clear BK164; clear HB; have BK164 := n0_; have HB := n1_; clear n0_ n1_; (try clear hb); (try clear hb2); (try clear hk); (try clear hi)) | ((with_reducible refine gate_callee (f := 56) rfl ?_); refine goesL_ (some 13) rfl rfl Try.func56 by4 rfl #[.int .i64 a1, .int .i64 0, .int .i64 65535] rfl by1 ?_; (with_reducible refine (spec_l01In.calls a1 0 65535 false _ A5.out).mono ?_); rintro e w' ⟨rfl, ⟨nd, rfl⟩⟩; refine ⟨_, rfl, ?_⟩))
   go_ret3
   exact ⟨by first | rfl | (simp [errW_none, errW_some] <;> rfl) | (simp [*, errW_none, errW_some] <;> rfl), by repeat (first | (with_reducible first | exact HB.out | apply below_alloc | apply pw_below_drewN | apply below_drew1 | refine below_set ?_ GE164.out) | exact HB.out)⟩
 ·replace c4 := Bool.eq_false_iff.mpr c4
  subst c4
  have H1 : (some (0, false, 1)) = some (r1, r2, r3) := by rw [if_neg (show ¬ (false = true) by decide)] at H; exact H
  clear H
  have H := H1
  clear H1
  simp only [Option.some.injEq, Prod.mk.injEq] at H
  obtain ⟨rfl, rfl, rfl⟩ := H
  go_enter Try.func20, Try.ntmps20
  go_wp2_with (first | ((with_reducible refine gate_dst (N := 9) rfl ?_); (try refine gate_guard (by rfl) ?_); refine ldw 30 (.tmp 2) rfl rfl rfl by37 Try.underlying30 rfl by4 ?_) | ((with_reducible refine gate_dst (N := 16) rfl ?_); (try refine gate_guard (by rfl) ?_); refine ldw 30 (.tmp 2) rfl rfl rfl by37 Try.underlying30 rfl by4 ?_) | ((with_reducible refine gate_dst (N := 2) rfl ?_); refine bx30 (w := w) (N := 2) rfl rfl rfl rfl by0 ?_; intro gb164 w16 n0_ BK164 GW164 GE164; clear HB; have HB := n0_; clear n0_; obtain ⟨hcz17_0, hcz17_1, hcz17_2, hcz17_3, hcz17_4, hcz17_5, hcz17_6, hcz17_7, hcz17_8, hcz17_9, hcz17_10, hcz17_11, hcz17_12, hcz17_13, hcz17_14, hcz17_15, hcz17_16, hcz17_17, hcz17_18⟩ := cs19 BK164.out) | ((with_reducible refine gate_callee (f := 50) rfl ?_); refine goesL_ (some 10) rfl rfl Try.func50 by4 rfl _ rfl by1 (Calls.mono (spec_l05OK.calls _ _ _ _ _ _ _ _ _ _ _ _ _ _ _ _ _ _ _ _ _ _ A3.out) ?_); rintro e w18 ⟨rfl, hb⟩; refine ⟨_, rfl, ?_⟩; have n0_ := Aside0.mk (blk_below by37 hb); have n1_ := Aside0.mk (below_step by65 hb); clear BK164; clear HB; have BK164 := n0_; have HB := n1_; clear n0_ n1_; (try clear hb); (try clear hb2); (try clear hk); (try clear hi)))
  go_ret3
  exact ⟨by first | rfl | (simp [errW_none, errW_some] <;> rfl) | (simp [*, errW_none, errW_some] <;> rfl), by repeat (first | (with_reducible first | exact HB.out | apply below_alloc | apply pw_below_drewN | apply below_drew1 | refine below_set ?_ GE164.out) | exact HB.out)⟩

/-! ### impl_ClassOf: function 103 -/
def impl_ClassOf.j0 : Nat → Int → Bool → Option (Int × Int)
 | 0, _, _ => none
 | k + 1, x7, x8 => if x8 = true then (some (2, 0)) else (if x7 = 34 then (some (3, 0)) else (if x7 = 41 then (some (3, 0)) else (if x7 = 42 then (some (3, 0)) else (if x7 = 43 then (some (3, 0)) else (if x7 = 44 then (some (3, 0)) else (some (1, 0)))))))
def impl_ClassOf.f (k : Nat) (a0 : Int) : Option (Int × Int) := (impl_isOp.f a0).bind fun t280 => (if t280 = true then (if a0 = 31 then (impl_ClassOf.j0 k a0 (a0 == 31)) else (if a0 = 32 then (impl_ClassOf.j0 k a0 (a0 == 32)) else (impl_ClassOf.j0 k a0 (a0 == 33)))) else (some (0, 4)))
theorem impl_ClassOf.mono_l : ∀ k, (∀ y0 y1, LeO (impl_ClassOf.j0 k y0 y1) (impl_ClassOf.j0 (k + 1) y0 y1))
 | 0 => fun _ _ r h => by simp [impl_ClassOf.j0] at h
 | k + 1 => by
  have ih0 := impl_ClassOf.mono_l k
  ·intro y0 y1
   unfold impl_ClassOf.j0
   repeat' first
   | (with_reducible exact ih0 _ _)
   | (with_reducible exact LeO.refl _)
   | (with_reducible exact LeO.none _)
   | (with_reducible refine LeO.ite ?_ ?_)
   | (with_reducible refine LeO.bind ?_ (fun _ => ?_))
   | refine LeO.ite ?_ ?_
   | refine LeO.bind ?_ (fun _ => ?_)
theorem impl_ClassOf.mono : ∀ a0 k, LeO (impl_ClassOf.f k a0) (impl_ClassOf.f (k + 1) a0) := by
 intro a0 k
 have ih0 := impl_ClassOf.mono_l k
 unfold impl_ClassOf.f
 repeat' first
   | (with_reducible exact ih0 _ _)
   | (with_reducible exact LeO.refl _)
   | (with_reducible exact LeO.none _)
   | (with_reducible refine LeO.ite ?_ ?_)
   | (with_reducible refine LeO.bind ?_ (fun _ => ?_))
   | refine LeO.ite ?_ ?_
   | refine LeO.bind ?_ (fun _ => ?_)
theorem impl_ClassOf.e0 {p : Prop} (h : p := by
 simp only [Option.some.injEq, Prod.mk.injEq] at H
 obtain ⟨rfl, rfl⟩ := H
 go_wp2
 go_ret2
 exact ⟨by first | rfl | (simp; done) | (simp [*]; done), by repeat (first | exact Drawn0.refl _ | apply Drawn0.step)⟩) : p := h
set_option maxHeartbeats 8000000 in
set_option maxRecDepth 100000 in
theorem impl_ClassOf.calls (k : Nat) (a0 : Int) (r1 : Int) (r2 : Int) (w : World) (h : impl_ClassOf.f k a0 = some (r1, r2)) :
  Calls Try.prog 103 #[.int .i64 a0] w fun e w' => e = .returned (.tuple #[.int .i64 r1, .int .i64 r2]) ∧ Drawn0 w w' := by
 have H : ((impl_isOp.f a0).bind fun t280 => (if t280 = true then (if a0 = 31 then (impl_ClassOf.j0 k a0 (a0 == 31)) else (if a0 = 32 then (impl_ClassOf.j0 k a0 (a0 == 32)) else (impl_ClassOf.j0 k a0 (a0 == 33)))) else (some (0, 4)))) = some (r1, r2) := h
 clear h
 replace H := Option.bind_eq_some_iff.mp H
 obtain ⟨t280, A20, H⟩ := H
 replace H : (if t280 = true then (if a0 = 31 then (impl_ClassOf.j0 k a0 (a0 == 31)) else (if a0 = 32 then (impl_ClassOf.j0 k a0 (a0 == 32)) else (impl_ClassOf.j0 k a0 (a0 == 33)))) else (some (0, 4))) = some (r1, r2) := H
 have A2 := Aside0.mk A20
 clear A20
 by_cases c3 : t280 = true
 ·subst c3
  have H1 : (if a0 = 31 then (impl_ClassOf.j0 k a0 (a0 == 31)) else (if a0 = 32 then (impl_ClassOf.j0 k a0 (a0 == 32)) else (impl_ClassOf.j0 k a0 (a0 == 33)))) = some (r1, r2) := by rw [if_pos rfl] at H; exact H
  clear H
  have H := H1
  clear H1
  have HC4 := Aside0.mk H
  clear H
  go_enter Try.func103, Try.ntmps103
  go_upto_if 8 with (first | ((with_reducible refine gate_callee (f := 81) rfl ?_); refine goesL_ (some 5) rfl rfl Try.func81 by4 rfl #[.int .i64 a0] rfl by1 ?_; (with_reducible refine (impl_isOp.calls a0 true _ A2.out).mono ?_); rintro e w' ⟨rfl, ⟨nd, rfl⟩⟩; refine ⟨_, rfl, ?_⟩))
  (try simp only [Act.put, List.setIfInBounds_toArray, List.set_cons_zero, List.set_cons_succ])
  go_cut [8] (fun v8 wc => ∃ (kq : Nat) (x8_3 : Bool), v8 = .bool x8_3 ∧ Aside0 (impl_ClassOf.j0 kq a0 x8_3 = some (r1, r2)) ∧ Aside0 (kq ≤ k) ∧ Drawn0 w wc)
  case first =>
   have H := HC4.out
   clear HC4
   by_cases c5 : a0 = 31
   ·rw [if_pos c5] at H
    have c5b0 : (a0 == 31) = true := beq_iff_eq.mpr c5
    have c5b1 : (a0 != 31) = false := bne_eq_false_iff_eq.mpr c5
    clear c5
    (first | rw [c5b0] | (simp only [i64_w, i32_w]; rw [c5b0]) | rw [c5b1] | skip)
    have H' := Aside0.mk H
    clear H
    go_wp2
    go_meet
    case rel => exact ⟨_, ((a0 == 31)), by8, H', ⟨by first | omega | exact Nat.le_refl _⟩, by repeat (first | exact Drawn0.refl _ | apply Drawn0.step)⟩
   ·rw [if_neg c5] at H
    have c5b0 : (a0 == 31) = false := beq_eq_false_iff_ne.mpr c5
    have c5b1 : (a0 != 31) = true := bne_iff_ne.mpr c5
    (first | rw [c5b0] | (simp only [i64_w, i32_w]; rw [c5b0]) | rw [c5b1] | skip)
    by_cases c6 : a0 = 32
    ·rw [if_pos c6] at H
     have c6b0 : (a0 == 32) = true := beq_iff_eq.mpr c6
     have c6b1 : (a0 != 32) = false := bne_eq_false_iff_eq.mpr c6
     clear c6
     have H' := Aside0.mk H
     clear H
     go_wp2
     go_meet
     case rel => exact ⟨_, ((a0 == 32)), by8, H', ⟨by first | omega | exact Nat.le_refl _⟩, by repeat (first | exact Drawn0.refl _ | apply Drawn0.step)⟩
    ·rw [if_neg c6] at H
     have c6b0 : (a0 == 32) = false := beq_eq_false_iff_ne.mpr c6
     have c6b1 : (a0 != 32) = true := bne_iff_ne.mpr c6
     have H' := Aside0.mk H
     clear H
     go_wp2
     go_meet
     case rel => exact ⟨_, ((a0 == 33)), by8, H', ⟨by first | omega | exact Nat.le_refl _⟩, by repeat (first | exact Drawn0.refl _ | apply Drawn0.step)⟩
  case rest =>
   clear HC4
   (try clear c3); (try clear c5); (try clear c5b0); (try clear c5b1); (try clear c6); (try clear c6b0); (try clear c6b1)
   obtain ⟨kq, x8_3, rfl, HA, HJ3, ⟨mc3, rfl⟩⟩ := hcut
   cases kq with
   | zero => exact absurd HA.out (by simp [impl_ClassOf.j0])
   | succ kj3 =>
    have H := HA.out
    clear HA
    simp only [impl_ClassOf.j0] at H
    by_cases c7 : x8_3 = true
    ·subst c7
     have H1 : (some (2, 0)) = some (r1, r2) := by rw [if_pos rfl] at H; exact H
     clear H
     have H := H1
     clear H1
     exact impl_ClassOf.e0
    ·replace c7 := Bool.eq_false_iff.mpr c7
     subst c7
     have H1 : (if a0 = 34 then (some (3, 0)) else (if a0 = 41 then (some (3, 0)) else (if a0 = 42 then (some (3, 0)) else (if a0 = 43 then (some (3, 0)) else (if a0 = 44 then (some (3, 0)) else (some (1, 0))))))) = some (r1, r2) := by rw [if_neg (show ¬ (false = true) by decide)] at H; exact H
     clear H
     have H := H1
     clear H1
     by_cases c8 : a0 = 34
     ·rw [if_pos c8] at H
      have c8b0 : (a0 == 34) = true := beq_iff_eq.mpr c8
      have c8b1 : (a0 != 34) = false := bne_eq_false_iff_eq.mpr c8
      clear c8
      exact impl_ClassOf.e0
     ·rw [if_neg c8] at H
      have c8b0 : (a0 == 34) = false := beq_eq_false_iff_ne.mpr c8
      have c8b1 : (a0 != 34) = true := bne_iff_ne.mpr c8
      by_cases c9 : a0 = 41
      ·rw [if_pos c9] at H
       have c9b0 : (a0 == 41) = true := beq_iff_eq.mpr c9
       have c9b1 : (a0 != 41) = false := bne_eq_false_iff_eq.mpr c9
       clear c9
       exact impl_ClassOf.e0
      ·rw [if_neg c9] at H
       have c9b0 : (a0 == 41) = false := beq_eq_false_iff_ne.mpr c9
       have c9b1 : (a0 != 41) = true := bne_iff_ne.mpr c9
       by_cases c10 : a0 = 42
       ·rw [if_pos c10] at H
        have c10b0 : (a0 == 42) = true := beq_iff_eq.mpr c10
        have c10b1 : (a0 != 42) = false := bne_eq_false_iff_eq.mpr c10
        clear c10
        exact impl_ClassOf.e0
       ·rw [if_neg c10] at H
        have c10b0 : (a0 == 42) = false := beq_eq_false_iff_ne.mpr c10
        have c10b1 : (a0 != 42) = true := bne_iff_ne.mpr c10
        by_cases c11 : a0 = 43
        ·rw [if_pos c11] at H
         have c11b0 : (a0 == 43) = true := beq_iff_eq.mpr c11
         have c11b1 : (a0 != 43) = false := bne_eq_false_iff_eq.mpr c11
         clear c11
         exact impl_ClassOf.e0
        ·rw [if_neg c11] at H
         have c11b0 : (a0 == 43) = false := beq_eq_false_iff_ne.mpr c11
         have c11b1 : (a0 != 43) = true := bne_iff_ne.mpr c11
         by_cases c12 : a0 = 44
         ·rw [if_pos c12] at H
          have c12b0 : (a0 == 44) = true := beq_iff_eq.mpr c12
          have c12b1 : (a0 != 44) = false := bne_eq_false_iff_eq.mpr c12
          clear c12
          exact impl_ClassOf.e0
         ·rw [if_neg c12] at H
          have c12b0 : (a0 == 44) = false := beq_eq_false_iff_ne.mpr c12
          have c12b1 : (a0 != 44) = true := bne_iff_ne.mpr c12
          exact impl_ClassOf.e0
 ·replace c3 := Bool.eq_false_iff.mpr c3
  subst c3
  have H1 : (some (0, 4)) = some (r1, r2) := by rw [if_neg (show ¬ (false = true) by decide)] at H; exact H
  clear H
  have H := H1
  clear H1
  simp only [Option.some.injEq, Prod.mk.injEq] at H
  obtain ⟨rfl, rfl⟩ := H
  go_enter Try.func103, Try.ntmps103
  go_wp2_with (first | ((with_reducible refine gate_callee (f := 81) rfl ?_); refine goesL_ (some 5) rfl rfl Try.func81 by4 rfl #[.int .i64 a0] rfl by1 ?_; (with_reducible refine (impl_isOp.calls a0 false _ A2.out).mono ?_); rintro e w' ⟨rfl, ⟨nd, rfl⟩⟩; refine ⟨_, rfl, ?_⟩))
  go_ret2
  exact ⟨by first | rfl | (simp; done) | (simp [*]; done), by repeat (first | exact Drawn0.refl _ | apply Drawn0.step)⟩

/-! ### impl_goalOf: function 59 -/
def impl_goalOf.f (k : Nat) (a0_0 : Int) (a0_1 : Int) (a0_2 : Int) (a0_3 : Int) (a0_4 : Int) (a0_5 : Int) (a0_6 : Int) (a0_7 : Int) (a0_8 : Int) (a0_9 : Int) (a0_10 : Int) (a0_11 : Int) (a0_12 : Int) (a0_13 : Int) (a0_14 : Int) (a0_15 : Int) (a0_16 : Int) (a0_17 : Int) (a0_18 : Int) (a1 : Int) : Option (Int × Bool) := (impl_ClassOf.f k a0_0).bind fun bt282 => (if bt282.1 = 2 then (if a0_11 = 3 then (some (wrap64 ((wrap64 (a1 + a0_18)) + a0_17), true)) else (some (0, false))) else (some (0, false)))
theorem impl_goalOf.mono : ∀ a0 a1 a2 a3 a4 a5 a6 a7 a8 a9 a10 a11 a12 a13 a14 a15 a16 a17 a18 a19 k, LeO (impl_goalOf.f k a0 a1 a2 a3 a4 a5 a6 a7 a8 a9 a10 a11 a12 a13 a14 a15 a16 a17 a18 a19) (impl_goalOf.f (k + 1) a0 a1 a2 a3 a4 a5 a6 a7 a8 a9 a10 a11 a12 a13 a14 a15 a16 a17 a18 a19) := by
 intro a0 a1 a2 a3 a4 a5 a6 a7 a8 a9 a10 a11 a12 a13 a14 a15 a16 a17 a18 a19 k
 unfold impl_goalOf.f
 repeat' first
   | (with_reducible exact impl_ClassOf.mono _ _)
   | (with_reducible exact LeO.refl _)
   | (with_reducible exact LeO.none _)
   | (with_reducible refine LeO.ite ?_ ?_)
   | (with_reducible refine LeO.bind ?_ (fun _ => ?_))
   | refine LeO.ite ?_ ?_
   | refine LeO.bind ?_ (fun _ => ?_)
theorem impl_goalOf.e0 {p : Prop} (h : p := by
 simp only [Option.some.injEq, Prod.mk.injEq] at H
 obtain ⟨rfl, rfl⟩ := H
 go_enter Try.func59, Try.ntmps59
 go_wp2_with (first | ((with_reducible refine gate_dst (N := 2) rfl ?_); refine bx30 (w := w) (N := 2) rfl rfl rfl rfl by0 ?_; intro gb_y0 w_y1 n_y2 BK_y3 GW_y4 GE_y5; clear HB; have HB := n_y2; clear n_y2; have hcz_y6 := cz BK_y3.out 0 (.int .i64 a0_0); have hcz_y7 := cz BK_y3.out 11 (.int .i64 a0_11); have hcz_y8 := cz BK_y3.out 17 (.int .i64 a0_17); have hcz_y9 := cz BK_y3.out 18 (.int .i64 a0_18)) | ((with_reducible refine gate_callee (f := 103) rfl ?_); refine goesL_ (some 11) rfl rfl Try.func103 by4 rfl #[.int .i64 a0_0] rfl by1 ?_; (with_reducible refine (impl_ClassOf.calls k a0_0 t282 t283 _ A3.out).mono ?_); rintro e w' ⟨rfl, ⟨nd, rfl⟩⟩; refine ⟨_, rfl, ?_⟩))
 go_ret2
 exact ⟨by first | rfl | (simp [errW_none, errW_some] <;> rfl) | (simp [*, errW_none, errW_some] <;> rfl), by repeat (first | (with_reducible first | exact HB.out | apply below_alloc | apply pw_below_drewN | apply below_drew1 | refine below_set ?_ GE_y5.out) | exact HB.out)⟩) : p := h
set_option maxHeartbeats 8000000 in
set_option maxRecDepth 100000 in
theorem impl_goalOf.calls (k : Nat) (a0_0 : Int) (a0_1 : Int) (a0_2 : Int) (a0_3 : Int) (a0_4 : Int) (a0_5 : Int) (a0_6 : Int) (a0_7 : Int) (a0_8 : Int) (a0_9 : Int) (a0_10 : Int) (a0_11 : Int) (a0_12 : Int) (a0_13 : Int) (a0_14 : Int) (a0_15 : Int) (a0_16 : Int) (a0_17 : Int) (a0_18 : Int) (a1 : Int) (r1 : Int) (r2 : Bool) (w : World) (h : impl_goalOf.f k a0_0 a0_1 a0_2 a0_3 a0_4 a0_5 a0_6 a0_7 a0_8 a0_9 a0_10 a0_11 a0_12 a0_13 a0_14 a0_15 a0_16 a0_17 a0_18 a1 = some (r1, r2)) :
  Calls Try.prog 59 #[.agg #[.int .i64 a0_0, .int .i64 a0_1, .int .i64 a0_2, .int .i64 a0_3, .int .i64 a0_4, .int .i64 a0_5, .int .i64 a0_6, .int .i64 a0_7, .int .i64 a0_8, .int .i64 a0_9, .int .i64 a0_10, .int .i64 a0_11, .int .i64 a0_12, .int .i64 a0_13, .int .i64 a0_14, .int .i64 a0_15, .int .i64 a0_16, .int .i64 a0_17, .int .i64 a0_18], .int .i64 a1] w fun e w' => e = .returned (.tuple #[.int .i64 r1, .bool r2]) ∧ Below w.heap.size w w' := by
 have hu30 := Try.underlying30
 have HB := Aside0.mk (Below.refl w.heap.size w)
 have H : ((impl_ClassOf.f k a0_0).bind fun bt282 => (if bt282.1 = 2 then (if a0_11 = 3 then (some (wrap64 ((wrap64 (a1 + a0_18)) + a0_17), true)) else (some (0, false))) else (some (0, false)))) = some (r1, r2) := h
 clear h
 replace H := Option.bind_eq_some_iff.mp H
 obtain ⟨⟨t282, t283⟩, A30, H⟩ := H
 replace H : (if t282 = 2 then (if a0_11 = 3 then (some (wrap64 ((wrap64 (a1 + a0_18)) + a0_17), true)) else (some (0, false))) else (some (0, false))) = some (r1, r2) := H
 have A3 := Aside0.mk A30
 clear A30
 by_cases c4 : t282 = 2
 ·rw [if_pos c4] at H
  have c4b0 : (t282 == 2) = true := beq_iff_eq.mpr c4
  have c4b1 : (t282 != 2) = false := bne_eq_false_iff_eq.mpr c4
  clear c4
  by_cases c5 : a0_11 = 3
  ·rw [if_pos c5] at H
   have c5b0 : (a0_11 == 3) = true := beq_iff_eq.mpr c5
   have c5b1 : (a0_11 != 3) = false := bne_eq_false_iff_eq.mpr c5
   clear c5
   exact impl_goalOf.e0
  ·rw [if_neg c5] at H
   have c5b0 : (a0_11 == 3) = false := beq_eq_false_iff_ne.mpr c5
   have c5b1 : (a0_11 != 3) = true := bne_iff_ne.mpr c5
   exact impl_goalOf.e0
 ·rw [if_neg c4] at H
  have c4b0 : (t282 == 2) = false := beq_eq_false_iff_ne.mpr c4
  have c4b1 : (t282 != 2) = true := bne_iff_ne.mpr c4
  exact impl_goalOf.e0

/-! ### impl_GoalOf: function 21 -/
def impl_GoalOf.f (k : Nat) (a0_0 : Int) (a0_1 : Int) (a0_2 : Int) (a0_3 : Int) (a0_4 : Int) (a0_5 : Int) (a0_6 : Int) (a0_7 : Int) (a0_8 : Int) (a0_9 : Int) (a0_10 : Int) (a0_11 : Int) (a0_12 : Int) (a0_13 : Int) (a0_14 : Int) (a0_15 : Int) (a0_16 : Int) (a0_17 : Int) (a0_18 : Int) (a1 : Int) : Option (Int × Bool × Int) := (impl_InstrOK.f k a0_0 a0_1 a0_2 a0_3 a0_4 a0_5 a0_6 a0_7 a0_8 a0_9 a0_10 a0_11 a0_12 a0_13 a0_14 a0_15 a0_16 a0_17 a0_18).bind fun t285 => (if t285 = true then ((impl_within.f a1 0 65535).bind fun t286 => (if t286 = true then ((impl_goalOf.f k a0_0 a0_1 a0_2 a0_3 a0_4 a0_5 a0_6 a0_7 a0_8 a0_9 a0_10 a0_11 a0_12 a0_13 a0_14 a0_15 a0_16 a0_17 a0_18 a1).bind fun bt287 => (some (bt287.1, bt287.2, 0))) else (some (0, false, 4)))) else (some (0, false, 1)))
theorem impl_GoalOf.mono : ∀ a0 a1 a2 a3 a4 a5 a6 a7 a8 a9 a10 a11 a12 a13 a14 a15 a16 a17 a18 a19 k, LeO (impl_GoalOf.f k a0 a1 a2 a3 a4 a5 a6 a7 a8 a9 a10 a11 a12 a13 a14 a15 a16 a17 a18 a19) (impl_GoalOf.f (k + 1) a0 a1 a2 a3 a4 a5 a6 a7 a8 a9 a10 a11 a12 a13 a14 a15 a16 a17 a18 a19) := by
 intro a0 a1 a2 a3 a4 a5 a6 a7 a8 a9 a10 a11 a12 a13 a14 a15 a16 a17 a18 a19 k
 unfold impl_GoalOf.f
 repeat' first
   | (with_reducible exact impl_InstrOK.mono _ _ _ _ _ _ _ _ _ _ _ _ _ _ _ _ _ _ _ _)
   | (with_reducible exact impl_goalOf.mono _ _ _ _ _ _ _ _ _ _ _ _ _ _ _ _ _ _ _ _ _)
   | (with_reducible exact LeO.refl _)
   | (with_reducible exact LeO.none _)
   | (with_reducible refine LeO.ite ?_ ?_)
   | (with_reducible refine LeO.bind ?_ (fun _ => ?_))
   | refine LeO.ite ?_ ?_
   | refine LeO.bind ?_ (fun _ => ?_)
set_option maxHeartbeats 8000000 in
set_option maxRecDepth 100000 in
theorem impl_GoalOf.calls (k : Nat) (a0_0 : Int) (a0_1 : Int) (a0_2 : Int) (a0_3 : Int) (a0_4 : Int) (a0_5 : Int) (a0_6 : Int) (a0_7 : Int) (a0_8 : Int) (a0_9 : Int) (a0_10 : Int) (a0_11 : Int) (a0_12 : Int) (a0_13 : Int) (a0_14 : Int) (a0_15 : Int) (a0_16 : Int) (a0_17 : Int) (a0_18 : Int) (a1 : Int) (r1 : Int) (r2 : Bool) (r3 : Int) (w : World) (HGL0 : PGlob w) (h : impl_GoalOf.f k a0_0 a0_1 a0_2 a0_3 a0_4 a0_5 a0_6 a0_7 a0_8 a0_9 a0_10 a0_11 a0_12 a0_13 a0_14 a0_15 a0_16 a0_17 a0_18 a1 = some (r1, r2, r3)) :
  Calls Try.prog 21 #[.agg #[.int .i64 a0_0, .int .i64 a0_1, .int .i64 a0_2, .int .i64 a0_3, .int .i64 a0_4, .int .i64 a0_5, .int .i64 a0_6, .int .i64 a0_7, .int .i64 a0_8, .int .i64 a0_9, .int .i64 a0_10, .int .i64 a0_11, .int .i64 a0_12, .int .i64 a0_13, .int .i64 a0_14, .int .i64 a0_15, .int .i64 a0_16, .int .i64 a0_17, .int .i64 a0_18], .int .i64 a1] w fun e w' => e = .returned (.tuple #[.int .i64 r1, .bool r2, .int .i64 r3]) ∧ Below w.heap.size w w' := by
 have HGL := Aside0.mk HGL0
 clear HGL0
 have hu30 := Try.underlying30
 have HB := Aside0.mk (Below.refl w.heap.size w)
 have H : ((impl_InstrOK.f k a0_0 a0_1 a0_2 a0_3 a0_4 a0_5 a0_6 a0_7 a0_8 a0_9 a0_10 a0_11 a0_12 a0_13 a0_14 a0_15 a0_16 a0_17 a0_18).bind fun t285 => (if t285 = true then ((impl_within.f a1 0 65535).bind fun t286 => (if t286 = true then ((impl_goalOf.f k a0_0 a0_1 a0_2 a0_3 a0_4 a0_5 a0_6 a0_7 a0_8 a0_9 a0_10 a0_11 a0_12 a0_13 a0_14 a0_15 a0_16 a0_17 a0_18 a1).bind fun bt287 => (some (bt287.1, bt287.2, 0))) else (some (0, false, 4)))) else (some (0, false, 1)))) = some (r1, r2, r3) := h
 clear h
 replace H := Option.bind_eq_some_iff.mp H
 obtain ⟨t285, A30, H⟩ := H
 replace H : (if t285 = true then ((impl_within.f a1 0 65535).bind fun t286 => (if t286 = true then ((impl_goalOf.f k a0_0 a0_1 a0_2 a0_3 a0_4 a0_5 a0_6 a0_7 a0_8 a0_9 a0_10 a0_11 a0_12 a0_13 a0_14 a0_15 a0_16 a0_17 a0_18 a1).bind fun bt287 => (some (bt287.1, bt287.2, 0))) else (some (0, false, 4)))) else (some (0, false, 1))) = some (r1, r2, r3) := H
 have A3 := Aside0.mk A30
 clear A30
 by_cases c4 : t285 = true
 ·subst c4
  have H1 : ((impl_within.f a1 0 65535).bind fun t286 => (if t286 = true then ((impl_goalOf.f k a0_0 a0_1 a0_2 a0_3 a0_4 a0_5 a0_6 a0_7 a0_8 a0_9 a0_10 a0_11 a0_12 a0_13 a0_14 a0_15 a0_16 a0_17 a0_18 a1).bind fun bt287 => (some (bt287.1, bt287.2, 0))) else (some (0, false, 4)))) = some (r1, r2, r3) := by rw [if_pos rfl] at H; exact H
  clear H
  have H := H1
  clear H1
  replace H := Option.bind_eq_some_iff.mp H
  obtain ⟨t286, A50, H⟩ := H
  replace H : (if t286 = true then ((impl_goalOf.f k a0_0 a0_1 a0_2 a0_3 a0_4 a0_5 a0_6 a0_7 a0_8 a0_9 a0_10 a0_11 a0_12 a0_13 a0_14 a0_15 a0_16 a0_17 a0_18 a1).bind fun bt287 => (some (bt287.1, bt287.2, 0))) else (some (0, false, 4))) = some (r1, r2, r3) := H
  have A5 := Aside0.mk A50
  clear A50
  by_cases c6 : t286 = true
  ·subst c6
   have H1 : ((impl_goalOf.f k a0_0 a0_1 a0_2 a0_3 a0_4 a0_5 a0_6 a0_7 a0_8 a0_9 a0_10 a0_11 a0_12 a0_13 a0_14 a0_15 a0_16 a0_17 a0_18 a1).bind fun bt287 => (some (bt287.1, bt287.2, 0))) = some (r1, r2, r3) := by rw [if_pos rfl] at H; exact H
   clear H
   have H := H1
   clear H1
   replace H := Option.bind_eq_some_iff.mp H
   obtain ⟨⟨t287, t288⟩, A70, H⟩ := H
   replace H : (some (t287, t288, 0)) = some (r1, r2, r3) := H
   have A7 := Aside0.mk A70
   clear A70
   simp only [Option.some.injEq, Prod.mk.injEq] at H
   obtain ⟨rfl, rfl, rfl⟩ := H
   go_enter Try.func21, Try.ntmps21
   go_wp2_with (first | ((with_reducible refine gate_dst (N := 10) rfl ?_); (try refine gate_guard (by rfl) ?_); refine ldw 30 (.tmp 2) rfl rfl rfl by41 Try.underlying30 rfl by4 ?_) | ((with_reducible refine gate_dst (N := 18) rfl ?_); (try refine gate_guard (by rfl) ?_); refine ldw 30 (.tmp 2) rfl rfl rfl by41 Try.underlying30 rfl by4 ?_) | ((with_reducible refine gate_dst (N := 2) rfl ?_); refine bx30 (w := w) (N := 2) rfl rfl rfl rfl by0 ?_; intro gb284 w8 n0_ BK284 GW284 GE284; clear HB; have HB := n0_; clear n0_; obtain ⟨hcz9_0, hcz9_1, hcz9_2, hcz9_3, hcz9_4, hcz9_5, hcz9_6, hcz9_7, hcz9_8, hcz9_9, hcz9_10, hcz9_11, hcz9_12, hcz9_13, hcz9_14, hcz9_15, hcz9_16, hcz9_17, hcz9_18⟩ := cs19 BK284.out) | ((with_reducible refine gate_callee (f := 42) rfl ?_); refine goesL_ (some 11) rfl rfl Try.func42 by4 rfl #[.agg #[.int .i64 a0_0, .int .i64 a0_1, .int .i64 a0_2, .int .i64 a0_3, .int .i64 a0_4, .int .i64 a0_5, .int .i64 a0_6, .int .i64 a0_7, .int .i64 a0_8, .int .i64 a0_9, .int .i64 a0_10, .int .i64 a0_11, .int .i64 a0_12, .int .i64 a0_13, .int .i64 a0_14, .int .i64 a0_15, .int .i64 a0_16, .int .i64 a0_17, .int .i64 a0_18]] rfl by1 ?_; (with_reducible refine (impl_InstrOK.calls (HGL0 := by23) k a0_0 a0_1 a0_2 a0_3 a0_4 a0_5 a0_6 a0_7 a0_8 a0_9 a0_10 a0_11 a0_12 a0_13 a0_14 a0_15 a0_16 a0_17 a0_18 true _ A3.out).mono ?_); rintro e w10 ⟨rfl, hb⟩; refine ⟨_, rfl, ?_⟩; have n0_ := Aside0.mk (blk_below by41 hb); have n1_ := Aside0.mk (below_step by66 hb); clear BK284; clear HB; have BK284 := n0_; have HB := n1_; clear n0_ n1_; (try clear hb); (try clear hb2); (try clear hk); (try clear hi)) | ((with_reducible refine gate_callee (f := 58) rfl ?_); refine goesL_ (some 15) rfl rfl Try.func58 by4 rfl #[.int .i64 a1, .int .i64 0, .int .i64 65535] rfl by1 ?_; (with_reducible refine (impl_within.calls a1 0 65535 true _ A5.out).mono ?_); rintro e w' ⟨rfl, ⟨nd, rfl⟩⟩; refine ⟨_, rfl, ?_⟩; obtain ⟨hcz11_0, hcz11_1, hcz11_2, hcz11_3, hcz11_4, hcz11_5, hcz11_6, hcz11_7, hcz11_8, hcz11_9, hcz11_10, hcz11_11, hcz11_12, hcz11_13, hcz11_14, hcz11_15, hcz11_16, hcz11_17, hcz11_18⟩ := cs19 BK284.out) | ((with_reducible refine gate_callee (f := 59) rfl ?_); refine goesL_ (some 20) rfl rfl Try.func59 by4 rfl _ rfl by1 (Calls.mono (impl_goalOf.calls _ _ _ _ _ _ _ _ _ _ _ _ _ _ _ _ _ _ _ _ _ _ _ _ A7.out) ?_); rintro e w12 ⟨rfl, hb⟩; refine ⟨_, rfl, ?_⟩; have n0_ := Aside0.mk (blk_below by41 hb); have n1_ := Aside0.mk (below_step by66 hb); clear BK284; clear HB; have BK284 := n0_; have HB := n1_; clear n0_ n1_; (try clear hb); (try clear hb2); (try clear hk); (try clear hi)))
   go_ret3
   exact ⟨by first | rfl | (simp [errW_none, errW_some] <;> rfl) | (simp [*, errW_none, errW_some] <;> rfl), by repeat (first | (with_reducible first | exact HB.out | apply below_alloc | apply pw_below_drewN | apply below_drew1 | refine below_set ?_ GE284.out) | exact HB.out)⟩
  ·replace c6 := Bool.eq_false_iff.mpr c6
   subst c6
   have H1 : (some (0, false, 4)) = some (r1, r2, r3) := by rw [if_neg (show ¬ (false = true) by decide)] at H; exact H
   clear H
   have H := H1
   clear H1
   simp only [Option.some.injEq, Prod.mk.injEq] at H
   obtain ⟨rfl, rfl, rfl⟩ := H
   go_enter Try.func21, Try.ntmps21
   go_wp2_with (first | ((with_reducible refine gate_dst (N := 10) rfl ?_); (try refine gate_guard (by rfl) ?_); refine ldw 30 (.tmp 2) rfl rfl rfl by41 Try.underlying30 rfl by4 ?_) | ((with_reducible refine gate_dst (N := 18) rfl ?_); (try refine gate_guard (by rfl) ?_); refine ldw 30 (.tmp 2) rfl rfl rfl by41 Try.underlying30 rfl by4 ?_) | ((with_reducible refine gate_dst (N := 2) rfl ?_); refine bx30 (w := w) (N := 2) rfl rfl rfl rfl by0 ?_; intro gb284 w13 n0_ BK284 GW284 GE284; clear HB; have HB := n0_; clear n0_; obtain ⟨hcz14_0, hcz14_1, hcz14_2, hcz14_3, hcz14_4, hcz14_5, hcz14_6, hcz14_7, hcz14_8, hcz14_9, hcz14_10, hcz14_11, hcz14_12, hcz14_13, hcz14_14, hcz14_15, hcz14_16, hcz14_17, hcz14_18⟩ := cs19 BK284.out) | ((with_reducible refine gate_callee (f := 42) rfl ?_); refine goesL_ (some 11) rfl rfl Try.func42 by4 rfl #[.agg #[.int .i64 a0_0, .int .i64 a0_1, .int .i64 a0_2, .int .i64 a0_3, .int .i64 a0_4, .int .i64 a0_5, .int .i64 a0_6, .int .i64 a0_7, .int .i64 a0_8, .int .i64 a0_9, .int .i64 a0_10, .int .i64 a0_11, .int .i64 a0_12, .int .i64 a0_13, .int .i64 a0_14, .int .i64 a0_15, .int .i64 a0_16, .int .i64 a0_17, .int .i64 a0_18]] rfl by1 ?_; (with_reducible refine (impl_InstrOK.calls (HGL0 := by23) k a0_0 a0_1 a0_2 a0_3 a0_4 a0_5 a0_6 a0_7 a0_8 a0_9 a0_10 a0_11 a0_12 a0_13 a0_14 a0_15 a0_16 a0_17 a0_18 true _ A3.out).mono ?_); rintro e w15 ⟨rfl, hb⟩; refine ⟨_, rfl, ?_⟩; have n0_ := Aside0.mk (blk_below by41 hb); have n1_ := Aside0.mk (below_step by66 hb); clear BK284; clear HB; have BK284 := n0_; have HB := n1_; clear n0_ n1_; (try clear hb); (try clear hb2); (try clear hk); (try clear hi)) | ((with_reducible refine gate_callee (f := 58) rfl ?_); refine goesL_ (some 15) rfl rfl Try.func58 by4 rfl #[.int .i64 a1, .int .i64 0, .int .i64 65535] rfl by1 ?_; (with_reducible refine (impl_within.calls a1 0 65535 false _ A5.out).mono ?_); rintro e w' ⟨rfl, ⟨nd, rfl⟩⟩; refine ⟨_, rfl, ?_⟩))
   go_ret3
   exact ⟨by first | rfl | (simp [errW_none, errW_some] <;> rfl) | (simp [*, errW_none, errW_some] <;> rfl), by repeat (first | (with_reducible first | exact HB.out | apply below_alloc | apply pw_below_drewN | apply below_drew1 | refine below_set ?_ GE284.out) | exact HB.out)⟩
 ·replace c4 := Bool.eq_false_iff.mpr c4
  subst c4
  have H1 : (some (0, false, 1)) = some (r1, r2, r3) := by rw [if_neg (show ¬ (false = true) by decide)] at H; exact H
  clear H
  have H := H1
  clear H1
  simp only [Option.some.injEq, Prod.mk.injEq] at H
  obtain ⟨rfl, rfl, rfl⟩ := H
  go_enter Try.func21, Try.ntmps21
  go_wp2_with (first | ((with_reducible refine gate_dst (N := 10) rfl ?_); (try refine gate_guard (by rfl) ?_); refine ldw 30 (.tmp 2) rfl rfl rfl by41 Try.underlying30 rfl by4 ?_) | ((with_reducible refine gate_dst (N := 18) rfl ?_); (try refine gate_guard (by rfl) ?_); refine ldw 30 (.tmp 2) rfl rfl rfl by41 Try.underlying30 rfl by4 ?_) | ((with_reducible refine gate_dst (N := 2) rfl ?_); refine bx30 (w := w) (N := 2) rfl rfl rfl rfl by0 ?_; intro gb284 w16 n0_ BK284 GW284 GE284; clear HB; have HB := n0_; clear n0_; obtain ⟨hcz17_0, hcz17_1, hcz17_2, hcz17_3, hcz17_4, hcz17_5, hcz17_6, hcz17_7, hcz17_8, hcz17_9, hcz17_10, hcz17_11, hcz17_12, hcz17_13, hcz17_14, hcz17_15, hcz17_16, hcz17_17, hcz17_18⟩ := cs19 BK284.out) | ((with_reducible refine gate_callee (f := 42) rfl ?_); refine goesL_ (some 11) rfl rfl Try.func42 by4 rfl #[.agg #[.int .i64 a0_0, .int .i64 a0_1, .int .i64 a0_2, .int .i64 a0_3, .int .i64 a0_4, .int .i64 a0_5, .int .i64 a0_6, .int .i64 a0_7, .int .i64 a0_8, .int .i64 a0_9, .int .i64 a0_10, .int .i64 a0_11, .int .i64 a0_12, .int .i64 a0_13, .int .i64 a0_14, .int .i64 a0_15, .int .i64 a0_16, .int .i64 a0_17, .int .i64 a0_18]] rfl by1 ?_; (with_reducible refine (impl_InstrOK.calls (HGL0 := by23) k a0_0 a0_1 a0_2 a0_3 a0_4 a0_5 a0_6 a0_7 a0_8 a0_9 a0_10 a0_11 a0_12 a0_13 a0_14 a0_15 a0_16 a0_17 a0_18 false _ A3.out).mono ?_); rintro e w18 ⟨rfl, hb⟩; refine ⟨_, rfl, ?_⟩; have n0_ := Aside0.mk (blk_below by41 hb); have n1_ := Aside0.mk (below_step by66 hb); clear BK284; clear HB; have BK284 := n0_; have HB := n1_; clear n0_ n1_; (try clear hb); (try clear hb2); (try clear hk); (try clear hi)))
  go_ret3
  exact ⟨by first | rfl | (simp [errW_none, errW_some] <;> rfl) | (simp [*, errW_none, errW_some] <;> rfl), by repeat (first | (with_reducible first | exact HB.out | apply below_alloc | apply pw_below_drewN | apply below_drew1 | refine below_set ?_ GE284.out) | exact HB.out)⟩

/-! ### laws_FnExactGoalOf: function 5 -/
def laws_FnExactGoalOf.f (k : Nat) (a0_0 : Int) (a0_1 : Int) (a0_2 : Int) (a0_3 : Int) (a0_4 : Int) (a0_5 : Int) (a0_6 : Int) (a0_7 : Int) (a0_8 : Int) (a0_9 : Int) (a0_10 : Int) (a0_11 : Int) (a0_12 : Int) (a0_13 : Int) (a0_14 : Int) (a0_15 : Int) (a0_16 : Int) (a0_17 : Int) (a0_18 : Int) (a1 : Int) : Option (Bool) := (laws_toInstr.f a0_0 a0_1 a0_2 a0_3 a0_4 a0_5 a0_6 a0_7 a0_8 a0_9 a0_10 a0_11 a0_12 a0_13 a0_14 a0_15 a0_16 a0_17 a0_18).bind fun bt290 => ((spec_GoalOf.f k bt290.1 bt290.2.1 bt290.2.2.1 bt290.2.2.2.1 bt290.2.2.2.2.1 bt290.2.2.2.2.2.1 bt290.2.2.2.2.2.2.1 bt290.2.2.2.2.2.2.2.1 bt290.2.2.2.2.2.2.2.2.1 bt290.2.2.2.2.2.2.2.2.2.1 bt290.2.2.2.2.2.2.2.2.2.2.1 bt290.2.2.2.2.2.2.2.2.2.2.2.1 bt290.2.2.2.2.2.2.2.2.2.2.2.2.1 bt290.2.2.2.2.2.2.2.2.2.2.2.2.2.1 bt290.2.2.2.2.2.2.2.2.2.2.2.2.2.2.1 bt290.2.2.2.2.2.2.2.2.2.2.2.2.2.2.2.1 bt290.2.2.2.2.2.2.2.2.2.2.2.2.2.2.2.2.1 bt290.2.2.2.2.2.2.2.2.2.2.2.2.2.2.2.2.2.1 bt290.2.2.2.2.2.2.2.2.2.2.2.2.2.2.2.2.2.2 a1).bind fun bt309 => ((laws_toInstr.f a0_0 a0_1 a0_2 a0_3 a0_4 a0_5 a0_6 a0_7 a0_8 a0_9 a0_10 a0_11 a0_12 a0_13 a0_14 a0_15 a0_16 a0_17 a0_18).bind fun bt312 => ((impl_GoalOf.f k bt312.1 bt312.2.1 bt312.2.2.1 bt312.2.2.2.1 bt312.2.2.2.2.1 bt312.2.2.2.2.2.1 bt312.2.2.2.2.2.2.1 bt312.2.2.2.2.2.2.2.1 bt312.2.2.2.2.2.2.2.2.1 bt312.2.2.2.2.2.2.2.2.2.1 bt312.2.2.2.2.2.2.2.2.2.2.1 bt312.2.2.2.2.2.2.2.2.2.2.2.1 bt312.2.2.2.2.2.2.2.2.2.2.2.2.1 bt312.2.2.2.2.2.2.2.2.2.2.2.2.2.1 bt312.2.2.2.2.2.2.2.2.2.2.2.2.2.2.1 bt312.2.2.2.2.2.2.2.2.2.2.2.2.2.2.2.1 bt312.2.2.2.2.2.2.2.2.2.2.2.2.2.2.2.2.1 bt312.2.2.2.2.2.2.2.2.2.2.2.2.2.2.2.2.2.1 bt312.2.2.2.2.2.2.2.2.2.2.2.2.2.2.2.2.2.2 a1).bind fun bt331 => (if bt331.1 = bt309.1 then (if (bt331.2.1 != bt309.2.1) = true then (some false) else (if bt331.2.2 = bt309.2.2 then (some true) else (some false))) else (some false)))))
theorem laws_FnExactGoalOf.mono : ∀ a0 a1 a2 a3 a4 a5 a6 a7 a8 a9 a10 a11 a12 a13 a14 a15 a16 a17 a18 a19 k, LeO (laws_FnExactGoalOf.f k a0 a1 a2 a3 a4 a5 a6 a7 a8 a9 a10 a11 a12 a13 a14 a15 a16 a17 a18 a19) (laws_FnExactGoalOf.f (k + 1) a0 a1 a2 a3 a4 a5 a6 a7 a8 a9 a10 a11 a12 a13 a14 a15 a16 a17 a18 a19) := by
 intro a0 a1 a2 a3 a4 a5 a6 a7 a8 a9 a10 a11 a12 a13 a14 a15 a16 a17 a18 a19 k
 unfold laws_FnExactGoalOf.f
 repeat' first
   | (with_reducible exact impl_GoalOf.mono _ _ _ _ _ _ _ _ _ _ _ _ _ _ _ _ _ _ _ _ _)
   | (with_reducible exact spec_GoalOf.mono _ _ _ _ _ _ _ _ _ _ _ _ _ _ _ _ _ _ _ _ _)
   | (with_reducible exact LeO.refl _)
   | (with_reducible exact LeO.none _)
   | (with_reducible refine LeO.ite ?_ ?_)
   | (with_reducible refine LeO.bind ?_ (fun _ => ?_))
   | refine LeO.ite ?_ ?_
   | refine LeO.bind ?_ (fun _ => ?_)
theorem laws_FnExactGoalOf.e0 {p : Prop} (h : p := by
 obtain rfl := Option.some.inj H
 go_enter Try.func5, Try.ntmps5
 go_wp2_with (first | ((with_reducible refine gate_dst (N := 12) rfl ?_); (try refine gate_guard (by rfl) ?_); refine ldw 25 (.tmp 2) rfl rfl rfl by33 Try.underlying25 rfl by4 ?_) | ((with_reducible refine gate_dst (N := 20) rfl ?_); (try refine gate_guard (by rfl) ?_); refine ldw 25 (.tmp 2) rfl rfl rfl by33 Try.underlying25 rfl by4 ?_) | ((with_reducible refine gate_dst (N := 2) rfl ?_); refine bx25 (w := w) (N := 2) rfl rfl rfl rfl by0 ?_; intro gb_y0 w_y1 n_y2 BK289 GW_y3 GE_y4; clear HB; have HB := n_y2; clear n_y2; obtain ⟨hcz_y5, hcz_y6, hcz_y7, hcz_y8, hcz_y9, hcz_y10, hcz_y11, hcz_y12, hcz_y13, hcz_y14, hcz_y15, hcz_y16, hcz_y17, hcz_y18, hcz_y19, hcz_y20, hcz_y21, hcz_y22, hcz_y23⟩ := cs19 BK289.out) | ((with_reducible refine gate_callee (f := 16) rfl ?_); refine goesL_ (some 13) rfl rfl Try.func16 by4 rfl _ rfl by1 (Calls.mono (laws_toInstr.calls _ _ _ _ _ _ _ _ _ _ _ _ _ _ _ _ _ _ _ _ _ _ _ _ _ _ _ _ _ _ _ _ _ _ _ _ _ _ _ A3.out) ?_); rintro e w_y24 ⟨rfl, hb⟩; refine ⟨_, rfl, ?_⟩; have n_y2 := Aside0.mk (blk_below by33 hb); have n_y25 := Aside0.mk (below_step by36 hb); clear BK289; clear HB; have BK289 := n_y2; have HB := n_y25; clear n_y2 n_y25; (try clear hb); (try clear hb2); (try clear hk); (try clear hi)) | ((with_reducible refine gate_callee (f := 20) rfl ?_); refine goesL_ (some 15) rfl rfl Try.func20 by4 rfl _ rfl by1 (Calls.mono (spec_GoalOf.calls _ _ _ _ _ _ _ _ _ _ _ _ _ _ _ _ _ _ _ _ _ _ _ _ _ A4.out) ?_); rintro e w_y26 ⟨rfl, hb⟩; refine ⟨_, rfl, ?_⟩; have n_y2 := Aside0.mk (blk_below by33 hb); have n_y25 := Aside0.mk (below_step by36 hb); clear BK289; clear HB; have BK289 := n_y2; have HB := n_y25; clear n_y2 n_y25; (try clear hb); (try clear hb2); (try clear hk); (try clear hi); obtain ⟨hcz_y27, hcz_y28, hcz_y29, hcz_y30, hcz_y31, hcz_y32, hcz_y33, hcz_y34, hcz_y35, hcz_y36, hcz_y37, hcz_y38, hcz_y39, hcz_y40, hcz_y41, hcz_y42, hcz_y43, hcz_y44, hcz_y45⟩ := cs19 BK289.out) | ((with_reducible refine gate_callee (f := 16) rfl ?_); refine goesL_ (some 21) rfl rfl Try.func16 by4 rfl _ rfl by1 (Calls.mono (laws_toInstr.calls _ _ _ _ _ _ _ _ _ _ _ _ _ _ _ _ _ _ _ _ _ _ _ _ _ _ _ _ _ _ _ _ _ _ _ _ _ _ _ A5.out) ?_); rintro e w_y46 ⟨rfl, hb⟩; refine ⟨_, rfl, ?_⟩; have n_y2 := Aside0.mk (blk_below by33 hb); have n_y25 := Aside0.mk (below_step by36 hb); clear BK289; clear HB; have BK289 := n_y2; have HB := n_y25; clear n_y2 n_y25; (try clear hb); (try clear hb2); (try clear hk); (try clear hi)) | ((with_reducible refine gate_callee (f := 21) rfl ?_); refine goesL_ (some 23) rfl rfl Try.func21 by4 rfl #[.agg #[.int .i64 t312, .int .i64 t313, .int .i64 t314, .int .i64 t315, .int .i64 t316, .int .i64 t317, .int .i64 t318, .int .i64 t319, .int .i64 t320, .int .i64 t321, .int .i64 t322, .int .i64 t323, .int .i64 t324, .int .i64 t325, .int .i64 t326, .int .i64 t327, .int .i64 t328, .int .i64 t329, .int .i64 t330], .int .i64 a1] rfl by1 ?_; (with_reducible refine (impl_GoalOf.calls (HGL0 := by23) k t312 t313 t314 t315 t316 t317 t318 t319 t320 t321 t322 t323 t324 t325 t326 t327 t328 t329 t330 a1 t331 t332 t333 _ A6.out).mono ?_); rintro e w_y47 ⟨rfl, hb⟩; refine ⟨_, rfl, ?_⟩; have n_y2 := Aside0.mk (blk_below by33 hb); have n_y25 := Aside0.mk (below_step by36 hb); clear BK289; clear HB; have BK289 := n_y2; have HB := n_y25; clear n_y2 n_y25; (try clear hb); (try clear hb2); (try clear hk); (try clear hi)))
 go_ret
 exact ⟨by first | rfl | (simp [errW_none, errW_some] <;> rfl) | (simp [*, errW_none, errW_some] <;> rfl), by repeat (first | (with_reducible first | exact HB.out | apply below_alloc | apply pw_below_drewN | apply below_drew1 | refine below_set ?_ GE_y4.out) | exact HB.out)⟩) : p := h
set_option maxHeartbeats 8000000 in
set_option maxRecDepth 100000 in
theorem laws_FnExactGoalOf.calls (k : Nat) (a0_0 : Int) (a0_1 : Int) (a0_2 : Int) (a0_3 : Int) (a0_4 : Int) (a0_5 : Int) (a0_6 : Int) (a0_7 : Int) (a0_8 : Int) (a0_9 : Int) (a0_10 : Int) (a0_11 : Int) (a0_12 : Int) (a0_13 : Int) (a0_14 : Int) (a0_15 : Int) (a0_16 : Int) (a0_17 : Int) (a0_18 : Int) (a1 : Int) (r : Bool) (w : World) (HGL0 : PGlob w) (h : laws_FnExactGoalOf.f k a0_0 a0_1 a0_2 a0_3 a0_4 a0_5 a0_6 a0_7 a0_8 a0_9 a0_10 a0_11 a0_12 a0_13 a0_14 a0_15 a0_16 a0_17 a0_18 a1 = some r) :
  Calls Try.prog 5 #[.agg #[.int .i64 a0_0, .int .i64 a0_1, .int .i64 a0_2, .int .i64 a0_3, .int .i64 a0_4, .int .i64 a0_5, .int .i64 a0_6, .int .i64 a0_7, .int .i64 a0_8, .int .i64 a0_9, .int .i64 a0_10, .int .i64 a0_11, .int .i64 a0_12, .int .i64 a0_13, .int .i64 a0_14, .int .i64 a0_15, .int .i64 a0_16, .int .i64 a0_17, .int .i64 a0_18], .int .i64 a1] w fun e w' => e = .returned (.bool r) ∧ Below w.heap.size w w' := by
 have HGL := Aside0.mk HGL0
 clear HGL0
 have hu25 := Try.underlying25
 have HB := Aside0.mk (Below.refl w.heap.size w)
 have H : ((laws_toInstr.f a0_0 a0_1 a0_2 a0_3 a0_4 a0_5 a0_6 a0_7 a0_8 a0_9 a0_10 a0_11 a0_12 a0_13 a0_14 a0_15 a0_16 a0_17 a0_18).bind fun bt290 => ((spec_GoalOf.f k bt290.1 bt290.2.1 bt290.2.2.1 bt290.2.2.2.1 bt290.2.2.2.2.1 bt290.2.2.2.2.2.1 bt290.2.2.2.2.2.2.1 bt290.2.2.2.2.2.2.2.1 bt290.2.2.2.2.2.2.2.2.1 bt290.2.2.2.2.2.2.2.2.2.1 bt290.2.2.2.2.2.2.2.2.2.2.1 bt290.2.2.2.2.2.2.2.2.2.2.2.1 bt290.2.2.2.2.2.2.2.2.2.2.2.2.1 bt290.2.2.2.2.2.2.2.2.2.2.2.2.2.1 bt290.2.2.2.2.2.2.2.2.2.2.2.2.2.2.1 bt290.2.2.2.2.2.2.2.2.2.2.2.2.2.2.2.1 bt290.2.2.2.2.2.2.2.2.2.2.2.2.2.2.2.2.1 bt290.2.2.2.2.2.2.2.2.2.2.2.2.2.2.2.2.2.1 bt290.2.2.2.2.2.2.2.2.2.2.2.2.2.2.2.2.2.2 a1).bind fun bt309 => ((laws_toInstr.f a0_0 a0_1 a0_2 a0_3 a0_4 a0_5 a0_6 a0_7 a0_8 a0_9 a0_10 a0_11 a0_12 a0_13 a0_14 a0_15 a0_16 a0_17 a0_18).bind fun bt312 => ((impl_GoalOf.f k bt312.1 bt312.2.1 bt312.2.2.1 bt312.2.2.2.1 bt312.2.2.2.2.1 bt312.2.2.2.2.2.1 bt312.2.2.2.2.2.2.1 bt312.2.2.2.2.2.2.2.1 bt312.2.2.2.2.2.2.2.2.1 bt312.2.2.2.2.2.2.2.2.2.1 bt312.2.2.2.2.2.2.2.2.2.2.1 bt312.2.2.2.2.2.2.2.2.2.2.2.1 bt312.2.2.2.2.2.2.2.2.2.2.2.2.1 bt312.2.2.2.2.2.2.2.2.2.2.2.2.2.1 bt312.2.2.2.2.2.2.2.2.2.2.2.2.2.2.1 bt312.2.2.2.2.2.2.2.2.2.2.2.2.2.2.2.1 bt312.2.2.2.2.2.2.2.2.2.2.2.2.2.2.2.2.1 bt312.2.2.2.2.2.2.2.2.2.2.2.2.2.2.2.2.2.1 bt312.2.2.2.2.2.2.2.2.2.2.2.2.2.2.2.2.2.2 a1).bind fun bt331 => (if bt331.1 = bt309.1 then (if (bt331.2.1 != bt309.2.1) = true then (some false) else (if bt331.2.2 = bt309.2.2 then (some true) else (some false))) else (some false)))))) = some r := h
 clear h
 replace H := Option.bind_eq_some_iff.mp H
 obtain ⟨⟨t290, t291, t292, t293, t294, t295, t296, t297, t298, t299, t300, t301, t302, t303, t304, t305, t306, t307, t308⟩, A30, H⟩ := H
 replace H : ((spec_GoalOf.f k t290 t291 t292 t293 t294 t295 t296 t297 t298 t299 t300 t301 t302 t303 t304 t305 t306 t307 t308 a1).bind fun bt309 => ((laws_toInstr.f a0_0 a0_1 a0_2 a0_3 a0_4 a0_5 a0_6 a0_7 a0_8 a0_9 a0_10 a0_11 a0_12 a0_13 a0_14 a0_15 a0_16 a0_17 a0_18).bind fun bt312 => ((impl_GoalOf.f k bt312.1 bt312.2.1 bt312.2.2.1 bt312.2.2.2.1 bt312.2.2.2.2.1 bt312.2.2.2.2.2.1 bt312.2.2.2.2.2.2.1 bt312.2.2.2.2.2.2.2.1 bt312.2.2.2.2.2.2.2.2.1 bt312.2.2.2.2.2.2.2.2.2.1 bt312.2.2.2.2.2.2.2.2.2.2.1 bt312.2.2.2.2.2.2.2.2.2.2.2.1 bt312.2.2.2.2.2.2.2.2.2.2.2.2.1 bt312.2.2.2.2.2.2.2.2.2.2.2.2.2.1 bt312.2.2.2.2.2.2.2.2.2.2.2.2.2.2.1 bt312.2.2.2.2.2.2.2.2.2.2.2.2.2.2.2.1 bt312.2.2.2.2.2.2.2.2.2.2.2.2.2.2.2.2.1 bt312.2.2.2.2.2.2.2.2.2.2.2.2.2.2.2.2.2.1 bt312.2.2.2.2.2.2.2.2.2.2.2.2.2.2.2.2.2.2 a1).bind fun bt331 => (if bt331.1 = bt309.1 then (if (bt331.2.1 != bt309.2.1) = true then (some false) else (if bt331.2.2 = bt309.2.2 then (some true) else (some false))) else (some false))))) = some r := H
 have A3 := Aside0.mk A30
 clear A30
 replace H := Option.bind_eq_some_iff.mp H
 obtain ⟨⟨t309, t310, t311⟩, A40, H⟩ := H
 replace H : ((laws_toInstr.f a0_0 a0_1 a0_2 a0_3 a0_4 a0_5 a0_6 a0_7 a0_8 a0_9 a0_10 a0_11 a0_12 a0_13 a0_14 a0_15 a0_16 a0_17 a0_18).bind fun bt312 => ((impl_GoalOf.f k bt312.1 bt312.2.1 bt312.2.2.1 bt312.2.2.2.1 bt312.2.2.2.2.1 bt312.2.2.2.2.2.1 bt312.2.2.2.2.2.2.1 bt312.2.2.2.2.2.2.2.1 bt312.2.2.2.2.2.2.2.2.1 bt312.2.2.2.2.2.2.2.2.2.1 bt312.2.2.2.2.2.2.2.2.2.2.1 bt312.2.2.2.2.2.2.2.2.2.2.2.1 bt312.2.2.2.2.2.2.2.2.2.2.2.2.1 bt312.2.2.2.2.2.2.2.2.2.2.2.2.2.1 bt312.2.2.2.2.2.2.2.2.2.2.2.2.2.2.1 bt312.2.2.2.2.2.2.2.2.2.2.2.2.2.2.2.1 bt312.2.2.2.2.2.2.2.2.2.2.2.2.2.2.2.2.1 bt312.2.2.2.2.2.2.2.2.2.2.2.2.2.2.2.2.2.1 bt312.2.2.2.2.2.2.2.2.2.2.2.2.2.2.2.2.2.2 a1).bind fun bt331 => (if bt331.1 = t309 then (if (bt331.2.1 != t310) = true then (some false) else (if bt331.2.2 = t311 then (some true) else (some false))) else (some false)))) = some r := H
 have A4 := Aside0.mk A40
 clear A40
 replace H := Option.bind_eq_some_iff.mp H
 obtain ⟨⟨t312, t313, t314, t315, t316, t317, t318, t319, t320, t321, t322, t323, t324, t325, t326, t327, t328, t329, t330⟩, A50, H⟩ := H
 replace H : ((impl_GoalOf.f k t312 t313 t314 t315 t316 t317 t318 t319 t320 t321 t322 t323 t324 t325 t326 t327 t328 t329 t330 a1).bind fun bt331 => (if bt331.1 = t309 then (if (bt331.2.1 != t310) = true then (some false) else (if bt331.2.2 = t311 then (some true) else (some false))) else (some false))) = some r := H
 have A5 := Aside0.mk A50
 clear A50
 replace H := Option.bind_eq_some_iff.mp H
 obtain ⟨⟨t331, t332, t333⟩, A60, H⟩ := H
 replace H : (if t331 = t309 then (if (t332 != t310) = true then (some false) else (if t333 = t311 then (some true) else (some false))) else (some false)) = some r := H
 have A6 := Aside0.mk A60
 clear A60
 by_cases c7 : t331 = t309
 ·rw [if_pos c7] at H
  have c7b0 : (t331 == t309) = true := beq_iff_eq.mpr c7
  have c7b1 : (t331 != t309) = false := bne_eq_false_iff_eq.mpr c7
  clear c7
  by_cases c8 : (t332 != t310) = true
  ·rw [if_pos c8] at H
   have c8b0 : (t332 != t310) = true := c8
   (try (have c8b1 : decide (t332 = t310) = false := by simpa using c8))
   (try (have c8b2 : (t332 == t310) = false := by simpa using c8))
   (try (have c8b3 : ¬ (t332 = t310) := by simpa using c8))
   clear c8
   exact laws_FnExactGoalOf.e0
  ·rw [if_neg c8] at H
   have c8b0 : (t332 != t310) = false := by simpa using c8
   (try (have c8b1 : decide (t332 = t310) = true := by simpa using c8))
   (try (have c8b2 : (t332 == t310) = true := by simpa using c8))
   clear c8
   by_cases c16 : t333 = t311
   ·rw [if_pos c16] at H
    have c16b0 : (t333 == t311) = true := beq_iff_eq.mpr c16
    have c16b1 : (t333 != t311) = false := bne_eq_false_iff_eq.mpr c16
    clear c16
    exact laws_FnExactGoalOf.e0
   ·rw [if_neg c16] at H
    have c16b0 : (t333 == t311) = false := beq_eq_false_iff_ne.mpr c16
    have c16b1 : (t333 != t311) = true := bne_iff_ne.mpr c16
    exact laws_FnExactGoalOf.e0
 ·rw [if_neg c7] at H
  have c7b0 : (t331 == t309) = false := beq_eq_false_iff_ne.mpr c7
  have c7b1 : (t331 != t309) = true := bne_iff_ne.mpr c7
  exact laws_FnExactGoalOf.e0

def ok23 (x : S23) : Prop := ((Lit.int .i64 x.f0).wf = true) ∧ ((Lit.int .i64 x.f1).wf = true) ∧ ((Lit.int .i64 x.f2).wf = true) ∧ ((Lit.int .i64 x.f3).wf = true) ∧ ((Lit.int .i64 x.f4).wf = true) ∧ ((Lit.int .i64 x.f5).wf = true) ∧ ((Lit.int .i64 x.f6).wf = true)
def ok25 (x : S25) : Prop := ((Lit.int .i64 x.f0).wf = true) ∧ ((Lit.int .i64 x.f1).wf = true) ∧ ((Lit.int .i64 x.f2).wf = true) ∧ ((Lit.int .i64 x.f3).wf = true) ∧ (ok23 x.f4) ∧ (ok23 x.f5) ∧ ((Lit.int .i64 x.f6).wf = true)
/-- THE ONE PURE STATEMENT of laws_FnExactGoalOf: yours. -/
def laws_FnExactGoalOf.Pure : Prop := ∀ (x0 : S25) (a1 : Int), ok25 x0 → (Lit.int .i64 a1).wf = true → ∃ k, laws_FnExactGoalOf.f k x0.f0 x0.f1 x0.f2 x0.f3 x0.f4.f0 x0.f4.f1 x0.f4.f2 x0.f4.f3 x0.f4.f4 x0.f4.f5 x0.f4.f6 x0.f5.f0 x0.f5.f1 x0.f5.f2 x0.f5.f3 x0.f5.f4 x0.f5.f5 x0.f5.f6 x0.f6 a1 = some true
theorem laws_FnExactGoalOf.walk (P : laws_FnExactGoalOf.Pure) (x0 : S25) (a1 : Int) (w : World) (HGL0 : PGlob w) (okx0 : ok25 x0) (w1 : (Lit.int .i64 a1).wf = true) :
  Calls Try.prog 5 #[.agg #[.int .i64 x0.f0, .int .i64 x0.f1, .int .i64 x0.f2, .int .i64 x0.f3, .int .i64 x0.f4.f0, .int .i64 x0.f4.f1, .int .i64 x0.f4.f2, .int .i64 x0.f4.f3, .int .i64 x0.f4.f4, .int .i64 x0.f4.f5, .int .i64 x0.f4.f6, .int .i64 x0.f5.f0, .int .i64 x0.f5.f1, .int .i64 x0.f5.f2, .int .i64 x0.f5.f3, .int .i64 x0.f5.f4, .int .i64 x0.f5.f5, .int .i64 x0.f5.f6, .int .i64 x0.f6], .int .i64 a1] w fun e w' => e = .returned (.bool true) ∧ Below w.heap.size w w' := by
 obtain ⟨k, h⟩ := P x0 a1 okx0 w1
 refine (laws_FnExactGoalOf.calls (HGL0 := HGL0) k x0.f0 x0.f1 x0.f2 x0.f3 x0.f4.f0 x0.f4.f1 x0.f4.f2 x0.f4.f3 x0.f4.f4 x0.f4.f5 x0.f4.f6 x0.f5.f0 x0.f5.f1 x0.f5.f2 x0.f5.f3 x0.f5.f4 x0.f5.f5 x0.f5.f6 x0.f6 a1 true w h).mono ?_
 rintro e w' ⟨rfl, hd⟩
 exact ⟨rfl, hd⟩
end Go.Proofs.Ytonogadabgilfaa.PFnExactGoalOf

/- Laid by a program of this session (patch_print.py) out of the translation: plain functions and what the calls do. No condition. -/
import Derived.Test.YtonogadabgilfaaPFnExactBaseAddOfx0
import Derived.Test.YtonogadabgilfaaPFnExactBaseAddOfx2
import Derived.Test.YtonogadabgilfaaPFnExactBaseAddOfx3
namespace Go.Proofs.Ytonogadabgilfaa.PFnExactBaseAddOf
open Go.RowKit Go.Proofs.YtonogadabgilfaaW.PrintWords Go.Proofs.YtonogadabgilfaaW.PrintLast Go.Proofs.YtonogadabgilfaaW.PrintMore
attribute [local go_sem] max2_int min2_int max_two min_two max_three min_three max_four min_four   -- for this text's walks alone
set_option linter.unusedVariables false
set_option linter.unusedSimpArgs false

/-! ### spec_l05Shape: function 96 -/
theorem evPos {α : Type} {c : Prop} [Decidable c] {g f : Nat → Option α} {r : α} (h : c) (k : Ev g r) : Ev (fun n => if c then g n else f n) r := Ev.congr (fun _ => if_pos h) k
theorem evNeg {α : Type} {c : Prop} [Decidable c] {g f : Nat → Option α} {r : α} (h : ¬ c) (k : Ev f r) : Ev (fun n => if c then g n else f n) r := Ev.congr (fun _ => if_neg h) k
theorem evIte {α : Type} {c : Prop} [Decidable c] {g f : Nat → Option α} {r : α} (h : c → Ev g r) (k : ¬ c → Ev f r) : Ev (fun n => if c then g n else f n) r := by
 by_cases hc : c
 ·exact evPos hc (h hc)
 ·exact evNeg hc (k hc)
/-- A call that needs no rounds. -/
theorem evB {α β : Type} {o : Option α} {f : Nat → α → Option β} {a : α} {r : β} (h : o = some a) (k : Ev (fun n => f n a) r) : Ev (fun n => o.bind (f n)) r := Ev.congr (fun _ => by rw [h]; rfl) k
theorem evR {α : Type} (r : α) : Ev (fun _ => some r) r := Ev.now r
theorem evEq {α : Type} {g : Nat → Option α} {r r' : α} (h : Ev g r) (e : r = r') : Ev g r' := e ▸ h
def inV (a b c : Int) : Bool := decide (b ≤ a) && decide (a ≤ c)
theorem inV_eq (a b c : Int) : spec_l01In.f a b c = some (inV a b c) := by
 unfold spec_l01In.f inV
 by_cases h : a ≥ b
 ·rw [if_pos h]; simp [show b ≤ a from h]
 ·rw [if_neg h]; simp [show ¬ b ≤ a from h]
def sizeV (n : Int) : Bool := n == 1 || (n == 2 || (n == 4 || n == 8))
theorem sizeV_eq (n : Int) : spec_l01Size.f n = some (sizeV n) := by
 unfold spec_l01Size.f sizeV
 by_cases c1 : n = 1
 ·subst c1; rfl
 by_cases c2 : n = 2
 ·subst c2; rfl
 by_cases c4 : n = 4
 ·subst c4; rfl
 rw [if_neg c1, if_neg c2, if_neg c4, beq_eq_false_iff_ne.mpr c1, beq_eq_false_iff_ne.mpr c2, beq_eq_false_iff_ne.mpr c4]
 rfl
theorem sizeV_no {n : Int} (h : sizeV n = false) (c : Int) (hc : sizeV c = true) : (n == c) = false := by
 refine beq_eq_false_iff_ne.mpr fun e => ?_
 rw [e, hc] at h
 cases h
theorem sizeV_yes {n : Int} (h : sizeV n = true) : (n == 0) = false := by
 refine beq_eq_false_iff_ne.mpr fun e => ?_
 rw [e] at h
 exact absurd h (by decide)
def kindV (k c : Int) : Bool := (k == 1 && c == 114) || ((k == 2 && c == 109) || ((k == 3 && c == 105) || (k == 0 && c == 48)))
def twoV (d s : Int) (l : List ByteArray) : Bool := l.any fun p => kindV d (bt p 0) && kindV s (bt p 1)
theorem has_ev (t : ByteArray) (c : Int) (ht : t.size = 1) : Ev (fun k => spec_l05Has.f k t c) (bt t 0 == c) := by
 refine Ev.step (g := fun k => spec_l05Has.l0 k t c 0) (fun k => by simp only [spec_l05Has.l0]; exact rfl) (evPos (by omega) (evPos (by omega) (evIte (fun h => ?_) (fun h => ?_))))
 ·exact evEq (evR _) (by rw [h]; simp)
 ·refine Ev.step (g := fun k => spec_l05Has.l0 k t c (wrap64 (0 + 1))) (fun k => by simp only [spec_l05Has.l0]; exact rfl) ?_
  rw [show wrap64 (0 + 1) = 1 by unfold wrap64; omega]
  exact evNeg (by omega) (evEq (evR _) (by rw [beq_eq_false_iff_ne.mpr h]))
theorem kind_ev (b0 b1 b2 b3 b4 b5 b6 : Int) (t : ByteArray) (ht : t.size = 1) : Ev (fun k => spec_l05Kind.f k b0 b1 b2 b3 b4 b5 b6 t) (kindV b0 (bt t 0)) := by
 unfold spec_l05Kind.f kindV
 have h114 := has_ev t 114 ht
 have h109 := has_ev t 109 ht
 have h105 := has_ev t 105 ht
 have h48 := has_ev t 48 ht
 by_cases c1 : b0 = 1
 ·subst c1
  refine evPos rfl (Ev.bind h114 (evIte (fun h => evEq (evR _) (by rw [h]; rfl)) (fun h => evNeg (by decide) (evNeg (by decide) (evNeg (by decide) (evEq (evR _) ?_))))))
  have h' : (bt t 0 == 114) = false := by simpa using h
  rw [h']; rfl
 refine evNeg c1 ?_
 by_cases c2 : b0 = 2
 ·subst c2
  refine evPos rfl (Ev.bind h109 (evIte (fun h => evEq (evR _) (by rw [h]; rfl)) (fun h => evNeg (by decide) (evNeg (by decide) (evEq (evR _) ?_)))))
  have h' : (bt t 0 == 109) = false := by simpa using h
  rw [h']; rfl
 refine evNeg c2 ?_
 by_cases c3 : b0 = 3
 ·subst c3
  refine evPos rfl (Ev.bind h105 (evIte (fun h => evEq (evR _) (by rw [h]; rfl)) (fun h => evNeg (by decide) (evEq (evR _) ?_))))
  have h' : (bt t 0 == 105) = false := by simpa using h
  rw [h']; rfl
 refine evNeg c3 ?_
 have e1 : (b0 == 1) = false := by simpa using c1
 have e2 : (b0 == 2) = false := by simpa using c2
 have e3 : (b0 == 3) = false := by simpa using c3
 by_cases c0 : b0 = 0
 ·subst c0
  refine evPos rfl (Ev.bind h48 (evEq (evR _) ?_))
  rfl
 ·refine evNeg c0 (evEq (evR _) ?_)
  have e0 : (b0 == 0) = false := by simpa using c0
  rw [e1, e2, e3, e0]; rfl
theorem bt_cut (p : ByteArray) (hp : p.size = 2) : (p.extract 0 1).size = 1 ∧ (p.extract 1 p.size).size = 1 ∧ bt (p.extract 0 1) 0 = bt p 0 ∧ bt (p.extract 1 p.size) 0 = bt p 1 := by
 obtain ⟨⟨l⟩⟩ := p
 have hl : l.length = 2 := hp
 match l, hl with
 | [a, b], _ => exact ⟨rfl, rfl, rfl, rfl⟩
theorem two_loop (a0_0 a0_1 a0_2 a0_3 a0_4 a0_5 a0_6 a0_7 a0_8 a0_9 a0_10 a0_11 a0_12 a0_13 a0_14 a0_15 a0_16 a0_17 a0_18 : Int) (l : List ByteArray) (hl : l.length ≤ 10) (hs : ∀ p ∈ l, p.size = 2) (d : Nat) : ∀ i : Nat, i + d = l.length → Ev (fun k => spec_l05Two.l0 k l (i : Int) a0_0 a0_1 a0_2 a0_3 a0_4 a0_5 a0_6 a0_7 a0_8 a0_9 a0_10 a0_11 a0_12 a0_13 a0_14 a0_15 a0_16 a0_17 a0_18) (twoV a0_4 a0_11 (l.drop i)) := by
 induction d with
 | zero =>
  intro i hi
  refine Ev.step (fun k => by simp only [spec_l05Two.l0]; exact rfl) (evNeg (by omega) (evEq (evR _) ?_))
  rw [List.drop_eq_nil_of_le (by omega)]
  rfl
 | succ d ih =>
  intro i hi
  have hlt : i < l.length := by omega
  have e : rdOf ByteArray.empty l (i : Int) = l[i] := by
   unfold rdOf
   rw [Int.toNat_natCast, List.getD_eq_getElem?_getD, List.getElem?_eq_getElem hlt]
   rfl
  have hz := hs l[i] (List.getElem_mem _)
  obtain ⟨z1, z2, z3, z4⟩ := bt_cut l[i] hz
  have ih' := ih (i + 1) (by omega)
  refine Ev.step (fun k => by simp only [spec_l05Two.l0]; exact rfl) (evPos (by omega) (evPos (by omega) (evPos (by omega) ?_)))
  rw [e, show wrap64 ((i : Int) + 1) = ((i + 1 : Nat) : Int) by unfold wrap64; omega]
  refine evPos (by omega) (Ev.bind (kind_ev _ _ _ _ _ _ _ _ z1) ?_)
  rw [List.drop_eq_getElem_cons hlt]
  unfold twoV at ih' ⊢
  rw [List.any_cons, z3]
  refine evIte (fun h => ?_) (fun h => ?_)
  ·rw [h, Bool.true_and]
   refine Ev.bind (kind_ev _ _ _ _ _ _ _ _ z2) ?_
   rw [z4]
   refine evIte (fun h2 => ?_) (fun h2 => ?_)
   ·rw [h2]; exact evR _
   ·have h2' : kindV a0_11 (bt l[i] 1) = false := by simpa using h2
    rw [h2', Bool.false_or]; exact ih'
  ·have h' : kindV a0_4 (bt l[i] 0) = false := by simpa using h
   rw [h', Bool.false_and, Bool.false_or]; exact ih'
theorem sign_tot (a n : Int) (m : Nat) : ∀ acc : Int, m ≤ 64 → ∃ r, spec_l01Sign.l0 (m + 1) a n acc ((m : Int) - 1) = some r := by
 induction m with
 | zero =>
  intro acc _
  exact ⟨wrap64 acc, by simp only [spec_l01Sign.l0]; rw [if_neg (by omega)]⟩
 | succ m ih =>
  intro acc hm
  obtain ⟨b, hb⟩ : ∃ b, spec_l01Bit.f a (mn (((m + 1 : Nat) : Int) - 1) (wrap64 ((wrap64 (8 * n)) - 1))) = some b := by
   unfold spec_l01Bit.f
   rw [if_pos (by rw [show ∀ z : Int, IntKind.u64.wrap z = z % 18446744073709551616 from fun z => by simp [IntKind.wrap, IntKind.bits, IntKind.signed]]; omega)]
   split
   ·exact ⟨_, rfl⟩
   ·exact ⟨_, rfl⟩
  obtain ⟨r, hr⟩ := ih (IntKind.u64.wrap ((IntKind.u64.wrap (2 * acc)) + (IntKind.u64.wrap b))) (by omega)
  refine ⟨r, ?_⟩
  rw [show spec_l01Sign.l0 (m + 1 + 1) a n acc (((m + 1 : Nat) : Int) - 1) = (if (((m + 1 : Nat) : Int) - 1) ≥ 0 then ((spec_l01Bit.f a (mn (((m + 1 : Nat) : Int) - 1) (wrap64 ((wrap64 (8 * n)) - 1)))).bind fun t103 => (spec_l01Sign.l0 (m + 1) a n (IntKind.u64.wrap ((IntKind.u64.wrap (2 * acc)) + (IntKind.u64.wrap (t103)))) (wrap64 ((((m + 1 : Nat) : Int) - 1) - 1)))) else (some (wrap64 (acc)))) from rfl]
  rw [if_pos (by omega), hb, Option.bind_some, show wrap64 ((((m + 1 : Nat) : Int) - 1) - 1) = (m : Int) - 1 by unfold wrap64; omega]
  exact hr
def fitsV (a n : Int) : Bool := (spec_l05Fits.f 65 a n).getD false
theorem fitsV_ev (a n : Int) : Ev (fun k => spec_l05Fits.f k a n) (fitsV a n) := by
 obtain ⟨r, hr⟩ := sign_tot a (mn n 4) 64 0 (by omega)
 have h : spec_l05Fits.f 65 a n = some (r == a) := by
  unfold spec_l05Fits.f
  rw [show spec_l01Sign.f 65 a (mn n 4) = some r from hr]
  rfl
 have e : fitsV a n = (r == a) := by unfold fitsV; rw [h]; rfl
 rw [e]
 exact Ev.of (fun k => spec_l05Fits.mono _ _ k) h
def shapeV (a0_0 : Int) (a0_1 : Int) (a0_2 : Int) (a0_3 : Int) (a0_4 : Int) (a0_5 : Int) (a0_6 : Int) (a0_7 : Int) (a0_8 : Int) (a0_9 : Int) (a0_10 : Int) (a0_11 : Int) (a0_12 : Int) (a0_13 : Int) (a0_14 : Int) (a0_15 : Int) (a0_16 : Int) (a0_17 : Int) (a0_18 : Int) : Bool :=
 if a0_0 ≤ 8 then sizeV a0_1 && ((twoV a0_4 a0_11 [(⟨#[114, 114]⟩ : ByteArray), (⟨#[109, 114]⟩ : ByteArray), (⟨#[114, 109]⟩ : ByteArray), (⟨#[114, 105]⟩ : ByteArray), (⟨#[109, 105]⟩ : ByteArray)]) && fitsV a0_17 a0_1)
 else if a0_0 = 9 then sizeV a0_1 && ((twoV a0_4 a0_11 [(⟨#[114, 114]⟩ : ByteArray), (⟨#[109, 114]⟩ : ByteArray), (⟨#[114, 109]⟩ : ByteArray), (⟨#[114, 105]⟩ : ByteArray), (⟨#[109, 105]⟩ : ByteArray)]) && (((a0_1 == 8) && (a0_4 == 1)) || fitsV a0_17 a0_1))
 else if a0_0 = 10 then sizeV a0_1 && ((twoV a0_4 a0_11 [(⟨#[114, 114]⟩ : ByteArray), (⟨#[109, 114]⟩ : ByteArray), (⟨#[114, 105]⟩ : ByteArray), (⟨#[109, 105]⟩ : ByteArray)]) && fitsV a0_17 a0_1)
 else if a0_0 = 28 then sizeV a0_1 && (twoV a0_4 a0_11 [(⟨#[114, 114]⟩ : ByteArray), (⟨#[109, 114]⟩ : ByteArray)])
 else if a0_0 = 11 ∨ a0_0 = 12 ∨ a0_0 = 18 ∨ a0_0 = 19 then sizeV a0_1 && (twoV a0_4 a0_11 [(⟨#[114, 48]⟩ : ByteArray), (⟨#[109, 48]⟩ : ByteArray)])
 else if 13 ≤ a0_0 ∧ a0_0 ≤ 16 then sizeV a0_1 && (twoV a0_4 a0_11 [(⟨#[48, 114]⟩ : ByteArray), (⟨#[48, 109]⟩ : ByteArray)])
 else if a0_0 = 17 ∨ a0_0 = 36 then (sizeV a0_1 && decide (a0_1 > 1)) && (twoV a0_4 a0_11 [(⟨#[114, 114]⟩ : ByteArray), (⟨#[114, 109]⟩ : ByteArray)])
 else if 20 ≤ a0_0 ∧ a0_0 ≤ 24 then !((a0_11 == 1) && (a0_12 != 1)) && (sizeV a0_1 && ((twoV a0_4 a0_11 [(⟨#[114, 114]⟩ : ByteArray), (⟨#[109, 114]⟩ : ByteArray), (⟨#[114, 105]⟩ : ByteArray), (⟨#[109, 105]⟩ : ByteArray)]) && inV a0_17 0 255))
 else if a0_0 = 25 then (sizeV a0_1 && decide (a0_1 > 1)) && (twoV a0_4 a0_11 [(⟨#[114, 109]⟩ : ByteArray)])
 else if a0_0 = 26 ∨ a0_0 = 27 then ((twoV a0_4 a0_11 [(⟨#[114, 114]⟩ : ByteArray), (⟨#[114, 109]⟩ : ByteArray)]) && (sizeV a0_1 && decide (a0_1 > 1))) && ((a0_3 == 1) || (((a0_3 == 2) && decide (a0_1 > 2)) || ((a0_3 == 4) && ((a0_1 == 8) && (a0_0 == 27)))))
 else if a0_0 = 29 ∨ a0_0 = 31 ∨ a0_0 = 32 then (a0_1 == 8) && ((twoV a0_4 a0_11 [(⟨#[48, 114]⟩ : ByteArray), (⟨#[48, 109]⟩ : ByteArray), (⟨#[48, 105]⟩ : ByteArray)]) && fitsV a0_17 4)
 else if a0_0 = 30 then (a0_1 == 8) && (twoV a0_4 a0_11 [(⟨#[114, 48]⟩ : ByteArray), (⟨#[109, 48]⟩ : ByteArray)])
 else if a0_0 = 33 then (a0_1 == 0) && ((twoV a0_4 a0_11 [(⟨#[48, 105]⟩ : ByteArray)]) && fitsV a0_17 4)
 else if a0_0 = 35 then (a0_1 == 1) && (twoV a0_4 a0_11 [(⟨#[114, 48]⟩ : ByteArray), (⟨#[109, 48]⟩ : ByteArray)])
 else if a0_0 = 39 ∨ a0_0 = 40 then (sizeV a0_1 && decide (a0_1 > 1)) && (twoV a0_4 a0_11 [(⟨#[48, 48]⟩ : ByteArray)])
 else if a0_0 = 41 ∨ a0_0 = 42 then (a0_1 == 1) && (twoV a0_4 a0_11 [(⟨#[48, 48]⟩ : ByteArray)])
 else if a0_0 = 44 then (a0_1 == 0) && ((twoV a0_4 a0_11 [(⟨#[48, 105]⟩ : ByteArray)]) && inV a0_17 0 255)
 else (a0_1 == 0) && (twoV a0_4 a0_11 [(⟨#[48, 48]⟩ : ByteArray)])
def spec_l05Shape.f (a0_0 : Int) (a0_1 : Int) (a0_2 : Int) (a0_3 : Int) (a0_4 : Int) (a0_5 : Int) (a0_6 : Int) (a0_7 : Int) (a0_8 : Int) (a0_9 : Int) (a0_10 : Int) (a0_11 : Int) (a0_12 : Int) (a0_13 : Int) (a0_14 : Int) (a0_15 : Int) (a0_16 : Int) (a0_17 : Int) (a0_18 : Int) : Option (Bool) := some (shapeV a0_0 a0_1 a0_2 a0_3 a0_4 a0_5 a0_6 a0_7 a0_8 a0_9 a0_10 a0_11 a0_12 a0_13 a0_14 a0_15 a0_16 a0_17 a0_18)
theorem sizeC (n : Int) (b : Bool) (h : sizeV n = b) (w : World) : Calls Try.prog 152 #[.int .i64 n] w fun e w' => e = .returned (.bool b) ∧ Drawn0 w w' := spec_l01Size.calls n _ w (by rw [sizeV_eq, h])
theorem inC (a b c : Int) (w : World) : Calls Try.prog 56 #[.int .i64 a, .int .i64 b, .int .i64 c] w fun e w' => e = .returned (.bool (inV a b c)) ∧ Drawn0 w w' := spec_l01In.calls a b c _ w (inV_eq a b c)
theorem inC' (a b c : Int) (r : Bool) (h : inV a b c = r) (w : World) : Calls Try.prog 56 #[.int .i64 a, .int .i64 b, .int .i64 c] w fun e w' => e = .returned (.bool r) ∧ Drawn0 w w' := spec_l01In.calls a b c _ w (by rw [inV_eq, h])
theorem fitsC (a n : Int) (w : World) : Calls Try.prog 110 #[.int .i64 a, .int .i64 n] w fun e w' => e = .returned (.bool (fitsV a n)) ∧ Below w.heap.size w w' := by
 obtain ⟨k, hk⟩ := Ev.rounds (fitsV_ev a n)
 exact spec_l05Fits.calls k a n _ w hk
theorem twoC (a0_0 : Int) (a0_1 : Int) (a0_2 : Int) (a0_3 : Int) (a0_4 : Int) (a0_5 : Int) (a0_6 : Int) (a0_7 : Int) (a0_8 : Int) (a0_9 : Int) (a0_10 : Int) (a0_11 : Int) (a0_12 : Int) (a0_13 : Int) (a0_14 : Int) (a0_15 : Int) (a0_16 : Int) (a0_17 : Int) (a0_18 : Int) (A1 : Option Addr) (c1 : Nat) (l : List ByteArray) (b : Bool) (w : World) (hb : twoV a0_4 a0_11 l = b) (hC : Kd.C Kd.string w A1 l.length l) (hc : l.length ≤ c1) (hl : l.length ≤ 10) (hs : ∀ p ∈ l, p.size = 2) :
  Calls Try.prog 153 #[.agg #[.int .i64 a0_0, .int .i64 a0_1, .int .i64 a0_2, .int .i64 a0_3, .int .i64 a0_4, .int .i64 a0_5, .int .i64 a0_6, .int .i64 a0_7, .int .i64 a0_8, .int .i64 a0_9, .int .i64 a0_10, .int .i64 a0_11, .int .i64 a0_12, .int .i64 a0_13, .int .i64 a0_14, .int .i64 a0_15, .int .i64 a0_16, .int .i64 a0_17, .int .i64 a0_18], .slice A1 l.length c1] w fun e w' => e = .returned (.bool b) ∧ Below w.heap.size w w' := by
 obtain ⟨k, hk⟩ := Ev.rounds (g := fun k => spec_l05Two.f k a0_0 a0_1 a0_2 a0_3 a0_4 a0_5 a0_6 a0_7 a0_8 a0_9 a0_10 a0_11 a0_12 a0_13 a0_14 a0_15 a0_16 a0_17 a0_18 l) (two_loop a0_0 a0_1 a0_2 a0_3 a0_4 a0_5 a0_6 a0_7 a0_8 a0_9 a0_10 a0_11 a0_12 a0_13 a0_14 a0_15 a0_16 a0_17 a0_18 l hl hs l.length 0 (by omega))
 rw [List.drop_zero, hb] at hk
 exact spec_l05Two.calls k a0_0 a0_1 a0_2 a0_3 a0_4 a0_5 a0_6 a0_7 a0_8 a0_9 a0_10 a0_11 a0_12 a0_13 a0_14 a0_15 a0_16 a0_17 a0_18 A1 c1 l _ w hC hc hk
theorem movKey (t : Bool) (n d : Int) : (t = false ∧ (n == 8) = false) ∨ (t = false ∧ (n == 8) = true) ∨ (t = true ∧ (n == 8) = false) ∨ (t = true ∧ (n == 8) = true ∧ (d == 1) = true) ∨ (t = true ∧ (n == 8) = true ∧ (d == 1) = false) := by
 cases t <;> cases h8 : (n == 8) <;> cases hd : (d == 1) <;> simp
theorem fromKey (n f : Int) : ((f == 1) = true) ∨ ((f == 1) = false ∧ (f == 2) = true ∧ (f == 4) = false ∧ decide (n > 2) = true) ∨ ((f == 1) = false ∧ (f == 2) = true ∧ (f == 4) = false ∧ decide (n > 2) = false) ∨ ((f == 1) = false ∧ (f == 2) = false ∧ (f == 4) = true ∧ (n == 8) = true) ∨ ((f == 1) = false ∧ (f == 2) = false ∧ (f == 4) = true ∧ (n == 8) = false) ∨ ((f == 1) = false ∧ (f == 2) = false ∧ (f == 4) = false) := by
 have h2 : (f == 2) = true → (f == 4) = false := fun h => by rw [beq_iff_eq.mp h]; rfl
 cases h1 : (f == 1) <;> cases h2' : (f == 2) <;> cases h4 : (f == 4) <;> cases hg : decide (n > 2) <;> cases h8 : (n == 8) <;> simp_all
theorem spec_l05Shape.e0 {p : Prop} (h : p := by
 go_wp2
 go_ret
 exact ⟨by first | (rw [← HR.out, HV.out] <;> simp [HS.out, HT.out] <;> done), by0⟩) : p := h
theorem spec_l05Shape.e1 {p : Prop} (h : p := by
 go_wp2
 go_ret
 exact ⟨by first | (rw [← HR.out, HV.out] <;> simp [HS.out, HT.out, hM] <;> done) | (rw [← HR.out, HV.out] <;> simp [HS.out, HT.out] <;> done), by0⟩) : p := h
theorem spec_l05Shape.e2 {p : Prop} (h : p := by
 go_wp2
 go_ret
 exact ⟨by first | (rw [← HR.out, HV.out] <;> simp [HS.out, HT.out, e8] <;> done), by0⟩) : p := h
theorem spec_l05Shape.e3 {p : Prop} (h : p := by
 go_wp2_with (first | ((with_reducible refine gate_dst (N := 251) rfl ?_); (try refine gate_guard (by rfl) ?_); refine Kd.R_lit Kd.string _ 9 ?hg (N := 251) ?hd (xs := ([(⟨#[48, 105]⟩ : ByteArray)] : List ByteArray)) (inner := [.string (⟨#[48, 105]⟩ : ByteArray)]) (ok := fun _ => True) (okp := fun _ => True) ?hr ?hp (fun _ hk => hk) trivial (Below.refl _ _) (Nat.le_refl _) (by simp) ?_; (case hd => rfl); (case hg => rfl); (case hr => first | (go_simp; done) | (go_simp; rfl)); (case hp => exact (Reps.one (show Kd.M Kd.string _ _ _ (⟨#[48, 105]⟩ : ByteArray) [.string (⟨#[48, 105]⟩ : ByteArray)] from rfl) (Reps.none _ _))); intro v_y0 w' ho hb hg_ hnew_; clear hg_ hnew_; obtain ⟨A_y1, c_y2, rfl, hc_y3, hC_y4⟩ := Kd.R_reads ho; clear ho; have HB_y5 := Aside0.mk (below_step by0 hb); have BK_y6 := Aside0.mk ((hb.block g1 (blk_lt by3)).trans by3); clear hb HB BK; have HB := HB_y5; have BK := BK_y6; clear HB_y5 BK_y6; clear hcz0 hcz1 hcz3 hcz4 hcz11 hcz12 hcz17) | ((with_reducible refine gate_dst (N := 250) rfl ?_); (try refine gate_guard (by rfl) ?_); refine ldw 30 (.tmp 1) rfl rfl rfl by3 Try.underlying30 rfl by4 ?_) | (go_at_call 153; refine (twoC a0_0 a0_1 a0_2 a0_3 a0_4 a0_5 a0_6 a0_7 a0_8 a0_9 a0_10 a0_11 a0_12 a0_13 a0_14 a0_15 a0_16 a0_17 a0_18 _ _ _ _ _ HT.out hC_y4 hc_y3 (by decide) (by decide)).mono ?_; rintro e w' ⟨rfl, hb⟩; clear hC_y4 hc_y3; have HB_y5 := Aside0.mk (below_step by0 hb); have BK_y6 := Aside0.mk ((hb.block g1 (blk_lt by3)).trans by3); clear hb HB BK; have HB := HB_y5; have BK := BK_y6; clear HB_y5 BK_y6; have hcz0 := cz BK.out 0 (.int .i64 a0_0); have hcz1 := cz BK.out 1 (.int .i64 a0_1); have hcz3 := cz BK.out 3 (.int .i64 a0_3)) | (go_at_call 110; (with_reducible refine (fitsC _ _ _).mono ?_); rintro e w' ⟨rfl, hb⟩; have HB_y5 := Aside0.mk (below_step by0 hb); have BK_y6 := Aside0.mk ((hb.block g1 (blk_lt by3)).trans by3); clear hb HB BK; have HB := HB_y5; have BK := BK_y6; clear HB_y5 BK_y6))
 go_ret
 exact ⟨by first | (rw [← HR.out, HV.out] <;> simp [HS.out, HT.out, e0_] <;> done), by0⟩) : p := h
theorem spec_l05Shape.e4 {p : Prop} (h : p := by
 go_wp2_with (first | ((with_reducible refine gate_dst (N := 267) rfl ?_); (try refine gate_guard (by rfl) ?_); refine Kd.R_lit Kd.string _ 9 ?hg (N := 267) ?hd (xs := ([(⟨#[114, 48]⟩ : ByteArray), (⟨#[109, 48]⟩ : ByteArray)] : List ByteArray)) (inner := [.string (⟨#[114, 48]⟩ : ByteArray), .string (⟨#[109, 48]⟩ : ByteArray)]) (ok := fun _ => True) (okp := fun _ => True) ?hr ?hp (fun _ hk => hk) trivial (Below.refl _ _) (Nat.le_refl _) (by simp) ?_; (case hd => rfl); (case hg => rfl); (case hr => first | (go_simp; done) | (go_simp; rfl)); (case hp => exact (Reps.one (show Kd.M Kd.string _ _ _ (⟨#[114, 48]⟩ : ByteArray) [.string (⟨#[114, 48]⟩ : ByteArray)] from rfl) (Reps.one (show Kd.M Kd.string _ _ _ (⟨#[109, 48]⟩ : ByteArray) [.string (⟨#[109, 48]⟩ : ByteArray)] from rfl) (Reps.none _ _)))); intro v_y0 w' ho hb hg_ hnew_; clear hg_ hnew_; obtain ⟨A_y1, c_y2, rfl, hc_y3, hC_y4⟩ := Kd.R_reads ho; clear ho; have HB_y5 := Aside0.mk (below_step by0 hb); have BK_y6 := Aside0.mk ((hb.block g1 (blk_lt by3)).trans by3); clear hb HB BK; have HB := HB_y5; have BK := BK_y6; clear HB_y5 BK_y6; clear hcz0 hcz1 hcz3 hcz4 hcz11 hcz12 hcz17) | ((with_reducible refine gate_dst (N := 266) rfl ?_); (try refine gate_guard (by rfl) ?_); refine ldw 30 (.tmp 1) rfl rfl rfl by3 Try.underlying30 rfl by4 ?_) | (go_at_call 153; refine (twoC a0_0 a0_1 a0_2 a0_3 a0_4 a0_5 a0_6 a0_7 a0_8 a0_9 a0_10 a0_11 a0_12 a0_13 a0_14 a0_15 a0_16 a0_17 a0_18 _ _ _ _ _ HT.out hC_y4 hc_y3 (by decide) (by decide)).mono ?_; rintro e w' ⟨rfl, hb⟩; clear hC_y4 hc_y3; have HB_y5 := Aside0.mk (below_step by0 hb); have BK_y6 := Aside0.mk ((hb.block g1 (blk_lt by3)).trans by3); clear hb HB BK; have HB := HB_y5; have BK := BK_y6; clear HB_y5 BK_y6; have hcz0 := cz BK.out 0 (.int .i64 a0_0); have hcz1 := cz BK.out 1 (.int .i64 a0_1); have hcz3 := cz BK.out 3 (.int .i64 a0_3)))
 go_ret
 exact ⟨by first | (rw [← HR.out, HV.out] <;> simp [HS.out, HT.out, e1_] <;> done), by0⟩) : p := h
theorem spec_l05Shape.e5 {p : Prop} (h : p := by
 go_wp2_with (first | ((with_reducible refine gate_dst (N := 295) rfl ?_); (try refine gate_guard (by rfl) ?_); refine Kd.R_lit Kd.string _ 9 ?hg (N := 295) ?hd (xs := ([(⟨#[48, 48]⟩ : ByteArray)] : List ByteArray)) (inner := [.string (⟨#[48, 48]⟩ : ByteArray)]) (ok := fun _ => True) (okp := fun _ => True) ?hr ?hp (fun _ hk => hk) trivial (Below.refl _ _) (Nat.le_refl _) (by simp) ?_; (case hd => rfl); (case hg => rfl); (case hr => first | (go_simp; done) | (go_simp; rfl)); (case hp => exact (Reps.one (show Kd.M Kd.string _ _ _ (⟨#[48, 48]⟩ : ByteArray) [.string (⟨#[48, 48]⟩ : ByteArray)] from rfl) (Reps.none _ _))); intro v_y0 w' ho hb hg_ hnew_; clear hg_ hnew_; obtain ⟨A_y1, c_y2, rfl, hc_y3, hC_y4⟩ := Kd.R_reads ho; clear ho; have HB_y5 := Aside0.mk (below_step by0 hb); have BK_y6 := Aside0.mk ((hb.block g1 (blk_lt by3)).trans by3); clear hb HB BK; have HB := HB_y5; have BK := BK_y6; clear HB_y5 BK_y6; clear hcz0 hcz1 hcz3 hcz4 hcz11 hcz12 hcz17) | ((with_reducible refine gate_dst (N := 294) rfl ?_); (try refine gate_guard (by rfl) ?_); refine ldw 30 (.tmp 1) rfl rfl rfl by3 Try.underlying30 rfl by4 ?_) | (go_at_call 153; refine (twoC a0_0 a0_1 a0_2 a0_3 a0_4 a0_5 a0_6 a0_7 a0_8 a0_9 a0_10 a0_11 a0_12 a0_13 a0_14 a0_15 a0_16 a0_17 a0_18 _ _ _ _ _ HT.out hC_y4 hc_y3 (by decide) (by decide)).mono ?_; rintro e w' ⟨rfl, hb⟩; clear hC_y4 hc_y3; have HB_y5 := Aside0.mk (below_step by0 hb); have BK_y6 := Aside0.mk ((hb.block g1 (blk_lt by3)).trans by3); clear hb HB BK; have HB := HB_y5; have BK := BK_y6; clear HB_y5 BK_y6; have hcz0 := cz BK.out 0 (.int .i64 a0_0); have hcz1 := cz BK.out 1 (.int .i64 a0_1); have hcz3 := cz BK.out 3 (.int .i64 a0_3)))
 go_ret
 exact ⟨by first | (rw [← HR.out, HV.out] <;> simp [HS.out, HT.out, e1_] <;> done), by0⟩) : p := h
theorem spec_l05Shape.e6 {p : Prop} (h : p := by
 go_wp2_with (first | ((with_reducible refine gate_dst (N := 307) rfl ?_); (try refine gate_guard (by rfl) ?_); refine Kd.R_lit Kd.string _ 9 ?hg (N := 307) ?hd (xs := ([(⟨#[48, 105]⟩ : ByteArray)] : List ByteArray)) (inner := [.string (⟨#[48, 105]⟩ : ByteArray)]) (ok := fun _ => True) (okp := fun _ => True) ?hr ?hp (fun _ hk => hk) trivial (Below.refl _ _) (Nat.le_refl _) (by simp) ?_; (case hd => rfl); (case hg => rfl); (case hr => first | (go_simp; done) | (go_simp; rfl)); (case hp => exact (Reps.one (show Kd.M Kd.string _ _ _ (⟨#[48, 105]⟩ : ByteArray) [.string (⟨#[48, 105]⟩ : ByteArray)] from rfl) (Reps.none _ _))); intro v_y0 w' ho hb hg_ hnew_; clear hg_ hnew_; obtain ⟨A_y1, c_y2, rfl, hc_y3, hC_y4⟩ := Kd.R_reads ho; clear ho; have HB_y5 := Aside0.mk (below_step by0 hb); have BK_y6 := Aside0.mk ((hb.block g1 (blk_lt by3)).trans by3); clear hb HB BK; have HB := HB_y5; have BK := BK_y6; clear HB_y5 BK_y6; clear hcz0 hcz1 hcz3 hcz4 hcz11 hcz12 hcz17) | ((with_reducible refine gate_dst (N := 306) rfl ?_); (try refine gate_guard (by rfl) ?_); refine ldw 30 (.tmp 1) rfl rfl rfl by3 Try.underlying30 rfl by4 ?_) | (go_at_call 153; refine (twoC a0_0 a0_1 a0_2 a0_3 a0_4 a0_5 a0_6 a0_7 a0_8 a0_9 a0_10 a0_11 a0_12 a0_13 a0_14 a0_15 a0_16 a0_17 a0_18 _ _ _ _ _ HT.out hC_y4 hc_y3 (by decide) (by decide)).mono ?_; rintro e w' ⟨rfl, hb⟩; clear hC_y4 hc_y3; have HB_y5 := Aside0.mk (below_step by0 hb); have BK_y6 := Aside0.mk ((hb.block g1 (blk_lt by3)).trans by3); clear hb HB BK; have HB := HB_y5; have BK := BK_y6; clear HB_y5 BK_y6; have hcz0 := cz BK.out 0 (.int .i64 a0_0); have hcz1 := cz BK.out 1 (.int .i64 a0_1); have hcz3 := cz BK.out 3 (.int .i64 a0_3)) | (go_at_call 56; (with_reducible refine (inC _ _ _ _).mono ?_); rintro e w' ⟨rfl, ⟨nd, rfl⟩⟩))
 go_ret
 exact ⟨by first | (rw [← HR.out, HV.out] <;> simp [HS.out, HT.out, e0_] <;> done), by0⟩) : p := h
theorem spec_l05Shape.e7 {p : Prop} (h : p := by
 go_wp2_with (first | ((with_reducible refine gate_dst (N := 319) rfl ?_); (try refine gate_guard (by rfl) ?_); refine Kd.R_lit Kd.string _ 9 ?hg (N := 319) ?hd (xs := ([(⟨#[48, 48]⟩ : ByteArray)] : List ByteArray)) (inner := [.string (⟨#[48, 48]⟩ : ByteArray)]) (ok := fun _ => True) (okp := fun _ => True) ?hr ?hp (fun _ hk => hk) trivial (Below.refl _ _) (Nat.le_refl _) (by simp) ?_; (case hd => rfl); (case hg => rfl); (case hr => first | (go_simp; done) | (go_simp; rfl)); (case hp => exact (Reps.one (show Kd.M Kd.string _ _ _ (⟨#[48, 48]⟩ : ByteArray) [.string (⟨#[48, 48]⟩ : ByteArray)] from rfl) (Reps.none _ _))); intro v_y0 w' ho hb hg_ hnew_; clear hg_ hnew_; obtain ⟨A_y1, c_y2, rfl, hc_y3, hC_y4⟩ := Kd.R_reads ho; clear ho; have HB_y5 := Aside0.mk (below_step by0 hb); have BK_y6 := Aside0.mk ((hb.block g1 (blk_lt by3)).trans by3); clear hb HB BK; have HB := HB_y5; have BK := BK_y6; clear HB_y5 BK_y6; clear hcz0 hcz1 hcz3 hcz4 hcz11 hcz12 hcz17) | ((with_reducible refine gate_dst (N := 318) rfl ?_); (try refine gate_guard (by rfl) ?_); refine ldw 30 (.tmp 1) rfl rfl rfl by3 Try.underlying30 rfl by4 ?_) | (go_at_call 153; refine (twoC a0_0 a0_1 a0_2 a0_3 a0_4 a0_5 a0_6 a0_7 a0_8 a0_9 a0_10 a0_11 a0_12 a0_13 a0_14 a0_15 a0_16 a0_17 a0_18 _ _ _ _ _ HT.out hC_y4 hc_y3 (by decide) (by decide)).mono ?_; rintro e w' ⟨rfl, hb⟩; clear hC_y4 hc_y3; have HB_y5 := Aside0.mk (below_step by0 hb); have BK_y6 := Aside0.mk ((hb.block g1 (blk_lt by3)).trans by3); clear hb HB BK; have HB := HB_y5; have BK := BK_y6; clear HB_y5 BK_y6; have hcz0 := cz BK.out 0 (.int .i64 a0_0); have hcz1 := cz BK.out 1 (.int .i64 a0_1); have hcz3 := cz BK.out 3 (.int .i64 a0_3)))
 go_ret
 exact ⟨by first | (rw [← HR.out, HV.out] <;> simp [HS.out, HT.out, e0_] <;> done), by0⟩) : p := h
set_option maxHeartbeats 64000000 in
set_option maxRecDepth 100000 in
theorem spec_l05Shape.callsF (a0_0 : Int) (a0_1 : Int) (a0_2 : Int) (a0_3 : Int) (a0_4 : Int) (a0_5 : Int) (a0_6 : Int) (a0_7 : Int) (a0_8 : Int) (a0_9 : Int) (a0_10 : Int) (a0_11 : Int) (a0_12 : Int) (a0_13 : Int) (a0_14 : Int) (a0_15 : Int) (a0_16 : Int) (a0_17 : Int) (a0_18 : Int) (r : Bool) (w : World) (hS : sizeV a0_1 = false) (h : spec_l05Shape.f a0_0 a0_1 a0_2 a0_3 a0_4 a0_5 a0_6 a0_7 a0_8 a0_9 a0_10 a0_11 a0_12 a0_13 a0_14 a0_15 a0_16 a0_17 a0_18 = some r) :
  Calls Try.prog 96 #[.agg #[.int .i64 a0_0, .int .i64 a0_1, .int .i64 a0_2, .int .i64 a0_3, .int .i64 a0_4, .int .i64 a0_5, .int .i64 a0_6, .int .i64 a0_7, .int .i64 a0_8, .int .i64 a0_9, .int .i64 a0_10, .int .i64 a0_11, .int .i64 a0_12, .int .i64 a0_13, .int .i64 a0_14, .int .i64 a0_15, .int .i64 a0_16, .int .i64 a0_17, .int .i64 a0_18]] w fun e w' => e = .returned (.bool r) ∧ Below w.heap.size w w' := by
 have hu30 := Try.underlying30
 have hu28 := Try.underlying28
 have HR := Aside0.mk (Option.some.inj h)
 have HS := Aside0.mk hS
 clear h hS
 have HB := Aside0.mk (Below.refl w.heap.size w)
 go_enter Try.func96, Try.ntmps96
 go_upto_region 4 with (first | ((with_reducible refine gate_dst (N := 1) rfl ?_); refine box_event ?hg (N := 1) ?hd (cs := #[.int .i64 a0_0, .int .i64 a0_1, .int .i64 a0_2, .int .i64 a0_3, .int .i64 a0_4, .int .i64 a0_5, .int .i64 a0_6, .int .i64 a0_7, .int .i64 a0_8, .int .i64 a0_9, .int .i64 a0_10, .int .i64 a0_11, .int .i64 a0_12, .int .i64 a0_13, .int .i64 a0_14, .int .i64 a0_15, .int .i64 a0_16, .int .i64 a0_17, .int .i64 a0_18]) (t := 30) ?hr ?_; (case hd => rfl); (case hg => rfl); (case hr => first | (go_simp; done) | (go_simp; rfl)); intro g1 hg w1 hbox hb; have BK := Aside0.mk hbox; have n0_ := Aside0.mk (below_step by0 hb); clear HB hbox hb hg; have HB := n0_; clear n0_; have hcz0 := cz BK.out 0 (.int .i64 a0_0); have hcz1 := cz BK.out 1 (.int .i64 a0_1); have hcz3 := cz BK.out 3 (.int .i64 a0_3); have hcz4 := cz BK.out 4 (.int .i64 a0_4); have hcz11 := cz BK.out 11 (.int .i64 a0_11); have hcz12 := cz BK.out 12 (.int .i64 a0_12); have hcz17 := cz BK.out 17 (.int .i64 a0_17)) | (go_at_call 152; (with_reducible refine (sizeC _ _ HS.out _).mono ?_); rintro e w' ⟨rfl, ⟨nd, rfl⟩⟩))
 by_cases hk : a0_0 ≤ 8
 ·have hv : shapeV a0_0 a0_1 a0_2 a0_3 a0_4 a0_5 a0_6 a0_7 a0_8 a0_9 a0_10 a0_11 a0_12 a0_13 a0_14 a0_15 a0_16 a0_17 a0_18 = (sizeV a0_1 && ((twoV a0_4 a0_11 [(⟨#[114, 114]⟩ : ByteArray), (⟨#[109, 114]⟩ : ByteArray), (⟨#[114, 109]⟩ : ByteArray), (⟨#[114, 105]⟩ : ByteArray), (⟨#[109, 105]⟩ : ByteArray)]) && fitsV a0_17 a0_1)) := by unfold shapeV; rw [if_pos hk]
  have HV := Aside0.mk hv
  clear hv
  have et : decide (a0_0 ≤ 8) = true := decide_eq_true hk
  clear hk
  obtain ⟨bT, hT⟩ : ∃ b, twoV a0_4 a0_11 [(⟨#[114, 114]⟩ : ByteArray), (⟨#[109, 114]⟩ : ByteArray), (⟨#[114, 109]⟩ : ByteArray), (⟨#[114, 105]⟩ : ByteArray), (⟨#[109, 105]⟩ : ByteArray)] = b := ⟨_, rfl⟩
  all_goals have HT := Aside0.mk hT
  all_goals clear hT
  all_goals
   exact spec_l05Shape.e0
 have et : decide (a0_0 ≤ 8) = false := decide_eq_false hk
 have H0 := Aside0.mk hk
 clear hk
 go_upto_region 6 with fail
 clear et
 by_cases hk : a0_0 = 9
 ·have hv : shapeV a0_0 a0_1 a0_2 a0_3 a0_4 a0_5 a0_6 a0_7 a0_8 a0_9 a0_10 a0_11 a0_12 a0_13 a0_14 a0_15 a0_16 a0_17 a0_18 = (sizeV a0_1 && ((twoV a0_4 a0_11 [(⟨#[114, 114]⟩ : ByteArray), (⟨#[109, 114]⟩ : ByteArray), (⟨#[114, 109]⟩ : ByteArray), (⟨#[114, 105]⟩ : ByteArray), (⟨#[109, 105]⟩ : ByteArray)]) && (((a0_1 == 8) && (a0_4 == 1)) || fitsV a0_17 a0_1))) := by unfold shapeV; rw [if_neg (show ¬ (a0_0 ≤ 8) by have := H0.out; omega), if_pos hk]
  have HV := Aside0.mk hv
  clear hv
  have e9 : (a0_0 == 9) = true := beq_iff_eq.mpr hk
  clear hk
  obtain ⟨bT, hT⟩ : ∃ b, twoV a0_4 a0_11 [(⟨#[114, 114]⟩ : ByteArray), (⟨#[109, 114]⟩ : ByteArray), (⟨#[114, 109]⟩ : ByteArray), (⟨#[114, 105]⟩ : ByteArray), (⟨#[109, 105]⟩ : ByteArray)] = b := ⟨_, rfl⟩
  have e8 : (a0_1 == 8) = false := sizeV_no HS.out 8 (by decide)
  all_goals have HT := Aside0.mk hT
  all_goals clear hT
  all_goals
   go_wp2
   go_ret
   exact ⟨by first | (rw [← HR.out, HV.out] <;> simp [HS.out, HT.out, e8, ek] <;> done) | (rw [← HR.out, HV.out] <;> simp [HS.out, HT.out, e8] <;> done), by0⟩
 have e9 : (a0_0 == 9) = false := beq_eq_false_iff_ne.mpr (by omega)
 have H1 := Aside0.mk hk
 clear hk
 go_upto_region 9 with fail
 clear e9
 by_cases hk : a0_0 = 10
 ·have hv : shapeV a0_0 a0_1 a0_2 a0_3 a0_4 a0_5 a0_6 a0_7 a0_8 a0_9 a0_10 a0_11 a0_12 a0_13 a0_14 a0_15 a0_16 a0_17 a0_18 = (sizeV a0_1 && ((twoV a0_4 a0_11 [(⟨#[114, 114]⟩ : ByteArray), (⟨#[109, 114]⟩ : ByteArray), (⟨#[114, 105]⟩ : ByteArray), (⟨#[109, 105]⟩ : ByteArray)]) && fitsV a0_17 a0_1)) := by unfold shapeV; rw [if_neg (show ¬ (a0_0 ≤ 8) by have := H0.out; omega), if_neg (show ¬ (a0_0 = 9) by have := H1.out; omega), if_pos hk]
  have HV := Aside0.mk hv
  clear hv
  have e10 : (a0_0 == 10) = true := beq_iff_eq.mpr hk
  clear hk
  obtain ⟨bT, hT⟩ : ∃ b, twoV a0_4 a0_11 [(⟨#[114, 114]⟩ : ByteArray), (⟨#[109, 114]⟩ : ByteArray), (⟨#[114, 105]⟩ : ByteArray), (⟨#[109, 105]⟩ : ByteArray)] = b := ⟨_, rfl⟩
  all_goals have HT := Aside0.mk hT
  all_goals clear hT
  all_goals
   exact spec_l05Shape.e0
 have e10 : (a0_0 == 10) = false := beq_eq_false_iff_ne.mpr (by omega)
 have H2 := Aside0.mk hk
 clear hk
 go_upto_region 11 with fail
 clear e10
 by_cases hk : a0_0 = 28
 ·have hv : shapeV a0_0 a0_1 a0_2 a0_3 a0_4 a0_5 a0_6 a0_7 a0_8 a0_9 a0_10 a0_11 a0_12 a0_13 a0_14 a0_15 a0_16 a0_17 a0_18 = (sizeV a0_1 && (twoV a0_4 a0_11 [(⟨#[114, 114]⟩ : ByteArray), (⟨#[109, 114]⟩ : ByteArray)])) := by unfold shapeV; rw [if_neg (show ¬ (a0_0 ≤ 8) by have := H0.out; omega), if_neg (show ¬ (a0_0 = 9) by have := H1.out; omega), if_neg (show ¬ (a0_0 = 10) by have := H2.out; omega), if_pos hk]
  have HV := Aside0.mk hv
  clear hv
  have e28 : (a0_0 == 28) = true := beq_iff_eq.mpr hk
  clear hk
  obtain ⟨bT, hT⟩ : ∃ b, twoV a0_4 a0_11 [(⟨#[114, 114]⟩ : ByteArray), (⟨#[109, 114]⟩ : ByteArray)] = b := ⟨_, rfl⟩
  all_goals have HT := Aside0.mk hT
  all_goals clear hT
  all_goals
   exact spec_l05Shape.e0
 have e28 : (a0_0 == 28) = false := beq_eq_false_iff_ne.mpr (by omega)
 have H3 := Aside0.mk hk
 clear hk
 go_upto_region 13 with fail
 clear e28
 by_cases hk : a0_0 = 11 ∨ a0_0 = 12 ∨ a0_0 = 18 ∨ a0_0 = 19
 ·have hv : shapeV a0_0 a0_1 a0_2 a0_3 a0_4 a0_5 a0_6 a0_7 a0_8 a0_9 a0_10 a0_11 a0_12 a0_13 a0_14 a0_15 a0_16 a0_17 a0_18 = (sizeV a0_1 && (twoV a0_4 a0_11 [(⟨#[114, 48]⟩ : ByteArray), (⟨#[109, 48]⟩ : ByteArray)])) := by unfold shapeV; rw [if_neg (show ¬ (a0_0 ≤ 8) by have := H0.out; omega), if_neg (show ¬ (a0_0 = 9) by have := H1.out; omega), if_neg (show ¬ (a0_0 = 10) by have := H2.out; omega), if_neg (show ¬ (a0_0 = 28) by have := H3.out; omega), if_pos hk]
  have HV := Aside0.mk hv
  clear hv
  have hkey : ((a0_0 == 11) = true) ∨ ((a0_0 == 11) = false ∧ (a0_0 == 12) = true) ∨ ((a0_0 == 11) = false ∧ (a0_0 == 12) = false ∧ (a0_0 == 18) = true) ∨ ((a0_0 == 11) = false ∧ (a0_0 == 12) = false ∧ (a0_0 == 18) = false ∧ (a0_0 == 19) = true) := by rcases hk with hz | hz | hz | hz <;> subst hz <;> simp
  rcases hkey with e11 | ⟨e11, e12⟩ | ⟨e11, e12, e18⟩ | ⟨e11, e12, e18, e19⟩
  all_goals clear hk
  all_goals obtain ⟨bT, hT⟩ : ∃ b, twoV a0_4 a0_11 [(⟨#[114, 48]⟩ : ByteArray), (⟨#[109, 48]⟩ : ByteArray)] = b := ⟨_, rfl⟩
  all_goals have HT := Aside0.mk hT
  all_goals clear hT
  all_goals
   exact spec_l05Shape.e0
 have e11 : (a0_0 == 11) = false := beq_eq_false_iff_ne.mpr (by omega)
 have e12 : (a0_0 == 12) = false := beq_eq_false_iff_ne.mpr (by omega)
 have e18 : (a0_0 == 18) = false := beq_eq_false_iff_ne.mpr (by omega)
 have e19 : (a0_0 == 19) = false := beq_eq_false_iff_ne.mpr (by omega)
 have H4 := Aside0.mk hk
 clear hk
 go_upto_region 18 with fail
 clear e11 e12 e18 e19
 by_cases hk : 13 ≤ a0_0 ∧ a0_0 ≤ 16
 ·have hv : shapeV a0_0 a0_1 a0_2 a0_3 a0_4 a0_5 a0_6 a0_7 a0_8 a0_9 a0_10 a0_11 a0_12 a0_13 a0_14 a0_15 a0_16 a0_17 a0_18 = (sizeV a0_1 && (twoV a0_4 a0_11 [(⟨#[48, 114]⟩ : ByteArray), (⟨#[48, 109]⟩ : ByteArray)])) := by unfold shapeV; rw [if_neg (show ¬ (a0_0 ≤ 8) by have := H0.out; omega), if_neg (show ¬ (a0_0 = 9) by have := H1.out; omega), if_neg (show ¬ (a0_0 = 10) by have := H2.out; omega), if_neg (show ¬ (a0_0 = 28) by have := H3.out; omega), if_neg (show ¬ (a0_0 = 11 ∨ a0_0 = 12 ∨ a0_0 = 18 ∨ a0_0 = 19) by have := H4.out; omega), if_pos hk]
  have HV := Aside0.mk hv
  clear hv
  have hI_ : inV a0_0 13 16 = true := by unfold inV; rw [decide_eq_true hk.1, decide_eq_true hk.2]; rfl
  have HI := Aside0.mk hI_
  clear hI_
  clear hk
  obtain ⟨bT, hT⟩ : ∃ b, twoV a0_4 a0_11 [(⟨#[48, 114]⟩ : ByteArray), (⟨#[48, 109]⟩ : ByteArray)] = b := ⟨_, rfl⟩
  all_goals have HT := Aside0.mk hT
  all_goals clear hT
  all_goals
   go_wp2_with (first | (go_at_call 56; (with_reducible refine (inC' _ _ _ _ HI.out _).mono ?_); rintro e w' ⟨rfl, ⟨nd, rfl⟩⟩))
   go_ret
   exact ⟨by first | (rw [← HR.out, HV.out] <;> simp [HS.out, HT.out, HI.out] <;> done), by0⟩
 have hI_ : inV a0_0 13 16 = false := by unfold inV; by_cases hz : 13 ≤ a0_0 <;> simp [hz] <;> omega
 have HI := Aside0.mk hI_
 clear hI_
 have H5 := Aside0.mk hk
 clear hk
 go_upto_region 20 with (go_at_call 56; (with_reducible refine (inC' _ _ _ _ HI.out _).mono ?_); rintro e w' ⟨rfl, ⟨nd, rfl⟩⟩)
 clear HI
 by_cases hk : a0_0 = 17 ∨ a0_0 = 36
 ·have hv : shapeV a0_0 a0_1 a0_2 a0_3 a0_4 a0_5 a0_6 a0_7 a0_8 a0_9 a0_10 a0_11 a0_12 a0_13 a0_14 a0_15 a0_16 a0_17 a0_18 = ((sizeV a0_1 && decide (a0_1 > 1)) && (twoV a0_4 a0_11 [(⟨#[114, 114]⟩ : ByteArray), (⟨#[114, 109]⟩ : ByteArray)])) := by unfold shapeV; rw [if_neg (show ¬ (a0_0 ≤ 8) by have := H0.out; omega), if_neg (show ¬ (a0_0 = 9) by have := H1.out; omega), if_neg (show ¬ (a0_0 = 10) by have := H2.out; omega), if_neg (show ¬ (a0_0 = 28) by have := H3.out; omega), if_neg (show ¬ (a0_0 = 11 ∨ a0_0 = 12 ∨ a0_0 = 18 ∨ a0_0 = 19) by have := H4.out; omega), if_neg (show ¬ (13 ≤ a0_0 ∧ a0_0 ≤ 16) by have := H5.out; omega), if_pos hk]
  have HV := Aside0.mk hv
  clear hv
  have hkey : ((a0_0 == 17) = true) ∨ ((a0_0 == 17) = false ∧ (a0_0 == 36) = true) := by rcases hk with hz | hz <;> subst hz <;> simp
  rcases hkey with e17 | ⟨e17, e36⟩
  all_goals clear hk
  all_goals obtain ⟨bT, hT⟩ : ∃ b, twoV a0_4 a0_11 [(⟨#[114, 114]⟩ : ByteArray), (⟨#[114, 109]⟩ : ByteArray)] = b := ⟨_, rfl⟩
  all_goals have HT := Aside0.mk hT
  all_goals clear hT
  all_goals
   exact spec_l05Shape.e1
 have e17 : (a0_0 == 17) = false := beq_eq_false_iff_ne.mpr (by omega)
 have e36 : (a0_0 == 36) = false := beq_eq_false_iff_ne.mpr (by omega)
 have H6 := Aside0.mk hk
 clear hk
 go_upto_region 23 with fail
 clear e17 e36
 by_cases hk : 20 ≤ a0_0 ∧ a0_0 ≤ 24
 ·have hv : shapeV a0_0 a0_1 a0_2 a0_3 a0_4 a0_5 a0_6 a0_7 a0_8 a0_9 a0_10 a0_11 a0_12 a0_13 a0_14 a0_15 a0_16 a0_17 a0_18 = (!((a0_11 == 1) && (a0_12 != 1)) && (sizeV a0_1 && ((twoV a0_4 a0_11 [(⟨#[114, 114]⟩ : ByteArray), (⟨#[109, 114]⟩ : ByteArray), (⟨#[114, 105]⟩ : ByteArray), (⟨#[109, 105]⟩ : ByteArray)]) && inV a0_17 0 255))) := by unfold shapeV; rw [if_neg (show ¬ (a0_0 ≤ 8) by have := H0.out; omega), if_neg (show ¬ (a0_0 = 9) by have := H1.out; omega), if_neg (show ¬ (a0_0 = 10) by have := H2.out; omega), if_neg (show ¬ (a0_0 = 28) by have := H3.out; omega), if_neg (show ¬ (a0_0 = 11 ∨ a0_0 = 12 ∨ a0_0 = 18 ∨ a0_0 = 19) by have := H4.out; omega), if_neg (show ¬ (13 ≤ a0_0 ∧ a0_0 ≤ 16) by have := H5.out; omega), if_neg (show ¬ (a0_0 = 17 ∨ a0_0 = 36) by have := H6.out; omega), if_pos hk]
  have HV := Aside0.mk hv
  clear hv
  have hI_ : inV a0_0 20 24 = true := by unfold inV; rw [decide_eq_true hk.1, decide_eq_true hk.2]; rfl
  have HI := Aside0.mk hI_
  clear hI_
  clear hk
  cases ek : (a0_11 == 1)
  all_goals cases er : (a0_12 != 1)
  all_goals obtain ⟨bT, hT⟩ : ∃ b, twoV a0_4 a0_11 [(⟨#[114, 114]⟩ : ByteArray), (⟨#[109, 114]⟩ : ByteArray), (⟨#[114, 105]⟩ : ByteArray), (⟨#[109, 105]⟩ : ByteArray)] = b := ⟨_, rfl⟩
  all_goals have HT := Aside0.mk hT
  all_goals clear hT
  all_goals
   go_wp2_with (first | (go_at_call 56; (with_reducible refine (inC' _ _ _ _ HI.out _).mono ?_); rintro e w' ⟨rfl, ⟨nd, rfl⟩⟩) | (go_at_call 56; (with_reducible refine (inC _ _ _ _).mono ?_); rintro e w' ⟨rfl, ⟨nd, rfl⟩⟩))
   go_ret
   exact ⟨by first | (rw [← HR.out, HV.out] <;> simp [HS.out, HT.out, HI.out, ek, er] <;> done), by0⟩
 have hI_ : inV a0_0 20 24 = false := by unfold inV; by_cases hz : 20 ≤ a0_0 <;> simp [hz] <;> omega
 have HI := Aside0.mk hI_
 clear hI_
 have H7 := Aside0.mk hk
 clear hk
 go_upto_region 27 with (go_at_call 56; (with_reducible refine (inC' _ _ _ _ HI.out _).mono ?_); rintro e w' ⟨rfl, ⟨nd, rfl⟩⟩)
 clear HI
 by_cases hk : a0_0 = 25
 ·have hv : shapeV a0_0 a0_1 a0_2 a0_3 a0_4 a0_5 a0_6 a0_7 a0_8 a0_9 a0_10 a0_11 a0_12 a0_13 a0_14 a0_15 a0_16 a0_17 a0_18 = ((sizeV a0_1 && decide (a0_1 > 1)) && (twoV a0_4 a0_11 [(⟨#[114, 109]⟩ : ByteArray)])) := by unfold shapeV; rw [if_neg (show ¬ (a0_0 ≤ 8) by have := H0.out; omega), if_neg (show ¬ (a0_0 = 9) by have := H1.out; omega), if_neg (show ¬ (a0_0 = 10) by have := H2.out; omega), if_neg (show ¬ (a0_0 = 28) by have := H3.out; omega), if_neg (show ¬ (a0_0 = 11 ∨ a0_0 = 12 ∨ a0_0 = 18 ∨ a0_0 = 19) by have := H4.out; omega), if_neg (show ¬ (13 ≤ a0_0 ∧ a0_0 ≤ 16) by have := H5.out; omega), if_neg (show ¬ (a0_0 = 17 ∨ a0_0 = 36) by have := H6.out; omega), if_neg (show ¬ (20 ≤ a0_0 ∧ a0_0 ≤ 24) by have := H7.out; omega), if_pos hk]
  have HV := Aside0.mk hv
  clear hv
  have e25 : (a0_0 == 25) = true := beq_iff_eq.mpr hk
  clear hk
  obtain ⟨bT, hT⟩ : ∃ b, twoV a0_4 a0_11 [(⟨#[114, 109]⟩ : ByteArray)] = b := ⟨_, rfl⟩
  all_goals have HT := Aside0.mk hT
  all_goals clear hT
  all_goals
   exact spec_l05Shape.e1
 have e25 : (a0_0 == 25) = false := beq_eq_false_iff_ne.mpr (by omega)
 have H8 := Aside0.mk hk
 clear hk
 go_upto_region 29 with fail
 clear e25
 by_cases hk : a0_0 = 26 ∨ a0_0 = 27
 ·have hv : shapeV a0_0 a0_1 a0_2 a0_3 a0_4 a0_5 a0_6 a0_7 a0_8 a0_9 a0_10 a0_11 a0_12 a0_13 a0_14 a0_15 a0_16 a0_17 a0_18 = (((twoV a0_4 a0_11 [(⟨#[114, 114]⟩ : ByteArray), (⟨#[114, 109]⟩ : ByteArray)]) && (sizeV a0_1 && decide (a0_1 > 1))) && ((a0_3 == 1) || (((a0_3 == 2) && decide (a0_1 > 2)) || ((a0_3 == 4) && ((a0_1 == 8) && (a0_0 == 27)))))) := by unfold shapeV; rw [if_neg (show ¬ (a0_0 ≤ 8) by have := H0.out; omega), if_neg (show ¬ (a0_0 = 9) by have := H1.out; omega), if_neg (show ¬ (a0_0 = 10) by have := H2.out; omega), if_neg (show ¬ (a0_0 = 28) by have := H3.out; omega), if_neg (show ¬ (a0_0 = 11 ∨ a0_0 = 12 ∨ a0_0 = 18 ∨ a0_0 = 19) by have := H4.out; omega), if_neg (show ¬ (13 ≤ a0_0 ∧ a0_0 ≤ 16) by have := H5.out; omega), if_neg (show ¬ (a0_0 = 17 ∨ a0_0 = 36) by have := H6.out; omega), if_neg (show ¬ (20 ≤ a0_0 ∧ a0_0 ≤ 24) by have := H7.out; omega), if_neg (show ¬ (a0_0 = 25) by have := H8.out; omega), if_pos hk]
  have HV := Aside0.mk hv
  clear hv
  have hkey : ((a0_0 == 26) = true) ∨ ((a0_0 == 26) = false ∧ (a0_0 == 27) = true) := by rcases hk with hz | hz <;> subst hz <;> simp
  rcases hkey with e26 | ⟨e26, e27⟩
  all_goals clear hk
  all_goals cases hT : twoV a0_4 a0_11 [(⟨#[114, 114]⟩ : ByteArray), (⟨#[114, 109]⟩ : ByteArray)]
  all_goals have HT := Aside0.mk hT
  all_goals clear hT
  all_goals
   go_wp2_with (first | ((with_reducible refine gate_dst (N := 173) rfl ?_); (try refine gate_guard (by rfl) ?_); refine Kd.R_lit Kd.string _ 9 ?hg (N := 173) ?hd (xs := ([(⟨#[114, 114]⟩ : ByteArray), (⟨#[114, 109]⟩ : ByteArray)] : List ByteArray)) (inner := [.string (⟨#[114, 114]⟩ : ByteArray), .string (⟨#[114, 109]⟩ : ByteArray)]) (ok := fun _ => True) (okp := fun _ => True) ?hr ?hp (fun _ hk => hk) trivial (Below.refl _ _) (Nat.le_refl _) (by simp) ?_; (case hd => rfl); (case hg => rfl); (case hr => first | (go_simp; done) | (go_simp; rfl)); (case hp => exact (Reps.one (show Kd.M Kd.string _ _ _ (⟨#[114, 114]⟩ : ByteArray) [.string (⟨#[114, 114]⟩ : ByteArray)] from rfl) (Reps.one (show Kd.M Kd.string _ _ _ (⟨#[114, 109]⟩ : ByteArray) [.string (⟨#[114, 109]⟩ : ByteArray)] from rfl) (Reps.none _ _)))); intro v1 w' ho hb hg_ hnew_; clear hg_ hnew_; obtain ⟨A1, c1, rfl, hc1, hC1⟩ := Kd.R_reads ho; clear ho; have HB1 := Aside0.mk (below_step by0 hb); have BK1 := Aside0.mk ((hb.block g1 (blk_lt by3)).trans by3); clear hb HB BK; have HB := HB1; have BK := BK1; clear HB1 BK1; clear hcz0 hcz1 hcz3 hcz4 hcz11 hcz12 hcz17) | ((with_reducible refine gate_dst (N := 172) rfl ?_); (try refine gate_guard (by rfl) ?_); refine ldw 30 (.tmp 1) rfl rfl rfl by3 Try.underlying30 rfl by4 ?_) | (go_at_call 153; refine (twoC a0_0 a0_1 a0_2 a0_3 a0_4 a0_5 a0_6 a0_7 a0_8 a0_9 a0_10 a0_11 a0_12 a0_13 a0_14 a0_15 a0_16 a0_17 a0_18 _ _ _ _ _ HT.out hC1 hc1 (by decide) (by decide)).mono ?_; rintro e w' ⟨rfl, hb⟩; clear hC1 hc1; have HB1 := Aside0.mk (below_step by0 hb); have BK1 := Aside0.mk ((hb.block g1 (blk_lt by3)).trans by3); clear hb HB BK; have HB := HB1; have BK := BK1; clear HB1 BK1; have hcz0 := cz BK.out 0 (.int .i64 a0_0); have hcz1 := cz BK.out 1 (.int .i64 a0_1); have hcz3 := cz BK.out 3 (.int .i64 a0_3)))
   go_ret
   exact ⟨by first | (rw [← HR.out, HV.out] <;> simp [HS.out, HT.out, hM, f1, e26] <;> done) | (rw [← HR.out, HV.out] <;> simp [HS.out, HT.out, hM, f1, f2, f4, hG, e26] <;> done) | (rw [← HR.out, HV.out] <;> simp [HS.out, HT.out, hM, f1, f2, f4, e8, e26] <;> done) | (rw [← HR.out, HV.out] <;> simp [HS.out, HT.out, hM, f1, f2, f4, e8, e26, e26] <;> done) | (rw [← HR.out, HV.out] <;> simp [HS.out, HT.out, hM, f1, f2, f4, e26] <;> done) | (rw [← HR.out, HV.out] <;> simp [HS.out, HT.out, hM, f1, e26, e27] <;> done) | (rw [← HR.out, HV.out] <;> simp [HS.out, HT.out, hM, f1, f2, f4, hG, e26, e27] <;> done) | (rw [← HR.out, HV.out] <;> simp [HS.out, HT.out, hM, f1, f2, f4, e8, e26, e27] <;> done) | (rw [← HR.out, HV.out] <;> simp [HS.out, HT.out, hM, f1, f2, f4, e8, e26, e26, e27] <;> done) | (rw [← HR.out, HV.out] <;> simp [HS.out, HT.out, hM, f1, f2, f4, e26, e27] <;> done) | (rw [← HR.out, HV.out] <;> simp [HS.out, HT.out, hM, f1] <;> done) | (rw [← HR.out, HV.out] <;> simp [HS.out, HT.out, hM, f1, f2, f4, hG] <;> done) | (rw [← HR.out, HV.out] <;> simp [HS.out, HT.out, hM, f1, f2, f4, e8] <;> done) | (rw [← HR.out, HV.out] <;> simp [HS.out, HT.out, hM, f1, f2, f4, e8, e26] <;> done) | (rw [← HR.out, HV.out] <;> simp [HS.out, HT.out, hM, f1, f2, f4] <;> done) | (rw [← HR.out, HV.out] <;> simp [HS.out, HT.out, hM] <;> done) | (rw [← HR.out, HV.out] <;> simp [HS.out, HT.out] <;> done), by0⟩
 have e26 : (a0_0 == 26) = false := beq_eq_false_iff_ne.mpr (by omega)
 have e27 : (a0_0 == 27) = false := beq_eq_false_iff_ne.mpr (by omega)
 have H9 := Aside0.mk hk
 clear hk
 go_upto_region 34 with fail
 clear e26 e27
 by_cases hk : a0_0 = 29 ∨ a0_0 = 31 ∨ a0_0 = 32
 ·have hv : shapeV a0_0 a0_1 a0_2 a0_3 a0_4 a0_5 a0_6 a0_7 a0_8 a0_9 a0_10 a0_11 a0_12 a0_13 a0_14 a0_15 a0_16 a0_17 a0_18 = ((a0_1 == 8) && ((twoV a0_4 a0_11 [(⟨#[48, 114]⟩ : ByteArray), (⟨#[48, 109]⟩ : ByteArray), (⟨#[48, 105]⟩ : ByteArray)]) && fitsV a0_17 4)) := by unfold shapeV; rw [if_neg (show ¬ (a0_0 ≤ 8) by have := H0.out; omega), if_neg (show ¬ (a0_0 = 9) by have := H1.out; omega), if_neg (show ¬ (a0_0 = 10) by have := H2.out; omega), if_neg (show ¬ (a0_0 = 28) by have := H3.out; omega), if_neg (show ¬ (a0_0 = 11 ∨ a0_0 = 12 ∨ a0_0 = 18 ∨ a0_0 = 19) by have := H4.out; omega), if_neg (show ¬ (13 ≤ a0_0 ∧ a0_0 ≤ 16) by have := H5.out; omega), if_neg (show ¬ (a0_0 = 17 ∨ a0_0 = 36) by have := H6.out; omega), if_neg (show ¬ (20 ≤ a0_0 ∧ a0_0 ≤ 24) by have := H7.out; omega), if_neg (show ¬ (a0_0 = 25) by have := H8.out; omega), if_neg (show ¬ (a0_0 = 26 ∨ a0_0 = 27) by have := H9.out; omega), if_pos hk]
  have HV := Aside0.mk hv
  clear hv
  have hkey : ((a0_0 == 29) = true) ∨ ((a0_0 == 29) = false ∧ (a0_0 == 31) = true) ∨ ((a0_0 == 29) = false ∧ (a0_0 == 31) = false ∧ (a0_0 == 32) = true) := by rcases hk with hz | hz | hz <;> subst hz <;> simp
  rcases hkey with e29 | ⟨e29, e31⟩ | ⟨e29, e31, e32⟩
  all_goals clear hk
  all_goals have e8 : (a0_1 == 8) = false := sizeV_no HS.out 8 (by decide)
  all_goals obtain ⟨bT, hT⟩ : ∃ b, twoV a0_4 a0_11 [(⟨#[48, 114]⟩ : ByteArray), (⟨#[48, 109]⟩ : ByteArray), (⟨#[48, 105]⟩ : ByteArray)] = b := ⟨_, rfl⟩
  all_goals have HT := Aside0.mk hT
  all_goals clear hT
  all_goals
   exact spec_l05Shape.e2
 have e29 : (a0_0 == 29) = false := beq_eq_false_iff_ne.mpr (by omega)
 have e31 : (a0_0 == 31) = false := beq_eq_false_iff_ne.mpr (by omega)
 have e32 : (a0_0 == 32) = false := beq_eq_false_iff_ne.mpr (by omega)
 have H10 := Aside0.mk hk
 clear hk
 go_upto_region 38 with fail
 clear e29 e31 e32
 by_cases hk : a0_0 = 30
 ·have hv : shapeV a0_0 a0_1 a0_2 a0_3 a0_4 a0_5 a0_6 a0_7 a0_8 a0_9 a0_10 a0_11 a0_12 a0_13 a0_14 a0_15 a0_16 a0_17 a0_18 = ((a0_1 == 8) && (twoV a0_4 a0_11 [(⟨#[114, 48]⟩ : ByteArray), (⟨#[109, 48]⟩ : ByteArray)])) := by unfold shapeV; rw [if_neg (show ¬ (a0_0 ≤ 8) by have := H0.out; omega), if_neg (show ¬ (a0_0 = 9) by have := H1.out; omega), if_neg (show ¬ (a0_0 = 10) by have := H2.out; omega), if_neg (show ¬ (a0_0 = 28) by have := H3.out; omega), if_neg (show ¬ (a0_0 = 11 ∨ a0_0 = 12 ∨ a0_0 = 18 ∨ a0_0 = 19) by have := H4.out; omega), if_neg (show ¬ (13 ≤ a0_0 ∧ a0_0 ≤ 16) by have := H5.out; omega), if_neg (show ¬ (a0_0 = 17 ∨ a0_0 = 36) by have := H6.out; omega), if_neg (show ¬ (20 ≤ a0_0 ∧ a0_0 ≤ 24) by have := H7.out; omega), if_neg (show ¬ (a0_0 = 25) by have := H8.out; omega), if_neg (show ¬ (a0_0 = 26 ∨ a0_0 = 27) by have := H9.out; omega), if_neg (show ¬ (a0_0 = 29 ∨ a0_0 = 31 ∨ a0_0 = 32) by have := H10.out; omega), if_pos hk]
  have HV := Aside0.mk hv
  clear hv
  have e30 : (a0_0 == 30) = true := beq_iff_eq.mpr hk
  clear hk
  have e8 : (a0_1 == 8) = false := sizeV_no HS.out 8 (by decide)
  obtain ⟨bT, hT⟩ : ∃ b, twoV a0_4 a0_11 [(⟨#[114, 48]⟩ : ByteArray), (⟨#[109, 48]⟩ : ByteArray)] = b := ⟨_, rfl⟩
  all_goals have HT := Aside0.mk hT
  all_goals clear hT
  all_goals
   exact spec_l05Shape.e2
 have e30 : (a0_0 == 30) = false := beq_eq_false_iff_ne.mpr (by omega)
 have H11 := Aside0.mk hk
 clear hk
 go_upto_region 40 with fail
 clear e30
 by_cases hk : a0_0 = 33
 ·have hv : shapeV a0_0 a0_1 a0_2 a0_3 a0_4 a0_5 a0_6 a0_7 a0_8 a0_9 a0_10 a0_11 a0_12 a0_13 a0_14 a0_15 a0_16 a0_17 a0_18 = ((a0_1 == 0) && ((twoV a0_4 a0_11 [(⟨#[48, 105]⟩ : ByteArray)]) && fitsV a0_17 4)) := by unfold shapeV; rw [if_neg (show ¬ (a0_0 ≤ 8) by have := H0.out; omega), if_neg (show ¬ (a0_0 = 9) by have := H1.out; omega), if_neg (show ¬ (a0_0 = 10) by have := H2.out; omega), if_neg (show ¬ (a0_0 = 28) by have := H3.out; omega), if_neg (show ¬ (a0_0 = 11 ∨ a0_0 = 12 ∨ a0_0 = 18 ∨ a0_0 = 19) by have := H4.out; omega), if_neg (show ¬ (13 ≤ a0_0 ∧ a0_0 ≤ 16) by have := H5.out; omega), if_neg (show ¬ (a0_0 = 17 ∨ a0_0 = 36) by have := H6.out; omega), if_neg (show ¬ (20 ≤ a0_0 ∧ a0_0 ≤ 24) by have := H7.out; omega), if_neg (show ¬ (a0_0 = 25) by have := H8.out; omega), if_neg (show ¬ (a0_0 = 26 ∨ a0_0 = 27) by have := H9.out; omega), if_neg (show ¬ (a0_0 = 29 ∨ a0_0 = 31 ∨ a0_0 = 32) by have := H10.out; omega), if_neg (show ¬ (a0_0 = 30) by have := H11.out; omega), if_pos hk]
  have HV := Aside0.mk hv
  clear hv
  have e33 : (a0_0 == 33) = true := beq_iff_eq.mpr hk
  clear hk
  cases e0_ : (a0_1 == 0)
  all_goals cases hT : twoV a0_4 a0_11 [(⟨#[48, 105]⟩ : ByteArray)]
  all_goals have HT := Aside0.mk hT
  all_goals clear hT
  all_goals
   exact spec_l05Shape.e3
 have e33 : (a0_0 == 33) = false := beq_eq_false_iff_ne.mpr (by omega)
 have H12 := Aside0.mk hk
 clear hk
 go_upto_region 42 with fail
 clear e33
 by_cases hk : a0_0 = 35
 ·have hv : shapeV a0_0 a0_1 a0_2 a0_3 a0_4 a0_5 a0_6 a0_7 a0_8 a0_9 a0_10 a0_11 a0_12 a0_13 a0_14 a0_15 a0_16 a0_17 a0_18 = ((a0_1 == 1) && (twoV a0_4 a0_11 [(⟨#[114, 48]⟩ : ByteArray), (⟨#[109, 48]⟩ : ByteArray)])) := by unfold shapeV; rw [if_neg (show ¬ (a0_0 ≤ 8) by have := H0.out; omega), if_neg (show ¬ (a0_0 = 9) by have := H1.out; omega), if_neg (show ¬ (a0_0 = 10) by have := H2.out; omega), if_neg (show ¬ (a0_0 = 28) by have := H3.out; omega), if_neg (show ¬ (a0_0 = 11 ∨ a0_0 = 12 ∨ a0_0 = 18 ∨ a0_0 = 19) by have := H4.out; omega), if_neg (show ¬ (13 ≤ a0_0 ∧ a0_0 ≤ 16) by have := H5.out; omega), if_neg (show ¬ (a0_0 = 17 ∨ a0_0 = 36) by have := H6.out; omega), if_neg (show ¬ (20 ≤ a0_0 ∧ a0_0 ≤ 24) by have := H7.out; omega), if_neg (show ¬ (a0_0 = 25) by have := H8.out; omega), if_neg (show ¬ (a0_0 = 26 ∨ a0_0 = 27) by have := H9.out; omega), if_neg (show ¬ (a0_0 = 29 ∨ a0_0 = 31 ∨ a0_0 = 32) by have := H10.out; omega), if_neg (show ¬ (a0_0 = 30) by have := H11.out; omega), if_neg (show ¬ (a0_0 = 33) by have := H12.out; omega), if_pos hk]
  have HV := Aside0.mk hv
  clear hv
  have e35 : (a0_0 == 35) = true := beq_iff_eq.mpr hk
  clear hk
  have e1_ : (a0_1 == 1) = false := sizeV_no HS.out 1 (by decide)
  obtain ⟨bT, hT⟩ : ∃ b, twoV a0_4 a0_11 [(⟨#[114, 48]⟩ : ByteArray), (⟨#[109, 48]⟩ : ByteArray)] = b := ⟨_, rfl⟩
  all_goals have HT := Aside0.mk hT
  all_goals clear hT
  all_goals
   exact spec_l05Shape.e4
 have e35 : (a0_0 == 35) = false := beq_eq_false_iff_ne.mpr (by omega)
 have H13 := Aside0.mk hk
 clear hk
 go_upto_region 44 with fail
 clear e35
 by_cases hk : a0_0 = 39 ∨ a0_0 = 40
 ·have hv : shapeV a0_0 a0_1 a0_2 a0_3 a0_4 a0_5 a0_6 a0_7 a0_8 a0_9 a0_10 a0_11 a0_12 a0_13 a0_14 a0_15 a0_16 a0_17 a0_18 = ((sizeV a0_1 && decide (a0_1 > 1)) && (twoV a0_4 a0_11 [(⟨#[48, 48]⟩ : ByteArray)])) := by unfold shapeV; rw [if_neg (show ¬ (a0_0 ≤ 8) by have := H0.out; omega), if_neg (show ¬ (a0_0 = 9) by have := H1.out; omega), if_neg (show ¬ (a0_0 = 10) by have := H2.out; omega), if_neg (show ¬ (a0_0 = 28) by have := H3.out; omega), if_neg (show ¬ (a0_0 = 11 ∨ a0_0 = 12 ∨ a0_0 = 18 ∨ a0_0 = 19) by have := H4.out; omega), if_neg (show ¬ (13 ≤ a0_0 ∧ a0_0 ≤ 16) by have := H5.out; omega), if_neg (show ¬ (a0_0 = 17 ∨ a0_0 = 36) by have := H6.out; omega), if_neg (show ¬ (20 ≤ a0_0 ∧ a0_0 ≤ 24) by have := H7.out; omega), if_neg (show ¬ (a0_0 = 25) by have := H8.out; omega), if_neg (show ¬ (a0_0 = 26 ∨ a0_0 = 27) by have := H9.out; omega), if_neg (show ¬ (a0_0 = 29 ∨ a0_0 = 31 ∨ a0_0 = 32) by have := H10.out; omega), if_neg (show ¬ (a0_0 = 30) by have := H11.out; omega), if_neg (show ¬ (a0_0 = 33) by have := H12.out; omega), if_neg (show ¬ (a0_0 = 35) by have := H13.out; omega), if_pos hk]
  have HV := Aside0.mk hv
  clear hv
  have hkey : ((a0_0 == 39) = true) ∨ ((a0_0 == 39) = false ∧ (a0_0 == 40) = true) := by rcases hk with hz | hz <;> subst hz <;> simp
  rcases hkey with e39 | ⟨e39, e40⟩
  all_goals clear hk
  all_goals obtain ⟨bT, hT⟩ : ∃ b, twoV a0_4 a0_11 [(⟨#[48, 48]⟩ : ByteArray)] = b := ⟨_, rfl⟩
  all_goals have HT := Aside0.mk hT
  all_goals clear hT
  all_goals
   exact spec_l05Shape.e1
 have e39 : (a0_0 == 39) = false := beq_eq_false_iff_ne.mpr (by omega)
 have e40 : (a0_0 == 40) = false := beq_eq_false_iff_ne.mpr (by omega)
 have H14 := Aside0.mk hk
 clear hk
 go_upto_region 47 with fail
 clear e39 e40
 by_cases hk : a0_0 = 41 ∨ a0_0 = 42
 ·have hv : shapeV a0_0 a0_1 a0_2 a0_3 a0_4 a0_5 a0_6 a0_7 a0_8 a0_9 a0_10 a0_11 a0_12 a0_13 a0_14 a0_15 a0_16 a0_17 a0_18 = ((a0_1 == 1) && (twoV a0_4 a0_11 [(⟨#[48, 48]⟩ : ByteArray)])) := by unfold shapeV; rw [if_neg (show ¬ (a0_0 ≤ 8) by have := H0.out; omega), if_neg (show ¬ (a0_0 = 9) by have := H1.out; omega), if_neg (show ¬ (a0_0 = 10) by have := H2.out; omega), if_neg (show ¬ (a0_0 = 28) by have := H3.out; omega), if_neg (show ¬ (a0_0 = 11 ∨ a0_0 = 12 ∨ a0_0 = 18 ∨ a0_0 = 19) by have := H4.out; omega), if_neg (show ¬ (13 ≤ a0_0 ∧ a0_0 ≤ 16) by have := H5.out; omega), if_neg (show ¬ (a0_0 = 17 ∨ a0_0 = 36) by have := H6.out; omega), if_neg (show ¬ (20 ≤ a0_0 ∧ a0_0 ≤ 24) by have := H7.out; omega), if_neg (show ¬ (a0_0 = 25) by have := H8.out; omega), if_neg (show ¬ (a0_0 = 26 ∨ a0_0 = 27) by have := H9.out; omega), if_neg (show ¬ (a0_0 = 29 ∨ a0_0 = 31 ∨ a0_0 = 32) by have := H10.out; omega), if_neg (show ¬ (a0_0 = 30) by have := H11.out; omega), if_neg (show ¬ (a0_0 = 33) by have := H12.out; omega), if_neg (show ¬ (a0_0 = 35) by have := H13.out; omega), if_neg (show ¬ (a0_0 = 39 ∨ a0_0 = 40) by have := H14.out; omega), if_pos hk]
  have HV := Aside0.mk hv
  clear hv
  have hkey : ((a0_0 == 41) = true) ∨ ((a0_0 == 41) = false ∧ (a0_0 == 42) = true) := by rcases hk with hz | hz <;> subst hz <;> simp
  rcases hkey with e41 | ⟨e41, e42⟩
  all_goals clear hk
  all_goals have e1_ : (a0_1 == 1) = false := sizeV_no HS.out 1 (by decide)
  all_goals obtain ⟨bT, hT⟩ : ∃ b, twoV a0_4 a0_11 [(⟨#[48, 48]⟩ : ByteArray)] = b := ⟨_, rfl⟩
  all_goals have HT := Aside0.mk hT
  all_goals clear hT
  all_goals
   exact spec_l05Shape.e5
 have e41 : (a0_0 == 41) = false := beq_eq_false_iff_ne.mpr (by omega)
 have e42 : (a0_0 == 42) = false := beq_eq_false_iff_ne.mpr (by omega)
 have H15 := Aside0.mk hk
 clear hk
 go_upto_region 50 with fail
 clear e41 e42
 by_cases hk : a0_0 = 44
 ·have hv : shapeV a0_0 a0_1 a0_2 a0_3 a0_4 a0_5 a0_6 a0_7 a0_8 a0_9 a0_10 a0_11 a0_12 a0_13 a0_14 a0_15 a0_16 a0_17 a0_18 = ((a0_1 == 0) && ((twoV a0_4 a0_11 [(⟨#[48, 105]⟩ : ByteArray)]) && inV a0_17 0 255)) := by unfold shapeV; rw [if_neg (show ¬ (a0_0 ≤ 8) by have := H0.out; omega), if_neg (show ¬ (a0_0 = 9) by have := H1.out; omega), if_neg (show ¬ (a0_0 = 10) by have := H2.out; omega), if_neg (show ¬ (a0_0 = 28) by have := H3.out; omega), if_neg (show ¬ (a0_0 = 11 ∨ a0_0 = 12 ∨ a0_0 = 18 ∨ a0_0 = 19) by have := H4.out; omega), if_neg (show ¬ (13 ≤ a0_0 ∧ a0_0 ≤ 16) by have := H5.out; omega), if_neg (show ¬ (a0_0 = 17 ∨ a0_0 = 36) by have := H6.out; omega), if_neg (show ¬ (20 ≤ a0_0 ∧ a0_0 ≤ 24) by have := H7.out; omega), if_neg (show ¬ (a0_0 = 25) by have := H8.out; omega), if_neg (show ¬ (a0_0 = 26 ∨ a0_0 = 27) by have := H9.out; omega), if_neg (show ¬ (a0_0 = 29 ∨ a0_0 = 31 ∨ a0_0 = 32) by have := H10.out; omega), if_neg (show ¬ (a0_0 = 30) by have := H11.out; omega), if_neg (show ¬ (a0_0 = 33) by have := H12.out; omega), if_neg (show ¬ (a0_0 = 35) by have := H13.out; omega), if_neg (show ¬ (a0_0 = 39 ∨ a0_0 = 40) by have := H14.out; omega), if_neg (show ¬ (a0_0 = 41 ∨ a0_0 = 42) by have := H15.out; omega), if_pos hk]
  have HV := Aside0.mk hv
  clear hv
  have e44 : (a0_0 == 44) = true := beq_iff_eq.mpr hk
  clear hk
  cases e0_ : (a0_1 == 0)
  all_goals cases hT : twoV a0_4 a0_11 [(⟨#[48, 105]⟩ : ByteArray)]
  all_goals have HT := Aside0.mk hT
  all_goals clear hT
  all_goals
   exact spec_l05Shape.e6
 have e44 : (a0_0 == 44) = false := beq_eq_false_iff_ne.mpr (by omega)
 have H16 := Aside0.mk hk
 clear hk
 go_upto_region 52 with fail
 clear e44
 have hv : shapeV a0_0 a0_1 a0_2 a0_3 a0_4 a0_5 a0_6 a0_7 a0_8 a0_9 a0_10 a0_11 a0_12 a0_13 a0_14 a0_15 a0_16 a0_17 a0_18 = ((a0_1 == 0) && (twoV a0_4 a0_11 [(⟨#[48, 48]⟩ : ByteArray)])) := by unfold shapeV; rw [if_neg (show ¬ (a0_0 ≤ 8) by have := H0.out; omega), if_neg (show ¬ (a0_0 = 9) by have := H1.out; omega), if_neg (show ¬ (a0_0 = 10) by have := H2.out; omega), if_neg (show ¬ (a0_0 = 28) by have := H3.out; omega), if_neg (show ¬ (a0_0 = 11 ∨ a0_0 = 12 ∨ a0_0 = 18 ∨ a0_0 = 19) by have := H4.out; omega), if_neg (show ¬ (13 ≤ a0_0 ∧ a0_0 ≤ 16) by have := H5.out; omega), if_neg (show ¬ (a0_0 = 17 ∨ a0_0 = 36) by have := H6.out; omega), if_neg (show ¬ (20 ≤ a0_0 ∧ a0_0 ≤ 24) by have := H7.out; omega), if_neg (show ¬ (a0_0 = 25) by have := H8.out; omega), if_neg (show ¬ (a0_0 = 26 ∨ a0_0 = 27) by have := H9.out; omega), if_neg (show ¬ (a0_0 = 29 ∨ a0_0 = 31 ∨ a0_0 = 32) by have := H10.out; omega), if_neg (show ¬ (a0_0 = 30) by have := H11.out; omega), if_neg (show ¬ (a0_0 = 33) by have := H12.out; omega), if_neg (show ¬ (a0_0 = 35) by have := H13.out; omega), if_neg (show ¬ (a0_0 = 39 ∨ a0_0 = 40) by have := H14.out; omega), if_neg (show ¬ (a0_0 = 41 ∨ a0_0 = 42) by have := H15.out; omega), if_neg (show ¬ (a0_0 = 44) by have := H16.out; omega)]
 have HV := Aside0.mk hv
 clear hv
 cases e0_ : (a0_1 == 0)
 all_goals obtain ⟨bT, hT⟩ : ∃ b, twoV a0_4 a0_11 [(⟨#[48, 48]⟩ : ByteArray)] = b := ⟨_, rfl⟩
 all_goals have HT := Aside0.mk hT
 all_goals clear hT
 all_goals
  exact spec_l05Shape.e7
set_option maxHeartbeats 64000000 in
set_option maxRecDepth 100000 in
theorem spec_l05Shape.callsT (a0_0 : Int) (a0_1 : Int) (a0_2 : Int) (a0_3 : Int) (a0_4 : Int) (a0_5 : Int) (a0_6 : Int) (a0_7 : Int) (a0_8 : Int) (a0_9 : Int) (a0_10 : Int) (a0_11 : Int) (a0_12 : Int) (a0_13 : Int) (a0_14 : Int) (a0_15 : Int) (a0_16 : Int) (a0_17 : Int) (a0_18 : Int) (r : Bool) (w : World) (hS : sizeV a0_1 = true) (h : spec_l05Shape.f a0_0 a0_1 a0_2 a0_3 a0_4 a0_5 a0_6 a0_7 a0_8 a0_9 a0_10 a0_11 a0_12 a0_13 a0_14 a0_15 a0_16 a0_17 a0_18 = some r) :
  Calls Try.prog 96 #[.agg #[.int .i64 a0_0, .int .i64 a0_1, .int .i64 a0_2, .int .i64 a0_3, .int .i64 a0_4, .int .i64 a0_5, .int .i64 a0_6, .int .i64 a0_7, .int .i64 a0_8, .int .i64 a0_9, .int .i64 a0_10, .int .i64 a0_11, .int .i64 a0_12, .int .i64 a0_13, .int .i64 a0_14, .int .i64 a0_15, .int .i64 a0_16, .int .i64 a0_17, .int .i64 a0_18]] w fun e w' => e = .returned (.bool r) ∧ Below w.heap.size w w' := by
 have hu30 := Try.underlying30
 have hu28 := Try.underlying28
 have HR := Aside0.mk (Option.some.inj h)
 have HS := Aside0.mk hS
 clear h hS
 have HB := Aside0.mk (Below.refl w.heap.size w)
 go_enter Try.func96, Try.ntmps96
 go_upto_region 4 with (first | ((with_reducible refine gate_dst (N := 1) rfl ?_); refine box_event ?hg (N := 1) ?hd (cs := #[.int .i64 a0_0, .int .i64 a0_1, .int .i64 a0_2, .int .i64 a0_3, .int .i64 a0_4, .int .i64 a0_5, .int .i64 a0_6, .int .i64 a0_7, .int .i64 a0_8, .int .i64 a0_9, .int .i64 a0_10, .int .i64 a0_11, .int .i64 a0_12, .int .i64 a0_13, .int .i64 a0_14, .int .i64 a0_15, .int .i64 a0_16, .int .i64 a0_17, .int .i64 a0_18]) (t := 30) ?hr ?_; (case hd => rfl); (case hg => rfl); (case hr => first | (go_simp; done) | (go_simp; rfl)); intro g1 hg w1 hbox hb; have BK := Aside0.mk hbox; have n0_ := Aside0.mk (below_step by0 hb); clear HB hbox hb hg; have HB := n0_; clear n0_; have hcz0 := cz BK.out 0 (.int .i64 a0_0); have hcz1 := cz BK.out 1 (.int .i64 a0_1); have hcz3 := cz BK.out 3 (.int .i64 a0_3); have hcz4 := cz BK.out 4 (.int .i64 a0_4); have hcz11 := cz BK.out 11 (.int .i64 a0_11); have hcz12 := cz BK.out 12 (.int .i64 a0_12); have hcz17 := cz BK.out 17 (.int .i64 a0_17)) | (go_at_call 152; (with_reducible refine (sizeC _ _ HS.out _).mono ?_); rintro e w' ⟨rfl, ⟨nd, rfl⟩⟩))
 by_cases hk : a0_0 ≤ 8
 ·have hv : shapeV a0_0 a0_1 a0_2 a0_3 a0_4 a0_5 a0_6 a0_7 a0_8 a0_9 a0_10 a0_11 a0_12 a0_13 a0_14 a0_15 a0_16 a0_17 a0_18 = (sizeV a0_1 && ((twoV a0_4 a0_11 [(⟨#[114, 114]⟩ : ByteArray), (⟨#[109, 114]⟩ : ByteArray), (⟨#[114, 109]⟩ : ByteArray), (⟨#[114, 105]⟩ : ByteArray), (⟨#[109, 105]⟩ : ByteArray)]) && fitsV a0_17 a0_1)) := by unfold shapeV; rw [if_pos hk]
  have HV := Aside0.mk hv
  clear hv
  have et : decide (a0_0 ≤ 8) = true := decide_eq_true hk
  clear hk
  cases hT : twoV a0_4 a0_11 [(⟨#[114, 114]⟩ : ByteArray), (⟨#[109, 114]⟩ : ByteArray), (⟨#[114, 109]⟩ : ByteArray), (⟨#[114, 105]⟩ : ByteArray), (⟨#[109, 105]⟩ : ByteArray)]
  all_goals have HT := Aside0.mk hT
  all_goals clear hT
  all_goals
   go_wp2_with (first | ((with_reducible refine gate_dst (N := 26) rfl ?_); (try refine gate_guard (by rfl) ?_); refine Kd.R_lit Kd.string _ 9 ?hg (N := 26) ?hd (xs := ([(⟨#[114, 114]⟩ : ByteArray), (⟨#[109, 114]⟩ : ByteArray), (⟨#[114, 109]⟩ : ByteArray), (⟨#[114, 105]⟩ : ByteArray), (⟨#[109, 105]⟩ : ByteArray)] : List ByteArray)) (inner := [.string (⟨#[114, 114]⟩ : ByteArray), .string (⟨#[109, 114]⟩ : ByteArray), .string (⟨#[114, 109]⟩ : ByteArray), .string (⟨#[114, 105]⟩ : ByteArray), .string (⟨#[109, 105]⟩ : ByteArray)]) (ok := fun _ => True) (okp := fun _ => True) ?hr ?hp (fun _ hk => hk) trivial (Below.refl _ _) (Nat.le_refl _) (by simp) ?_; (case hd => rfl); (case hg => rfl); (case hr => first | (go_simp; done) | (go_simp; rfl)); (case hp => exact (Reps.one (show Kd.M Kd.string _ _ _ (⟨#[114, 114]⟩ : ByteArray) [.string (⟨#[114, 114]⟩ : ByteArray)] from rfl) (Reps.one (show Kd.M Kd.string _ _ _ (⟨#[109, 114]⟩ : ByteArray) [.string (⟨#[109, 114]⟩ : ByteArray)] from rfl) (Reps.one (show Kd.M Kd.string _ _ _ (⟨#[114, 109]⟩ : ByteArray) [.string (⟨#[114, 109]⟩ : ByteArray)] from rfl) (Reps.one (show Kd.M Kd.string _ _ _ (⟨#[114, 105]⟩ : ByteArray) [.string (⟨#[114, 105]⟩ : ByteArray)] from rfl) (Reps.one (show Kd.M Kd.string _ _ _ (⟨#[109, 105]⟩ : ByteArray) [.string (⟨#[109, 105]⟩ : ByteArray)] from rfl) (Reps.none _ _))))))); intro v1 w' ho hb hg_ hnew_; clear hg_ hnew_; obtain ⟨A1, c1, rfl, hc1, hC1⟩ := Kd.R_reads ho; clear ho; have HB1 := Aside0.mk (below_step by0 hb); have BK1 := Aside0.mk ((hb.block g1 (blk_lt by3)).trans by3); clear hb HB BK; have HB := HB1; have BK := BK1; clear HB1 BK1; clear hcz0 hcz1 hcz3 hcz4 hcz11 hcz12 hcz17) | ((with_reducible refine gate_dst (N := 25) rfl ?_); (try refine gate_guard (by rfl) ?_); refine ldw 30 (.tmp 1) rfl rfl rfl by3 Try.underlying30 rfl by4 ?_) | (go_at_call 153; refine (twoC a0_0 a0_1 a0_2 a0_3 a0_4 a0_5 a0_6 a0_7 a0_8 a0_9 a0_10 a0_11 a0_12 a0_13 a0_14 a0_15 a0_16 a0_17 a0_18 _ _ _ _ _ HT.out hC1 hc1 (by decide) (by decide)).mono ?_; rintro e w' ⟨rfl, hb⟩; clear hC1 hc1; have HB1 := Aside0.mk (below_step by0 hb); have BK1 := Aside0.mk ((hb.block g1 (blk_lt by3)).trans by3); clear hb HB BK; have HB := HB1; have BK := BK1; clear HB1 BK1; have hcz0 := cz BK.out 0 (.int .i64 a0_0); have hcz1 := cz BK.out 1 (.int .i64 a0_1); have hcz3 := cz BK.out 3 (.int .i64 a0_3)) | (go_at_call 110; (with_reducible refine (fitsC _ _ _).mono ?_); rintro e w' ⟨rfl, hb⟩; have HB1 := Aside0.mk (below_step by0 hb); have BK1 := Aside0.mk ((hb.block g1 (blk_lt by3)).trans by3); clear hb HB BK; have HB := HB1; have BK := BK1; clear HB1 BK1))
   go_ret
   exact ⟨by first | (rw [← HR.out, HV.out] <;> simp [HS.out, HT.out] <;> done), by0⟩
 have et : decide (a0_0 ≤ 8) = false := decide_eq_false hk
 have H0 := Aside0.mk hk
 clear hk
 go_upto_region 6 with fail
 clear et
 by_cases hk : a0_0 = 9
 ·have hv : shapeV a0_0 a0_1 a0_2 a0_3 a0_4 a0_5 a0_6 a0_7 a0_8 a0_9 a0_10 a0_11 a0_12 a0_13 a0_14 a0_15 a0_16 a0_17 a0_18 = (sizeV a0_1 && ((twoV a0_4 a0_11 [(⟨#[114, 114]⟩ : ByteArray), (⟨#[109, 114]⟩ : ByteArray), (⟨#[114, 109]⟩ : ByteArray), (⟨#[114, 105]⟩ : ByteArray), (⟨#[109, 105]⟩ : ByteArray)]) && (((a0_1 == 8) && (a0_4 == 1)) || fitsV a0_17 a0_1))) := by unfold shapeV; rw [if_neg (show ¬ (a0_0 ≤ 8) by have := H0.out; omega), if_pos hk]
  have HV := Aside0.mk hv
  clear hv
  have e9 : (a0_0 == 9) = true := beq_iff_eq.mpr hk
  clear hk
  have hkey2 : ((twoV a0_4 a0_11 [(⟨#[114, 114]⟩ : ByteArray), (⟨#[109, 114]⟩ : ByteArray), (⟨#[114, 109]⟩ : ByteArray), (⟨#[114, 105]⟩ : ByteArray), (⟨#[109, 105]⟩ : ByteArray)]) = false ∧ (a0_1 == 8) = false) ∨ ((twoV a0_4 a0_11 [(⟨#[114, 114]⟩ : ByteArray), (⟨#[109, 114]⟩ : ByteArray), (⟨#[114, 109]⟩ : ByteArray), (⟨#[114, 105]⟩ : ByteArray), (⟨#[109, 105]⟩ : ByteArray)]) = false ∧ (a0_1 == 8) = true) ∨ ((twoV a0_4 a0_11 [(⟨#[114, 114]⟩ : ByteArray), (⟨#[109, 114]⟩ : ByteArray), (⟨#[114, 109]⟩ : ByteArray), (⟨#[114, 105]⟩ : ByteArray), (⟨#[109, 105]⟩ : ByteArray)]) = true ∧ (a0_1 == 8) = false) ∨ ((twoV a0_4 a0_11 [(⟨#[114, 114]⟩ : ByteArray), (⟨#[109, 114]⟩ : ByteArray), (⟨#[114, 109]⟩ : ByteArray), (⟨#[114, 105]⟩ : ByteArray), (⟨#[109, 105]⟩ : ByteArray)]) = true ∧ (a0_1 == 8) = true ∧ (a0_4 == 1) = true) ∨ ((twoV a0_4 a0_11 [(⟨#[114, 114]⟩ : ByteArray), (⟨#[109, 114]⟩ : ByteArray), (⟨#[114, 109]⟩ : ByteArray), (⟨#[114, 105]⟩ : ByteArray), (⟨#[109, 105]⟩ : ByteArray)]) = true ∧ (a0_1 == 8) = true ∧ (a0_4 == 1) = false) := movKey (twoV a0_4 a0_11 [(⟨#[114, 114]⟩ : ByteArray), (⟨#[109, 114]⟩ : ByteArray), (⟨#[114, 109]⟩ : ByteArray), (⟨#[114, 105]⟩ : ByteArray), (⟨#[109, 105]⟩ : ByteArray)]) a0_1 a0_4
  rcases hkey2 with ⟨hT, e8⟩ | ⟨hT, e8⟩ | ⟨hT, e8⟩ | ⟨hT, e8, ek⟩ | ⟨hT, e8, ek⟩
  all_goals have HT := Aside0.mk hT
  all_goals clear hT
  all_goals
   go_wp2_with (first | ((with_reducible refine gate_dst (N := 51) rfl ?_); (try refine gate_guard (by rfl) ?_); refine Kd.R_lit Kd.string _ 9 ?hg (N := 51) ?hd (xs := ([(⟨#[114, 114]⟩ : ByteArray), (⟨#[109, 114]⟩ : ByteArray), (⟨#[114, 109]⟩ : ByteArray), (⟨#[114, 105]⟩ : ByteArray), (⟨#[109, 105]⟩ : ByteArray)] : List ByteArray)) (inner := [.string (⟨#[114, 114]⟩ : ByteArray), .string (⟨#[109, 114]⟩ : ByteArray), .string (⟨#[114, 109]⟩ : ByteArray), .string (⟨#[114, 105]⟩ : ByteArray), .string (⟨#[109, 105]⟩ : ByteArray)]) (ok := fun _ => True) (okp := fun _ => True) ?hr ?hp (fun _ hk => hk) trivial (Below.refl _ _) (Nat.le_refl _) (by simp) ?_; (case hd => rfl); (case hg => rfl); (case hr => first | (go_simp; done) | (go_simp; rfl)); (case hp => exact (Reps.one (show Kd.M Kd.string _ _ _ (⟨#[114, 114]⟩ : ByteArray) [.string (⟨#[114, 114]⟩ : ByteArray)] from rfl) (Reps.one (show Kd.M Kd.string _ _ _ (⟨#[109, 114]⟩ : ByteArray) [.string (⟨#[109, 114]⟩ : ByteArray)] from rfl) (Reps.one (show Kd.M Kd.string _ _ _ (⟨#[114, 109]⟩ : ByteArray) [.string (⟨#[114, 109]⟩ : ByteArray)] from rfl) (Reps.one (show Kd.M Kd.string _ _ _ (⟨#[114, 105]⟩ : ByteArray) [.string (⟨#[114, 105]⟩ : ByteArray)] from rfl) (Reps.one (show Kd.M Kd.string _ _ _ (⟨#[109, 105]⟩ : ByteArray) [.string (⟨#[109, 105]⟩ : ByteArray)] from rfl) (Reps.none _ _))))))); intro v1 w' ho hb hg_ hnew_; clear hg_ hnew_; obtain ⟨A1, c1, rfl, hc1, hC1⟩ := Kd.R_reads ho; clear ho; have HB1 := Aside0.mk (below_step by0 hb); have BK1 := Aside0.mk ((hb.block g1 (blk_lt by3)).trans by3); clear hb HB BK; have HB := HB1; have BK := BK1; clear HB1 BK1; clear hcz0 hcz1 hcz3 hcz4 hcz11 hcz12 hcz17) | ((with_reducible refine gate_dst (N := 50) rfl ?_); (try refine gate_guard (by rfl) ?_); refine ldw 30 (.tmp 1) rfl rfl rfl by3 Try.underlying30 rfl by4 ?_) | (go_at_call 153; refine (twoC a0_0 a0_1 a0_2 a0_3 a0_4 a0_5 a0_6 a0_7 a0_8 a0_9 a0_10 a0_11 a0_12 a0_13 a0_14 a0_15 a0_16 a0_17 a0_18 _ _ _ _ _ HT.out hC1 hc1 (by decide) (by decide)).mono ?_; rintro e w' ⟨rfl, hb⟩; clear hC1 hc1; have HB1 := Aside0.mk (below_step by0 hb); have BK1 := Aside0.mk ((hb.block g1 (blk_lt by3)).trans by3); clear hb HB BK; have HB := HB1; have BK := BK1; clear HB1 BK1; have hcz0 := cz BK.out 0 (.int .i64 a0_0); have hcz1 := cz BK.out 1 (.int .i64 a0_1); have hcz3 := cz BK.out 3 (.int .i64 a0_3)) | (go_at_call 110; (with_reducible refine (fitsC _ _ _).mono ?_); rintro e w' ⟨rfl, hb⟩; have HB1 := Aside0.mk (below_step by0 hb); have BK1 := Aside0.mk ((hb.block g1 (blk_lt by3)).trans by3); clear hb HB BK; have HB := HB1; have BK := BK1; clear HB1 BK1))
   go_ret
   exact ⟨by first | (rw [← HR.out, HV.out] <;> simp [HS.out, HT.out, e8, ek] <;> done) | (rw [← HR.out, HV.out] <;> simp [HS.out, HT.out, e8] <;> done), by0⟩
 have e9 : (a0_0 == 9) = false := beq_eq_false_iff_ne.mpr (by omega)
 have H1 := Aside0.mk hk
 clear hk
 go_upto_region 9 with fail
 clear e9
 by_cases hk : a0_0 = 10
 ·have hv : shapeV a0_0 a0_1 a0_2 a0_3 a0_4 a0_5 a0_6 a0_7 a0_8 a0_9 a0_10 a0_11 a0_12 a0_13 a0_14 a0_15 a0_16 a0_17 a0_18 = (sizeV a0_1 && ((twoV a0_4 a0_11 [(⟨#[114, 114]⟩ : ByteArray), (⟨#[109, 114]⟩ : ByteArray), (⟨#[114, 105]⟩ : ByteArray), (⟨#[109, 105]⟩ : ByteArray)]) && fitsV a0_17 a0_1)) := by unfold shapeV; rw [if_neg (show ¬ (a0_0 ≤ 8) by have := H0.out; omega), if_neg (show ¬ (a0_0 = 9) by have := H1.out; omega), if_pos hk]
  have HV := Aside0.mk hv
  clear hv
  have e10 : (a0_0 == 10) = true := beq_iff_eq.mpr hk
  clear hk
  cases hT : twoV a0_4 a0_11 [(⟨#[114, 114]⟩ : ByteArray), (⟨#[109, 114]⟩ : ByteArray), (⟨#[114, 105]⟩ : ByteArray), (⟨#[109, 105]⟩ : ByteArray)]
  all_goals have HT := Aside0.mk hT
  all_goals clear hT
  all_goals
   go_wp2_with (first | ((with_reducible refine gate_dst (N := 70) rfl ?_); (try refine gate_guard (by rfl) ?_); refine Kd.R_lit Kd.string _ 9 ?hg (N := 70) ?hd (xs := ([(⟨#[114, 114]⟩ : ByteArray), (⟨#[109, 114]⟩ : ByteArray), (⟨#[114, 105]⟩ : ByteArray), (⟨#[109, 105]⟩ : ByteArray)] : List ByteArray)) (inner := [.string (⟨#[114, 114]⟩ : ByteArray), .string (⟨#[109, 114]⟩ : ByteArray), .string (⟨#[114, 105]⟩ : ByteArray), .string (⟨#[109, 105]⟩ : ByteArray)]) (ok := fun _ => True) (okp := fun _ => True) ?hr ?hp (fun _ hk => hk) trivial (Below.refl _ _) (Nat.le_refl _) (by simp) ?_; (case hd => rfl); (case hg => rfl); (case hr => first | (go_simp; done) | (go_simp; rfl)); (case hp => exact (Reps.one (show Kd.M Kd.string _ _ _ (⟨#[114, 114]⟩ : ByteArray) [.string (⟨#[114, 114]⟩ : ByteArray)] from rfl) (Reps.one (show Kd.M Kd.string _ _ _ (⟨#[109, 114]⟩ : ByteArray) [.string (⟨#[109, 114]⟩ : ByteArray)] from rfl) (Reps.one (show Kd.M Kd.string _ _ _ (⟨#[114, 105]⟩ : ByteArray) [.string (⟨#[114, 105]⟩ : ByteArray)] from rfl) (Reps.one (show Kd.M Kd.string _ _ _ (⟨#[109, 105]⟩ : ByteArray) [.string (⟨#[109, 105]⟩ : ByteArray)] from rfl) (Reps.none _ _)))))); intro v1 w' ho hb hg_ hnew_; clear hg_ hnew_; obtain ⟨A1, c1, rfl, hc1, hC1⟩ := Kd.R_reads ho; clear ho; have HB1 := Aside0.mk (below_step by0 hb); have BK1 := Aside0.mk ((hb.block g1 (blk_lt by3)).trans by3); clear hb HB BK; have HB := HB1; have BK := BK1; clear HB1 BK1; clear hcz0 hcz1 hcz3 hcz4 hcz11 hcz12 hcz17) | ((with_reducible refine gate_dst (N := 69) rfl ?_); (try refine gate_guard (by rfl) ?_); refine ldw 30 (.tmp 1) rfl rfl rfl by3 Try.underlying30 rfl by4 ?_) | (go_at_call 153; refine (twoC a0_0 a0_1 a0_2 a0_3 a0_4 a0_5 a0_6 a0_7 a0_8 a0_9 a0_10 a0_11 a0_12 a0_13 a0_14 a0_15 a0_16 a0_17 a0_18 _ _ _ _ _ HT.out hC1 hc1 (by decide) (by decide)).mono ?_; rintro e w' ⟨rfl, hb⟩; clear hC1 hc1; have HB1 := Aside0.mk (below_step by0 hb); have BK1 := Aside0.mk ((hb.block g1 (blk_lt by3)).trans by3); clear hb HB BK; have HB := HB1; have BK := BK1; clear HB1 BK1; have hcz0 := cz BK.out 0 (.int .i64 a0_0); have hcz1 := cz BK.out 1 (.int .i64 a0_1); have hcz3 := cz BK.out 3 (.int .i64 a0_3)) | (go_at_call 110; (with_reducible refine (fitsC _ _ _).mono ?_); rintro e w' ⟨rfl, hb⟩; have HB1 := Aside0.mk (below_step by0 hb); have BK1 := Aside0.mk ((hb.block g1 (blk_lt by3)).trans by3); clear hb HB BK; have HB := HB1; have BK := BK1; clear HB1 BK1))
   go_ret
   exact ⟨by first | (rw [← HR.out, HV.out] <;> simp [HS.out, HT.out] <;> done), by0⟩
 have e10 : (a0_0 == 10) = false := beq_eq_false_iff_ne.mpr (by omega)
 have H2 := Aside0.mk hk
 clear hk
 go_upto_region 11 with fail
 clear e10
 by_cases hk : a0_0 = 28
 ·have hv : shapeV a0_0 a0_1 a0_2 a0_3 a0_4 a0_5 a0_6 a0_7 a0_8 a0_9 a0_10 a0_11 a0_12 a0_13 a0_14 a0_15 a0_16 a0_17 a0_18 = (sizeV a0_1 && (twoV a0_4 a0_11 [(⟨#[114, 114]⟩ : ByteArray), (⟨#[109, 114]⟩ : ByteArray)])) := by unfold shapeV; rw [if_neg (show ¬ (a0_0 ≤ 8) by have := H0.out; omega), if_neg (show ¬ (a0_0 = 9) by have := H1.out; omega), if_neg (show ¬ (a0_0 = 10) by have := H2.out; omega), if_pos hk]
  have HV := Aside0.mk hv
  clear hv
  have e28 : (a0_0 == 28) = true := beq_iff_eq.mpr hk
  clear hk
  obtain ⟨bT, hT⟩ : ∃ b, twoV a0_4 a0_11 [(⟨#[114, 114]⟩ : ByteArray), (⟨#[109, 114]⟩ : ByteArray)] = b := ⟨_, rfl⟩
  all_goals have HT := Aside0.mk hT
  all_goals clear hT
  all_goals
   go_wp2_with (first | ((with_reducible refine gate_dst (N := 86) rfl ?_); (try refine gate_guard (by rfl) ?_); refine Kd.R_lit Kd.string _ 9 ?hg (N := 86) ?hd (xs := ([(⟨#[114, 114]⟩ : ByteArray), (⟨#[109, 114]⟩ : ByteArray)] : List ByteArray)) (inner := [.string (⟨#[114, 114]⟩ : ByteArray), .string (⟨#[109, 114]⟩ : ByteArray)]) (ok := fun _ => True) (okp := fun _ => True) ?hr ?hp (fun _ hk => hk) trivial (Below.refl _ _) (Nat.le_refl _) (by simp) ?_; (case hd => rfl); (case hg => rfl); (case hr => first | (go_simp; done) | (go_simp; rfl)); (case hp => exact (Reps.one (show Kd.M Kd.string _ _ _ (⟨#[114, 114]⟩ : ByteArray) [.string (⟨#[114, 114]⟩ : ByteArray)] from rfl) (Reps.one (show Kd.M Kd.string _ _ _ (⟨#[109, 114]⟩ : ByteArray) [.string (⟨#[109, 114]⟩ : ByteArray)] from rfl) (Reps.none _ _)))); intro v1 w' ho hb hg_ hnew_; clear hg_ hnew_; obtain ⟨A1, c1, rfl, hc1, hC1⟩ := Kd.R_reads ho; clear ho; have HB1 := Aside0.mk (below_step by0 hb); have BK1 := Aside0.mk ((hb.block g1 (blk_lt by3)).trans by3); clear hb HB BK; have HB := HB1; have BK := BK1; clear HB1 BK1; clear hcz0 hcz1 hcz3 hcz4 hcz11 hcz12 hcz17) | ((with_reducible refine gate_dst (N := 85) rfl ?_); (try refine gate_guard (by rfl) ?_); refine ldw 30 (.tmp 1) rfl rfl rfl by3 Try.underlying30 rfl by4 ?_) | (go_at_call 153; refine (twoC a0_0 a0_1 a0_2 a0_3 a0_4 a0_5 a0_6 a0_7 a0_8 a0_9 a0_10 a0_11 a0_12 a0_13 a0_14 a0_15 a0_16 a0_17 a0_18 _ _ _ _ _ HT.out hC1 hc1 (by decide) (by decide)).mono ?_; rintro e w' ⟨rfl, hb⟩; clear hC1 hc1; have HB1 := Aside0.mk (below_step by0 hb); have BK1 := Aside0.mk ((hb.block g1 (blk_lt by3)).trans by3); clear hb HB BK; have HB := HB1; have BK := BK1; clear HB1 BK1; have hcz0 := cz BK.out 0 (.int .i64 a0_0); have hcz1 := cz BK.out 1 (.int .i64 a0_1); have hcz3 := cz BK.out 3 (.int .i64 a0_3)))
   go_ret
   exact ⟨by first | (rw [← HR.out, HV.out] <;> simp [HS.out, HT.out] <;> done), by0⟩
 have e28 : (a0_0 == 28) = false := beq_eq_false_iff_ne.mpr (by omega)
 have H3 := Aside0.mk hk
 clear hk
 go_upto_region 13 with fail
 clear e28
 by_cases hk : a0_0 = 11 ∨ a0_0 = 12 ∨ a0_0 = 18 ∨ a0_0 = 19
 ·have hv : shapeV a0_0 a0_1 a0_2 a0_3 a0_4 a0_5 a0_6 a0_7 a0_8 a0_9 a0_10 a0_11 a0_12 a0_13 a0_14 a0_15 a0_16 a0_17 a0_18 = (sizeV a0_1 && (twoV a0_4 a0_11 [(⟨#[114, 48]⟩ : ByteArray), (⟨#[109, 48]⟩ : ByteArray)])) := by unfold shapeV; rw [if_neg (show ¬ (a0_0 ≤ 8) by have := H0.out; omega), if_neg (show ¬ (a0_0 = 9) by have := H1.out; omega), if_neg (show ¬ (a0_0 = 10) by have := H2.out; omega), if_neg (show ¬ (a0_0 = 28) by have := H3.out; omega), if_pos hk]
  have HV := Aside0.mk hv
  clear hv
  have hkey : ((a0_0 == 11) = true) ∨ ((a0_0 == 11) = false ∧ (a0_0 == 12) = true) ∨ ((a0_0 == 11) = false ∧ (a0_0 == 12) = false ∧ (a0_0 == 18) = true) ∨ ((a0_0 == 11) = false ∧ (a0_0 == 12) = false ∧ (a0_0 == 18) = false ∧ (a0_0 == 19) = true) := by rcases hk with hz | hz | hz | hz <;> subst hz <;> simp
  rcases hkey with e11 | ⟨e11, e12⟩ | ⟨e11, e12, e18⟩ | ⟨e11, e12, e18, e19⟩
  all_goals clear hk
  all_goals obtain ⟨bT, hT⟩ : ∃ b, twoV a0_4 a0_11 [(⟨#[114, 48]⟩ : ByteArray), (⟨#[109, 48]⟩ : ByteArray)] = b := ⟨_, rfl⟩
  all_goals have HT := Aside0.mk hT
  all_goals clear hT
  all_goals
   go_wp2_with (first | ((with_reducible refine gate_dst (N := 105) rfl ?_); (try refine gate_guard (by rfl) ?_); refine Kd.R_lit Kd.string _ 9 ?hg (N := 105) ?hd (xs := ([(⟨#[114, 48]⟩ : ByteArray), (⟨#[109, 48]⟩ : ByteArray)] : List ByteArray)) (inner := [.string (⟨#[114, 48]⟩ : ByteArray), .string (⟨#[109, 48]⟩ : ByteArray)]) (ok := fun _ => True) (okp := fun _ => True) ?hr ?hp (fun _ hk => hk) trivial (Below.refl _ _) (Nat.le_refl _) (by simp) ?_; (case hd => rfl); (case hg => rfl); (case hr => first | (go_simp; done) | (go_simp; rfl)); (case hp => exact (Reps.one (show Kd.M Kd.string _ _ _ (⟨#[114, 48]⟩ : ByteArray) [.string (⟨#[114, 48]⟩ : ByteArray)] from rfl) (Reps.one (show Kd.M Kd.string _ _ _ (⟨#[109, 48]⟩ : ByteArray) [.string (⟨#[109, 48]⟩ : ByteArray)] from rfl) (Reps.none _ _)))); intro v1 w' ho hb hg_ hnew_; clear hg_ hnew_; obtain ⟨A1, c1, rfl, hc1, hC1⟩ := Kd.R_reads ho; clear ho; have HB1 := Aside0.mk (below_step by0 hb); have BK1 := Aside0.mk ((hb.block g1 (blk_lt by3)).trans by3); clear hb HB BK; have HB := HB1; have BK := BK1; clear HB1 BK1; clear hcz0 hcz1 hcz3 hcz4 hcz11 hcz12 hcz17) | ((with_reducible refine gate_dst (N := 104) rfl ?_); (try refine gate_guard (by rfl) ?_); refine ldw 30 (.tmp 1) rfl rfl rfl by3 Try.underlying30 rfl by4 ?_) | (go_at_call 153; refine (twoC a0_0 a0_1 a0_2 a0_3 a0_4 a0_5 a0_6 a0_7 a0_8 a0_9 a0_10 a0_11 a0_12 a0_13 a0_14 a0_15 a0_16 a0_17 a0_18 _ _ _ _ _ HT.out hC1 hc1 (by decide) (by decide)).mono ?_; rintro e w' ⟨rfl, hb⟩; clear hC1 hc1; have HB1 := Aside0.mk (below_step by0 hb); have BK1 := Aside0.mk ((hb.block g1 (blk_lt by3)).trans by3); clear hb HB BK; have HB := HB1; have BK := BK1; clear HB1 BK1; have hcz0 := cz BK.out 0 (.int .i64 a0_0); have hcz1 := cz BK.out 1 (.int .i64 a0_1); have hcz3 := cz BK.out 3 (.int .i64 a0_3)))
   go_ret
   exact ⟨by first | (rw [← HR.out, HV.out] <;> simp [HS.out, HT.out] <;> done), by0⟩
 have e11 : (a0_0 == 11) = false := beq_eq_false_iff_ne.mpr (by omega)
 have e12 : (a0_0 == 12) = false := beq_eq_false_iff_ne.mpr (by omega)
 have e18 : (a0_0 == 18) = false := beq_eq_false_iff_ne.mpr (by omega)
 have e19 : (a0_0 == 19) = false := beq_eq_false_iff_ne.mpr (by omega)
 have H4 := Aside0.mk hk
 clear hk
 go_upto_region 18 with fail
 clear e11 e12 e18 e19
 by_cases hk : 13 ≤ a0_0 ∧ a0_0 ≤ 16
 ·have hv : shapeV a0_0 a0_1 a0_2 a0_3 a0_4 a0_5 a0_6 a0_7 a0_8 a0_9 a0_10 a0_11 a0_12 a0_13 a0_14 a0_15 a0_16 a0_17 a0_18 = (sizeV a0_1 && (twoV a0_4 a0_11 [(⟨#[48, 114]⟩ : ByteArray), (⟨#[48, 109]⟩ : ByteArray)])) := by unfold shapeV; rw [if_neg (show ¬ (a0_0 ≤ 8) by have := H0.out; omega), if_neg (show ¬ (a0_0 = 9) by have := H1.out; omega), if_neg (show ¬ (a0_0 = 10) by have := H2.out; omega), if_neg (show ¬ (a0_0 = 28) by have := H3.out; omega), if_neg (show ¬ (a0_0 = 11 ∨ a0_0 = 12 ∨ a0_0 = 18 ∨ a0_0 = 19) by have := H4.out; omega), if_pos hk]
  have HV := Aside0.mk hv
  clear hv
  have hI_ : inV a0_0 13 16 = true := by unfold inV; rw [decide_eq_true hk.1, decide_eq_true hk.2]; rfl
  have HI := Aside0.mk hI_
  clear hI_
  clear hk
  obtain ⟨bT, hT⟩ : ∃ b, twoV a0_4 a0_11 [(⟨#[48, 114]⟩ : ByteArray), (⟨#[48, 109]⟩ : ByteArray)] = b := ⟨_, rfl⟩
  all_goals have HT := Aside0.mk hT
  all_goals clear hT
  all_goals
   go_wp2_with (first | ((with_reducible refine gate_dst (N := 115) rfl ?_); (try refine gate_guard (by rfl) ?_); refine Kd.R_lit Kd.string _ 9 ?hg (N := 115) ?hd (xs := ([(⟨#[48, 114]⟩ : ByteArray), (⟨#[48, 109]⟩ : ByteArray)] : List ByteArray)) (inner := [.string (⟨#[48, 114]⟩ : ByteArray), .string (⟨#[48, 109]⟩ : ByteArray)]) (ok := fun _ => True) (okp := fun _ => True) ?hr ?hp (fun _ hk => hk) trivial (Below.refl _ _) (Nat.le_refl _) (by simp) ?_; (case hd => rfl); (case hg => rfl); (case hr => first | (go_simp; done) | (go_simp; rfl)); (case hp => exact (Reps.one (show Kd.M Kd.string _ _ _ (⟨#[48, 114]⟩ : ByteArray) [.string (⟨#[48, 114]⟩ : ByteArray)] from rfl) (Reps.one (show Kd.M Kd.string _ _ _ (⟨#[48, 109]⟩ : ByteArray) [.string (⟨#[48, 109]⟩ : ByteArray)] from rfl) (Reps.none _ _)))); intro v1 w' ho hb hg_ hnew_; clear hg_ hnew_; obtain ⟨A1, c1, rfl, hc1, hC1⟩ := Kd.R_reads ho; clear ho; have HB1 := Aside0.mk (below_step by0 hb); have BK1 := Aside0.mk ((hb.block g1 (blk_lt by3)).trans by3); clear hb HB BK; have HB := HB1; have BK := BK1; clear HB1 BK1; clear hcz0 hcz1 hcz3 hcz4 hcz11 hcz12 hcz17) | ((with_reducible refine gate_dst (N := 114) rfl ?_); (try refine gate_guard (by rfl) ?_); refine ldw 30 (.tmp 1) rfl rfl rfl by3 Try.underlying30 rfl by4 ?_) | (go_at_call 153; refine (twoC a0_0 a0_1 a0_2 a0_3 a0_4 a0_5 a0_6 a0_7 a0_8 a0_9 a0_10 a0_11 a0_12 a0_13 a0_14 a0_15 a0_16 a0_17 a0_18 _ _ _ _ _ HT.out hC1 hc1 (by decide) (by decide)).mono ?_; rintro e w' ⟨rfl, hb⟩; clear hC1 hc1; have HB1 := Aside0.mk (below_step by0 hb); have BK1 := Aside0.mk ((hb.block g1 (blk_lt by3)).trans by3); clear hb HB BK; have HB := HB1; have BK := BK1; clear HB1 BK1; have hcz0 := cz BK.out 0 (.int .i64 a0_0); have hcz1 := cz BK.out 1 (.int .i64 a0_1); have hcz3 := cz BK.out 3 (.int .i64 a0_3)) | (go_at_call 56; (with_reducible refine (inC' _ _ _ _ HI.out _).mono ?_); rintro e w' ⟨rfl, ⟨nd, rfl⟩⟩))
   go_ret
   exact ⟨by first | (rw [← HR.out, HV.out] <;> simp [HS.out, HT.out, HI.out] <;> done), by0⟩
 have hI_ : inV a0_0 13 16 = false := by unfold inV; by_cases hz : 13 ≤ a0_0 <;> simp [hz] <;> omega
 have HI := Aside0.mk hI_
 clear hI_
 have H5 := Aside0.mk hk
 clear hk
 go_upto_region 20 with (go_at_call 56; (with_reducible refine (inC' _ _ _ _ HI.out _).mono ?_); rintro e w' ⟨rfl, ⟨nd, rfl⟩⟩)
 clear HI
 by_cases hk : a0_0 = 17 ∨ a0_0 = 36
 ·have hv : shapeV a0_0 a0_1 a0_2 a0_3 a0_4 a0_5 a0_6 a0_7 a0_8 a0_9 a0_10 a0_11 a0_12 a0_13 a0_14 a0_15 a0_16 a0_17 a0_18 = ((sizeV a0_1 && decide (a0_1 > 1)) && (twoV a0_4 a0_11 [(⟨#[114, 114]⟩ : ByteArray), (⟨#[114, 109]⟩ : ByteArray)])) := by unfold shapeV; rw [if_neg (show ¬ (a0_0 ≤ 8) by have := H0.out; omega), if_neg (show ¬ (a0_0 = 9) by have := H1.out; omega), if_neg (show ¬ (a0_0 = 10) by have := H2.out; omega), if_neg (show ¬ (a0_0 = 28) by have := H3.out; omega), if_neg (show ¬ (a0_0 = 11 ∨ a0_0 = 12 ∨ a0_0 = 18 ∨ a0_0 = 19) by have := H4.out; omega), if_neg (show ¬ (13 ≤ a0_0 ∧ a0_0 ≤ 16) by have := H5.out; omega), if_pos hk]
  have HV := Aside0.mk hv
  clear hv
  have hkey : ((a0_0 == 17) = true) ∨ ((a0_0 == 17) = false ∧ (a0_0 == 36) = true) := by rcases hk with hz | hz <;> subst hz <;> simp
  rcases hkey with e17 | ⟨e17, e36⟩
  all_goals clear hk
  all_goals cases hM : decide (a0_1 > 1)
  all_goals have hM' : decide (1 < a0_1) = _ := hM
  all_goals obtain ⟨bT, hT⟩ : ∃ b, twoV a0_4 a0_11 [(⟨#[114, 114]⟩ : ByteArray), (⟨#[114, 109]⟩ : ByteArray)] = b := ⟨_, rfl⟩
  all_goals have HT := Aside0.mk hT
  all_goals clear hT
  all_goals
   go_wp2_with (first | ((with_reducible refine gate_dst (N := 128) rfl ?_); (try refine gate_guard (by rfl) ?_); refine Kd.R_lit Kd.string _ 9 ?hg (N := 128) ?hd (xs := ([(⟨#[114, 114]⟩ : ByteArray), (⟨#[114, 109]⟩ : ByteArray)] : List ByteArray)) (inner := [.string (⟨#[114, 114]⟩ : ByteArray), .string (⟨#[114, 109]⟩ : ByteArray)]) (ok := fun _ => True) (okp := fun _ => True) ?hr ?hp (fun _ hk => hk) trivial (Below.refl _ _) (Nat.le_refl _) (by simp) ?_; (case hd => rfl); (case hg => rfl); (case hr => first | (go_simp; done) | (go_simp; rfl)); (case hp => exact (Reps.one (show Kd.M Kd.string _ _ _ (⟨#[114, 114]⟩ : ByteArray) [.string (⟨#[114, 114]⟩ : ByteArray)] from rfl) (Reps.one (show Kd.M Kd.string _ _ _ (⟨#[114, 109]⟩ : ByteArray) [.string (⟨#[114, 109]⟩ : ByteArray)] from rfl) (Reps.none _ _)))); intro v1 w' ho hb hg_ hnew_; clear hg_ hnew_; obtain ⟨A1, c1, rfl, hc1, hC1⟩ := Kd.R_reads ho; clear ho; have HB1 := Aside0.mk (below_step by0 hb); have BK1 := Aside0.mk ((hb.block g1 (blk_lt by3)).trans by3); clear hb HB BK; have HB := HB1; have BK := BK1; clear HB1 BK1; clear hcz0 hcz1 hcz3 hcz4 hcz11 hcz12 hcz17) | ((with_reducible refine gate_dst (N := 127) rfl ?_); (try refine gate_guard (by rfl) ?_); refine ldw 30 (.tmp 1) rfl rfl rfl by3 Try.underlying30 rfl by4 ?_) | (go_at_call 153; refine (twoC a0_0 a0_1 a0_2 a0_3 a0_4 a0_5 a0_6 a0_7 a0_8 a0_9 a0_10 a0_11 a0_12 a0_13 a0_14 a0_15 a0_16 a0_17 a0_18 _ _ _ _ _ HT.out hC1 hc1 (by decide) (by decide)).mono ?_; rintro e w' ⟨rfl, hb⟩; clear hC1 hc1; have HB1 := Aside0.mk (below_step by0 hb); have BK1 := Aside0.mk ((hb.block g1 (blk_lt by3)).trans by3); clear hb HB BK; have HB := HB1; have BK := BK1; clear HB1 BK1; have hcz0 := cz BK.out 0 (.int .i64 a0_0); have hcz1 := cz BK.out 1 (.int .i64 a0_1); have hcz3 := cz BK.out 3 (.int .i64 a0_3)))
   go_ret
   exact ⟨by first | (rw [← HR.out, HV.out] <;> simp [HS.out, HT.out, hM] <;> done) | (rw [← HR.out, HV.out] <;> simp [HS.out, HT.out] <;> done), by0⟩
 have e17 : (a0_0 == 17) = false := beq_eq_false_iff_ne.mpr (by omega)
 have e36 : (a0_0 == 36) = false := beq_eq_false_iff_ne.mpr (by omega)
 have H6 := Aside0.mk hk
 clear hk
 go_upto_region 23 with fail
 clear e17 e36
 by_cases hk : 20 ≤ a0_0 ∧ a0_0 ≤ 24
 ·have hv : shapeV a0_0 a0_1 a0_2 a0_3 a0_4 a0_5 a0_6 a0_7 a0_8 a0_9 a0_10 a0_11 a0_12 a0_13 a0_14 a0_15 a0_16 a0_17 a0_18 = (!((a0_11 == 1) && (a0_12 != 1)) && (sizeV a0_1 && ((twoV a0_4 a0_11 [(⟨#[114, 114]⟩ : ByteArray), (⟨#[109, 114]⟩ : ByteArray), (⟨#[114, 105]⟩ : ByteArray), (⟨#[109, 105]⟩ : ByteArray)]) && inV a0_17 0 255))) := by unfold shapeV; rw [if_neg (show ¬ (a0_0 ≤ 8) by have := H0.out; omega), if_neg (show ¬ (a0_0 = 9) by have := H1.out; omega), if_neg (show ¬ (a0_0 = 10) by have := H2.out; omega), if_neg (show ¬ (a0_0 = 28) by have := H3.out; omega), if_neg (show ¬ (a0_0 = 11 ∨ a0_0 = 12 ∨ a0_0 = 18 ∨ a0_0 = 19) by have := H4.out; omega), if_neg (show ¬ (13 ≤ a0_0 ∧ a0_0 ≤ 16) by have := H5.out; omega), if_neg (show ¬ (a0_0 = 17 ∨ a0_0 = 36) by have := H6.out; omega), if_pos hk]
  have HV := Aside0.mk hv
  clear hv
  have hI_ : inV a0_0 20 24 = true := by unfold inV; rw [decide_eq_true hk.1, decide_eq_true hk.2]; rfl
  have HI := Aside0.mk hI_
  clear hI_
  clear hk
  cases ek : (a0_11 == 1)
  all_goals cases er : (a0_12 != 1)
  all_goals cases hT : twoV a0_4 a0_11 [(⟨#[114, 114]⟩ : ByteArray), (⟨#[109, 114]⟩ : ByteArray), (⟨#[114, 105]⟩ : ByteArray), (⟨#[109, 105]⟩ : ByteArray)]
  all_goals have HT := Aside0.mk hT
  all_goals clear hT
  all_goals
   go_wp2_with (first | ((with_reducible refine gate_dst (N := 148) rfl ?_); (try refine gate_guard (by rfl) ?_); refine Kd.R_lit Kd.string _ 9 ?hg (N := 148) ?hd (xs := ([(⟨#[114, 114]⟩ : ByteArray), (⟨#[109, 114]⟩ : ByteArray), (⟨#[114, 105]⟩ : ByteArray), (⟨#[109, 105]⟩ : ByteArray)] : List ByteArray)) (inner := [.string (⟨#[114, 114]⟩ : ByteArray), .string (⟨#[109, 114]⟩ : ByteArray), .string (⟨#[114, 105]⟩ : ByteArray), .string (⟨#[109, 105]⟩ : ByteArray)]) (ok := fun _ => True) (okp := fun _ => True) ?hr ?hp (fun _ hk => hk) trivial (Below.refl _ _) (Nat.le_refl _) (by simp) ?_; (case hd => rfl); (case hg => rfl); (case hr => first | (go_simp; done) | (go_simp; rfl)); (case hp => exact (Reps.one (show Kd.M Kd.string _ _ _ (⟨#[114, 114]⟩ : ByteArray) [.string (⟨#[114, 114]⟩ : ByteArray)] from rfl) (Reps.one (show Kd.M Kd.string _ _ _ (⟨#[109, 114]⟩ : ByteArray) [.string (⟨#[109, 114]⟩ : ByteArray)] from rfl) (Reps.one (show Kd.M Kd.string _ _ _ (⟨#[114, 105]⟩ : ByteArray) [.string (⟨#[114, 105]⟩ : ByteArray)] from rfl) (Reps.one (show Kd.M Kd.string _ _ _ (⟨#[109, 105]⟩ : ByteArray) [.string (⟨#[109, 105]⟩ : ByteArray)] from rfl) (Reps.none _ _)))))); intro v1 w' ho hb hg_ hnew_; clear hg_ hnew_; obtain ⟨A1, c1, rfl, hc1, hC1⟩ := Kd.R_reads ho; clear ho; have HB1 := Aside0.mk (below_step by0 hb); have BK1 := Aside0.mk ((hb.block g1 (blk_lt by3)).trans by3); clear hb HB BK; have HB := HB1; have BK := BK1; clear HB1 BK1; clear hcz0 hcz1 hcz3 hcz4 hcz11 hcz12 hcz17) | ((with_reducible refine gate_dst (N := 147) rfl ?_); (try refine gate_guard (by rfl) ?_); refine ldw 30 (.tmp 1) rfl rfl rfl by3 Try.underlying30 rfl by4 ?_) | (go_at_call 153; refine (twoC a0_0 a0_1 a0_2 a0_3 a0_4 a0_5 a0_6 a0_7 a0_8 a0_9 a0_10 a0_11 a0_12 a0_13 a0_14 a0_15 a0_16 a0_17 a0_18 _ _ _ _ _ HT.out hC1 hc1 (by decide) (by decide)).mono ?_; rintro e w' ⟨rfl, hb⟩; clear hC1 hc1; have HB1 := Aside0.mk (below_step by0 hb); have BK1 := Aside0.mk ((hb.block g1 (blk_lt by3)).trans by3); clear hb HB BK; have HB := HB1; have BK := BK1; clear HB1 BK1; have hcz0 := cz BK.out 0 (.int .i64 a0_0); have hcz1 := cz BK.out 1 (.int .i64 a0_1); have hcz3 := cz BK.out 3 (.int .i64 a0_3)) | (go_at_call 56; (with_reducible refine (inC' _ _ _ _ HI.out _).mono ?_); rintro e w' ⟨rfl, ⟨nd, rfl⟩⟩) | (go_at_call 56; (with_reducible refine (inC _ _ _ _).mono ?_); rintro e w' ⟨rfl, ⟨nd, rfl⟩⟩))
   go_ret
   exact ⟨by first | (rw [← HR.out, HV.out] <;> simp [HS.out, HT.out, HI.out, ek, er] <;> done), by0⟩
 have hI_ : inV a0_0 20 24 = false := by unfold inV; by_cases hz : 20 ≤ a0_0 <;> simp [hz] <;> omega
 have HI := Aside0.mk hI_
 clear hI_
 have H7 := Aside0.mk hk
 clear hk
 go_upto_region 27 with (go_at_call 56; (with_reducible refine (inC' _ _ _ _ HI.out _).mono ?_); rintro e w' ⟨rfl, ⟨nd, rfl⟩⟩)
 clear HI
 by_cases hk : a0_0 = 25
 ·have hv : shapeV a0_0 a0_1 a0_2 a0_3 a0_4 a0_5 a0_6 a0_7 a0_8 a0_9 a0_10 a0_11 a0_12 a0_13 a0_14 a0_15 a0_16 a0_17 a0_18 = ((sizeV a0_1 && decide (a0_1 > 1)) && (twoV a0_4 a0_11 [(⟨#[114, 109]⟩ : ByteArray)])) := by unfold shapeV; rw [if_neg (show ¬ (a0_0 ≤ 8) by have := H0.out; omega), if_neg (show ¬ (a0_0 = 9) by have := H1.out; omega), if_neg (show ¬ (a0_0 = 10) by have := H2.out; omega), if_neg (show ¬ (a0_0 = 28) by have := H3.out; omega), if_neg (show ¬ (a0_0 = 11 ∨ a0_0 = 12 ∨ a0_0 = 18 ∨ a0_0 = 19) by have := H4.out; omega), if_neg (show ¬ (13 ≤ a0_0 ∧ a0_0 ≤ 16) by have := H5.out; omega), if_neg (show ¬ (a0_0 = 17 ∨ a0_0 = 36) by have := H6.out; omega), if_neg (show ¬ (20 ≤ a0_0 ∧ a0_0 ≤ 24) by have := H7.out; omega), if_pos hk]
  have HV := Aside0.mk hv
  clear hv
  have e25 : (a0_0 == 25) = true := beq_iff_eq.mpr hk
  clear hk
  cases hM : decide (a0_1 > 1)
  all_goals have hM' : decide (1 < a0_1) = _ := hM
  all_goals obtain ⟨bT, hT⟩ : ∃ b, twoV a0_4 a0_11 [(⟨#[114, 109]⟩ : ByteArray)] = b := ⟨_, rfl⟩
  all_goals have HT := Aside0.mk hT
  all_goals clear hT
  all_goals
   go_wp2_with (first | ((with_reducible refine gate_dst (N := 162) rfl ?_); (try refine gate_guard (by rfl) ?_); refine Kd.R_lit Kd.string _ 9 ?hg (N := 162) ?hd (xs := ([(⟨#[114, 109]⟩ : ByteArray)] : List ByteArray)) (inner := [.string (⟨#[114, 109]⟩ : ByteArray)]) (ok := fun _ => True) (okp := fun _ => True) ?hr ?hp (fun _ hk => hk) trivial (Below.refl _ _) (Nat.le_refl _) (by simp) ?_; (case hd => rfl); (case hg => rfl); (case hr => first | (go_simp; done) | (go_simp; rfl)); (case hp => exact (Reps.one (show Kd.M Kd.string _ _ _ (⟨#[114, 109]⟩ : ByteArray) [.string (⟨#[114, 109]⟩ : ByteArray)] from rfl) (Reps.none _ _))); intro v1 w' ho hb hg_ hnew_; clear hg_ hnew_; obtain ⟨A1, c1, rfl, hc1, hC1⟩ := Kd.R_reads ho; clear ho; have HB1 := Aside0.mk (below_step by0 hb); have BK1 := Aside0.mk ((hb.block g1 (blk_lt by3)).trans by3); clear hb HB BK; have HB := HB1; have BK := BK1; clear HB1 BK1; clear hcz0 hcz1 hcz3 hcz4 hcz11 hcz12 hcz17) | ((with_reducible refine gate_dst (N := 161) rfl ?_); (try refine gate_guard (by rfl) ?_); refine ldw 30 (.tmp 1) rfl rfl rfl by3 Try.underlying30 rfl by4 ?_) | (go_at_call 153; refine (twoC a0_0 a0_1 a0_2 a0_3 a0_4 a0_5 a0_6 a0_7 a0_8 a0_9 a0_10 a0_11 a0_12 a0_13 a0_14 a0_15 a0_16 a0_17 a0_18 _ _ _ _ _ HT.out hC1 hc1 (by decide) (by decide)).mono ?_; rintro e w' ⟨rfl, hb⟩; clear hC1 hc1; have HB1 := Aside0.mk (below_step by0 hb); have BK1 := Aside0.mk ((hb.block g1 (blk_lt by3)).trans by3); clear hb HB BK; have HB := HB1; have BK := BK1; clear HB1 BK1; have hcz0 := cz BK.out 0 (.int .i64 a0_0); have hcz1 := cz BK.out 1 (.int .i64 a0_1); have hcz3 := cz BK.out 3 (.int .i64 a0_3)))
   go_ret
   exact ⟨by first | (rw [← HR.out, HV.out] <;> simp [HS.out, HT.out, hM] <;> done) | (rw [← HR.out, HV.out] <;> simp [HS.out, HT.out] <;> done), by0⟩
 have e25 : (a0_0 == 25) = false := beq_eq_false_iff_ne.mpr (by omega)
 have H8 := Aside0.mk hk
 clear hk
 go_upto_region 29 with fail
 clear e25
 by_cases hk : a0_0 = 26 ∨ a0_0 = 27
 ·have hv : shapeV a0_0 a0_1 a0_2 a0_3 a0_4 a0_5 a0_6 a0_7 a0_8 a0_9 a0_10 a0_11 a0_12 a0_13 a0_14 a0_15 a0_16 a0_17 a0_18 = (((twoV a0_4 a0_11 [(⟨#[114, 114]⟩ : ByteArray), (⟨#[114, 109]⟩ : ByteArray)]) && (sizeV a0_1 && decide (a0_1 > 1))) && ((a0_3 == 1) || (((a0_3 == 2) && decide (a0_1 > 2)) || ((a0_3 == 4) && ((a0_1 == 8) && (a0_0 == 27)))))) := by unfold shapeV; rw [if_neg (show ¬ (a0_0 ≤ 8) by have := H0.out; omega), if_neg (show ¬ (a0_0 = 9) by have := H1.out; omega), if_neg (show ¬ (a0_0 = 10) by have := H2.out; omega), if_neg (show ¬ (a0_0 = 28) by have := H3.out; omega), if_neg (show ¬ (a0_0 = 11 ∨ a0_0 = 12 ∨ a0_0 = 18 ∨ a0_0 = 19) by have := H4.out; omega), if_neg (show ¬ (13 ≤ a0_0 ∧ a0_0 ≤ 16) by have := H5.out; omega), if_neg (show ¬ (a0_0 = 17 ∨ a0_0 = 36) by have := H6.out; omega), if_neg (show ¬ (20 ≤ a0_0 ∧ a0_0 ≤ 24) by have := H7.out; omega), if_neg (show ¬ (a0_0 = 25) by have := H8.out; omega), if_pos hk]
  have HV := Aside0.mk hv
  clear hv
  have hkey : ((a0_0 == 26) = true) ∨ ((a0_0 == 26) = false ∧ (a0_0 == 27) = true) := by rcases hk with hz | hz <;> subst hz <;> simp
  rcases hkey with e26 | ⟨e26, e27⟩
  all_goals clear hk
  all_goals cases hT : twoV a0_4 a0_11 [(⟨#[114, 114]⟩ : ByteArray), (⟨#[114, 109]⟩ : ByteArray)]
  all_goals cases hM : decide (a0_1 > 1)
  all_goals have hM' : decide (1 < a0_1) = _ := hM
  all_goals have HT := Aside0.mk hT
  all_goals clear hT
  all_goals
   first
   | (go_upto_region 33 with (first | ((with_reducible refine gate_dst (N := 173) rfl ?_); (try refine gate_guard (by rfl) ?_); refine Kd.R_lit Kd.string _ 9 ?hg (N := 173) ?hd (xs := ([(⟨#[114, 114]⟩ : ByteArray), (⟨#[114, 109]⟩ : ByteArray)] : List ByteArray)) (inner := [.string (⟨#[114, 114]⟩ : ByteArray), .string (⟨#[114, 109]⟩ : ByteArray)]) (ok := fun _ => True) (okp := fun _ => True) ?hr ?hp (fun _ hk => hk) trivial (Below.refl _ _) (Nat.le_refl _) (by simp) ?_; (case hd => rfl); (case hg => rfl); (case hr => first | (go_simp; done) | (go_simp; rfl)); (case hp => exact (Reps.one (show Kd.M Kd.string _ _ _ (⟨#[114, 114]⟩ : ByteArray) [.string (⟨#[114, 114]⟩ : ByteArray)] from rfl) (Reps.one (show Kd.M Kd.string _ _ _ (⟨#[114, 109]⟩ : ByteArray) [.string (⟨#[114, 109]⟩ : ByteArray)] from rfl) (Reps.none _ _)))); intro v1 w' ho hb hg_ hnew_; clear hg_ hnew_; obtain ⟨A1, c1, rfl, hc1, hC1⟩ := Kd.R_reads ho; clear ho; have HB1 := Aside0.mk (below_step by0 hb); have BK1 := Aside0.mk ((hb.block g1 (blk_lt by3)).trans by3); clear hb HB BK; have HB := HB1; have BK := BK1; clear HB1 BK1; clear hcz0 hcz1 hcz3 hcz4 hcz11 hcz12 hcz17) | ((with_reducible refine gate_dst (N := 172) rfl ?_); (try refine gate_guard (by rfl) ?_); refine ldw 30 (.tmp 1) rfl rfl rfl by3 Try.underlying30 rfl by4 ?_) | (go_at_call 153; refine (twoC a0_0 a0_1 a0_2 a0_3 a0_4 a0_5 a0_6 a0_7 a0_8 a0_9 a0_10 a0_11 a0_12 a0_13 a0_14 a0_15 a0_16 a0_17 a0_18 _ _ _ _ _ HT.out hC1 hc1 (by decide) (by decide)).mono ?_; rintro e w' ⟨rfl, hb⟩; clear hC1 hc1; have HB1 := Aside0.mk (below_step by0 hb); have BK1 := Aside0.mk ((hb.block g1 (blk_lt by3)).trans by3); clear hb HB BK; have HB := HB1; have BK := BK1; clear HB1 BK1; have hcz0 := cz BK.out 0 (.int .i64 a0_0); have hcz1 := cz BK.out 1 (.int .i64 a0_1); have hcz3 := cz BK.out 3 (.int .i64 a0_3))); have hkey2 : ((a0_3 == 1) = true) ∨ ((a0_3 == 1) = false ∧ (a0_3 == 2) = true ∧ (a0_3 == 4) = false ∧ decide (a0_1 > 2) = true) ∨ ((a0_3 == 1) = false ∧ (a0_3 == 2) = true ∧ (a0_3 == 4) = false ∧ decide (a0_1 > 2) = false) ∨ ((a0_3 == 1) = false ∧ (a0_3 == 2) = false ∧ (a0_3 == 4) = true ∧ (a0_1 == 8) = true) ∨ ((a0_3 == 1) = false ∧ (a0_3 == 2) = false ∧ (a0_3 == 4) = true ∧ (a0_1 == 8) = false) ∨ ((a0_3 == 1) = false ∧ (a0_3 == 2) = false ∧ (a0_3 == 4) = false) := fromKey a0_1 a0_3; rcases hkey2 with f1 | ⟨f1, f2, f4, hG⟩ | ⟨f1, f2, f4, hG⟩ | ⟨f1, f2, f4, e8⟩ | ⟨f1, f2, f4, e8⟩ | ⟨f1, f2, f4⟩; (all_goals try (have hG' : decide (2 < a0_1) = _ := hG)); all_goals (go_wp2; go_ret; exact ⟨by first | (rw [← HR.out, HV.out] <;> simp [HS.out, HT.out, hM, f1, e26] <;> done) | (rw [← HR.out, HV.out] <;> simp [HS.out, HT.out, hM, f1, f2, f4, hG, e26] <;> done) | (rw [← HR.out, HV.out] <;> simp [HS.out, HT.out, hM, f1, f2, f4, e8, e26] <;> done) | (rw [← HR.out, HV.out] <;> simp [HS.out, HT.out, hM, f1, f2, f4, e8, e26, e26] <;> done) | (rw [← HR.out, HV.out] <;> simp [HS.out, HT.out, hM, f1, f2, f4, e26] <;> done) | (rw [← HR.out, HV.out] <;> simp [HS.out, HT.out, hM, f1, e26, e27] <;> done) | (rw [← HR.out, HV.out] <;> simp [HS.out, HT.out, hM, f1, f2, f4, hG, e26, e27] <;> done) | (rw [← HR.out, HV.out] <;> simp [HS.out, HT.out, hM, f1, f2, f4, e8, e26, e27] <;> done) | (rw [← HR.out, HV.out] <;> simp [HS.out, HT.out, hM, f1, f2, f4, e8, e26, e26, e27] <;> done) | (rw [← HR.out, HV.out] <;> simp [HS.out, HT.out, hM, f1, f2, f4, e26, e27] <;> done) | (rw [← HR.out, HV.out] <;> simp [HS.out, HT.out, hM, f1] <;> done) | (rw [← HR.out, HV.out] <;> simp [HS.out, HT.out, hM, f1, f2, f4, hG] <;> done) | (rw [← HR.out, HV.out] <;> simp [HS.out, HT.out, hM, f1, f2, f4, e8] <;> done) | (rw [← HR.out, HV.out] <;> simp [HS.out, HT.out, hM, f1, f2, f4, e8, e26] <;> done) | (rw [← HR.out, HV.out] <;> simp [HS.out, HT.out, hM, f1, f2, f4] <;> done) | (rw [← HR.out, HV.out] <;> simp [HS.out, HT.out, hM] <;> done) | (rw [← HR.out, HV.out] <;> simp [HS.out, HT.out] <;> done), by0⟩))
   | (go_wp2_with (first | ((with_reducible refine gate_dst (N := 173) rfl ?_); (try refine gate_guard (by rfl) ?_); refine Kd.R_lit Kd.string _ 9 ?hg (N := 173) ?hd (xs := ([(⟨#[114, 114]⟩ : ByteArray), (⟨#[114, 109]⟩ : ByteArray)] : List ByteArray)) (inner := [.string (⟨#[114, 114]⟩ : ByteArray), .string (⟨#[114, 109]⟩ : ByteArray)]) (ok := fun _ => True) (okp := fun _ => True) ?hr ?hp (fun _ hk => hk) trivial (Below.refl _ _) (Nat.le_refl _) (by simp) ?_; (case hd => rfl); (case hg => rfl); (case hr => first | (go_simp; done) | (go_simp; rfl)); (case hp => exact (Reps.one (show Kd.M Kd.string _ _ _ (⟨#[114, 114]⟩ : ByteArray) [.string (⟨#[114, 114]⟩ : ByteArray)] from rfl) (Reps.one (show Kd.M Kd.string _ _ _ (⟨#[114, 109]⟩ : ByteArray) [.string (⟨#[114, 109]⟩ : ByteArray)] from rfl) (Reps.none _ _)))); intro v1 w' ho hb hg_ hnew_; clear hg_ hnew_; obtain ⟨A1, c1, rfl, hc1, hC1⟩ := Kd.R_reads ho; clear ho; have HB1 := Aside0.mk (below_step by0 hb); have BK1 := Aside0.mk ((hb.block g1 (blk_lt by3)).trans by3); clear hb HB BK; have HB := HB1; have BK := BK1; clear HB1 BK1; clear hcz0 hcz1 hcz3 hcz4 hcz11 hcz12 hcz17) | ((with_reducible refine gate_dst (N := 172) rfl ?_); (try refine gate_guard (by rfl) ?_); refine ldw 30 (.tmp 1) rfl rfl rfl by3 Try.underlying30 rfl by4 ?_) | (go_at_call 153; refine (twoC a0_0 a0_1 a0_2 a0_3 a0_4 a0_5 a0_6 a0_7 a0_8 a0_9 a0_10 a0_11 a0_12 a0_13 a0_14 a0_15 a0_16 a0_17 a0_18 _ _ _ _ _ HT.out hC1 hc1 (by decide) (by decide)).mono ?_; rintro e w' ⟨rfl, hb⟩; clear hC1 hc1; have HB1 := Aside0.mk (below_step by0 hb); have BK1 := Aside0.mk ((hb.block g1 (blk_lt by3)).trans by3); clear hb HB BK; have HB := HB1; have BK := BK1; clear HB1 BK1; have hcz0 := cz BK.out 0 (.int .i64 a0_0); have hcz1 := cz BK.out 1 (.int .i64 a0_1); have hcz3 := cz BK.out 3 (.int .i64 a0_3))); go_ret; exact ⟨by first | (rw [← HR.out, HV.out] <;> simp [HS.out, HT.out, hM, f1, e26] <;> done) | (rw [← HR.out, HV.out] <;> simp [HS.out, HT.out, hM, f1, f2, f4, hG, e26] <;> done) | (rw [← HR.out, HV.out] <;> simp [HS.out, HT.out, hM, f1, f2, f4, e8, e26] <;> done) | (rw [← HR.out, HV.out] <;> simp [HS.out, HT.out, hM, f1, f2, f4, e8, e26, e26] <;> done) | (rw [← HR.out, HV.out] <;> simp [HS.out, HT.out, hM, f1, f2, f4, e26] <;> done) | (rw [← HR.out, HV.out] <;> simp [HS.out, HT.out, hM, f1, e26, e27] <;> done) | (rw [← HR.out, HV.out] <;> simp [HS.out, HT.out, hM, f1, f2, f4, hG, e26, e27] <;> done) | (rw [← HR.out, HV.out] <;> simp [HS.out, HT.out, hM, f1, f2, f4, e8, e26, e27] <;> done) | (rw [← HR.out, HV.out] <;> simp [HS.out, HT.out, hM, f1, f2, f4, e8, e26, e26, e27] <;> done) | (rw [← HR.out, HV.out] <;> simp [HS.out, HT.out, hM, f1, f2, f4, e26, e27] <;> done) | (rw [← HR.out, HV.out] <;> simp [HS.out, HT.out, hM, f1] <;> done) | (rw [← HR.out, HV.out] <;> simp [HS.out, HT.out, hM, f1, f2, f4, hG] <;> done) | (rw [← HR.out, HV.out] <;> simp [HS.out, HT.out, hM, f1, f2, f4, e8] <;> done) | (rw [← HR.out, HV.out] <;> simp [HS.out, HT.out, hM, f1, f2, f4, e8, e26] <;> done) | (rw [← HR.out, HV.out] <;> simp [HS.out, HT.out, hM, f1, f2, f4] <;> done) | (rw [← HR.out, HV.out] <;> simp [HS.out, HT.out, hM] <;> done) | (rw [← HR.out, HV.out] <;> simp [HS.out, HT.out] <;> done), by0⟩)
 have e26 : (a0_0 == 26) = false := beq_eq_false_iff_ne.mpr (by omega)
 have e27 : (a0_0 == 27) = false := beq_eq_false_iff_ne.mpr (by omega)
 have H9 := Aside0.mk hk
 clear hk
 go_upto_region 34 with fail
 clear e26 e27
 by_cases hk : a0_0 = 29 ∨ a0_0 = 31 ∨ a0_0 = 32
 ·have hv : shapeV a0_0 a0_1 a0_2 a0_3 a0_4 a0_5 a0_6 a0_7 a0_8 a0_9 a0_10 a0_11 a0_12 a0_13 a0_14 a0_15 a0_16 a0_17 a0_18 = ((a0_1 == 8) && ((twoV a0_4 a0_11 [(⟨#[48, 114]⟩ : ByteArray), (⟨#[48, 109]⟩ : ByteArray), (⟨#[48, 105]⟩ : ByteArray)]) && fitsV a0_17 4)) := by unfold shapeV; rw [if_neg (show ¬ (a0_0 ≤ 8) by have := H0.out; omega), if_neg (show ¬ (a0_0 = 9) by have := H1.out; omega), if_neg (show ¬ (a0_0 = 10) by have := H2.out; omega), if_neg (show ¬ (a0_0 = 28) by have := H3.out; omega), if_neg (show ¬ (a0_0 = 11 ∨ a0_0 = 12 ∨ a0_0 = 18 ∨ a0_0 = 19) by have := H4.out; omega), if_neg (show ¬ (13 ≤ a0_0 ∧ a0_0 ≤ 16) by have := H5.out; omega), if_neg (show ¬ (a0_0 = 17 ∨ a0_0 = 36) by have := H6.out; omega), if_neg (show ¬ (20 ≤ a0_0 ∧ a0_0 ≤ 24) by have := H7.out; omega), if_neg (show ¬ (a0_0 = 25) by have := H8.out; omega), if_neg (show ¬ (a0_0 = 26 ∨ a0_0 = 27) by have := H9.out; omega), if_pos hk]
  have HV := Aside0.mk hv
  clear hv
  have hkey : ((a0_0 == 29) = true) ∨ ((a0_0 == 29) = false ∧ (a0_0 == 31) = true) ∨ ((a0_0 == 29) = false ∧ (a0_0 == 31) = false ∧ (a0_0 == 32) = true) := by rcases hk with hz | hz | hz <;> subst hz <;> simp
  rcases hkey with e29 | ⟨e29, e31⟩ | ⟨e29, e31, e32⟩
  all_goals clear hk
  all_goals cases e8 : (a0_1 == 8)
  all_goals cases hT : twoV a0_4 a0_11 [(⟨#[48, 114]⟩ : ByteArray), (⟨#[48, 109]⟩ : ByteArray), (⟨#[48, 105]⟩ : ByteArray)]
  all_goals have HT := Aside0.mk hT
  all_goals clear hT
  all_goals
   go_wp2_with (first | ((with_reducible refine gate_dst (N := 223) rfl ?_); (try refine gate_guard (by rfl) ?_); refine Kd.R_lit Kd.string _ 9 ?hg (N := 223) ?hd (xs := ([(⟨#[48, 114]⟩ : ByteArray), (⟨#[48, 109]⟩ : ByteArray), (⟨#[48, 105]⟩ : ByteArray)] : List ByteArray)) (inner := [.string (⟨#[48, 114]⟩ : ByteArray), .string (⟨#[48, 109]⟩ : ByteArray), .string (⟨#[48, 105]⟩ : ByteArray)]) (ok := fun _ => True) (okp := fun _ => True) ?hr ?hp (fun _ hk => hk) trivial (Below.refl _ _) (Nat.le_refl _) (by simp) ?_; (case hd => rfl); (case hg => rfl); (case hr => first | (go_simp; done) | (go_simp; rfl)); (case hp => exact (Reps.one (show Kd.M Kd.string _ _ _ (⟨#[48, 114]⟩ : ByteArray) [.string (⟨#[48, 114]⟩ : ByteArray)] from rfl) (Reps.one (show Kd.M Kd.string _ _ _ (⟨#[48, 109]⟩ : ByteArray) [.string (⟨#[48, 109]⟩ : ByteArray)] from rfl) (Reps.one (show Kd.M Kd.string _ _ _ (⟨#[48, 105]⟩ : ByteArray) [.string (⟨#[48, 105]⟩ : ByteArray)] from rfl) (Reps.none _ _))))); intro v1 w' ho hb hg_ hnew_; clear hg_ hnew_; obtain ⟨A1, c1, rfl, hc1, hC1⟩ := Kd.R_reads ho; clear ho; have HB1 := Aside0.mk (below_step by0 hb); have BK1 := Aside0.mk ((hb.block g1 (blk_lt by3)).trans by3); clear hb HB BK; have HB := HB1; have BK := BK1; clear HB1 BK1; clear hcz0 hcz1 hcz3 hcz4 hcz11 hcz12 hcz17) | ((with_reducible refine gate_dst (N := 222) rfl ?_); (try refine gate_guard (by rfl) ?_); refine ldw 30 (.tmp 1) rfl rfl rfl by3 Try.underlying30 rfl by4 ?_) | (go_at_call 153; refine (twoC a0_0 a0_1 a0_2 a0_3 a0_4 a0_5 a0_6 a0_7 a0_8 a0_9 a0_10 a0_11 a0_12 a0_13 a0_14 a0_15 a0_16 a0_17 a0_18 _ _ _ _ _ HT.out hC1 hc1 (by decide) (by decide)).mono ?_; rintro e w' ⟨rfl, hb⟩; clear hC1 hc1; have HB1 := Aside0.mk (below_step by0 hb); have BK1 := Aside0.mk ((hb.block g1 (blk_lt by3)).trans by3); clear hb HB BK; have HB := HB1; have BK := BK1; clear HB1 BK1; have hcz0 := cz BK.out 0 (.int .i64 a0_0); have hcz1 := cz BK.out 1 (.int .i64 a0_1); have hcz3 := cz BK.out 3 (.int .i64 a0_3)) | (go_at_call 110; (with_reducible refine (fitsC _ _ _).mono ?_); rintro e w' ⟨rfl, hb⟩; have HB1 := Aside0.mk (below_step by0 hb); have BK1 := Aside0.mk ((hb.block g1 (blk_lt by3)).trans by3); clear hb HB BK; have HB := HB1; have BK := BK1; clear HB1 BK1))
   go_ret
   exact ⟨by first | (rw [← HR.out, HV.out] <;> simp [HS.out, HT.out, e8] <;> done), by0⟩
 have e29 : (a0_0 == 29) = false := beq_eq_false_iff_ne.mpr (by omega)
 have e31 : (a0_0 == 31) = false := beq_eq_false_iff_ne.mpr (by omega)
 have e32 : (a0_0 == 32) = false := beq_eq_false_iff_ne.mpr (by omega)
 have H10 := Aside0.mk hk
 clear hk
 go_upto_region 38 with fail
 clear e29 e31 e32
 by_cases hk : a0_0 = 30
 ·have hv : shapeV a0_0 a0_1 a0_2 a0_3 a0_4 a0_5 a0_6 a0_7 a0_8 a0_9 a0_10 a0_11 a0_12 a0_13 a0_14 a0_15 a0_16 a0_17 a0_18 = ((a0_1 == 8) && (twoV a0_4 a0_11 [(⟨#[114, 48]⟩ : ByteArray), (⟨#[109, 48]⟩ : ByteArray)])) := by unfold shapeV; rw [if_neg (show ¬ (a0_0 ≤ 8) by have := H0.out; omega), if_neg (show ¬ (a0_0 = 9) by have := H1.out; omega), if_neg (show ¬ (a0_0 = 10) by have := H2.out; omega), if_neg (show ¬ (a0_0 = 28) by have := H3.out; omega), if_neg (show ¬ (a0_0 = 11 ∨ a0_0 = 12 ∨ a0_0 = 18 ∨ a0_0 = 19) by have := H4.out; omega), if_neg (show ¬ (13 ≤ a0_0 ∧ a0_0 ≤ 16) by have := H5.out; omega), if_neg (show ¬ (a0_0 = 17 ∨ a0_0 = 36) by have := H6.out; omega), if_neg (show ¬ (20 ≤ a0_0 ∧ a0_0 ≤ 24) by have := H7.out; omega), if_neg (show ¬ (a0_0 = 25) by have := H8.out; omega), if_neg (show ¬ (a0_0 = 26 ∨ a0_0 = 27) by have := H9.out; omega), if_neg (show ¬ (a0_0 = 29 ∨ a0_0 = 31 ∨ a0_0 = 32) by have := H10.out; omega), if_pos hk]
  have HV := Aside0.mk hv
  clear hv
  have e30 : (a0_0 == 30) = true := beq_iff_eq.mpr hk
  clear hk
  cases e8 : (a0_1 == 8)
  all_goals obtain ⟨bT, hT⟩ : ∃ b, twoV a0_4 a0_11 [(⟨#[114, 48]⟩ : ByteArray), (⟨#[109, 48]⟩ : ByteArray)] = b := ⟨_, rfl⟩
  all_goals have HT := Aside0.mk hT
  all_goals clear hT
  all_goals
   go_wp2_with (first | ((with_reducible refine gate_dst (N := 239) rfl ?_); (try refine gate_guard (by rfl) ?_); refine Kd.R_lit Kd.string _ 9 ?hg (N := 239) ?hd (xs := ([(⟨#[114, 48]⟩ : ByteArray), (⟨#[109, 48]⟩ : ByteArray)] : List ByteArray)) (inner := [.string (⟨#[114, 48]⟩ : ByteArray), .string (⟨#[109, 48]⟩ : ByteArray)]) (ok := fun _ => True) (okp := fun _ => True) ?hr ?hp (fun _ hk => hk) trivial (Below.refl _ _) (Nat.le_refl _) (by simp) ?_; (case hd => rfl); (case hg => rfl); (case hr => first | (go_simp; done) | (go_simp; rfl)); (case hp => exact (Reps.one (show Kd.M Kd.string _ _ _ (⟨#[114, 48]⟩ : ByteArray) [.string (⟨#[114, 48]⟩ : ByteArray)] from rfl) (Reps.one (show Kd.M Kd.string _ _ _ (⟨#[109, 48]⟩ : ByteArray) [.string (⟨#[109, 48]⟩ : ByteArray)] from rfl) (Reps.none _ _)))); intro v1 w' ho hb hg_ hnew_; clear hg_ hnew_; obtain ⟨A1, c1, rfl, hc1, hC1⟩ := Kd.R_reads ho; clear ho; have HB1 := Aside0.mk (below_step by0 hb); have BK1 := Aside0.mk ((hb.block g1 (blk_lt by3)).trans by3); clear hb HB BK; have HB := HB1; have BK := BK1; clear HB1 BK1; clear hcz0 hcz1 hcz3 hcz4 hcz11 hcz12 hcz17) | ((with_reducible refine gate_dst (N := 238) rfl ?_); (try refine gate_guard (by rfl) ?_); refine ldw 30 (.tmp 1) rfl rfl rfl by3 Try.underlying30 rfl by4 ?_) | (go_at_call 153; refine (twoC a0_0 a0_1 a0_2 a0_3 a0_4 a0_5 a0_6 a0_7 a0_8 a0_9 a0_10 a0_11 a0_12 a0_13 a0_14 a0_15 a0_16 a0_17 a0_18 _ _ _ _ _ HT.out hC1 hc1 (by decide) (by decide)).mono ?_; rintro e w' ⟨rfl, hb⟩; clear hC1 hc1; have HB1 := Aside0.mk (below_step by0 hb); have BK1 := Aside0.mk ((hb.block g1 (blk_lt by3)).trans by3); clear hb HB BK; have HB := HB1; have BK := BK1; clear HB1 BK1; have hcz0 := cz BK.out 0 (.int .i64 a0_0); have hcz1 := cz BK.out 1 (.int .i64 a0_1); have hcz3 := cz BK.out 3 (.int .i64 a0_3)))
   go_ret
   exact ⟨by first | (rw [← HR.out, HV.out] <;> simp [HS.out, HT.out, e8] <;> done), by0⟩
 have e30 : (a0_0 == 30) = false := beq_eq_false_iff_ne.mpr (by omega)
 have H11 := Aside0.mk hk
 clear hk
 go_upto_region 40 with fail
 clear e30
 by_cases hk : a0_0 = 33
 ·have hv : shapeV a0_0 a0_1 a0_2 a0_3 a0_4 a0_5 a0_6 a0_7 a0_8 a0_9 a0_10 a0_11 a0_12 a0_13 a0_14 a0_15 a0_16 a0_17 a0_18 = ((a0_1 == 0) && ((twoV a0_4 a0_11 [(⟨#[48, 105]⟩ : ByteArray)]) && fitsV a0_17 4)) := by unfold shapeV; rw [if_neg (show ¬ (a0_0 ≤ 8) by have := H0.out; omega), if_neg (show ¬ (a0_0 = 9) by have := H1.out; omega), if_neg (show ¬ (a0_0 = 10) by have := H2.out; omega), if_neg (show ¬ (a0_0 = 28) by have := H3.out; omega), if_neg (show ¬ (a0_0 = 11 ∨ a0_0 = 12 ∨ a0_0 = 18 ∨ a0_0 = 19) by have := H4.out; omega), if_neg (show ¬ (13 ≤ a0_0 ∧ a0_0 ≤ 16) by have := H5.out; omega), if_neg (show ¬ (a0_0 = 17 ∨ a0_0 = 36) by have := H6.out; omega), if_neg (show ¬ (20 ≤ a0_0 ∧ a0_0 ≤ 24) by have := H7.out; omega), if_neg (show ¬ (a0_0 = 25) by have := H8.out; omega), if_neg (show ¬ (a0_0 = 26 ∨ a0_0 = 27) by have := H9.out; omega), if_neg (show ¬ (a0_0 = 29 ∨ a0_0 = 31 ∨ a0_0 = 32) by have := H10.out; omega), if_neg (show ¬ (a0_0 = 30) by have := H11.out; omega), if_pos hk]
  have HV := Aside0.mk hv
  clear hv
  have e33 : (a0_0 == 33) = true := beq_iff_eq.mpr hk
  clear hk
  have e0_ : (a0_1 == 0) = false := sizeV_yes HS.out
  obtain ⟨bT, hT⟩ : ∃ b, twoV a0_4 a0_11 [(⟨#[48, 105]⟩ : ByteArray)] = b := ⟨_, rfl⟩
  all_goals have HT := Aside0.mk hT
  all_goals clear hT
  all_goals
   exact spec_l05Shape.e3
 have e33 : (a0_0 == 33) = false := beq_eq_false_iff_ne.mpr (by omega)
 have H12 := Aside0.mk hk
 clear hk
 go_upto_region 42 with fail
 clear e33
 by_cases hk : a0_0 = 35
 ·have hv : shapeV a0_0 a0_1 a0_2 a0_3 a0_4 a0_5 a0_6 a0_7 a0_8 a0_9 a0_10 a0_11 a0_12 a0_13 a0_14 a0_15 a0_16 a0_17 a0_18 = ((a0_1 == 1) && (twoV a0_4 a0_11 [(⟨#[114, 48]⟩ : ByteArray), (⟨#[109, 48]⟩ : ByteArray)])) := by unfold shapeV; rw [if_neg (show ¬ (a0_0 ≤ 8) by have := H0.out; omega), if_neg (show ¬ (a0_0 = 9) by have := H1.out; omega), if_neg (show ¬ (a0_0 = 10) by have := H2.out; omega), if_neg (show ¬ (a0_0 = 28) by have := H3.out; omega), if_neg (show ¬ (a0_0 = 11 ∨ a0_0 = 12 ∨ a0_0 = 18 ∨ a0_0 = 19) by have := H4.out; omega), if_neg (show ¬ (13 ≤ a0_0 ∧ a0_0 ≤ 16) by have := H5.out; omega), if_neg (show ¬ (a0_0 = 17 ∨ a0_0 = 36) by have := H6.out; omega), if_neg (show ¬ (20 ≤ a0_0 ∧ a0_0 ≤ 24) by have := H7.out; omega), if_neg (show ¬ (a0_0 = 25) by have := H8.out; omega), if_neg (show ¬ (a0_0 = 26 ∨ a0_0 = 27) by have := H9.out; omega), if_neg (show ¬ (a0_0 = 29 ∨ a0_0 = 31 ∨ a0_0 = 32) by have := H10.out; omega), if_neg (show ¬ (a0_0 = 30) by have := H11.out; omega), if_neg (show ¬ (a0_0 = 33) by have := H12.out; omega), if_pos hk]
  have HV := Aside0.mk hv
  clear hv
  have e35 : (a0_0 == 35) = true := beq_iff_eq.mpr hk
  clear hk
  cases e1_ : (a0_1 == 1)
  all_goals obtain ⟨bT, hT⟩ : ∃ b, twoV a0_4 a0_11 [(⟨#[114, 48]⟩ : ByteArray), (⟨#[109, 48]⟩ : ByteArray)] = b := ⟨_, rfl⟩
  all_goals have HT := Aside0.mk hT
  all_goals clear hT
  all_goals
   exact spec_l05Shape.e4
 have e35 : (a0_0 == 35) = false := beq_eq_false_iff_ne.mpr (by omega)
 have H13 := Aside0.mk hk
 clear hk
 go_upto_region 44 with fail
 clear e35
 by_cases hk : a0_0 = 39 ∨ a0_0 = 40
 ·have hv : shapeV a0_0 a0_1 a0_2 a0_3 a0_4 a0_5 a0_6 a0_7 a0_8 a0_9 a0_10 a0_11 a0_12 a0_13 a0_14 a0_15 a0_16 a0_17 a0_18 = ((sizeV a0_1 && decide (a0_1 > 1)) && (twoV a0_4 a0_11 [(⟨#[48, 48]⟩ : ByteArray)])) := by unfold shapeV; rw [if_neg (show ¬ (a0_0 ≤ 8) by have := H0.out; omega), if_neg (show ¬ (a0_0 = 9) by have := H1.out; omega), if_neg (show ¬ (a0_0 = 10) by have := H2.out; omega), if_neg (show ¬ (a0_0 = 28) by have := H3.out; omega), if_neg (show ¬ (a0_0 = 11 ∨ a0_0 = 12 ∨ a0_0 = 18 ∨ a0_0 = 19) by have := H4.out; omega), if_neg (show ¬ (13 ≤ a0_0 ∧ a0_0 ≤ 16) by have := H5.out; omega), if_neg (show ¬ (a0_0 = 17 ∨ a0_0 = 36) by have := H6.out; omega), if_neg (show ¬ (20 ≤ a0_0 ∧ a0_0 ≤ 24) by have := H7.out; omega), if_neg (show ¬ (a0_0 = 25) by have := H8.out; omega), if_neg (show ¬ (a0_0 = 26 ∨ a0_0 = 27) by have := H9.out; omega), if_neg (show ¬ (a0_0 = 29 ∨ a0_0 = 31 ∨ a0_0 = 32) by have := H10.out; omega), if_neg (show ¬ (a0_0 = 30) by have := H11.out; omega), if_neg (show ¬ (a0_0 = 33) by have := H12.out; omega), if_neg (show ¬ (a0_0 = 35) by have := H13.out; omega), if_pos hk]
  have HV := Aside0.mk hv
  clear hv
  have hkey : ((a0_0 == 39) = true) ∨ ((a0_0 == 39) = false ∧ (a0_0 == 40) = true) := by rcases hk with hz | hz <;> subst hz <;> simp
  rcases hkey with e39 | ⟨e39, e40⟩
  all_goals clear hk
  all_goals cases hM : decide (a0_1 > 1)
  all_goals have hM' : decide (1 < a0_1) = _ := hM
  all_goals obtain ⟨bT, hT⟩ : ∃ b, twoV a0_4 a0_11 [(⟨#[48, 48]⟩ : ByteArray)] = b := ⟨_, rfl⟩
  all_goals have HT := Aside0.mk hT
  all_goals clear hT
  all_goals
   go_wp2_with (first | ((with_reducible refine gate_dst (N := 280) rfl ?_); (try refine gate_guard (by rfl) ?_); refine Kd.R_lit Kd.string _ 9 ?hg (N := 280) ?hd (xs := ([(⟨#[48, 48]⟩ : ByteArray)] : List ByteArray)) (inner := [.string (⟨#[48, 48]⟩ : ByteArray)]) (ok := fun _ => True) (okp := fun _ => True) ?hr ?hp (fun _ hk => hk) trivial (Below.refl _ _) (Nat.le_refl _) (by simp) ?_; (case hd => rfl); (case hg => rfl); (case hr => first | (go_simp; done) | (go_simp; rfl)); (case hp => exact (Reps.one (show Kd.M Kd.string _ _ _ (⟨#[48, 48]⟩ : ByteArray) [.string (⟨#[48, 48]⟩ : ByteArray)] from rfl) (Reps.none _ _))); intro v1 w' ho hb hg_ hnew_; clear hg_ hnew_; obtain ⟨A1, c1, rfl, hc1, hC1⟩ := Kd.R_reads ho; clear ho; have HB1 := Aside0.mk (below_step by0 hb); have BK1 := Aside0.mk ((hb.block g1 (blk_lt by3)).trans by3); clear hb HB BK; have HB := HB1; have BK := BK1; clear HB1 BK1; clear hcz0 hcz1 hcz3 hcz4 hcz11 hcz12 hcz17) | ((with_reducible refine gate_dst (N := 279) rfl ?_); (try refine gate_guard (by rfl) ?_); refine ldw 30 (.tmp 1) rfl rfl rfl by3 Try.underlying30 rfl by4 ?_) | (go_at_call 153; refine (twoC a0_0 a0_1 a0_2 a0_3 a0_4 a0_5 a0_6 a0_7 a0_8 a0_9 a0_10 a0_11 a0_12 a0_13 a0_14 a0_15 a0_16 a0_17 a0_18 _ _ _ _ _ HT.out hC1 hc1 (by decide) (by decide)).mono ?_; rintro e w' ⟨rfl, hb⟩; clear hC1 hc1; have HB1 := Aside0.mk (below_step by0 hb); have BK1 := Aside0.mk ((hb.block g1 (blk_lt by3)).trans by3); clear hb HB BK; have HB := HB1; have BK := BK1; clear HB1 BK1; have hcz0 := cz BK.out 0 (.int .i64 a0_0); have hcz1 := cz BK.out 1 (.int .i64 a0_1); have hcz3 := cz BK.out 3 (.int .i64 a0_3)))
   go_ret
   exact ⟨by first | (rw [← HR.out, HV.out] <;> simp [HS.out, HT.out, hM] <;> done) | (rw [← HR.out, HV.out] <;> simp [HS.out, HT.out] <;> done), by0⟩
 have e39 : (a0_0 == 39) = false := beq_eq_false_iff_ne.mpr (by omega)
 have e40 : (a0_0 == 40) = false := beq_eq_false_iff_ne.mpr (by omega)
 have H14 := Aside0.mk hk
 clear hk
 go_upto_region 47 with fail
 clear e39 e40
 by_cases hk : a0_0 = 41 ∨ a0_0 = 42
 ·have hv : shapeV a0_0 a0_1 a0_2 a0_3 a0_4 a0_5 a0_6 a0_7 a0_8 a0_9 a0_10 a0_11 a0_12 a0_13 a0_14 a0_15 a0_16 a0_17 a0_18 = ((a0_1 == 1) && (twoV a0_4 a0_11 [(⟨#[48, 48]⟩ : ByteArray)])) := by unfold shapeV; rw [if_neg (show ¬ (a0_0 ≤ 8) by have := H0.out; omega), if_neg (show ¬ (a0_0 = 9) by have := H1.out; omega), if_neg (show ¬ (a0_0 = 10) by have := H2.out; omega), if_neg (show ¬ (a0_0 = 28) by have := H3.out; omega), if_neg (show ¬ (a0_0 = 11 ∨ a0_0 = 12 ∨ a0_0 = 18 ∨ a0_0 = 19) by have := H4.out; omega), if_neg (show ¬ (13 ≤ a0_0 ∧ a0_0 ≤ 16) by have := H5.out; omega), if_neg (show ¬ (a0_0 = 17 ∨ a0_0 = 36) by have := H6.out; omega), if_neg (show ¬ (20 ≤ a0_0 ∧ a0_0 ≤ 24) by have := H7.out; omega), if_neg (show ¬ (a0_0 = 25) by have := H8.out; omega), if_neg (show ¬ (a0_0 = 26 ∨ a0_0 = 27) by have := H9.out; omega), if_neg (show ¬ (a0_0 = 29 ∨ a0_0 = 31 ∨ a0_0 = 32) by have := H10.out; omega), if_neg (show ¬ (a0_0 = 30) by have := H11.out; omega), if_neg (show ¬ (a0_0 = 33) by have := H12.out; omega), if_neg (show ¬ (a0_0 = 35) by have := H13.out; omega), if_neg (show ¬ (a0_0 = 39 ∨ a0_0 = 40) by have := H14.out; omega), if_pos hk]
  have HV := Aside0.mk hv
  clear hv
  have hkey : ((a0_0 == 41) = true) ∨ ((a0_0 == 41) = false ∧ (a0_0 == 42) = true) := by rcases hk with hz | hz <;> subst hz <;> simp
  rcases hkey with e41 | ⟨e41, e42⟩
  all_goals clear hk
  all_goals cases e1_ : (a0_1 == 1)
  all_goals obtain ⟨bT, hT⟩ : ∃ b, twoV a0_4 a0_11 [(⟨#[48, 48]⟩ : ByteArray)] = b := ⟨_, rfl⟩
  all_goals have HT := Aside0.mk hT
  all_goals clear hT
  all_goals
   exact spec_l05Shape.e5
 have e41 : (a0_0 == 41) = false := beq_eq_false_iff_ne.mpr (by omega)
 have e42 : (a0_0 == 42) = false := beq_eq_false_iff_ne.mpr (by omega)
 have H15 := Aside0.mk hk
 clear hk
 go_upto_region 50 with fail
 clear e41 e42
 by_cases hk : a0_0 = 44
 ·have hv : shapeV a0_0 a0_1 a0_2 a0_3 a0_4 a0_5 a0_6 a0_7 a0_8 a0_9 a0_10 a0_11 a0_12 a0_13 a0_14 a0_15 a0_16 a0_17 a0_18 = ((a0_1 == 0) && ((twoV a0_4 a0_11 [(⟨#[48, 105]⟩ : ByteArray)]) && inV a0_17 0 255)) := by unfold shapeV; rw [if_neg (show ¬ (a0_0 ≤ 8) by have := H0.out; omega), if_neg (show ¬ (a0_0 = 9) by have := H1.out; omega), if_neg (show ¬ (a0_0 = 10) by have := H2.out; omega), if_neg (show ¬ (a0_0 = 28) by have := H3.out; omega), if_neg (show ¬ (a0_0 = 11 ∨ a0_0 = 12 ∨ a0_0 = 18 ∨ a0_0 = 19) by have := H4.out; omega), if_neg (show ¬ (13 ≤ a0_0 ∧ a0_0 ≤ 16) by have := H5.out; omega), if_neg (show ¬ (a0_0 = 17 ∨ a0_0 = 36) by have := H6.out; omega), if_neg (show ¬ (20 ≤ a0_0 ∧ a0_0 ≤ 24) by have := H7.out; omega), if_neg (show ¬ (a0_0 = 25) by have := H8.out; omega), if_neg (show ¬ (a0_0 = 26 ∨ a0_0 = 27) by have := H9.out; omega), if_neg (show ¬ (a0_0 = 29 ∨ a0_0 = 31 ∨ a0_0 = 32) by have := H10.out; omega), if_neg (show ¬ (a0_0 = 30) by have := H11.out; omega), if_neg (show ¬ (a0_0 = 33) by have := H12.out; omega), if_neg (show ¬ (a0_0 = 35) by have := H13.out; omega), if_neg (show ¬ (a0_0 = 39 ∨ a0_0 = 40) by have := H14.out; omega), if_neg (show ¬ (a0_0 = 41 ∨ a0_0 = 42) by have := H15.out; omega), if_pos hk]
  have HV := Aside0.mk hv
  clear hv
  have e44 : (a0_0 == 44) = true := beq_iff_eq.mpr hk
  clear hk
  have e0_ : (a0_1 == 0) = false := sizeV_yes HS.out
  obtain ⟨bT, hT⟩ : ∃ b, twoV a0_4 a0_11 [(⟨#[48, 105]⟩ : ByteArray)] = b := ⟨_, rfl⟩
  all_goals have HT := Aside0.mk hT
  all_goals clear hT
  all_goals
   exact spec_l05Shape.e6
 have e44 : (a0_0 == 44) = false := beq_eq_false_iff_ne.mpr (by omega)
 have H16 := Aside0.mk hk
 clear hk
 go_upto_region 52 with fail
 clear e44
 have hv : shapeV a0_0 a0_1 a0_2 a0_3 a0_4 a0_5 a0_6 a0_7 a0_8 a0_9 a0_10 a0_11 a0_12 a0_13 a0_14 a0_15 a0_16 a0_17 a0_18 = ((a0_1 == 0) && (twoV a0_4 a0_11 [(⟨#[48, 48]⟩ : ByteArray)])) := by unfold shapeV; rw [if_neg (show ¬ (a0_0 ≤ 8) by have := H0.out; omega), if_neg (show ¬ (a0_0 = 9) by have := H1.out; omega), if_neg (show ¬ (a0_0 = 10) by have := H2.out; omega), if_neg (show ¬ (a0_0 = 28) by have := H3.out; omega), if_neg (show ¬ (a0_0 = 11 ∨ a0_0 = 12 ∨ a0_0 = 18 ∨ a0_0 = 19) by have := H4.out; omega), if_neg (show ¬ (13 ≤ a0_0 ∧ a0_0 ≤ 16) by have := H5.out; omega), if_neg (show ¬ (a0_0 = 17 ∨ a0_0 = 36) by have := H6.out; omega), if_neg (show ¬ (20 ≤ a0_0 ∧ a0_0 ≤ 24) by have := H7.out; omega), if_neg (show ¬ (a0_0 = 25) by have := H8.out; omega), if_neg (show ¬ (a0_0 = 26 ∨ a0_0 = 27) by have := H9.out; omega), if_neg (show ¬ (a0_0 = 29 ∨ a0_0 = 31 ∨ a0_0 = 32) by have := H10.out; omega), if_neg (show ¬ (a0_0 = 30) by have := H11.out; omega), if_neg (show ¬ (a0_0 = 33) by have := H12.out; omega), if_neg (show ¬ (a0_0 = 35) by have := H13.out; omega), if_neg (show ¬ (a0_0 = 39 ∨ a0_0 = 40) by have := H14.out; omega), if_neg (show ¬ (a0_0 = 41 ∨ a0_0 = 42) by have := H15.out; omega), if_neg (show ¬ (a0_0 = 44) by have := H16.out; omega)]
 have HV := Aside0.mk hv
 clear hv
 have e0_ : (a0_1 == 0) = false := sizeV_yes HS.out
 obtain ⟨bT, hT⟩ : ∃ b, twoV a0_4 a0_11 [(⟨#[48, 48]⟩ : ByteArray)] = b := ⟨_, rfl⟩
 all_goals have HT := Aside0.mk hT
 all_goals clear hT
 all_goals
  exact spec_l05Shape.e7
theorem spec_l05Shape.calls (a0_0 : Int) (a0_1 : Int) (a0_2 : Int) (a0_3 : Int) (a0_4 : Int) (a0_5 : Int) (a0_6 : Int) (a0_7 : Int) (a0_8 : Int) (a0_9 : Int) (a0_10 : Int) (a0_11 : Int) (a0_12 : Int) (a0_13 : Int) (a0_14 : Int) (a0_15 : Int) (a0_16 : Int) (a0_17 : Int) (a0_18 : Int) (r : Bool) (w : World) (h : spec_l05Shape.f a0_0 a0_1 a0_2 a0_3 a0_4 a0_5 a0_6 a0_7 a0_8 a0_9 a0_10 a0_11 a0_12 a0_13 a0_14 a0_15 a0_16 a0_17 a0_18 = some r) :
  Calls Try.prog 96 #[.agg #[.int .i64 a0_0, .int .i64 a0_1, .int .i64 a0_2, .int .i64 a0_3, .int .i64 a0_4, .int .i64 a0_5, .int .i64 a0_6, .int .i64 a0_7, .int .i64 a0_8, .int .i64 a0_9, .int .i64 a0_10, .int .i64 a0_11, .int .i64 a0_12, .int .i64 a0_13, .int .i64 a0_14, .int .i64 a0_15, .int .i64 a0_16, .int .i64 a0_17, .int .i64 a0_18]] w fun e w' => e = .returned (.bool r) ∧ Below w.heap.size w w' := by
 cases hS : sizeV a0_1
 ·exact spec_l05Shape.callsF a0_0 a0_1 a0_2 a0_3 a0_4 a0_5 a0_6 a0_7 a0_8 a0_9 a0_10 a0_11 a0_12 a0_13 a0_14 a0_15 a0_16 a0_17 a0_18 r w hS h
 ·exact spec_l05Shape.callsT a0_0 a0_1 a0_2 a0_3 a0_4 a0_5 a0_6 a0_7 a0_8 a0_9 a0_10 a0_11 a0_12 a0_13 a0_14 a0_15 a0_16 a0_17 a0_18 r w hS h

end Go.Proofs.Ytonogadabgilfaa.PFnExactBaseAddOf

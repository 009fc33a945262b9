/- The program's StoreAt leaves the memory and the code that the reference's leaves, for all arguments. No condition. -/
import Derived.Test.YtigoabhkdipdeaaPFnExactStoreAtx0
import Derived.Test.YtigoabhkdipdeaaPFnExactStoreAtx1
import Derived.Test.YtigoabhkdipdeaaPFnExactStoreAtx2
import Derived.Test.YtigoabhkdipdeaaPFnExactStoreAtx3
import Derived.Test.YtigoabhkdipdeaaPFnExactStoreAtx4
import Derived.Test.YtigoabhkdipdeaaPFnExactStoreAtx5
import Derived.Test.YtigoabhkdipdeaaPFnExactStoreAtx6
import Derived.Test.YtigoabhkdipdeaaPFnExactStoreAtx7
import Derived.Test.YtigoabhkdipdeaaPFnExactStoreAtx8
import Derived.Test.YtigoabhkdipdeaaPFnExactStoreAtx9
import Derived.Test.YtigoabhkdipdeaaNNum
namespace Go.Proofs.Ytigoabhkdipdeaa.Pure
open Go.RowKit Go.Proofs.Ytigoabhkdipdeaa.PFnExactStoreAt Go.Proofs.YtigoabhkdipdeaaW.PrintWords Go.Proofs.YtigoabhkdipdeaaW.PrintLast Go.Proofs.YtigoabhkdipdeaaW.PrintMore Go.Proofs.Ytigoabhkdipdeaa.Num
set_option linter.unusedSimpArgs false
set_option linter.unusedVariables false

theorem evPos {α : Type} {c : Prop} [Decidable c] {g f : Nat → Option α} {r : α} (h : c) (k : Ev g r) : Ev (fun n => if c then g n else f n) r := Ev.congr (fun _ => if_pos h) k
theorem evNeg {α : Type} {c : Prop} [Decidable c] {g f : Nat → Option α} {r : α} (h : ¬ c) (k : Ev f r) : Ev (fun n => if c then g n else f n) r := Ev.congr (fun _ => if_neg h) k
theorem evIte {α : Type} {c : Prop} [Decidable c] {g f : Nat → Option α} {r : α} (h : c → Ev g r) (k : ¬ c → Ev f r) : Ev (fun n => if c then g n else f n) r := by
  by_cases hc : c
  · exact evPos hc (h hc)
  · exact evNeg hc (k hc)
/-- A call that needs no rounds. -/
theorem evB {α β : Type} {o : Option α} {f : Nat → α → Option β} {a : α} {r : β} (h : o = some a) (k : Ev (fun n => f n a) r) : Ev (fun n => o.bind (f n)) r := Ev.congr (fun _ => by rw [h]; rfl) k
theorem evR {α : Type} (r : α) : Ev (fun _ => some r) r := Ev.now r
theorem evEq {α : Type} {g : Nat → Option α} {r r' : α} (h : Ev g r) (e : r = r') : Ev g r' := e ▸ h

theorem rd_mem {l : List S153} {i : Int} (h0 : 0 ≤ i) (h1 : i < l.length) : rd_T153 l i ∈ l := by
  unfold rd_T153
  rw [List.getD_eq_getElem?_getD, List.getElem?_eq_getElem (by omega : i.toNat < l.length)]
  exact List.getElem_mem _
theorem rdL_mem {l : List S157} {i : Int} (h0 : 0 ≤ i) (h1 : i < l.length) : rd_T157 l i ∈ l := by
  unfold rd_T157
  rw [List.getD_eq_getElem?_getD, List.getElem?_eq_getElem (by omega : i.toNat < l.length)]
  exact List.getElem_mem _
/-- How much a memory holds is told: where it is too much the law asks nothing. -/
theorem szPage_ev (l : List S157) (hl : l.length ≤ 9223372036854775807) (hs : ∀ x ∈ l, x.f2.size ≤ 9223372036854775807) (d : Nat) : ∀ (left i : Int), 0 ≤ left → left ≤ 1048576 → 0 ≤ i → (l.length : Int) - i = d → ∃ r, Ev (fun k => laws_szPageS.l0 k l left i) r := by
  induction d with
  | zero =>
    intro left i h0 h1 h2 h3
    exact ⟨left, Ev.step (fun k => by simp only [laws_szPageS.l0]; exact rfl) (evNeg (by omega) (evR _))⟩
  | succ d ih =>
    intro left i h0 h1 h2 h3
    have hlt : i < (l.length : Int) := by omega
    have hz := hs _ (rdL_mem h2 hlt)
    have hw : wrap64 (i + 1) = i + 1 := w64 (by omega) (by omega)
    generalize hsz : ((rd_T157 l i).f2.size : Int) = z
    have hz0 : 0 ≤ z ∧ z ≤ 9223372036854775807 := by omega
    have hw2 : wrap64 (left - z) = left - z := w64 (by omega) (by omega)
    by_cases c : left - z < 0
    · refine ⟨-1, Ev.step (fun k => by simp only [laws_szPageS.l0]; exact rfl) (evPos hlt (evPos h2 ?_))⟩
      refine evB (a := -1) (by unfold laws_szPage.f; rw [hsz, hw2, if_pos c]) (evPos (by omega) (evR _))
    · obtain ⟨r, hr⟩ := ih (left - z) (i + 1) (by omega) (by omega) (by omega) (by omega)
      refine ⟨r, Ev.step (fun k => by simp only [laws_szPageS.l0]; exact rfl) (evPos hlt (evPos h2 ?_))⟩
      refine evB (a := left - z) (by unfold laws_szPage.f; rw [hsz, hw2, if_neg c]) (evNeg c ?_)
      rw [hw]; exact hr
theorem szMem_ev (l : List S157) (hl : l.length ≤ 9223372036854775807) (hs : ∀ x ∈ l, x.f2.size ≤ 9223372036854775807) : ∃ r, Ev (fun k => laws_szMemory.f k l 1048576) r ∧ (0 ≤ r → l.length ≤ 1048576) := by
  have hw : wrap64 (1048576 - (l.length : Int)) = 1048576 - (l.length : Int) := w64 (by omega) (by omega)
  by_cases c : (1048576 - (l.length : Int)) < 0
  · refine ⟨-1, ?_, fun h => by omega⟩
    exact Ev.bind (a := -1) (evPos (by rw [hw]; exact c) (evR _)) (evPos (by omega) (evR _))
  · obtain ⟨r, hr⟩ := szPage_ev l hl hs l.length (1048576 - (l.length : Int)) 0 (by omega) (by omega) (by omega) (by omega)
    by_cases c2 : r < 0
    · refine ⟨-1, ?_, fun h => by omega⟩
      exact Ev.bind (a := r) (evNeg (by rw [hw]; exact c) (by rw [hw]; exact hr)) (evPos c2 (evR _))
    · refine ⟨r, ?_, fun h => by omega⟩
      exact Ev.bind (a := r) (evNeg (by rw [hw]; exact c) (by rw [hw]; exact hr)) (evNeg c2 (evR _))
/-- The memory that a mirror tells. -/
def cvP (x : S157) : S153 := ⟨x.f0, x.f1, x.f2⟩
theorem toPage_ev (l : List S157) (hl : l.length ≤ 1048576) (d : Nat) : ∀ (xs : List S153) (i : Nat), xs.length = l.length → xs.take i = (l.take i).map cvP → l.length - i = d → i ≤ l.length → Ev (fun k => laws_toPageS.l0 k l xs (i : Int)) (l.map cvP) := by
  induction d with
  | zero =>
    intro xs i hx ht hd hi
    have e : xs = l.map cvP := by
      rw [List.take_of_length_le (by omega), List.take_of_length_le (by omega)] at ht
      exact ht
    exact Ev.step (fun k => by simp only [laws_toPageS.l0]; exact rfl) (evNeg (by omega) (evEq (evR xs) e))
  | succ d ih =>
    intro xs i hx ht hd hi
    have hlt : i < l.length := by omega
    refine Ev.step (fun k => by simp only [laws_toPageS.l0]; exact rfl) (evPos (by omega) (evPos (by omega) ?_))
    refine evB rfl (evPos (by omega) ?_)
    rw [w64 (n := (i : Int) + 1) (by omega) (by omega), show (i : Int) + 1 = ((i + 1 : Nat) : Int) by omega, show (i : Int).toNat = i by omega]
    refine ih _ (i + 1) (by rw [List.length_set]; exact hx) ?_ (by omega) (by omega)
    rw [List.take_succ_eq_append_getElem (by rw [List.length_set]; omega), List.take_succ_eq_append_getElem hlt, List.map_append, List.take_set_of_le (Nat.le_refl i), ht]
    congr 1
    simp only [List.getElem_set_self, List.map_cons, List.map_nil]
    congr 1
    unfold rd_T157 cvP
    rw [show ((i : Int)).toNat = i by omega, List.getD_eq_getElem?_getD, List.getElem?_eq_getElem hlt]
    rfl
theorem toMem_ev (l : List S157) (hl : l.length ≤ 1048576) : Ev (fun k => laws_toMemory.f k l) (l.map cvP) := by
  refine Ev.bind (a := l.map cvP) ?_ (evR _)
  refine evPos (by omega) (evPos (by omega) ?_)
  exact toPage_ev l hl l.length _ 0 (by simp) (by simp) (by omega) (by omega)

theorem eqPage_refl (a b : Int) (c : ByteArray) : laws_eqPage.f a b c a b c = some true := by unfold laws_eqPage.f; simp
theorem eqPageS_ev (l : List S153) (hl : l.length ≤ 1048576) (d : Nat) : ∀ i : Int, 0 ≤ i → (l.length : Int) - i = d → Ev (fun k => laws_eqPageS.l0 k l l i) true := by
  induction d with
  | zero =>
    intro i h0 h1
    exact Ev.step (fun k => by simp only [laws_eqPageS.l0]; exact rfl) (evNeg (by omega) (evR _))
  | succ d ih =>
    intro i h0 h1
    have hlt : i < (l.length : Int) := by omega
    refine Ev.step (fun k => by simp only [laws_eqPageS.l0]; exact rfl) (evPos hlt (evPos h0 (evPos hlt ?_)))
    refine evB (eqPage_refl _ _ _) (evPos rfl ?_)
    rw [w64 (n := i + 1) (by omega) (by omega)]
    exact ih (i + 1) (by omega) (by omega)
theorem eqMem_ev (l : List S153) (hl : l.length ≤ 1048576) : Ev (fun k => laws_eqMemory.f k l l) true := by
  refine Ev.bind (a := true) ?_ (evPos rfl (evR _))
  exact evPos (c := (l.length : Int) = (l.length : Int)) rfl (eqPageS_ev l hl l.length 0 (by omega) (by omega))

theorem markLoop (d : Nat) : ∀ (x : Int) (s : ByteArray), 0 ≤ x → x ≤ d → s.size + d ≤ 1000000000 → ∃ t, Ev (fun k => laws_markText.l0 k x s) t := by
  induction d with
  | zero =>
    intro x s h0 h1 h2
    exact ⟨_, Ev.step (fun k => by simp only [laws_markText.l0]; exact rfl) (evNeg (by omega) (evPos (by omega) (evR _)))⟩
  | succ d ih =>
    intro x s h0 h1 h2
    by_cases c : x > 0
    · have hq : wrap64 (Int.tdiv x 10) = x / 10 := by rw [Int.tdiv_eq_ediv_of_nonneg h0]; exact w64 (by omega) (by omega)
      have hz : ∀ z : Int, (strOfNums [z]).size = 1 := fun z => by unfold strOfNums; rfl
      obtain ⟨t, ht⟩ := ih (x / 10) (strOfNums [(wrap64 (48 + (Int.tmod x 10))) % 256] ++ s) (by omega) (by omega) (by rw [ByteArray.size_append, hz]; omega)
      refine ⟨t, Ev.step (fun k => by simp only [laws_markText.l0]; exact rfl) (evPos c (evB rfl (evPos (by rw [hz]; omega) ?_)))⟩
      rw [hq]
      exact ht
    · exact ⟨_, Ev.step (fun k => by simp only [laws_markText.l0]; exact rfl) (evNeg c (evPos (by omega) (evR _)))⟩
theorem markText_ev (n : Int) : ∃ t, n ≤ 100000000 → Ev (fun k => laws_markText.f k n) t := by
  by_cases c : n ≤ 0
  · exact ⟨_, fun _ => evPos c (evR _)⟩
  · by_cases h : n ≤ 100000000
    · obtain ⟨t, ht⟩ := markLoop n.toNat n ⟨#[]⟩ (by omega) (by omega) (by show 0 + _ ≤ _; omega)
      exact ⟨t, fun _ => evNeg c ht⟩
    · exact ⟨⟨#[]⟩, fun h' => absurd h' h⟩
noncomputable def mt (n : Int) : ByteArray := Classical.choose (markText_ev n)
theorem mt_ev {n : Int} (h : n ≤ 100000000) : Ev (fun k => laws_markText.f k n) (mt n) := Classical.choose_spec (markText_ev n) h
noncomputable def mk (i : Nat) : S153 := ⟨1 + 3 * (i : Int), 2 + 3 * (i : Int), mt (3 + 3 * (i : Int))⟩
noncomputable def marked (n : Nat) : List S153 := (List.range n).map mk
theorem marked_len (n : Nat) : (marked n).length = n := by unfold marked; simp
theorem rd_set (l : List S153) (v : S153) (i : Nat) (h : i < l.length) : rd_T153 (l.set i v) (i : Int) = v := by
  unfold rd_T153
  rw [Int.toNat_natCast, List.getD_eq_getElem?_getD, List.getElem?_set_self h]
  rfl
theorem rd_marked (n i : Nat) (h : i < n) : rd_T153 (marked n) (i : Int) = mk i := by
  unfold rd_T153 marked
  rw [Int.toNat_natCast, List.getD_eq_getElem?_getD, List.getElem?_map, List.getElem?_range h]
  rfl
theorem mark_loop (n : Nat) (hn : n ≤ 1048576) (d : Nat) : ∀ (xs : List S153) (i : Nat), xs.length = n → xs.take i = (List.range i).map mk → i + d = n → Ev (fun k => laws_markPageS.l0 k xs (1 + 3 * (i : Int)) (i : Int)) (1 + 3 * (n : Int), marked n) := by
  induction d with
  | zero =>
    intro xs i hx ht hd
    have e : i = n := by omega
    subst e
    rw [List.take_of_length_le (by omega)] at ht
    exact Ev.step (fun k => by simp only [laws_markPageS.l0]; exact rfl) (evNeg (by omega) (evEq (evR _) (by rw [ht]; rfl)))
  | succ d ih =>
    intro xs i hx ht hd
    have e1 : wrap64 (1 + 3 * (i : Int) + 1) = 2 + 3 * (i : Int) := by rw [w64 (by omega) (by omega)]; omega
    have e2 : wrap64 (2 + 3 * (i : Int) + 1) = 3 + 3 * (i : Int) := by rw [w64 (by omega) (by omega)]; omega
    have e3 : wrap64 (3 + 3 * (i : Int) + 1) = 1 + 3 * ((i + 1 : Nat) : Int) := by rw [w64 (by omega) (by omega)]; omega
    have e4 : wrap64 ((i : Int) + 1) = ((i + 1 : Nat) : Int) := by rw [w64 (by omega) (by omega)]; omega
    refine Ev.step (fun k => by simp only [laws_markPageS.l0]; exact rfl) (evPos (by omega) (evPos (by omega) ?_))
    refine evB rfl (evB rfl ?_)
    rw [e1, e2, e3, e4, Int.toNat_natCast]
    refine Ev.bind (mt_ev (by omega)) ?_
    repeat rw [rd_set _ _ _ (by first | omega | (simp only [List.length_set]; omega))]
    refine ih _ (i + 1) (by simp only [List.length_set]; exact hx) ?_ (by omega)
    rw [List.take_succ_eq_append_getElem (by simp only [List.length_set]; omega), List.take_set_of_le (Nat.le_refl i), List.take_set_of_le (Nat.le_refl i), List.take_set_of_le (Nat.le_refl i), ht, List.range_succ, List.map_append]
    simp only [List.getElem_set_self, List.map_cons, List.map_nil]
    rfl
theorem mark_ev (l : List S153) (n : Nat) (h : l.length = n) (hn : n ≤ 1048576) : Ev (fun k => laws_markMemory.f k l 1) (1 + 3 * (n : Int), marked n) :=
  Ev.bind (a := (1 + 3 * (n : Int), marked n)) (mark_loop n hn n l 0 h (by simp) (by omega)) (evR _)
theorem held_loop (n : Nat) (hn : n ≤ 1048576) (d : Nat) : ∀ i : Nat, i + d = n → Ev (fun k => laws_heldPageS.l0 k (marked n) (1 + 3 * (i : Int)) (i : Int)) (1 + 3 * (n : Int)) := by
  induction d with
  | zero =>
    intro i hd
    have e : i = n := by omega
    subst e
    exact Ev.step (fun k => by simp only [laws_heldPageS.l0]; exact rfl) (evNeg (by rw [marked_len]; omega) (evR _))
  | succ d ih =>
    intro i hd
    have e1 : wrap64 (1 + 3 * (i : Int) + 1) = 2 + 3 * (i : Int) := by rw [w64 (by omega) (by omega)]; omega
    have e2 : wrap64 (2 + 3 * (i : Int) + 1) = 3 + 3 * (i : Int) := by rw [w64 (by omega) (by omega)]; omega
    have e3 : wrap64 (3 + 3 * (i : Int) + 1) = 1 + 3 * ((i + 1 : Nat) : Int) := by rw [w64 (by omega) (by omega)]; omega
    have e4 : wrap64 ((i : Int) + 1) = ((i + 1 : Nat) : Int) := by rw [w64 (by omega) (by omega)]; omega
    refine Ev.step (fun k => by simp only [laws_heldPageS.l0]; exact rfl) (evPos (by rw [marked_len]; omega) (evPos (by omega) ?_))
    rw [e1, e2, e3, e4, rd_marked n i (by omega)]
    refine evPos rfl (evPos rfl (Ev.bind (mt_ev (by omega)) (evPos rfl ?_)))
    exact ih (i + 1) (by omega)
theorem held_ev (n : Nat) (hn : n ≤ 1048576) : Ev (fun k => laws_heldMemory.f k (marked n) 1) (1 + 3 * (n : Int)) :=
  Ev.bind (a := 1 + 3 * (n : Int)) (held_loop n hn n 0 (by omega)) (evNeg (by omega) (evR _))

def IN (a b c : Int) : Bool := decide (b ≤ a) && decide (a ≤ c)
theorem sin (a b c : Int) : spec_l01In.f a b c = some (IN a b c) := by
  unfold spec_l01In.f IN
  by_cases h : a ≥ b
  · rw [if_pos h]; simp [show b ≤ a from h]
  · rw [if_neg h]; simp [show ¬ b ≤ a from h]
theorem iin (a b c : Int) : impl_within.f a b c = some (IN a b c) := sin a b c
theorem IN_true {a b c : Int} : IN a b c = true ↔ b ≤ a ∧ a ≤ c := by unfold IN; simp
theorem IN_false {a b c : Int} : IN a b c = false ↔ ¬ (b ≤ a ∧ a ≤ c) := by unfold IN; simp

/-- What is asked of page i. -/
def PgOK (l : List S153) (i : Int) : Prop :=
  (0 ≤ (rd_T153 l i).f0 ∧ (rd_T153 l i).f0 ≤ 65535 ∧ (rd_T153 l i).f0 % 256 = 0) ∧ (0 ≤ (rd_T153 l i).f1 ∧ (rd_T153 l i).f1 ≤ 7) ∧ (rd_T153 l i).f2.size = 256 ∧ (i > 0 → (rd_T153 l (i - 1)).f0 < (rd_T153 l i).f0)
instance (l : List S153) (i : Int) : Decidable (PgOK l i) := by unfold PgOK; infer_instance
/-- All pages from i on are right. -/
def AllOK (l : List S153) (i : Int) (d : Nat) : Bool := (List.range d).all fun j => decide (PgOK l (i + j))
theorem AllOK_succ (l : List S153) (i : Int) (d : Nat) : AllOK l i (d + 1) = (decide (PgOK l i) && AllOK l (i + 1) d) := by
  unfold AllOK
  rw [List.range_succ_eq_map]
  simp only [List.all_cons, List.all_map]
  congr 1
  · rw [show i + ((0 : Nat) : Int) = i by omega]
  · congr 1
    funext j
    show decide (PgOK l (i + ((j + 1 : Nat) : Int))) = _
    rw [show i + ((j + 1 : Nat) : Int) = i + 1 + j by omega]
def MOK (l : List S153) : Bool := decide (l.length ≤ 32) && AllOK l 0 l.length
theorem sbase (b : Int) : spec_l02Base.f b = some (decide (0 ≤ b ∧ b ≤ 65535 ∧ b % 256 = 0)) := by
  unfold spec_l02Base.f
  rw [sin]
  cases h : IN b 0 65535 with
  | true =>
    have h1 := IN_true.1 h
    simp only [Option.bind_some, if_true]
    rw [Int.tmod_eq_emod_of_nonneg h1.1]
    congr 1
    rw [Bool.eq_iff_iff]; simp [h1.1, h1.2]
  | false =>
    have h1 := IN_false.1 h
    simp only [Option.bind_some]
    rw [if_neg (by decide), decide_eq_false (by omega)]
theorem ibase (b : Int) : impl_isBase.f b = some (decide (0 ≤ b ∧ b ≤ 65535 ∧ b % 256 = 0)) := sbase b
theorem sperm (b : Int) : spec_l02Perm.f b = some (IN b 0 7) := by unfold spec_l02Perm.f; rw [sin]; rfl
theorem iperm (b : Int) : impl_isPerm.f b = some (IN b 0 7) := by unfold impl_isPerm.f; rw [iin]; rfl
theorem sMemOK_loop (l : List S153) (hl : l.length ≤ 1048576) (d : Nat) : ∀ i : Int, 0 ≤ i → (l.length : Int) - i = d → Ev (fun k => spec_MemoryOK.l0 k i l) (AllOK l i d) := by
  induction d with
  | zero =>
    intro i h0 h1
    exact Ev.step (fun k => by simp only [spec_MemoryOK.l0]; exact rfl) (evNeg (by omega) (evR _))
  | succ d ih =>
    intro i h0 h1
    have hlt : i < (l.length : Int) := by omega
    have hw : wrap64 (i + 1) = i + 1 := w64 (by omega) (by omega)
    have hw1 : i > 0 → wrap64 (i - 1) = i - 1 := fun _ => w64 (by omega) (by omega)
    have hr := ih (i + 1) (by omega) (by omega)
    rw [AllOK_succ]
    refine Ev.step (fun k => by simp only [spec_MemoryOK.l0]; exact rfl) (evPos hlt (evPos h0 ?_))
    refine evB (sbase _) (evIte (fun hb => ?_) (fun hb => ?_))
    · refine evB (sperm _) (evIte (fun hp => ?_) (fun hp => ?_))
      · refine evIte (fun hz => ?_) (fun hz => ?_)
        · refine evIte (fun hi => ?_) (fun hi => ?_)
          · rw [hw1 hi]
            refine evPos (by omega) (evPos (by omega) (evIte (fun hq => ?_) (fun hq => ?_)))
            · refine evEq (evR false) ?_
              rw [decide_eq_false, Bool.false_and]
              exact fun h => by have := h.2.2.2 hi; omega
            · rw [hw]
              refine evEq hr ?_
              rw [decide_eq_true, Bool.true_and]
              exact ⟨of_decide_eq_true hb, IN_true.1 hp, by omega, fun _ => by omega⟩
          · rw [hw]
            refine evEq hr ?_
            rw [decide_eq_true, Bool.true_and]
            exact ⟨of_decide_eq_true hb, IN_true.1 hp, by omega, fun h => absurd h hi⟩
        · refine evEq (evR false) ?_
          rw [decide_eq_false, Bool.false_and]
          exact fun h => hz (by rw [h.2.2.1]; rfl)
      · refine evEq (evR false) ?_
        rw [decide_eq_false, Bool.false_and]
        exact fun h => hp (IN_true.2 h.2.1)
    · refine evEq (evR false) ?_
      rw [decide_eq_false, Bool.false_and]
      exact fun h => hb (decide_eq_true h.1)
theorem sMemOK_ev (l : List S153) (hl : l.length ≤ 1048576) : Ev (fun k => spec_MemoryOK.f k l) (MOK l) := by
  refine evIte (fun h => ?_) (fun h => ?_)
  · refine evEq (evR false) ?_
    unfold MOK
    rw [decide_eq_false (by omega), Bool.false_and]
  · refine evEq (sMemOK_loop l hl l.length 0 (by omega) (by omega)) ?_
    unfold MOK
    rw [decide_eq_true (by omega), Bool.true_and]
theorem iMemOK_loop (l : List S153) (hl : l.length ≤ 1048576) (d : Nat) : ∀ i : Int, 0 ≤ i → (l.length : Int) - i = d → Ev (fun k => impl_MemoryOK.l0 k l (l.length : Int) i l) (AllOK l i d && decide (l.length ≤ 32)) := by
  induction d with
  | zero =>
    intro i h0 h1
    refine Ev.step (fun k => by simp only [impl_MemoryOK.l0]; exact rfl) (evNeg (by omega) (evEq (evR _) ?_))
    show _ = (true && _)
    rw [Bool.true_and]
    exact decide_eq_decide.2 (by omega)
  | succ d ih =>
    intro i h0 h1
    have hlt : i < (l.length : Int) := by omega
    have hw : wrap64 (i + 1) = i + 1 := w64 (by omega) (by omega)
    have hw1 : i > 0 → wrap64 (i - 1) = i - 1 := fun _ => w64 (by omega) (by omega)
    have hr := ih (i + 1) (by omega) (by omega)
    rw [AllOK_succ]
    refine Ev.step (fun k => by simp only [impl_MemoryOK.l0]; exact rfl) (evPos hlt (evPos h0 (evPos hlt ?_)))
    refine evB (ibase _) (evIte (fun hb => ?_) (fun hb => ?_))
    · refine evB (iperm _) (evIte (fun hp => ?_) (fun hp => ?_))
      · refine evIte (fun hz => ?_) (fun hz => ?_)
        · refine evIte (fun hi => ?_) (fun hi => ?_)
          · rw [hw1 hi]
            refine evPos (by omega) (evPos (by omega) (evIte (fun hq => ?_) (fun hq => ?_)))
            · refine evEq (evR false) ?_
              rw [decide_eq_false, Bool.false_and, Bool.false_and]
              exact fun h => by have := h.2.2.2 hi; omega
            · rw [hw]
              refine evEq hr ?_
              rw [decide_eq_true (p := PgOK l i), Bool.true_and]
              exact ⟨of_decide_eq_true hb, IN_true.1 hp, by omega, fun _ => by omega⟩
          · rw [hw]
            refine evEq hr ?_
            rw [decide_eq_true (p := PgOK l i), Bool.true_and]
            exact ⟨of_decide_eq_true hb, IN_true.1 hp, by omega, fun h => absurd h hi⟩
        · refine evEq (evR false) ?_
          rw [decide_eq_false, Bool.false_and, Bool.false_and]
          exact fun h => hz (by rw [h.2.2.1]; rfl)
      · refine evEq (evR false) ?_
        rw [decide_eq_false, Bool.false_and, Bool.false_and]
        exact fun h => hp (IN_true.2 h.2.1)
    · refine evEq (evR false) ?_
      rw [decide_eq_false, Bool.false_and, Bool.false_and]
      exact fun h => hb (decide_eq_true h.1)
theorem iMemOK_ev (l : List S153) (hl : l.length ≤ 1048576) : Ev (fun k => impl_MemoryOK.f k l) (MOK l) := by
  refine evEq (iMemOK_loop l hl l.length 0 (by omega) (by omega)) ?_
  unfold MOK
  rw [Bool.and_comm]
theorem MOK_at {l : List S153} (h : MOK l = true) {i : Int} (h0 : 0 ≤ i) (h1 : i < l.length) : PgOK l i := by
  unfold MOK AllOK at h
  rw [Bool.and_eq_true, List.all_eq_true] at h
  have := h.2 i.toNat (List.mem_range.2 (by omega))
  rw [show (0 : Int) + ((i.toNat : Nat) : Int) = i by omega] at this
  exact of_decide_eq_true this
theorem MOK_len {l : List S153} (h : MOK l = true) : l.length ≤ 32 := by
  unfold MOK at h
  rw [Bool.and_eq_true] at h
  exact of_decide_eq_true h.1
/-- The page that has an address. -/
def pg (l : List S153) (a : Int) : Int := firstAt (fun p => decide (p.f0 ≤ a ∧ a < p.f0 + 256)) l
theorem firstAt_congr {α : Type} {p q : α → Bool} {l : List α} (h : ∀ x ∈ l, p x = q x) : firstAt p l = firstAt q l := by
  have key : l.findIdx? p = l.findIdx? q := by
    induction l with
    | nil => rfl
    | cons x xs ih =>
      simp only [List.findIdx?_cons]
      rw [h x (List.mem_cons_self ..), ih (fun y hy => h y (List.mem_cons_of_mem _ hy))]
  unfold firstAt
  rw [key]
theorem mem_rd {l : List S153} {x : S153} (h : x ∈ l) : ∃ i : Int, 0 ≤ i ∧ i < l.length ∧ rd_T153 l i = x := by
  obtain ⟨j, hj, rfl⟩ := List.getElem_of_mem h
  refine ⟨j, by omega, by omega, ?_⟩
  unfold rd_T153
  rw [show ((j : Int)).toNat = j by omega, List.getD_eq_getElem?_getD, List.getElem?_eq_getElem hj]
  rfl
theorem pg_find (l : List S153) (hM : MOK l = true) (a : Int) (ha0 : -9223372036854775808 ≤ a) (ha : a ≤ 9223372036854775807) (d : Nat) : ∀ i : Int, 0 ≤ i → (l.length : Int) - i = d → (∀ j : Nat, (j : Int) < i → decide ((rd_T153 l j).f0 ≤ a ∧ a < (rd_T153 l j).f0 + 256) = false) →
    Ev (fun k => spec_l02Find.l0 k a i l) (pg l a) := by
  induction d with
  | zero =>
    intro i h0 h1 hno
    refine Ev.step (fun k => by simp only [spec_l02Find.l0]; exact rfl) (evNeg (by omega) (evEq (evR (-1)) ?_))
    exact (firstAt_miss (d := z153) (fun j hj => hno j (by omega))).symm
  | succ d ih =>
    intro i h0 h1 hno
    have hlt : i < (l.length : Int) := by omega
    have hP := MOK_at hM h0 hlt
    have hb := hP.1
    have hlen := MOK_len hM
    have hw : wrap64 (i + 1) = i + 1 := w64 (by omega) (by omega)
    refine Ev.step (fun k => by simp only [spec_l02Find.l0]; exact rfl) (evPos hlt (evPos h0 (evIte (fun c => ?_) (fun c => ?_))))
    · have hw2 : wrap64 (a - (rd_T153 l i).f0) = a - (rd_T153 l i).f0 := w64 (by omega) (by omega)
      rw [hw2]
      refine evIte (fun c2 => ?_) (fun c2 => ?_)
      · refine evEq (evR i) ?_
        have := firstAt_hit (p := fun p : S153 => decide (p.f0 ≤ a ∧ a < p.f0 + 256)) (l := l) (d := z153) (i := i.toNat) (by omega) (decide_eq_true ⟨c, by have : a - (rd_T153 l i).f0 < 256 := c2; show a < (rd_T153 l i).f0 + 256; omega⟩) (fun j hj => hno j (by omega))
        unfold pg
        rw [this]
        omega
      · rw [hw]
        refine ih (i + 1) (by omega) (by omega) (fun j hj => ?_)
        by_cases e : (j : Int) = i
        · rw [e]; exact decide_eq_false (by omega)
        · exact hno j (by omega)
    · rw [hw]
      refine ih (i + 1) (by omega) (by omega) (fun j hj => ?_)
      by_cases e : (j : Int) = i
      · rw [e]; exact decide_eq_false (by omega)
      · exact hno j (by omega)
theorem sfind_ev (l : List S153) (hM : MOK l = true) (a : Int) (ha0 : -9223372036854775808 ≤ a) (ha : a ≤ 9223372036854775807) : Ev (fun k => spec_l02Find.f k l a) (pg l a) :=
  pg_find l hM a ha0 ha l.length 0 (by omega) (by omega) (fun j hj => absurd hj (by omega))
theorem ipage (l : List S153) (hM : MOK l = true) (a : Int) (ha0 : -9223372036854775808 ≤ a) (ha : a ≤ 9223372036854775807) : impl_Memory_pageOf.f l a = some (pg l a) := by
  unfold impl_Memory_pageOf.f pg
  congr 1
  by_cases c : 0 ≤ a ∧ a ≤ 65535
  · rw [if_pos c]
    refine firstAt_congr (fun x hx => ?_)
    obtain ⟨i, hi0, hi1, rfl⟩ := mem_rd hx
    have hb := (MOK_at hM hi0 hi1).1
    rw [Int.tmod_eq_emod_of_nonneg c.1, w64 (by omega) (by omega), Bool.eq_iff_iff]
    simp only [beq_iff_eq, decide_eq_true_eq]
    omega
  · rw [if_neg c]
    refine (firstAt_miss (d := z153) (fun j hj => ?_)).symm
    have hb := (MOK_at hM (i := (j : Int)) (by omega) (by omega)).1
    have e : l.getD j z153 = rd_T153 l j := by unfold rd_T153; rw [show ((j : Int)).toNat = j by omega]
    rw [e]
    exact decide_eq_false (by omega)
theorem pg_ge (l : List S153) (a : Int) : -1 ≤ pg l a ∧ pg l a < l.length := firstAt_ge _ _

/-- The numbers of bytes. -/
def numsOf (s : ByteArray) : List Int := s.data.toList.map fun b => (b.toNat : Int)
theorem numsOf_len (s : ByteArray) : (numsOf s).length = s.size := by unfold numsOf; simp
theorem bt_get (s : ByteArray) (i : Nat) (h : i < s.size) : bt s i = (numsOf s).getD i 0 := by
  unfold bt numsOf
  rw [dif_pos (by omega), List.getD_eq_getElem?_getD, List.getElem?_map]
  have h2 : i < s.data.toList.length := by simpa using h
  rw [List.getElem?_eq_getElem h2]
  rfl
theorem strOf_nums (s : ByteArray) : strOfNums (numsOf s) = s := by
  obtain ⟨⟨l⟩⟩ := s
  unfold strOfNums numsOf
  have e : ∀ l : List UInt8, List.map (fun n : Int => UInt8.ofNat n.toNat) (List.map (fun b : UInt8 => (b.toNat : Int)) l) = l := by
    intro l
    induction l with
    | nil => rfl
    | cons x xs ih => rw [List.map_cons, List.map_cons, ih, Int.toNat_natCast, UInt8.ofNat_toNat]
  simp only []
  rw [e]
theorem take_snoc_getD (l : List Int) (i : Nat) (h : i < l.length) : l.take (i + 1) = l.take i ++ [l.getD i 0] := by
  rw [List.take_succ_eq_append_getElem h, List.getD_eq_getElem?_getD, List.getElem?_eq_getElem h]
  rfl

theorem pg_page {l : List S153} {a : Int} (hM : MOK l = true) (h : 0 ≤ pg l a) : pg l a < l.length ∧ (rd_T153 l (pg l a)).f0 ≤ a ∧ a < (rd_T153 l (pg l a)).f0 + 256 := by
  have hge := pg_ge l a
  have key : decide ((rd_T153 l (pg l a)).f0 ≤ a ∧ a < (rd_T153 l (pg l a)).f0 + 256) = true := by
    unfold pg firstAt at h ⊢
    cases hf : l.findIdx? (fun p => decide (p.f0 ≤ a ∧ a < p.f0 + 256)) with
    | none => rw [hf] at h; exact absurd h (by decide)
    | some i =>
      obtain ⟨hi, hp, _⟩ := List.findIdx?_eq_some_iff_getElem.1 hf
      have e : rd_T153 l (i : Int) = l[i] := by
        unfold rd_T153
        rw [show ((i : Int)).toNat = i by omega, List.getD_eq_getElem?_getD, List.getElem?_eq_getElem hi]
        rfl
      show decide ((rd_T153 l (i : Int)).f0 ≤ a ∧ a < (rd_T153 l (i : Int)).f0 + 256) = true
      rw [e]; exact hp
  have := of_decide_eq_true key
  exact ⟨hge.2, this.1, this.2⟩
theorem pg_same {l : List S153} (hM : MOK l = true) {a b : Int} (h : a / 256 = b / 256) : pg l a = pg l b := by
  unfold pg
  refine firstAt_congr (fun x hx => ?_)
  obtain ⟨i, hi0, hi1, rfl⟩ := mem_rd hx
  have hb := (MOK_at hM hi0 hi1).1
  rw [Bool.eq_iff_iff]
  simp only [decide_eq_true_eq]
  omega

/-- A byte of a number, the lowest one first. -/
def byteAt (v : Int) (j : Nat) : Int := v % 18446744073709551616 / 2 ^ (8 * j) % 256
def lit (v : Int) (n : Nat) : ByteArray := strOfNums ((List.range n).map (byteAt v))
theorem strOfNums_size (xs : List Int) : (strOfNums xs).size = xs.length := by unfold strOfNums; simp [ByteArray.size]
theorem lit_size (v : Int) (n : Nat) : (lit v n).size = n := by unfold lit; rw [strOfNums_size]; simp
theorem byteAt_range (v : Int) (j : Nat) : 0 ≤ byteAt v j ∧ byteAt v j < 256 := by unfold byteAt; omega
theorem sLittle_loop (v : Int) (n : Nat) (hn : n ≤ 8) (d : Nat) : ∀ i : Nat, i + d = n → Ev (fun k => spec_l01Little.l0 k v (n : Int) ((List.range i).map (byteAt v)) (i : Int)) (lit v n) := by
  induction d with
  | zero =>
    intro i hi
    have e : i = n := by omega
    subst e
    exact Ev.step (fun k => by simp only [spec_l01Little.l0]; exact rfl) (evNeg (by omega) (evR _))
  | succ d ih =>
    intro i hi
    have hw : IntKind.u64.wrap (wrap64 (8 * (i : Int))) = ((8 * i : Nat) : Int) := by rw [u64, w64 (by omega) (by omega)]; omega
    refine Ev.step (fun k => by simp only [spec_l01Little.l0]; exact rfl) (evPos (by omega) ?_)
    rw [hw]
    refine evPos (by omega) (evPos (by rw [List.length_map, List.length_range]; omega) ?_)
    have e : shr .u64 (IntKind.u64.wrap v) ((8 * i : Nat) : Int) % 256 = byteAt v i := by
      unfold shr byteAt
      simp only [IntKind.bits]
      rw [u64, Int.toNat_natCast, show min (8 * i) 64 = 8 * i by omega]
    rw [e, w64 (n := (i : Int) + 1) (by omega) (by omega), show (i : Int) + 1 = ((i + 1 : Nat) : Int) by omega]
    have := ih (i + 1) (by omega)
    rw [List.range_succ, List.map_append] at this
    exact this
theorem sLittle_ev (v : Int) (n : Nat) (hn : n ≤ 8) : Ev (fun k => spec_l01Little.f k v (n : Int)) (lit v n) := sLittle_loop v n hn n 0 (by omega)
theorem sLit2 (v : Int) : Ev (fun k => spec_l01Little.f k v 2) (lit v 2) := sLittle_ev v 2 (by omega)
theorem sLit4 (v : Int) : Ev (fun k => spec_l01Little.f k v 4) (lit v 4) := sLittle_ev v 4 (by omega)
theorem sLit8 (v : Int) : Ev (fun k => spec_l01Little.f k v 8) (lit v 8) := sLittle_ev v 8 (by omega)

theorem shr_byte (v : Int) (i : Nat) (hi : i < 8) : shr .i64 v ((8 * i : Nat) : Int) % 256 = byteAt v i := by
  unfold shr byteAt
  simp only [IntKind.bits]
  rw [Int.toNat_natCast, show min (8 * i) 64 = 8 * i by omega]
  have key : ∀ (P : Int), 0 < P → P * 256 ∣ 18446744073709551616 → v / P % 256 = v % 18446744073709551616 / P % 256 := by
    intro P hP hd
    obtain ⟨q, hq⟩ := hd
    have h1 := Int.emod_add_mul_ediv v 18446744073709551616
    have h2 : v / P = v % 18446744073709551616 / P + 256 * (q * (v / 18446744073709551616)) := by
      have e : v = v % 18446744073709551616 + P * (256 * (q * (v / 18446744073709551616))) := by
        rw [← Int.mul_assoc, ← Int.mul_assoc, ← hq]
        exact h1.symm
      conv => lhs; rw [e]
      rw [Int.add_mul_ediv_left _ _ (by omega)]
    rw [h2]
    omega
  refine key _ (Int.pow_pos (by decide)) ⟨2 ^ (8 * (7 - i)), ?_⟩
  rw [show (256 : Int) = 2 ^ 8 from rfl, ← Int.pow_add, ← Int.pow_add, show 8 * i + 8 + 8 * (7 - i) = 64 by omega]
  rfl
theorem iLittle_loop (v : Int) (n : Nat) (hn : n ≤ 8) (d : Nat) : ∀ (xs : List Int) (i : Nat), i + d = n → xs.length = n → xs.take i = (List.range i).map (byteAt v) → Ev (fun k => impl_little.l0 k v xs (n : Int) (i : Int)) (lit v n) := by
  induction d with
  | zero =>
    intro xs i hi hl ht
    have e : i = n := by omega
    subst e
    rw [List.take_of_length_le (by omega)] at ht
    exact Ev.step (fun k => by simp only [impl_little.l0]; exact rfl) (evNeg (by omega) (evEq (evR _) (by rw [ht]; rfl)))
  | succ d ih =>
    intro xs i hi hl ht
    have hw : wrap64 (8 * (i : Int)) = ((8 * i : Nat) : Int) := by rw [w64 (by omega) (by omega)]; omega
    refine Ev.step (fun k => by simp only [impl_little.l0]; exact rfl) (evPos (by omega) ?_)
    rw [hw]
    refine evPos (by omega) (evPos (by omega) (evPos (by omega) ?_))
    rw [shr_byte v i (by omega), w64 (n := (i : Int) + 1) (by omega) (by omega), show (i : Int) + 1 = ((i + 1 : Nat) : Int) by omega, Int.toNat_natCast]
    refine ih _ (i + 1) (by omega) (by rw [List.length_set]; exact hl) ?_
    rw [List.take_succ_eq_append_getElem (by rw [List.length_set]; omega), List.take_set_of_le (Nat.le_refl i), ht, List.range_succ, List.map_append]
    simp
theorem iLittle_ev (v : Int) (n : Nat) (hn : n ≤ 8) : Ev (fun k => impl_little.f k v (n : Int)) (lit v n) := by
  have key : ∀ xs : List Int, xs.length = n → Ev (fun k => impl_little.l0 k v xs (xs.length : Int) 0) (lit v n) := by
    intro xs h
    have := iLittle_loop v n hn n xs 0 (by omega) h (by rw [List.take_zero]; rfl)
    rw [h]
    exact this
  refine evPos (by omega) ?_
  rw [Int.toNat_natCast]
  exact evPos (by omega) (evB rfl (key _ List.length_replicate))
theorem iLit2 (v : Int) : Ev (fun k => impl_little.f k v 2) (lit v 2) := iLittle_ev v 2 (by omega)
theorem iLit4 (v : Int) : Ev (fun k => impl_little.f k v 4) (lit v 4) := iLittle_ev v 4 (by omega)
theorem iLit8 (v : Int) : Ev (fun k => impl_little.f k v 8) (lit v 8) := iLittle_ev v 8 (by omega)

theorem firstAt_map {α β : Type} (f : α → β) (p : β → Bool) (l : List α) : firstAt p (l.map f) = firstAt (fun x => p (f x)) l := by
  have : (l.map f).findIdx? p = l.findIdx? (fun x => p (f x)) := by
    induction l with
    | nil => rfl
    | cons x xs ih => simp only [List.map_cons, List.findIdx?_cons, ih]
  unfold firstAt
  rw [this]
theorem rd_set_ne (l : List S153) (v : S153) (i : Nat) (j : Int) (h : j.toNat ≠ i) : rd_T153 (l.set i v) j = rd_T153 l j := by
  unfold rd_T153
  rw [List.getD_eq_getElem?_getD, List.getD_eq_getElem?_getD, List.getElem?_set_ne (by omega)]
theorem MOK_iff (l : List S153) : MOK l = true ↔ l.length ≤ 32 ∧ ∀ i : Int, 0 ≤ i → i < l.length → PgOK l i := by
  refine ⟨fun h => ⟨MOK_len h, fun i h0 h1 => MOK_at h h0 h1⟩, fun h => ?_⟩
  unfold MOK AllOK
  rw [Bool.and_eq_true, List.all_eq_true]
  refine ⟨decide_eq_true h.1, fun j hj => decide_eq_true ?_⟩
  have := List.mem_range.1 hj
  exact h.2 _ (by omega) (by omega)
theorem set_ok {o : List S153} (hM : MOK o = true) {i : Int} (h0 : 0 ≤ i) (h1 : i < o.length) (s : ByteArray) (hs : s.size = 256) :
    MOK (o.set i.toNat ⟨(rd_T153 o i).f0, (rd_T153 o i).f1, s⟩) = true ∧ ∀ a, pg (o.set i.toNat ⟨(rd_T153 o i).f0, (rd_T153 o i).f1, s⟩) a = pg o a := by
  have key : ∀ j : Int, 0 ≤ j → (rd_T153 (o.set i.toNat ⟨(rd_T153 o i).f0, (rd_T153 o i).f1, s⟩) j).f0 = (rd_T153 o j).f0 ∧ (rd_T153 (o.set i.toNat ⟨(rd_T153 o i).f0, (rd_T153 o i).f1, s⟩) j).f1 = (rd_T153 o j).f1 ∧ ((rd_T153 o j).f2.size = 256 → (rd_T153 (o.set i.toNat ⟨(rd_T153 o i).f0, (rd_T153 o i).f1, s⟩) j).f2.size = 256) := by
    intro j hj
    by_cases e : j = i
    · subst e
      have := rd_set o ⟨(rd_T153 o j).f0, (rd_T153 o j).f1, s⟩ j.toNat (by omega)
      rw [show ((j.toNat : Nat) : Int) = j by omega] at this
      rw [this]
      exact ⟨rfl, rfl, fun _ => hs⟩
    · rw [rd_set_ne _ _ _ _ (by omega)]
      exact ⟨rfl, rfl, fun h => h⟩
  obtain ⟨hl, hp⟩ := (MOK_iff o).1 hM
  constructor
  · rw [MOK_iff]
    refine ⟨by rw [List.length_set]; exact hl, fun j j0 j1 => ?_⟩
    rw [List.length_set] at j1
    have := hp j j0 j1
    obtain ⟨k0, k1, k2⟩ := key j j0
    unfold PgOK at this ⊢
    rw [k0, k1]
    refine ⟨this.1, this.2.1, k2 this.2.2.1, fun hj => ?_⟩
    rw [(key (j - 1) (by omega)).1]
    exact this.2.2.2 hj
  · intro a
    have em : ∀ l : List S153, pg l a = firstAt (fun b : Int => decide (b ≤ a ∧ a < b + 256)) (l.map (·.f0)) := fun l => by rw [firstAt_map]; rfl
    rw [em, em, List.map_set]
    congr 1
    have e : (rd_T153 o i).f0 = (o.map (·.f0))[i.toNat]'(by rw [List.length_map]; omega) := by
      unfold rd_T153
      rw [List.getD_eq_getElem?_getD, List.getElem?_eq_getElem (by omega : i.toNat < o.length)]
      simp
    show (o.map (·.f0)).set i.toNat (rd_T153 o i).f0 = _
    rw [e, List.set_getElem_self]
theorem put_loop (L : List S153) (hL : MOK L = true) (m : Nat) : ∀ (o : List S153) (x : Int) (t : ByteArray), t.size = m → m ≤ 65536 → MOK o = true → o.length = L.length → (∀ a, pg o a = pg L a) → 0 ≤ x → x + m ≤ 65536 → (∀ j : Nat, j < m → 0 ≤ pg L (x + j)) →
    ∃ R, Ev (fun k => spec_l02Put.l0 k x t o) R ∧ Ev (fun k => impl_Memory_lay.l0 L k x t o) R ∧ R.length = L.length := by
  induction m using Nat.strongRecOn with
  | _ m ih =>
    intro o x t ht hm hM hl hpg hx0 hx1 hall
    by_cases c : (t.size : Int) > 0
    · have hj := hall 0 (by omega)
      rw [show x + ((0 : Nat) : Int) = x by omega] at hj
      have hge := pg_ge L x
      have hpo := hpg x
      obtain ⟨q1, q2, q3⟩ := pg_page hM (a := x) (by omega)
      have hP := MOK_at hM (i := pg o x) (by omega) q1
      obtain ⟨⟨b0, b1, b2⟩, _, dz, _⟩ := hP
      have hbase : (rd_T153 o (pg o x)).f0 = x - ((x.toNat % 256 : Nat) : Int) := by omega
      have hcond : (0 ≤ pg o x ∧ pg o x < (o.length : Int)) ∧ (0 ≤ x ∧ x ≤ 65535) ∧ ((rd_T153 o (pg o x)).f2).size = 256 ∧ t.size ≤ 65536 := ⟨⟨by omega, q1⟩, ⟨hx0, by omega⟩, dz, by omega⟩
      have hcond2 : (0 ≤ pg o x ∧ pg o x < (o.length : Int)) ∧ (0 ≤ x ∧ x ≤ 65535) ∧ ((rd_T153 o (pg o x)).f0 = x - ((x.toNat % 256 : Nat) : Int)) ∧ ((rd_T153 o (pg o x)).f2).size = 256 ∧ t.size ≤ 65536 := ⟨hcond.1, hcond.2.1, hbase, hcond.2.2⟩
      obtain ⟨a, ha⟩ : ∃ a : Nat, x.toNat % 256 = a := ⟨_, rfl⟩
      obtain ⟨n, hn⟩ : ∃ n : Nat, min t.size (256 - a) = n := ⟨_, rfl⟩
      generalize hs : (((rd_T153 o (pg o x)).f2).extract 0 a ++ t.extract 0 n) ++ ((rd_T153 o (pg o x)).f2).extract (a + n) 256 = s
      have hsz : s.size = 256 := by
        rw [← hs]
        simp only [ByteArray.size_append, ByteArray.size_extract]
        omega
      obtain ⟨hM', hpg'⟩ := set_ok hM (i := pg o x) (by omega) q1 s hsz
      obtain ⟨R, h1, h2, h3⟩ := ih (m - n) (by omega) (o.set (pg o x).toNat ⟨(rd_T153 o (pg o x)).f0, (rd_T153 o (pg o x)).f1, s⟩) (x + (n : Int)) (t.extract n t.size)
        (by simp only [ByteArray.size_extract]; omega) (by omega) hM' (by rw [List.length_set]; exact hl) (fun z => by rw [hpg', hpg]) (by omega) (by omega) (fun j hj => by
          have := hall (n + j) (by omega)
          rw [show x + ((n + j : Nat) : Int) = x + (n : Int) + (j : Int) by omega] at this
          exact this)
      refine ⟨R, ?_, ?_, h3⟩
      · refine Ev.step (fun k => by simp only [spec_l02Put.l0]; exact rfl) (evPos c (Ev.bind (sfind_ev o hM x (by omega) (by omega)) (evPos hcond2 ?_)))
        rw [ha, hn, hs]
        exact h1
      · refine Ev.step (fun k => by simp only [impl_Memory_lay.l0]; exact rfl) (evPos c (evB (ipage L hL x (by omega) (by omega)) ?_))
        rw [← hpo]
        refine evPos hcond ?_
        rw [ha, hn, hs]
        exact h2
    · exact ⟨o, Ev.step (fun k => by simp only [spec_l02Put.l0]; exact rfl) (evNeg c (evR _)), Ev.step (fun k => by simp only [impl_Memory_lay.l0]; exact rfl) (evNeg c (evR _)), hl⟩
theorem sown (l : List S153) (h : l.length ≤ 1048576) : spec_l02Own.f l = some l := by
  unfold spec_l02Own.f
  simp only [Option.bind_some, List.length_nil, List.nil_append]
  rw [if_pos (by omega)]
theorem icopy (l : List S153) (h : l.length ≤ 1048576) : impl_copyMemory.f l = some l := by
  show ((if l.length ≤ 1073741824 then some l else none : Option (List S153)).bind fun t => some t) = some l
  rw [if_pos (by omega)]
  rfl
theorem pg_out {l : List S153} (hM : MOK l = true) {a : Int} (h : a < 0 ∨ 65535 < a) : pg l a = -1 := by
  unfold pg
  refine firstAt_miss (d := z153) (fun j hj => ?_)
  have hb := (MOK_at hM (i := (j : Int)) (by omega) (by omega)).1
  have e : l.getD j z153 = rd_T153 l j := by unfold rd_T153; rw [show ((j : Int)).toNat = j by omega]
  rw [e]
  exact decide_eq_false (by omega)

theorem fault_loop (l : List S153) (hM : MOK l = true) (x n : Int) (hx0 : -9223372036854775808 ≤ x) (hx1 : x ≤ 9223372036854775807) (hn0 : 1 ≤ n) (hn : n ≤ 8) (d : Nat) : ∀ i : Int, 0 ≤ i → i + d = n → ∃ c, Ev (fun k => spec_l02Fault.l0 k x n 2 i l) c ∧ Ev (fun k => impl_Memory_fault.l0 k x 2 n i l) c ∧ (c = 0 → ∀ j : Int, i ≤ j → j < n → 0 ≤ pg l (x + j)) := by
  induction d with
  | zero =>
    intro i h0 h1
    exact ⟨0, Ev.step (fun k => by simp only [spec_l02Fault.l0]; exact rfl) (evNeg (by omega) (evR _)), Ev.step (fun k => by simp only [impl_Memory_fault.l0]; exact rfl) (evNeg (by omega) (evR _)), fun _ j h2 h3 => by omega⟩
  | succ d ih =>
    intro i h0 h1
    have hwn : wrap64 (-n) = -n := w64 (by omega) (by omega)
    have hwi : wrap64 (i + 1) = i + 1 := w64 (by omega) (by omega)
    have hge := pg_ge l (wrap64 (x + i))
    have hwr : -9223372036854775808 ≤ wrap64 (x + i) ∧ wrap64 (x + i) ≤ 9223372036854775807 := by unfold wrap64; omega
    have ip := ipage l hM (wrap64 (x + i)) hwr.1 hwr.2
    cases hI : IN x (-n) 65535 with
    | false =>
      have h := IN_false.1 hI
      have ho : pg l (wrap64 (x + i)) = -1 := pg_out hM (by unfold wrap64; omega)
      refine ⟨13, ?_, ?_, fun h => by omega⟩
      · refine Ev.step (fun k => by simp only [spec_l02Fault.l0]; exact rfl) (evPos (by omega) ?_)
        rw [hwn]
        exact evB (sin x (-n) 65535) (evNeg (by rw [hI]; decide) (evR _))
      · exact Ev.step (fun k => by simp only [impl_Memory_fault.l0]; exact rfl) (evPos (by omega) (evB ip (evPos (show pg l (wrap64 (x + i)) < 0 by omega) (evR _))))
    | true =>
      have h := IN_true.1 hI
      have hw : wrap64 (x + i) = x + i := w64 (by omega) (by omega)
      rw [hw] at hge ip hwr
      have sp := sfind_ev l hM (x + i) hwr.1 hwr.2
      by_cases c : pg l (x + i) < 0
      · refine ⟨13, ?_, ?_, fun h => by omega⟩
        · refine Ev.step (fun k => by simp only [spec_l02Fault.l0]; exact rfl) (evPos (by omega) ?_)
          rw [hwn, hw]
          exact evB (sin x (-n) 65535) (evPos hI (Ev.bind sp (evPos c (evR _))))
        · refine Ev.step (fun k => by simp only [impl_Memory_fault.l0]; exact rfl) (evPos (by omega) ?_)
          rw [hw]
          exact evB ip (evPos c (evR _))
      · by_cases c2 : (Go.bits .and .i64 ((rd_T153 l (pg l (x + i))).f1) 2) = 0
        · refine ⟨14, ?_, ?_, fun h => by omega⟩
          · refine Ev.step (fun k => by simp only [spec_l02Fault.l0]; exact rfl) (evPos (by omega) ?_)
            rw [hwn, hw]
            exact evB (sin x (-n) 65535) (evPos hI (Ev.bind sp (evNeg c (evPos (by omega) (evPos hge.2 (evPos c2 (evR _)))))))
          · refine Ev.step (fun k => by simp only [impl_Memory_fault.l0]; exact rfl) (evPos (by omega) ?_)
            rw [hw]
            exact evB ip (evNeg c (evNeg (by omega) (evPos (by omega) (evPos hge.2 (evPos c2 (evR _))))))
        · obtain ⟨r, e1, e2, e3⟩ := ih (i + 1) (by omega) (by omega)
          refine ⟨r, ?_, ?_, fun hr j j0 j1 => ?_⟩
          · refine Ev.step (fun k => by simp only [spec_l02Fault.l0]; exact rfl) (evPos (by omega) ?_)
            rw [hwn, hw, hwi]
            exact evB (sin x (-n) 65535) (evPos hI (Ev.bind sp (evNeg c (evPos (by omega) (evPos hge.2 (evNeg c2 e1))))))
          · refine Ev.step (fun k => by simp only [impl_Memory_fault.l0]; exact rfl) (evPos (by omega) ?_)
            rw [hw, hwi]
            exact evB ip (evNeg c (evNeg (by omega) (evPos (by omega) (evPos hge.2 (evNeg c2 e2)))))
          · by_cases e : j = i
            · rw [e]; omega
            · exact e3 hr j (by omega) j1
theorem isz (n : Int) : impl_isSize.f n = some (decide (n = 1 ∨ n = 2 ∨ n = 4 ∨ n = 8)) := by
  unfold impl_isSize.f
  by_cases c1 : n = 1
  · rw [if_pos c1, decide_eq_true (by omega)]
  by_cases c2 : n = 2
  · rw [if_neg c1, if_pos c2, decide_eq_true (by omega)]
  by_cases c3 : n = 4
  · rw [if_neg c1, if_neg c2, if_pos c3, decide_eq_true (by omega)]
  · rw [if_neg c1, if_neg c2, if_neg c3]
    congr 1
    rw [Bool.eq_iff_iff, beq_iff_eq, decide_eq_true_eq]
    omega
theorem ssz (n : Int) : spec_l01Size.f n = some (decide (n = 1 ∨ n = 2 ∨ n = 4 ∨ n = 8)) := isz n
theorem store_same (l : List S153) (hl : l.length ≤ 1048576) (x n v : Int) (hx0 : -9223372036854775808 ≤ x) (hx1 : x ≤ 9223372036854775807) : ∃ R c, Ev (fun k => spec_StoreAt.f k l x n v) (R, c) ∧ Ev (fun k => impl_StoreAt.f k l x n v) (R, c) ∧ R.length ≤ 1048576 := by
  have hs := sMemOK_ev l hl
  have hi := iMemOK_ev l hl
  cases hM : MOK l with
  | false =>
    rw [hM] at hs hi
    exact ⟨[], 1, Ev.bind hs (evNeg (by decide) (evR _)), Ev.bind hi (evNeg (by decide) (evR _)), by simp⟩
  | true =>
    rw [hM] at hs hi
    by_cases c : n = 1 ∨ n = 2 ∨ n = 4 ∨ n = 8
    · obtain ⟨r, f1, f2, f3⟩ := fault_loop l hM x n hx0 hx1 (by omega) (by omega) n.toNat 0 (by omega) (by omega)
      have sf : Ev (fun k => spec_l02Fault.f k l x n 2) r := f1
      have if_ : Ev (fun k => impl_Memory_fault.f k l x n 2) r := f2
      by_cases c0 : r = 0
      · have hall := f3 c0
        have hlo : 0 ≤ x := by
          have h := hall 0 (by omega) (by omega)
          rcases Int.lt_or_le x 0 with hneg | hpos
          · rw [show x + 0 = x by omega, pg_out hM (.inl hneg)] at h; omega
          · exact hpos
        have hhi : x + n ≤ 65536 := by
          have h := hall (n - 1) (by omega) (by omega)
          rcases Int.lt_or_le 65535 (x + (n - 1)) with hb | hb
          · rw [pg_out hM (.inr hb)] at h; omega
          · omega
        have hlit := lit_size v n.toNat
        obtain ⟨R, p1, p2, p3⟩ := put_loop l hM n.toNat l x (lit v n.toNat) hlit (by omega) hM rfl (fun _ => rfl) hlo (by omega) (fun j hj => hall j (by omega) (by omega))
        have hnn : ((n.toNat : Nat) : Int) = n := by omega
        have sl := sLittle_ev v n.toNat (by omega)
        have il := iLittle_ev v n.toNat (by omega)
        rw [hnn] at sl il
        have e1 : Ev (fun k => spec_l02Store.f k l x n v) (R, 0) := Ev.bind sf (evPos c0 (Ev.bind sl (Ev.bind (a := R) (evB (sown l hl) p1) (evR _))))
        have e2 : Ev (fun k => impl_Memory_store.f k l x n v) (R, 0) := Ev.bind if_ (evPos c0 (Ev.bind il (Ev.bind (a := R) (evB (icopy l hl) p2) (evR _))))
        refine ⟨R, 0, ?_, ?_, by omega⟩
        · exact Ev.bind hs (evPos rfl (evB (ssz n) (evPos (decide_eq_true c) (Ev.bind e1 (evB (sown R (by omega)) (evR _))))))
        · exact Ev.bind hi (evPos rfl (evB (isz n) (evPos (decide_eq_true c) (Ev.bind e2 (evR _)))))
      · have e1 : Ev (fun k => spec_l02Store.f k l x n v) (l, r) := Ev.bind sf (evNeg c0 (evR _))
        have e2 : Ev (fun k => impl_Memory_store.f k l x n v) (l, r) := Ev.bind if_ (evNeg c0 (evB (icopy l hl) (evR _)))
        refine ⟨l, r, ?_, ?_, hl⟩
        · exact Ev.bind hs (evPos rfl (evB (ssz n) (evPos (decide_eq_true c) (Ev.bind e1 (evB (sown l hl) (evR _))))))
        · exact Ev.bind hi (evPos rfl (evB (isz n) (evPos (decide_eq_true c) (Ev.bind e2 (evR _)))))
    · refine ⟨[], 4, ?_, ?_, by simp⟩
      · exact Ev.bind hs (evPos rfl (evB (ssz n) (evNeg (by rw [decide_eq_false c]; decide) (evR _))))
      · exact Ev.bind hi (evPos rfl (evB (isz n) (evNeg (by rw [decide_eq_false c]; decide) (evR _))))
theorem FnExactStoreAt : laws_FnExactStoreAt.Pure := by
  intro x a1 a2 a3 ok w1 w2 w3
  refine Ev.rounds (g := fun k => laws_FnExactStoreAt.f k x.f0 a1 a2 a3) ?_
  obtain ⟨r, hr, hlen⟩ := szMem_ev x.f0 ok.1 (fun y hy => (ok.2 y hy).2.2)
  refine Ev.bind hr (evIte (fun c => evR _) (fun c => ?_))
  have hl := hlen (by omega)
  have hx := wf64 w1
  have tm := toMem_ev x.f0 hl
  have hL : (x.f0.map cvP).length ≤ 1048576 := by rw [List.length_map]; exact hl
  obtain ⟨R, c, h1, h2, hR⟩ := store_same (x.f0.map cvP) hL a1 a2 a3 hx.1 hx.2
  have mL := mark_ev (x.f0.map cvP) _ rfl hL
  have mR := mark_ev R _ rfl hR
  have hdR := held_ev R.length hR
  refine Ev.bind tm (Ev.bind h1 (Ev.bind tm (Ev.bind h2 (Ev.bind (eqMem_ev R hR) (evPos rfl ?_)))))
  refine Ev.step (fun k => by simp only [laws_FnExactStoreAt.j0]; exact rfl) (evNeg (by simp) (Ev.bind tm (Ev.bind (eqMem_ev _ hL) (evPos rfl (Ev.bind mL (evNeg (show ¬ (1 + 3 * ((x.f0.map cvP).length : Int)) < 0 by omega) (Ev.bind (eqMem_ev R hR) (evPos rfl ?_))))))))
  refine Ev.step (fun k => by simp only [laws_FnExactStoreAt.j1]; exact rfl) (evNeg (by simp) (Ev.bind mR (Ev.bind hdR (evNeg (show ¬ (1 + 3 * (R.length : Int)) < 0 by omega) (evPos rfl (Ev.bind tm (Ev.bind h2 (Ev.bind (eqMem_ev R hR) (evPos rfl ?_)))))))))
  exact Ev.step (fun k => by simp only [laws_FnExactStoreAt.j2]; exact rfl) (evNeg (by simp) (Ev.bind hdR (evNeg (show ¬ (1 + 3 * (R.length : Int)) < 0 by omega) (evPos rfl (evR _)))))

end Go.Proofs.Ytigoabhkdipdeaa.Pure

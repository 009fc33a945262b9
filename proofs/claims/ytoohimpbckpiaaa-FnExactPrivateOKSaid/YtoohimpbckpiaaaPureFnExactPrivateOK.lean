/- The program's PrivateOK tells what the reference's tells, for every memory. No condition. -/
import Derived.Test.YtoohimpbckpiaaaPFnExactPrivateOKx0
import Derived.Test.YtoohimpbckpiaaaPFnExactPrivateOKx1
import Derived.Test.YtoohimpbckpiaaaPFnExactPrivateOKx2
import Derived.Test.YtoohimpbckpiaaaPFnExactPrivateOKx3
import Derived.Test.YtoohimpbckpiaaaPFnExactPrivateOKx4
import Derived.Test.YtoohimpbckpiaaaPFnExactPrivateOKx5
import Derived.Test.YtoohimpbckpiaaaPFnExactPrivateOKx6
import Derived.Test.YtoohimpbckpiaaaPFnExactPrivateOKx7
import Derived.Test.YtoohimpbckpiaaaPFnExactPrivateOKx8
import Derived.Test.YtoohimpbckpiaaaNNum
namespace Go.Proofs.Ytoohimpbckpiaaa.Pure
open Go.RowKit Go.Proofs.Ytoohimpbckpiaaa.PFnExactPrivateOK Go.Proofs.YtoohimpbckpiaaaW.PrintWords Go.Proofs.YtoohimpbckpiaaaW.PrintLast Go.Proofs.YtoohimpbckpiaaaW.PrintMore Go.Proofs.Ytoohimpbckpiaaa.Num
set_option linter.unusedSimpArgs false
set_option linter.unusedVariables false

theorem evPos {α : Type} {c : Prop} [Decidable c] {g f : Nat → Option α} {r : α} (h : c) (k : Ev g r) : Ev (fun n => if c then g n else f n) r := Ev.congr (fun _ => if_pos h) k
theorem evNeg {α : Type} {c : Prop} [Decidable c] {g f : Nat → Option α} {r : α} (h : ¬ c) (k : Ev f r) : Ev (fun n => if c then g n else f n) r := Ev.congr (fun _ => if_neg h) k
theorem evIte {α : Type} {c : Prop} [Decidable c] {g f : Nat → Option α} {r : α} (h : c → Ev g r) (k : ¬ c → Ev f r) : Ev (fun n => if c then g n else f n) r := by
  by_cases hc : c
  · exact evPos hc (h hc)
  · exact evNeg hc (k hc)
/-- A call that needs no rounds. -/
theorem evB {α β : Type} {o : Option α} {f : Nat → α → Option β} {a : α} {r : β} (h : o = some a) (k : Ev (fun n => f n a) r) : Ev (fun n => o.bind (f n)) r := Ev.congr (fun _ => by rw [h]; rfl) k
theorem evR {α : Type} (r : α) : Ev (fun _ => some r) r := Ev.now r
theorem evEq {α : Type} {g : Nat → Option α} {r r' : α} (h : Ev g r) (e : r = r') : Ev g r' := e ▸ h

def IN (a b c : Int) : Bool := decide (b ≤ a) && decide (a ≤ c)
theorem sin (a b c : Int) : spec_l01In.f a b c = some (IN a b c) := by
  unfold spec_l01In.f IN
  by_cases h : a ≥ b
  · rw [if_pos h]; simp [show b ≤ a from h]
  · rw [if_neg h]; simp [show ¬ b ≤ a from h]
theorem iin (a b c : Int) : impl_within.f a b c = some (IN a b c) := sin a b c
theorem IN_true {a b c : Int} : IN a b c = true ↔ b ≤ a ∧ a ≤ c := by unfold IN; simp
theorem IN_false {a b c : Int} : IN a b c = false ↔ ¬ (b ≤ a ∧ a ≤ c) := by unfold IN; simp

theorem rd_mem {l : List S95} {i : Int} (h0 : 0 ≤ i) (h1 : i < l.length) : rd_T95 l i ∈ l := by
  unfold rd_T95
  rw [List.getD_eq_getElem?_getD, List.getElem?_eq_getElem (by omega : i.toNat < l.length)]
  exact List.getElem_mem _
theorem rdL_mem {l : List S94} {i : Int} (h0 : 0 ≤ i) (h1 : i < l.length) : rd_T94 l i ∈ l := by
  unfold rd_T94
  rw [List.getD_eq_getElem?_getD, List.getElem?_eq_getElem (by omega : i.toNat < l.length)]
  exact List.getElem_mem _
/-- How much a memory holds is told: where it is too much the law asks nothing. -/
theorem szPage_ev (l : List S94) (hl : l.length ≤ 9223372036854775807) (hs : ∀ x ∈ l, x.f2.size ≤ 9223372036854775807) (d : Nat) : ∀ (left i : Int), 0 ≤ left → left ≤ 1048576 → 0 ≤ i → (l.length : Int) - i = d → ∃ r, Ev (fun k => laws_szPageS.l0 k l left i) r := by
  induction d with
  | zero =>
    intro left i h0 h1 h2 h3
    exact ⟨left, Ev.step (fun k => by simp only [laws_szPageS.l0]; exact rfl) (evNeg (by omega) (evR _))⟩
  | succ d ih =>
    intro left i h0 h1 h2 h3
    have hlt : i < (l.length : Int) := by omega
    have hz := hs _ (rdL_mem h2 hlt)
    have hw : wrap64 (i + 1) = i + 1 := w64 (by omega) (by omega)
    generalize hsz : ((rd_T94 l i).f2.size : Int) = z
    have hz0 : 0 ≤ z ∧ z ≤ 9223372036854775807 := by omega
    have hw2 : wrap64 (left - z) = left - z := w64 (by omega) (by omega)
    by_cases c : left - z < 0
    · refine ⟨-1, Ev.step (fun k => by simp only [laws_szPageS.l0]; exact rfl) (evPos hlt (evPos h2 ?_))⟩
      refine evB (a := -1) (by unfold laws_szPage.f; rw [hsz, hw2, if_pos c]) (evPos (by omega) (evR _))
    · obtain ⟨r, hr⟩ := ih (left - z) (i + 1) (by omega) (by omega) (by omega) (by omega)
      refine ⟨r, Ev.step (fun k => by simp only [laws_szPageS.l0]; exact rfl) (evPos hlt (evPos h2 ?_))⟩
      refine evB (a := left - z) (by unfold laws_szPage.f; rw [hsz, hw2, if_neg c]) (evNeg c ?_)
      rw [hw]; exact hr
theorem szMem_ev (l : List S94) (hl : l.length ≤ 9223372036854775807) (hs : ∀ x ∈ l, x.f2.size ≤ 9223372036854775807) : ∃ r, Ev (fun k => laws_szMemory.f k l 1048576) r ∧ (0 ≤ r → l.length ≤ 1048576) := by
  have hw : wrap64 (1048576 - (l.length : Int)) = 1048576 - (l.length : Int) := w64 (by omega) (by omega)
  by_cases c : (1048576 - (l.length : Int)) < 0
  · refine ⟨-1, ?_, fun h => by omega⟩
    exact Ev.bind (a := -1) (evPos (by rw [hw]; exact c) (evR _)) (evPos (by omega) (evR _))
  · obtain ⟨r, hr⟩ := szPage_ev l hl hs l.length (1048576 - (l.length : Int)) 0 (by omega) (by omega) (by omega) (by omega)
    by_cases c2 : r < 0
    · refine ⟨-1, ?_, fun h => by omega⟩
      exact Ev.bind (a := r) (evNeg (by rw [hw]; exact c) (by rw [hw]; exact hr)) (evPos c2 (evR _))
    · refine ⟨r, ?_, fun h => by omega⟩
      exact Ev.bind (a := r) (evNeg (by rw [hw]; exact c) (by rw [hw]; exact hr)) (evNeg c2 (evR _))
/-- The memory that a mirror tells. -/
def cvP (x : S94) : S95 := ⟨x.f0, x.f1, x.f2⟩
theorem toPage_ev (l : List S94) (hl : l.length ≤ 1048576) (d : Nat) : ∀ (xs : List S95) (i : Nat), xs.length = l.length → xs.take i = (l.take i).map cvP → l.length - i = d → i ≤ l.length → Ev (fun k => laws_toPageS.l0 k l xs (i : Int)) (l.map cvP) := by
  induction d with
  | zero =>
    intro xs i hx ht hd hi
    have e : xs = l.map cvP := by
      rw [List.take_of_length_le (by omega), List.take_of_length_le (by omega)] at ht
      exact ht
    exact Ev.step (fun k => by simp only [laws_toPageS.l0]; exact rfl) (evNeg (by omega) (evEq (evR xs) e))
  | succ d ih =>
    intro xs i hx ht hd hi
    have hlt : i < l.length := by omega
    refine Ev.step (fun k => by simp only [laws_toPageS.l0]; exact rfl) (evPos (by omega) (evPos (by omega) ?_))
    refine evB rfl (evPos (by omega) ?_)
    rw [w64 (n := (i : Int) + 1) (by omega) (by omega), show (i : Int) + 1 = ((i + 1 : Nat) : Int) by omega, show (i : Int).toNat = i by omega]
    refine ih _ (i + 1) (by rw [List.length_set]; exact hx) ?_ (by omega) (by omega)
    rw [List.take_succ_eq_append_getElem (by rw [List.length_set]; omega), List.take_succ_eq_append_getElem hlt, List.map_append, List.take_set_of_le (Nat.le_refl i), ht]
    congr 1
    simp only [List.getElem_set_self, List.map_cons, List.map_nil]
    congr 1
    unfold rd_T94 cvP
    rw [show ((i : Int)).toNat = i by omega, List.getD_eq_getElem?_getD, List.getElem?_eq_getElem hlt]
    rfl
theorem toMem_ev (l : List S94) (hl : l.length ≤ 1048576) : Ev (fun k => laws_toMemory.f k l) (l.map cvP) := by
  refine Ev.bind (a := l.map cvP) ?_ (evR _)
  refine evPos (by omega) (evPos (by omega) ?_)
  exact toPage_ev l hl l.length _ 0 (by simp) (by simp) (by omega) (by omega)

/-- What is asked of page i. -/
def PgOK (l : List S95) (i : Int) : Prop :=
  (0 ≤ (rd_T95 l i).f0 ∧ (rd_T95 l i).f0 ≤ 65535 ∧ (rd_T95 l i).f0 % 256 = 0) ∧ (0 ≤ (rd_T95 l i).f1 ∧ (rd_T95 l i).f1 ≤ 7) ∧ (rd_T95 l i).f2.size = 256 ∧ (i > 0 → (rd_T95 l (i - 1)).f0 < (rd_T95 l i).f0)
instance (l : List S95) (i : Int) : Decidable (PgOK l i) := by unfold PgOK; infer_instance
/-- All pages from i on are right. -/
def AllOK (l : List S95) (i : Int) (d : Nat) : Bool := (List.range d).all fun j => decide (PgOK l (i + j))
theorem AllOK_succ (l : List S95) (i : Int) (d : Nat) : AllOK l i (d + 1) = (decide (PgOK l i) && AllOK l (i + 1) d) := by
  unfold AllOK
  rw [List.range_succ_eq_map]
  simp only [List.all_cons, List.all_map]
  congr 1
  · rw [show i + ((0 : Nat) : Int) = i by omega]
  · congr 1
    funext j
    show decide (PgOK l (i + ((j + 1 : Nat) : Int))) = _
    rw [show i + ((j + 1 : Nat) : Int) = i + 1 + j by omega]
def MOK (l : List S95) : Bool := decide (l.length ≤ 32) && AllOK l 0 l.length
theorem sbase (b : Int) : spec_l02Base.f b = some (decide (0 ≤ b ∧ b ≤ 65535 ∧ b % 256 = 0)) := by
  unfold spec_l02Base.f
  rw [sin]
  cases h : IN b 0 65535 with
  | true =>
    have h1 := IN_true.1 h
    simp only [Option.bind_some, if_true]
    rw [Int.tmod_eq_emod_of_nonneg h1.1]
    congr 1
    rw [Bool.eq_iff_iff]; simp [h1.1, h1.2]
  | false =>
    have h1 := IN_false.1 h
    simp only [Option.bind_some]
    rw [if_neg (by decide), decide_eq_false (by omega)]
theorem ibase (b : Int) : impl_isBase.f b = some (decide (0 ≤ b ∧ b ≤ 65535 ∧ b % 256 = 0)) := sbase b
theorem sperm (b : Int) : spec_l02Perm.f b = some (IN b 0 7) := by unfold spec_l02Perm.f; rw [sin]; rfl
theorem iperm (b : Int) : impl_isPerm.f b = some (IN b 0 7) := by unfold impl_isPerm.f; rw [iin]; rfl
theorem sMemOK_loop (l : List S95) (hl : l.length ≤ 1048576) (d : Nat) : ∀ i : Int, 0 ≤ i → (l.length : Int) - i = d → Ev (fun k => spec_MemoryOK.l0 k i l) (AllOK l i d) := by
  induction d with
  | zero =>
    intro i h0 h1
    exact Ev.step (fun k => by simp only [spec_MemoryOK.l0]; exact rfl) (evNeg (by omega) (evR _))
  | succ d ih =>
    intro i h0 h1
    have hlt : i < (l.length : Int) := by omega
    have hw : wrap64 (i + 1) = i + 1 := w64 (by omega) (by omega)
    have hw1 : i > 0 → wrap64 (i - 1) = i - 1 := fun _ => w64 (by omega) (by omega)
    have hr := ih (i + 1) (by omega) (by omega)
    rw [AllOK_succ]
    refine Ev.step (fun k => by simp only [spec_MemoryOK.l0]; exact rfl) (evPos hlt (evPos h0 ?_))
    refine evB (sbase _) (evIte (fun hb => ?_) (fun hb => ?_))
    · refine evB (sperm _) (evIte (fun hp => ?_) (fun hp => ?_))
      · refine evIte (fun hz => ?_) (fun hz => ?_)
        · refine evIte (fun hi => ?_) (fun hi => ?_)
          · rw [hw1 hi]
            refine evPos (by omega) (evPos (by omega) (evIte (fun hq => ?_) (fun hq => ?_)))
            · refine evEq (evR false) ?_
              rw [decide_eq_false, Bool.false_and]
              exact fun h => by have := h.2.2.2 hi; omega
            · rw [hw]
              refine evEq hr ?_
              rw [decide_eq_true, Bool.true_and]
              exact ⟨of_decide_eq_true hb, IN_true.1 hp, by omega, fun _ => by omega⟩
          · rw [hw]
            refine evEq hr ?_
            rw [decide_eq_true, Bool.true_and]
            exact ⟨of_decide_eq_true hb, IN_true.1 hp, by omega, fun h => absurd h hi⟩
        · refine evEq (evR false) ?_
          rw [decide_eq_false, Bool.false_and]
          exact fun h => hz (by rw [h.2.2.1]; rfl)
      · refine evEq (evR false) ?_
        rw [decide_eq_false, Bool.false_and]
        exact fun h => hp (IN_true.2 h.2.1)
    · refine evEq (evR false) ?_
      rw [decide_eq_false, Bool.false_and]
      exact fun h => hb (decide_eq_true h.1)
theorem sMemOK_ev (l : List S95) (hl : l.length ≤ 1048576) : Ev (fun k => spec_MemoryOK.f k l) (MOK l) := by
  refine evIte (fun h => ?_) (fun h => ?_)
  · refine evEq (evR false) ?_
    unfold MOK
    rw [decide_eq_false (by omega), Bool.false_and]
  · refine evEq (sMemOK_loop l hl l.length 0 (by omega) (by omega)) ?_
    unfold MOK
    rw [decide_eq_true (by omega), Bool.true_and]
theorem iMemOK_loop (l : List S95) (hl : l.length ≤ 1048576) (d : Nat) : ∀ i : Int, 0 ≤ i → (l.length : Int) - i = d → Ev (fun k => impl_MemoryOK.l0 k l (l.length : Int) i l) (AllOK l i d && decide (l.length ≤ 32)) := by
  induction d with
  | zero =>
    intro i h0 h1
    refine Ev.step (fun k => by simp only [impl_MemoryOK.l0]; exact rfl) (evNeg (by omega) (evEq (evR _) ?_))
    show _ = (true && _)
    rw [Bool.true_and]
    exact decide_eq_decide.2 (by omega)
  | succ d ih =>
    intro i h0 h1
    have hlt : i < (l.length : Int) := by omega
    have hw : wrap64 (i + 1) = i + 1 := w64 (by omega) (by omega)
    have hw1 : i > 0 → wrap64 (i - 1) = i - 1 := fun _ => w64 (by omega) (by omega)
    have hr := ih (i + 1) (by omega) (by omega)
    rw [AllOK_succ]
    refine Ev.step (fun k => by simp only [impl_MemoryOK.l0]; exact rfl) (evPos hlt (evPos h0 (evPos hlt ?_)))
    refine evB (ibase _) (evIte (fun hb => ?_) (fun hb => ?_))
    · refine evB (iperm _) (evIte (fun hp => ?_) (fun hp => ?_))
      · refine evIte (fun hz => ?_) (fun hz => ?_)
        · refine evIte (fun hi => ?_) (fun hi => ?_)
          · rw [hw1 hi]
            refine evPos (by omega) (evPos (by omega) (evIte (fun hq => ?_) (fun hq => ?_)))
            · refine evEq (evR false) ?_
              rw [decide_eq_false, Bool.false_and, Bool.false_and]
              exact fun h => by have := h.2.2.2 hi; omega
            · rw [hw]
              refine evEq hr ?_
              rw [decide_eq_true (p := PgOK l i), Bool.true_and]
              exact ⟨of_decide_eq_true hb, IN_true.1 hp, by omega, fun _ => by omega⟩
          · rw [hw]
            refine evEq hr ?_
            rw [decide_eq_true (p := PgOK l i), Bool.true_and]
            exact ⟨of_decide_eq_true hb, IN_true.1 hp, by omega, fun h => absurd h hi⟩
        · refine evEq (evR false) ?_
          rw [decide_eq_false, Bool.false_and, Bool.false_and]
          exact fun h => hz (by rw [h.2.2.1]; rfl)
      · refine evEq (evR false) ?_
        rw [decide_eq_false, Bool.false_and, Bool.false_and]
        exact fun h => hp (IN_true.2 h.2.1)
    · refine evEq (evR false) ?_
      rw [decide_eq_false, Bool.false_and, Bool.false_and]
      exact fun h => hb (decide_eq_true h.1)
theorem iMemOK_ev (l : List S95) (hl : l.length ≤ 1048576) : Ev (fun k => impl_MemoryOK.f k l) (MOK l) := by
  refine evEq (iMemOK_loop l hl l.length 0 (by omega) (by omega)) ?_
  unfold MOK
  rw [Bool.and_comm]
theorem MOK_at {l : List S95} (h : MOK l = true) {i : Int} (h0 : 0 ≤ i) (h1 : i < l.length) : PgOK l i := by
  unfold MOK AllOK at h
  rw [Bool.and_eq_true, List.all_eq_true] at h
  have := h.2 i.toNat (List.mem_range.2 (by omega))
  rw [show (0 : Int) + ((i.toNat : Nat) : Int) = i by omega] at this
  exact of_decide_eq_true this
theorem MOK_len {l : List S95} (h : MOK l = true) : l.length ≤ 32 := by
  unfold MOK at h
  rw [Bool.and_eq_true] at h
  exact of_decide_eq_true h.1
/-- The page that has an address. -/
def pg (l : List S95) (a : Int) : Int := firstAt (fun p => decide (p.f0 ≤ a ∧ a < p.f0 + 256)) l
theorem firstAt_congr {α : Type} {p q : α → Bool} {l : List α} (h : ∀ x ∈ l, p x = q x) : firstAt p l = firstAt q l := by
  have key : l.findIdx? p = l.findIdx? q := by
    induction l with
    | nil => rfl
    | cons x xs ih =>
      simp only [List.findIdx?_cons]
      rw [h x (List.mem_cons_self ..), ih (fun y hy => h y (List.mem_cons_of_mem _ hy))]
  unfold firstAt
  rw [key]
theorem mem_rd {l : List S95} {x : S95} (h : x ∈ l) : ∃ i : Int, 0 ≤ i ∧ i < l.length ∧ rd_T95 l i = x := by
  obtain ⟨j, hj, rfl⟩ := List.getElem_of_mem h
  refine ⟨j, by omega, by omega, ?_⟩
  unfold rd_T95
  rw [show ((j : Int)).toNat = j by omega, List.getD_eq_getElem?_getD, List.getElem?_eq_getElem hj]
  rfl
theorem pg_find (l : List S95) (hM : MOK l = true) (a : Int) (ha0 : -9223372036854775808 ≤ a) (ha : a ≤ 9223372036854775807) (d : Nat) : ∀ i : Int, 0 ≤ i → (l.length : Int) - i = d → (∀ j : Nat, (j : Int) < i → decide ((rd_T95 l j).f0 ≤ a ∧ a < (rd_T95 l j).f0 + 256) = false) →
    Ev (fun k => spec_l02Find.l0 k a i l) (pg l a) := by
  induction d with
  | zero =>
    intro i h0 h1 hno
    refine Ev.step (fun k => by simp only [spec_l02Find.l0]; exact rfl) (evNeg (by omega) (evEq (evR (-1)) ?_))
    exact (firstAt_miss (d := z95) (fun j hj => hno j (by omega))).symm
  | succ d ih =>
    intro i h0 h1 hno
    have hlt : i < (l.length : Int) := by omega
    have hP := MOK_at hM h0 hlt
    have hb := hP.1
    have hlen := MOK_len hM
    have hw : wrap64 (i + 1) = i + 1 := w64 (by omega) (by omega)
    refine Ev.step (fun k => by simp only [spec_l02Find.l0]; exact rfl) (evPos hlt (evPos h0 (evIte (fun c => ?_) (fun c => ?_))))
    · have hw2 : wrap64 (a - (rd_T95 l i).f0) = a - (rd_T95 l i).f0 := w64 (by omega) (by omega)
      rw [hw2]
      refine evIte (fun c2 => ?_) (fun c2 => ?_)
      · refine evEq (evR i) ?_
        have := firstAt_hit (p := fun p : S95 => decide (p.f0 ≤ a ∧ a < p.f0 + 256)) (l := l) (d := z95) (i := i.toNat) (by omega) (decide_eq_true ⟨c, by have : a - (rd_T95 l i).f0 < 256 := c2; show a < (rd_T95 l i).f0 + 256; omega⟩) (fun j hj => hno j (by omega))
        unfold pg
        rw [this]
        omega
      · rw [hw]
        refine ih (i + 1) (by omega) (by omega) (fun j hj => ?_)
        by_cases e : (j : Int) = i
        · rw [e]; exact decide_eq_false (by omega)
        · exact hno j (by omega)
    · rw [hw]
      refine ih (i + 1) (by omega) (by omega) (fun j hj => ?_)
      by_cases e : (j : Int) = i
      · rw [e]; exact decide_eq_false (by omega)
      · exact hno j (by omega)
theorem sfind_ev (l : List S95) (hM : MOK l = true) (a : Int) (ha0 : -9223372036854775808 ≤ a) (ha : a ≤ 9223372036854775807) : Ev (fun k => spec_l02Find.f k l a) (pg l a) :=
  pg_find l hM a ha0 ha l.length 0 (by omega) (by omega) (fun j hj => absurd hj (by omega))
theorem ipage (l : List S95) (hM : MOK l = true) (a : Int) (ha0 : -9223372036854775808 ≤ a) (ha : a ≤ 9223372036854775807) : impl_Memory_pageOf.f l a = some (pg l a) := by
  unfold impl_Memory_pageOf.f pg
  congr 1
  by_cases c : 0 ≤ a ∧ a ≤ 65535
  · rw [if_pos c]
    refine firstAt_congr (fun x hx => ?_)
    obtain ⟨i, hi0, hi1, rfl⟩ := mem_rd hx
    have hb := (MOK_at hM hi0 hi1).1
    rw [Int.tmod_eq_emod_of_nonneg c.1, w64 (by omega) (by omega), Bool.eq_iff_iff]
    simp only [beq_iff_eq, decide_eq_true_eq]
    omega
  · rw [if_neg c]
    refine (firstAt_miss (d := z95) (fun j hj => ?_)).symm
    have hb := (MOK_at hM (i := (j : Int)) (by omega) (by omega)).1
    have e : l.getD j z95 = rd_T95 l j := by unfold rd_T95; rw [show ((j : Int)).toNat = j by omega]
    rw [e]
    exact decide_eq_false (by omega)
theorem pg_ge (l : List S95) (a : Int) : -1 ≤ pg l a ∧ pg l a < l.length := firstAt_ge _ _

/-- The numbers of bytes. -/
def numsOf (s : ByteArray) : List Int := s.data.toList.map fun b => (b.toNat : Int)
theorem numsOf_len (s : ByteArray) : (numsOf s).length = s.size := by unfold numsOf; simp
theorem bt_get (s : ByteArray) (i : Nat) (h : i < s.size) : bt s i = (numsOf s).getD i 0 := by
  unfold bt numsOf
  rw [dif_pos (by omega), List.getD_eq_getElem?_getD, List.getElem?_map]
  have h2 : i < s.data.toList.length := by simpa using h
  rw [List.getElem?_eq_getElem h2]
  rfl
theorem strOf_nums (s : ByteArray) : strOfNums (numsOf s) = s := by
  obtain ⟨⟨l⟩⟩ := s
  unfold strOfNums numsOf
  have e : ∀ l : List UInt8, List.map (fun n : Int => UInt8.ofNat n.toNat) (List.map (fun b : UInt8 => (b.toNat : Int)) l) = l := by
    intro l
    induction l with
    | nil => rfl
    | cons x xs ih => rw [List.map_cons, List.map_cons, ih, Int.toNat_natCast, UInt8.ofNat_toNat]
  simp only []
  rw [e]
theorem take_snoc_getD (l : List Int) (i : Nat) (h : i < l.length) : l.take (i + 1) = l.take i ++ [l.getD i 0] := by
  rw [List.take_succ_eq_append_getElem h, List.getD_eq_getElem?_getD, List.getElem?_eq_getElem h]
  rfl

def PBf (j : Nat) : Int := (7 * (j : Int) + 3) % 256
def PBs : ByteArray := strOfNums ((List.range 256).map PBf)
theorem sPB (i : Nat) (h : i < 256) : ∃ t, spec_PrivateByte.f i = some t ∧ t % 256 = PBf i := by
  unfold spec_PrivateByte.f
  rw [sin, IN_true.2 (by omega)]
  simp only [Option.bind_some, if_true]
  refine ⟨_, rfl, ?_⟩
  rw [w64 (n := 7 * (i : Int)) (by omega) (by omega), w64 (n := 7 * (i : Int) + 3) (by omega) (by omega), Int.tmod_eq_emod_of_nonneg (by omega)]
  unfold PBf
  omega
theorem iPB (i : Nat) (h : i < 256) : ∃ t, impl_PrivateByte.f i = some t ∧ t % 256 = PBf i := by
  unfold impl_PrivateByte.f impl_isByte.f
  rw [iin, IN_true.2 (by omega)]
  simp only [Option.bind_some, if_true]
  refine ⟨_, rfl, ?_⟩
  rw [w64 (n := 7 * (i : Int)) (by omega) (by omega), w64 (n := 7 * (i : Int) + 3) (by omega) (by omega)]
  have e2 : Go.bits .and .i64 (7 * (i : Int) + 3) 255 = (7 * (i : Int) + 3) % 256 := and_mask (7 * (i : Int) + 3) 8 (by decide)
  rw [e2]
  unfold PBf
  omega
theorem sPriv_loop (d : Nat) : ∀ i : Nat, i + d = 256 → Ev (fun k => spec_l11Private.l0 k ((List.range i).map PBf) (i : Int)) PBs := by
  induction d with
  | zero =>
    intro i hi
    have e : i = 256 := by omega
    subst e
    exact Ev.step (fun k => by simp only [spec_l11Private.l0]; exact rfl) (evNeg (by omega) (evR _))
  | succ d ih =>
    intro i hi
    obtain ⟨t, ht, hv⟩ := sPB i (by omega)
    refine Ev.step (fun k => by simp only [spec_l11Private.l0]; exact rfl) (evPos (by omega) (evB ht ?_))
    refine evPos (by rw [List.length_map, List.length_range]; omega) ?_
    rw [hv, w64 (n := (i : Int) + 1) (by omega) (by omega), show (i : Int) + 1 = ((i + 1 : Nat) : Int) by omega]
    have := ih (i + 1) (by omega)
    rw [List.range_succ, List.map_append] at this
    exact this
theorem sPriv_ev : Ev (fun k => spec_l11Private.f k) PBs := sPriv_loop 256 0 (by omega)
theorem iPriv_loop (d : Nat) : ∀ (xs : List Int) (i : Nat), i + d = 256 → xs.length = 256 → xs.take i = (List.range i).map PBf → Ev (fun k => impl_privateData.l0 k xs 256 (i : Int)) PBs := by
  induction d with
  | zero =>
    intro xs i hi hl ht
    have e : i = 256 := by omega
    subst e
    rw [List.take_of_length_le (by omega)] at ht
    exact Ev.step (fun k => by simp only [impl_privateData.l0]; exact rfl) (evNeg (by omega) (evEq (evR _) (by rw [ht]; rfl)))
  | succ d ih =>
    intro xs i hi hl ht
    obtain ⟨t, htt, hv⟩ := iPB i (by omega)
    refine Ev.step (fun k => by simp only [impl_privateData.l0]; exact rfl) (evPos (by omega) (evB htt ?_))
    refine evPos (by omega) (evPos (by omega) ?_)
    rw [hv, w64 (n := (i : Int) + 1) (by omega) (by omega), show (i : Int) + 1 = ((i + 1 : Nat) : Int) by omega, show ((i : Int)).toNat = i by omega]
    refine ih _ (i + 1) (by omega) (by rw [List.length_set]; exact hl) ?_
    rw [List.take_succ_eq_append_getElem (by rw [List.length_set]; omega), List.take_set_of_le (Nat.le_refl i), ht, List.range_succ, List.map_append]
    simp
theorem iPriv_ev : Ev (fun k => impl_privateData.f k) PBs := by
  have key : ∀ xs : List Int, xs.length = 256 → Ev (fun k => impl_privateData.l0 k xs (xs.length : Int) 0) PBs := by
    intro xs h
    have := iPriv_loop 256 xs 0 (by omega) h (by rw [List.take_zero]; rfl)
    rw [h]
    exact this
  refine evPos (by omega) (evB rfl ?_)
  exact key _ List.length_replicate

theorem pg_page {l : List S95} {a : Int} (hM : MOK l = true) (h : 0 ≤ pg l a) : pg l a < l.length ∧ (rd_T95 l (pg l a)).f0 ≤ a ∧ a < (rd_T95 l (pg l a)).f0 + 256 := by
  have hge := pg_ge l a
  have key : decide ((rd_T95 l (pg l a)).f0 ≤ a ∧ a < (rd_T95 l (pg l a)).f0 + 256) = true := by
    unfold pg firstAt at h ⊢
    cases hf : l.findIdx? (fun p => decide (p.f0 ≤ a ∧ a < p.f0 + 256)) with
    | none => rw [hf] at h; exact absurd h (by decide)
    | some i =>
      obtain ⟨hi, hp, _⟩ := List.findIdx?_eq_some_iff_getElem.1 hf
      have e : rd_T95 l (i : Int) = l[i] := by
        unfold rd_T95
        rw [show ((i : Int)).toNat = i by omega, List.getD_eq_getElem?_getD, List.getElem?_eq_getElem hi]
        rfl
      show decide ((rd_T95 l (i : Int)).f0 ≤ a ∧ a < (rd_T95 l (i : Int)).f0 + 256) = true
      rw [e]; exact hp
  have := of_decide_eq_true key
  exact ⟨hge.2, this.1, this.2⟩
theorem pg_same {l : List S95} (hM : MOK l = true) {a b : Int} (h : a / 256 = b / 256) : pg l a = pg l b := by
  unfold pg
  refine firstAt_congr (fun x hx => ?_)
  obtain ⟨i, hi0, hi1, rfl⟩ := mem_rd hx
  have hb := (MOK_at hM hi0 hi1).1
  rw [Bool.eq_iff_iff]
  simp only [decide_eq_true_eq]
  omega

theorem eqPage_refl (a b : Int) (c : ByteArray) : laws_eqPage.f a b c a b c = some true := by unfold laws_eqPage.f; simp
theorem eqPageS_ev (l : List S95) (hl : l.length ≤ 1048576) (d : Nat) : ∀ i : Int, 0 ≤ i → (l.length : Int) - i = d → Ev (fun k => laws_eqPageS.l0 k l l i) true := by
  induction d with
  | zero =>
    intro i h0 h1
    exact Ev.step (fun k => by simp only [laws_eqPageS.l0]; exact rfl) (evNeg (by omega) (evR _))
  | succ d ih =>
    intro i h0 h1
    have hlt : i < (l.length : Int) := by omega
    refine Ev.step (fun k => by simp only [laws_eqPageS.l0]; exact rfl) (evPos hlt (evPos h0 (evPos hlt ?_)))
    refine evB (eqPage_refl _ _ _) (evPos rfl ?_)
    rw [w64 (n := i + 1) (by omega) (by omega)]
    exact ih (i + 1) (by omega) (by omega)
theorem eqMem_ev (l : List S95) (hl : l.length ≤ 1048576) : Ev (fun k => laws_eqMemory.f k l l) true := by
  refine Ev.bind (a := true) ?_ (evPos rfl (evR _))
  exact evPos (c := (l.length : Int) = (l.length : Int)) rfl (eqPageS_ev l hl l.length 0 (by omega) (by omega))

theorem has_ev (l : List S95) (hM : MOK l = true) (a : Int) (ha : a = 4096 ∨ a = 32768) : Ev (fun k => spec_l02Has.f k l a 256) (decide (0 ≤ pg l a)) := by
  refine evPos (by decide) (evB (sin _ _ _) ?_)
  rw [IN_true.2 (by omega)]
  refine Ev.step (fun k => by simp only [spec_l02Has.j0]; exact rfl) (evNeg (by decide) ?_)
  by_cases c : 0 ≤ pg l a
  · rw [decide_eq_true c]
    have loop : ∀ (d : Nat) (i : Int), 0 ≤ i → 256 - i = d → Ev (fun k => spec_l02Has.l0 k a 256 i l) true := by
      intro d
      induction d with
      | zero =>
        intro i h0 h1
        exact Ev.step (fun k => by simp only [spec_l02Has.l0]; exact rfl) (evNeg (by omega) (evR _))
      | succ d ih =>
        intro i h0 h1
        refine Ev.step (fun k => by simp only [spec_l02Has.l0]; exact rfl) (evPos (by omega) ?_)
        rw [w64 (n := a + i) (by omega) (by omega), w64 (n := i + 1) (by omega) (by omega)]
        refine Ev.bind (sfind_ev l hM (a + i) (by omega) (by omega)) (evNeg ?_ (ih (i + 1) (by omega) (by omega)))
        rw [pg_same hM (show (a + i) / 256 = a / 256 by omega)]
        omega
    exact loop 256 0 (by omega) (by omega)
  · rw [decide_eq_false c]
    refine Ev.step (fun k => by simp only [spec_l02Has.l0]; exact rfl) (evPos (by omega) ?_)
    rw [w64 (n := a + 0) (by omega) (by omega), Int.add_zero]
    exact Ev.bind (sfind_ev l hM a (by omega) (by omega)) (evPos (by omega) (evR _))
theorem get_ev (l : List S95) (hM : MOK l = true) (a : Int) (ha : a = 4096 ∨ a = 32768) (c : 0 ≤ pg l a) : Ev (fun k => spec_l02Get.f k l a 256) (rd_T95 l (pg l a)).f2 := by
  obtain ⟨c1, c2, c3⟩ := pg_page hM c
  have hP := MOK_at hM c c1
  have hb : (rd_T95 l (pg l a)).f0 = a := by have := hP.1; omega
  have hz := hP.2.2.1
  have loop : ∀ (d i : Nat), i + d = 256 → Ev (fun k => spec_l02Get.l0 k a 256 ((numsOf (rd_T95 l (pg l a)).f2).take i) (i : Int) l) (rd_T95 l (pg l a)).f2 := by
    intro d
    induction d with
    | zero =>
      intro i hi
      refine Ev.step (fun k => by simp only [spec_l02Get.l0]; exact rfl) (evNeg (by omega) (evEq (evR _) ?_))
      rw [List.take_of_length_le (by rw [numsOf_len]; omega), strOf_nums]
    | succ d ih =>
      intro i hi
      refine Ev.step (fun k => by simp only [spec_l02Get.l0]; exact rfl) (evPos (by omega) ?_)
      rw [w64 (n := a + (i : Int)) (by omega) (by omega), w64 (n := (i : Int) + 1) (by omega) (by omega)]
      refine Ev.bind (sfind_ev l hM (a + i) (by omega) (by omega)) ?_
      rw [pg_same hM (show (a + (i : Int)) / 256 = a / 256 by omega), hb, w64 (n := a + (i : Int) - a) (by omega) (by omega), show a + (i : Int) - a = i by omega]
      refine evPos c (evPos c1 (evPos (by omega) (evPos (by omega) (evPos ?_ ?_))))
      · rw [List.length_take, numsOf_len]; omega
      · rw [bt_get _ i (by omega), ← take_snoc_getD _ i (by rw [numsOf_len]; omega), show (i : Int) + 1 = ((i + 1 : Nat) : Int) by omega]
        exact ih (i + 1) (by omega)
  exact loop 256 0 (by omega)
def K1 (l : List S95) (a : Int) : Bool := decide ((rd_T95 l (pg l a)).f2.toList = PBs.toList)
def KP (l : List S95) : Bool := decide (0 ≤ pg l 4096) && (decide (0 ≤ pg l 32768) && (K1 l 4096 && K1 l 32768))
theorem sKept_ev (l : List S95) (hM : MOK l = true) : Ev (fun k => spec_l11Kept.f k l) (KP l) := by
  refine Ev.bind (has_ev l hM 4096 (by omega)) (evIte (fun c => ?_) (fun c => ?_))
  · refine Ev.bind (has_ev l hM 32768 (by omega)) (evIte (fun d => ?_) (fun d => ?_))
    · have c' := of_decide_eq_true c
      have d' := of_decide_eq_true d
      refine Ev.bind (get_ev l hM 4096 (by omega) c') (Ev.bind sPriv_ev (evIte (fun e => ?_) (fun e => ?_)))
      · refine Ev.bind (get_ev l hM 32768 (by omega) d') (Ev.bind sPriv_ev (evEq (evR _) ?_))
        unfold KP K1
        rw [c, d, decide_eq_true e, Bool.true_and, Bool.true_and, Bool.true_and, Bool.eq_iff_iff]
        simp
      · refine evEq (evR _) ?_
        unfold KP K1
        rw [c, d, decide_eq_false e]; rfl
    · refine evEq (evR _) ?_
      unfold KP
      rw [c, decide_eq_false (fun z => d (decide_eq_true z))]; rfl
  · refine evEq (evR _) ?_
    unfold KP
    rw [decide_eq_false (fun z => c (decide_eq_true z))]; rfl
theorem iround (l : List S95) (hM : MOK l = true) (i : Int) (hi : i = 0 ∨ i = 1) (r : Bool) (hr : (0 ≤ pg l (rd [4096, 32768] i)) → K1 l (rd [4096, 32768] i) = true → Ev (fun k => impl_privateOK.l0 k [4096, 32768] 2 (i + 1) l) r) :
    Ev (fun k => impl_privateOK.l0 k [4096, 32768] 2 i l) (if 0 ≤ pg l (rd [4096, 32768] i) ∧ K1 l (rd [4096, 32768] i) = true then r else false) := by
  refine Ev.step (fun k => by simp only [impl_privateOK.l0]; exact rfl) (evPos (by omega) (evPos (by omega) (evPos (by simp; omega) ?_)))
  have hb : rd [4096, 32768] i = 4096 ∨ rd [4096, 32768] i = 32768 := by rcases hi with rfl | rfl; exact .inl rfl; exact .inr rfl
  refine evB (ipage l hM _ (by omega) (by omega)) ?_
  by_cases c : pg l (rd [4096, 32768] i) < 0
  · rw [if_neg (by omega)]
    exact evPos c (evR _)
  · have hge := pg_ge l (rd [4096, 32768] i)
    refine evNeg c (evPos (by omega) (evPos hge.2 (Ev.bind iPriv_ev (evIte (fun e => ?_) (fun e => ?_)))))
    · have hk : K1 l (rd [4096, 32768] i) = true := decide_eq_true e
      rw [if_pos ⟨by omega, hk⟩, w64 (n := i + 1) (by omega) (by omega)]
      exact hr (by omega) hk
    · rw [if_neg (fun z => e (of_decide_eq_true z.2))]
      exact evR _
theorem iKept_ev (l : List S95) (hM : MOK l = true) : Ev (fun k => impl_privateOK.f k l) (KP l) := by
  refine evB rfl ?_
  have h2 : Ev (fun k => impl_privateOK.l0 k [4096, 32768] 2 2 l) true := Ev.step (fun k => by simp only [impl_privateOK.l0]; exact rfl) (evNeg (by omega) (evR _))
  have h1 := iround l hM 1 (by omega) true (fun _ _ => h2)
  have h0 := iround l hM 0 (by omega) _ (fun _ _ => h1)
  refine evEq h0 ?_
  have e0 : rd [4096, 32768] 0 = 4096 := rfl
  have e1 : rd [4096, 32768] 1 = 32768 := rfl
  rw [e0, e1]
  unfold KP
  by_cases c : 0 ≤ pg l 4096 <;> by_cases d : 0 ≤ pg l 32768 <;> cases K1 l 4096 <;> cases K1 l 32768 <;> simp [c, d]
theorem same (l : List S95) (hl : l.length ≤ 1048576) : ∃ r, Ev (fun k => spec_PrivateOK.f k l) r ∧ Ev (fun k => impl_PrivateOK.f k l) r := by
  have hs := sMemOK_ev l hl
  have hi := iMemOK_ev l hl
  cases hM : MOK l with
  | false =>
    rw [hM] at hs hi
    exact ⟨(false, 1), Ev.bind hs (evNeg (by decide) (evR _)), Ev.bind hi (evNeg (by decide) (evR _))⟩
  | true =>
    rw [hM] at hs hi
    exact ⟨(KP l, 0), Ev.bind hs (evPos rfl (Ev.bind (sKept_ev l hM) (evR _))), Ev.bind hi (evPos rfl (Ev.bind (iKept_ev l hM) (evR _)))⟩
theorem FnExactPrivateOK : laws_FnExactPrivateOK.Pure := by
  intro x ok
  refine Ev.rounds (g := fun k => laws_FnExactPrivateOK.f k x.f0) ?_
  obtain ⟨r, hr, hlen⟩ := szMem_ev x.f0 ok.1 (fun y hy => (ok.2 y hy).2.2)
  by_cases c : r < 0
  · exact Ev.bind hr (evPos c (evR _))
  · have hl := hlen (by omega)
    have hm := toMem_ev x.f0 hl
    have hl2 : (x.f0.map cvP).length ≤ 1048576 := by rw [List.length_map]; exact hl
    obtain ⟨q, hs, hi⟩ := same (x.f0.map cvP) hl2
    refine Ev.bind hr (evNeg c (Ev.bind hm (Ev.bind hs (Ev.bind hm (Ev.bind hi (evNeg (by simp) ?_))))))
    refine Ev.step (fun k => by simp only [laws_FnExactPrivateOK.j0]; exact rfl) (evNeg (by simp) ?_)
    exact Ev.bind hm (Ev.bind (eqMem_ev _ hl2) (evPos rfl (evR _)))

end Go.Proofs.Ytoohimpbckpiaaa.Pure

/- The program's SpanOK tells what the reference's tells, for all arguments. No condition. -/
import Derived.Test.YtoohimpbckpiaaaPFnExactSpanOKx0
import Derived.Test.YtoohimpbckpiaaaPFnExactSpanOKx1
import Derived.Test.YtoohimpbckpiaaaPFnExactSpanOKx2
import Derived.Test.YtoohimpbckpiaaaPFnExactSpanOKx3
import Derived.Test.YtoohimpbckpiaaaPFnExactSpanOKx4
import Derived.Test.YtoohimpbckpiaaaPFnExactSpanOKx5
import Derived.Test.YtoohimpbckpiaaaPFnExactSpanOKx6
import Derived.Test.YtoohimpbckpiaaaNNum
namespace Go.Proofs.Ytoohimpbckpiaaa.Pure
open Go.RowKit Go.Proofs.Ytoohimpbckpiaaa.PFnExactSpanOK Go.Proofs.YtoohimpbckpiaaaW.PrintWords Go.Proofs.YtoohimpbckpiaaaW.PrintLast Go.Proofs.YtoohimpbckpiaaaW.PrintMore Go.Proofs.Ytoohimpbckpiaaa.Num
set_option linter.unusedSimpArgs false
set_option linter.unusedVariables false

theorem evPos {α : Type} {c : Prop} [Decidable c] {g f : Nat → Option α} {r : α} (h : c) (k : Ev g r) : Ev (fun n => if c then g n else f n) r := Ev.congr (fun _ => if_pos h) k
theorem evNeg {α : Type} {c : Prop} [Decidable c] {g f : Nat → Option α} {r : α} (h : ¬ c) (k : Ev f r) : Ev (fun n => if c then g n else f n) r := Ev.congr (fun _ => if_neg h) k
theorem evIte {α : Type} {c : Prop} [Decidable c] {g f : Nat → Option α} {r : α} (h : c → Ev g r) (k : ¬ c → Ev f r) : Ev (fun n => if c then g n else f n) r := by
  by_cases hc : c
  · exact evPos hc (h hc)
  · exact evNeg hc (k hc)
/-- A call that needs no rounds. -/
theorem evB {α β : Type} {o : Option α} {f : Nat → α → Option β} {a : α} {r : β} (h : o = some a) (k : Ev (fun n => f n a) r) : Ev (fun n => o.bind (f n)) r := Ev.congr (fun _ => by rw [h]; rfl) k
theorem evR {α : Type} (r : α) : Ev (fun _ => some r) r := Ev.now r
theorem evEq {α : Type} {g : Nat → Option α} {r r' : α} (h : Ev g r) (e : r = r') : Ev g r' := e ▸ h

theorem rd_mem {l : List S95} {i : Int} (h0 : 0 ≤ i) (h1 : i < l.length) : rd_T95 l i ∈ l := by
  unfold rd_T95
  rw [List.getD_eq_getElem?_getD, List.getElem?_eq_getElem (by omega : i.toNat < l.length)]
  exact List.getElem_mem _
theorem rdL_mem {l : List S94} {i : Int} (h0 : 0 ≤ i) (h1 : i < l.length) : rd_T94 l i ∈ l := by
  unfold rd_T94
  rw [List.getD_eq_getElem?_getD, List.getElem?_eq_getElem (by omega : i.toNat < l.length)]
  exact List.getElem_mem _
/-- How much a memory holds is told: where it is too much the law asks nothing. -/
theorem szPage_ev (l : List S94) (hl : l.length ≤ 9223372036854775807) (hs : ∀ x ∈ l, x.f2.size ≤ 9223372036854775807) (d : Nat) : ∀ (left i : Int), 0 ≤ left → left ≤ 1048576 → 0 ≤ i → (l.length : Int) - i = d → ∃ r, Ev (fun k => laws_szPageS.l0 k l left i) r := by
  induction d with
  | zero =>
    intro left i h0 h1 h2 h3
    exact ⟨left, Ev.step (fun k => by simp only [laws_szPageS.l0]; exact rfl) (evNeg (by omega) (evR _))⟩
  | succ d ih =>
    intro left i h0 h1 h2 h3
    have hlt : i < (l.length : Int) := by omega
    have hz := hs _ (rdL_mem h2 hlt)
    have hw : wrap64 (i + 1) = i + 1 := w64 (by omega) (by omega)
    generalize hsz : ((rd_T94 l i).f2.size : Int) = z
    have hz0 : 0 ≤ z ∧ z ≤ 9223372036854775807 := by omega
    have hw2 : wrap64 (left - z) = left - z := w64 (by omega) (by omega)
    by_cases c : left - z < 0
    · refine ⟨-1, Ev.step (fun k => by simp only [laws_szPageS.l0]; exact rfl) (evPos hlt (evPos h2 ?_))⟩
      refine evB (a := -1) (by unfold laws_szPage.f; rw [hsz, hw2, if_pos c]) (evPos (by omega) (evR _))
    · obtain ⟨r, hr⟩ := ih (left - z) (i + 1) (by omega) (by omega) (by omega) (by omega)
      refine ⟨r, Ev.step (fun k => by simp only [laws_szPageS.l0]; exact rfl) (evPos hlt (evPos h2 ?_))⟩
      refine evB (a := left - z) (by unfold laws_szPage.f; rw [hsz, hw2, if_neg c]) (evNeg c ?_)
      rw [hw]; exact hr
theorem szMem_ev (l : List S94) (hl : l.length ≤ 9223372036854775807) (hs : ∀ x ∈ l, x.f2.size ≤ 9223372036854775807) : ∃ r, Ev (fun k => laws_szMemory.f k l 1048576) r ∧ (0 ≤ r → l.length ≤ 1048576) := by
  have hw : wrap64 (1048576 - (l.length : Int)) = 1048576 - (l.length : Int) := w64 (by omega) (by omega)
  by_cases c : (1048576 - (l.length : Int)) < 0
  · refine ⟨-1, ?_, fun h => by omega⟩
    exact Ev.bind (a := -1) (evPos (by rw [hw]; exact c) (evR _)) (evPos (by omega) (evR _))
  · obtain ⟨r, hr⟩ := szPage_ev l hl hs l.length (1048576 - (l.length : Int)) 0 (by omega) (by omega) (by omega) (by omega)
    by_cases c2 : r < 0
    · refine ⟨-1, ?_, fun h => by omega⟩
      exact Ev.bind (a := r) (evNeg (by rw [hw]; exact c) (by rw [hw]; exact hr)) (evPos c2 (evR _))
    · refine ⟨r, ?_, fun h => by omega⟩
      exact Ev.bind (a := r) (evNeg (by rw [hw]; exact c) (by rw [hw]; exact hr)) (evNeg c2 (evR _))
/-- The memory that a mirror tells. -/
def cvP (x : S94) : S95 := ⟨x.f0, x.f1, x.f2⟩
theorem toPage_ev (l : List S94) (hl : l.length ≤ 1048576) (d : Nat) : ∀ (xs : List S95) (i : Nat), xs.length = l.length → xs.take i = (l.take i).map cvP → l.length - i = d → i ≤ l.length → Ev (fun k => laws_toPageS.l0 k l xs (i : Int)) (l.map cvP) := by
  induction d with
  | zero =>
    intro xs i hx ht hd hi
    have e : xs = l.map cvP := by
      rw [List.take_of_length_le (by omega), List.take_of_length_le (by omega)] at ht
      exact ht
    exact Ev.step (fun k => by simp only [laws_toPageS.l0]; exact rfl) (evNeg (by omega) (evEq (evR xs) e))
  | succ d ih =>
    intro xs i hx ht hd hi
    have hlt : i < l.length := by omega
    refine Ev.step (fun k => by simp only [laws_toPageS.l0]; exact rfl) (evPos (by omega) (evPos (by omega) ?_))
    refine evB rfl (evPos (by omega) ?_)
    rw [w64 (n := (i : Int) + 1) (by omega) (by omega), show (i : Int) + 1 = ((i + 1 : Nat) : Int) by omega, show (i : Int).toNat = i by omega]
    refine ih _ (i + 1) (by rw [List.length_set]; exact hx) ?_ (by omega) (by omega)
    rw [List.take_succ_eq_append_getElem (by rw [List.length_set]; omega), List.take_succ_eq_append_getElem hlt, List.map_append, List.take_set_of_le (Nat.le_refl i), ht]
    congr 1
    simp only [List.getElem_set_self, List.map_cons, List.map_nil]
    congr 1
    unfold rd_T94 cvP
    rw [show ((i : Int)).toNat = i by omega, List.getD_eq_getElem?_getD, List.getElem?_eq_getElem hlt]
    rfl
theorem toMem_ev (l : List S94) (hl : l.length ≤ 1048576) : Ev (fun k => laws_toMemory.f k l) (l.map cvP) := by
  refine Ev.bind (a := l.map cvP) ?_ (evR _)
  refine evPos (by omega) (evPos (by omega) ?_)
  exact toPage_ev l hl l.length _ 0 (by simp) (by simp) (by omega) (by omega)

def IN (a b c : Int) : Bool := decide (b ≤ a) && decide (a ≤ c)
theorem sin (a b c : Int) : spec_l01In.f a b c = some (IN a b c) := by
  unfold spec_l01In.f IN
  by_cases h : a ≥ b
  · rw [if_pos h]; simp [show b ≤ a from h]
  · rw [if_neg h]; simp [show ¬ b ≤ a from h]
theorem iin (a b c : Int) : impl_within.f a b c = some (IN a b c) := sin a b c
theorem IN_true {a b c : Int} : IN a b c = true ↔ b ≤ a ∧ a ≤ c := by unfold IN; simp
theorem IN_false {a b c : Int} : IN a b c = false ↔ ¬ (b ≤ a ∧ a ≤ c) := by unfold IN; simp
/-- What is asked of page i. -/
def PgOK (l : List S95) (i : Int) : Prop :=
  (0 ≤ (rd_T95 l i).f0 ∧ (rd_T95 l i).f0 ≤ 65535 ∧ (rd_T95 l i).f0 % 256 = 0) ∧ (0 ≤ (rd_T95 l i).f1 ∧ (rd_T95 l i).f1 ≤ 7) ∧ (rd_T95 l i).f2.size = 256 ∧ (i > 0 → (rd_T95 l (i - 1)).f0 < (rd_T95 l i).f0)
instance (l : List S95) (i : Int) : Decidable (PgOK l i) := by unfold PgOK; infer_instance
/-- All pages from i on are right. -/
def AllOK (l : List S95) (i : Int) (d : Nat) : Bool := (List.range d).all fun j => decide (PgOK l (i + j))
theorem AllOK_succ (l : List S95) (i : Int) (d : Nat) : AllOK l i (d + 1) = (decide (PgOK l i) && AllOK l (i + 1) d) := by
  unfold AllOK
  rw [List.range_succ_eq_map]
  simp only [List.all_cons, List.all_map]
  congr 1
  · rw [show i + ((0 : Nat) : Int) = i by omega]
  · congr 1
    funext j
    show decide (PgOK l (i + ((j + 1 : Nat) : Int))) = _
    rw [show i + ((j + 1 : Nat) : Int) = i + 1 + j by omega]
def MOK (l : List S95) : Bool := decide (l.length ≤ 32) && AllOK l 0 l.length
theorem sbase (b : Int) : spec_l02Base.f b = some (decide (0 ≤ b ∧ b ≤ 65535 ∧ b % 256 = 0)) := by
  unfold spec_l02Base.f
  rw [sin]
  cases h : IN b 0 65535 with
  | true =>
    have h1 := IN_true.1 h
    simp only [Option.bind_some, if_true]
    rw [Int.tmod_eq_emod_of_nonneg h1.1]
    congr 1
    rw [Bool.eq_iff_iff]; simp [h1.1, h1.2]
  | false =>
    have h1 := IN_false.1 h
    simp only [Option.bind_some]
    rw [if_neg (by decide), decide_eq_false (by omega)]
theorem ibase (b : Int) : impl_isBase.f b = some (decide (0 ≤ b ∧ b ≤ 65535 ∧ b % 256 = 0)) := sbase b
theorem sperm (b : Int) : spec_l02Perm.f b = some (IN b 0 7) := by unfold spec_l02Perm.f; rw [sin]; rfl
theorem iperm (b : Int) : impl_isPerm.f b = some (IN b 0 7) := by unfold impl_isPerm.f; rw [iin]; rfl
theorem sMemOK_loop (l : List S95) (hl : l.length ≤ 1048576) (d : Nat) : ∀ i : Int, 0 ≤ i → (l.length : Int) - i = d → Ev (fun k => spec_MemoryOK.l0 k i l) (AllOK l i d) := by
  induction d with
  | zero =>
    intro i h0 h1
    exact Ev.step (fun k => by simp only [spec_MemoryOK.l0]; exact rfl) (evNeg (by omega) (evR _))
  | succ d ih =>
    intro i h0 h1
    have hlt : i < (l.length : Int) := by omega
    have hw : wrap64 (i + 1) = i + 1 := w64 (by omega) (by omega)
    have hw1 : i > 0 → wrap64 (i - 1) = i - 1 := fun _ => w64 (by omega) (by omega)
    have hr := ih (i + 1) (by omega) (by omega)
    rw [AllOK_succ]
    refine Ev.step (fun k => by simp only [spec_MemoryOK.l0]; exact rfl) (evPos hlt (evPos h0 ?_))
    refine evB (sbase _) (evIte (fun hb => ?_) (fun hb => ?_))
    · refine evB (sperm _) (evIte (fun hp => ?_) (fun hp => ?_))
      · refine evIte (fun hz => ?_) (fun hz => ?_)
        · refine evIte (fun hi => ?_) (fun hi => ?_)
          · rw [hw1 hi]
            refine evPos (by omega) (evPos (by omega) (evIte (fun hq => ?_) (fun hq => ?_)))
            · refine evEq (evR false) ?_
              rw [decide_eq_false, Bool.false_and]
              exact fun h => by have := h.2.2.2 hi; omega
            · rw [hw]
              refine evEq hr ?_
              rw [decide_eq_true, Bool.true_and]
              exact ⟨of_decide_eq_true hb, IN_true.1 hp, by omega, fun _ => by omega⟩
          · rw [hw]
            refine evEq hr ?_
            rw [decide_eq_true, Bool.true_and]
            exact ⟨of_decide_eq_true hb, IN_true.1 hp, by omega, fun h => absurd h hi⟩
        · refine evEq (evR false) ?_
          rw [decide_eq_false, Bool.false_and]
          exact fun h => hz (by rw [h.2.2.1]; rfl)
      · refine evEq (evR false) ?_
        rw [decide_eq_false, Bool.false_and]
        exact fun h => hp (IN_true.2 h.2.1)
    · refine evEq (evR false) ?_
      rw [decide_eq_false, Bool.false_and]
      exact fun h => hb (decide_eq_true h.1)
theorem sMemOK_ev (l : List S95) (hl : l.length ≤ 1048576) : Ev (fun k => spec_MemoryOK.f k l) (MOK l) := by
  refine evIte (fun h => ?_) (fun h => ?_)
  · refine evEq (evR false) ?_
    unfold MOK
    rw [decide_eq_false (by omega), Bool.false_and]
  · refine evEq (sMemOK_loop l hl l.length 0 (by omega) (by omega)) ?_
    unfold MOK
    rw [decide_eq_true (by omega), Bool.true_and]
theorem iMemOK_loop (l : List S95) (hl : l.length ≤ 1048576) (d : Nat) : ∀ i : Int, 0 ≤ i → (l.length : Int) - i = d → Ev (fun k => impl_MemoryOK.l0 k l (l.length : Int) i l) (AllOK l i d && decide (l.length ≤ 32)) := by
  induction d with
  | zero =>
    intro i h0 h1
    refine Ev.step (fun k => by simp only [impl_MemoryOK.l0]; exact rfl) (evNeg (by omega) (evEq (evR _) ?_))
    show _ = (true && _)
    rw [Bool.true_and]
    exact decide_eq_decide.2 (by omega)
  | succ d ih =>
    intro i h0 h1
    have hlt : i < (l.length : Int) := by omega
    have hw : wrap64 (i + 1) = i + 1 := w64 (by omega) (by omega)
    have hw1 : i > 0 → wrap64 (i - 1) = i - 1 := fun _ => w64 (by omega) (by omega)
    have hr := ih (i + 1) (by omega) (by omega)
    rw [AllOK_succ]
    refine Ev.step (fun k => by simp only [impl_MemoryOK.l0]; exact rfl) (evPos hlt (evPos h0 (evPos hlt ?_)))
    refine evB (ibase _) (evIte (fun hb => ?_) (fun hb => ?_))
    · refine evB (iperm _) (evIte (fun hp => ?_) (fun hp => ?_))
      · refine evIte (fun hz => ?_) (fun hz => ?_)
        · refine evIte (fun hi => ?_) (fun hi => ?_)
          · rw [hw1 hi]
            refine evPos (by omega) (evPos (by omega) (evIte (fun hq => ?_) (fun hq => ?_)))
            · refine evEq (evR false) ?_
              rw [decide_eq_false, Bool.false_and, Bool.false_and]
              exact fun h => by have := h.2.2.2 hi; omega
            · rw [hw]
              refine evEq hr ?_
              rw [decide_eq_true (p := PgOK l i), Bool.true_and]
              exact ⟨of_decide_eq_true hb, IN_true.1 hp, by omega, fun _ => by omega⟩
          · rw [hw]
            refine evEq hr ?_
            rw [decide_eq_true (p := PgOK l i), Bool.true_and]
            exact ⟨of_decide_eq_true hb, IN_true.1 hp, by omega, fun h => absurd h hi⟩
        · refine evEq (evR false) ?_
          rw [decide_eq_false, Bool.false_and, Bool.false_and]
          exact fun h => hz (by rw [h.2.2.1]; rfl)
      · refine evEq (evR false) ?_
        rw [decide_eq_false, Bool.false_and, Bool.false_and]
        exact fun h => hp (IN_true.2 h.2.1)
    · refine evEq (evR false) ?_
      rw [decide_eq_false, Bool.false_and, Bool.false_and]
      exact fun h => hb (decide_eq_true h.1)
theorem iMemOK_ev (l : List S95) (hl : l.length ≤ 1048576) : Ev (fun k => impl_MemoryOK.f k l) (MOK l) := by
  refine evEq (iMemOK_loop l hl l.length 0 (by omega) (by omega)) ?_
  unfold MOK
  rw [Bool.and_comm]
theorem MOK_at {l : List S95} (h : MOK l = true) {i : Int} (h0 : 0 ≤ i) (h1 : i < l.length) : PgOK l i := by
  unfold MOK AllOK at h
  rw [Bool.and_eq_true, List.all_eq_true] at h
  have := h.2 i.toNat (List.mem_range.2 (by omega))
  rw [show (0 : Int) + ((i.toNat : Nat) : Int) = i by omega] at this
  exact of_decide_eq_true this
theorem MOK_len {l : List S95} (h : MOK l = true) : l.length ≤ 32 := by
  unfold MOK at h
  rw [Bool.and_eq_true] at h
  exact of_decide_eq_true h.1
/-- The page that has an address. -/
def pg (l : List S95) (a : Int) : Int := firstAt (fun p => decide (p.f0 ≤ a ∧ a < p.f0 + 256)) l
theorem firstAt_congr {α : Type} {p q : α → Bool} {l : List α} (h : ∀ x ∈ l, p x = q x) : firstAt p l = firstAt q l := by
  have key : l.findIdx? p = l.findIdx? q := by
    induction l with
    | nil => rfl
    | cons x xs ih =>
      simp only [List.findIdx?_cons]
      rw [h x (List.mem_cons_self ..), ih (fun y hy => h y (List.mem_cons_of_mem _ hy))]
  unfold firstAt
  rw [key]
theorem mem_rd {l : List S95} {x : S95} (h : x ∈ l) : ∃ i : Int, 0 ≤ i ∧ i < l.length ∧ rd_T95 l i = x := by
  obtain ⟨j, hj, rfl⟩ := List.getElem_of_mem h
  refine ⟨j, by omega, by omega, ?_⟩
  unfold rd_T95
  rw [show ((j : Int)).toNat = j by omega, List.getD_eq_getElem?_getD, List.getElem?_eq_getElem hj]
  rfl
theorem pg_find (l : List S95) (hM : MOK l = true) (a : Int) (ha0 : -9223372036854775808 ≤ a) (ha : a ≤ 9223372036854775807) (d : Nat) : ∀ i : Int, 0 ≤ i → (l.length : Int) - i = d → (∀ j : Nat, (j : Int) < i → decide ((rd_T95 l j).f0 ≤ a ∧ a < (rd_T95 l j).f0 + 256) = false) →
    Ev (fun k => spec_l02Find.l0 k a i l) (pg l a) := by
  induction d with
  | zero =>
    intro i h0 h1 hno
    refine Ev.step (fun k => by simp only [spec_l02Find.l0]; exact rfl) (evNeg (by omega) (evEq (evR (-1)) ?_))
    exact (firstAt_miss (d := z95) (fun j hj => hno j (by omega))).symm
  | succ d ih =>
    intro i h0 h1 hno
    have hlt : i < (l.length : Int) := by omega
    have hP := MOK_at hM h0 hlt
    have hb := hP.1
    have hlen := MOK_len hM
    have hw : wrap64 (i + 1) = i + 1 := w64 (by omega) (by omega)
    refine Ev.step (fun k => by simp only [spec_l02Find.l0]; exact rfl) (evPos hlt (evPos h0 (evIte (fun c => ?_) (fun c => ?_))))
    · have hw2 : wrap64 (a - (rd_T95 l i).f0) = a - (rd_T95 l i).f0 := w64 (by omega) (by omega)
      rw [hw2]
      refine evIte (fun c2 => ?_) (fun c2 => ?_)
      · refine evEq (evR i) ?_
        have := firstAt_hit (p := fun p : S95 => decide (p.f0 ≤ a ∧ a < p.f0 + 256)) (l := l) (d := z95) (i := i.toNat) (by omega) (decide_eq_true ⟨c, by have : a - (rd_T95 l i).f0 < 256 := c2; show a < (rd_T95 l i).f0 + 256; omega⟩) (fun j hj => hno j (by omega))
        unfold pg
        rw [this]
        omega
      · rw [hw]
        refine ih (i + 1) (by omega) (by omega) (fun j hj => ?_)
        by_cases e : (j : Int) = i
        · rw [e]; exact decide_eq_false (by omega)
        · exact hno j (by omega)
    · rw [hw]
      refine ih (i + 1) (by omega) (by omega) (fun j hj => ?_)
      by_cases e : (j : Int) = i
      · rw [e]; exact decide_eq_false (by omega)
      · exact hno j (by omega)
theorem sfind_ev (l : List S95) (hM : MOK l = true) (a : Int) (ha0 : -9223372036854775808 ≤ a) (ha : a ≤ 9223372036854775807) : Ev (fun k => spec_l02Find.f k l a) (pg l a) :=
  pg_find l hM a ha0 ha l.length 0 (by omega) (by omega) (fun j hj => absurd hj (by omega))
theorem ipage (l : List S95) (hM : MOK l = true) (a : Int) (ha0 : -9223372036854775808 ≤ a) (ha : a ≤ 9223372036854775807) : impl_Memory_pageOf.f l a = some (pg l a) := by
  unfold impl_Memory_pageOf.f pg
  congr 1
  by_cases c : 0 ≤ a ∧ a ≤ 65535
  · rw [if_pos c]
    refine firstAt_congr (fun x hx => ?_)
    obtain ⟨i, hi0, hi1, rfl⟩ := mem_rd hx
    have hb := (MOK_at hM hi0 hi1).1
    rw [Int.tmod_eq_emod_of_nonneg c.1, w64 (by omega) (by omega), Bool.eq_iff_iff]
    simp only [beq_iff_eq, decide_eq_true_eq]
    omega
  · rw [if_neg c]
    refine (firstAt_miss (d := z95) (fun j hj => ?_)).symm
    have hb := (MOK_at hM (i := (j : Int)) (by omega) (by omega)).1
    have e : l.getD j z95 = rd_T95 l j := by unfold rd_T95; rw [show ((j : Int)).toNat = j by omega]
    rw [e]
    exact decide_eq_false (by omega)
theorem pg_ge (l : List S95) (a : Int) : -1 ≤ pg l a ∧ pg l a < l.length := firstAt_ge _ _

theorem eqPage_refl (a b : Int) (c : ByteArray) : laws_eqPage.f a b c a b c = some true := by unfold laws_eqPage.f; simp
theorem eqPageS_ev (l : List S95) (hl : l.length ≤ 1048576) (d : Nat) : ∀ i : Int, 0 ≤ i → (l.length : Int) - i = d → Ev (fun k => laws_eqPageS.l0 k l l i) true := by
  induction d with
  | zero =>
    intro i h0 h1
    exact Ev.step (fun k => by simp only [laws_eqPageS.l0]; exact rfl) (evNeg (by omega) (evR _))
  | succ d ih =>
    intro i h0 h1
    have hlt : i < (l.length : Int) := by omega
    refine Ev.step (fun k => by simp only [laws_eqPageS.l0]; exact rfl) (evPos hlt (evPos h0 (evPos hlt ?_)))
    refine evB (eqPage_refl _ _ _) (evPos rfl ?_)
    rw [w64 (n := i + 1) (by omega) (by omega)]
    exact ih (i + 1) (by omega) (by omega)
theorem eqMem_ev (l : List S95) (hl : l.length ≤ 1048576) : Ev (fun k => laws_eqMemory.f k l l) true := by
  refine Ev.bind (a := true) ?_ (evPos rfl (evR _))
  exact evPos (c := (l.length : Int) = (l.length : Int)) rfl (eqPageS_ev l hl l.length 0 (by omega) (by omega))

theorem span_loop (l : List S95) (hM : MOK l = true) (o p : Int) (n : Int) (ho : 0 ≤ o ∧ o ≤ 4096) (hn : 0 ≤ n ∧ n ≤ 4096 - o) (d : Nat) : ∀ i : Int, 0 ≤ i → n - i = d →
    ∃ c : Int, Ev (fun k => spec_l02Fault.l0 k (16384 + o) n p i l) c ∧ Ev (fun k => impl_Memory_hasSpan.l0 k o p n i l) (c == 0) := by
  induction d with
  | zero =>
    intro i h0 h1
    exact ⟨0, Ev.step (fun k => by simp only [spec_l02Fault.l0]; exact rfl) (evNeg (by omega) (evR _)), Ev.step (fun k => by simp only [impl_Memory_hasSpan.l0]; exact rfl) (evNeg (by omega) (evR _))⟩
  | succ d ih =>
    intro i h0 h1
    have hlt : i < n := by omega
    have hw : wrap64 (i + 1) = i + 1 := w64 (by omega) (by omega)
    have hw1 : wrap64 (16384 + o + i) = 16384 + o + i := w64 (by omega) (by omega)
    have hw2 : wrap64 (16384 + o) = 16384 + o := w64 (by omega) (by omega)
    have hw3 : wrap64 (-n) = -n := w64 (by omega) (by omega)
    have hf := sfind_ev l hM (16384 + o + i) (by omega) (by omega)
    have hg := ipage l hM (16384 + o + i) (by omega) (by omega)
    obtain ⟨c, hs, hi⟩ := ih (i + 1) (by omega) (by omega)
    have hge := pg_ge l (16384 + o + i)
    have S : ∀ {c : Int}, Ev (fun k => if pg l (16384 + o + i) < 0 then some 13 else (if 0 ≤ pg l (16384 + o + i) then (if pg l (16384 + o + i) < (l.length : Int) then (if (Go.bits .and .i64 ((rd_T95 l (pg l (16384 + o + i))).f1) p) = 0 then (some 14) else (spec_l02Fault.l0 k (16384 + o) n p (wrap64 (i + 1)) l)) else none) else none)) c → Ev (fun k => spec_l02Fault.l0 k (16384 + o) n p i l) c := by
      intro c h
      refine Ev.step (fun k => by simp only [spec_l02Fault.l0]; exact rfl) (evPos hlt ?_)
      rw [hw1, hw3]
      exact evB (sin _ _ _) (evPos (IN_true.2 (by omega)) (Ev.bind hf h))
    have I : ∀ {c : Bool}, Ev (fun k => if pg l (16384 + o + i) < 0 then some false else (if 0 ≤ pg l (16384 + o + i) then (if pg l (16384 + o + i) < (l.length : Int) then (if (Go.bits .and .i64 ((rd_T95 l (pg l (16384 + o + i))).f1) p) = 0 then (some false) else (impl_Memory_hasSpan.l0 k o p n (wrap64 (i + 1)) l)) else none) else none)) c → Ev (fun k => impl_Memory_hasSpan.l0 k o p n i l) c := by
      intro c h
      refine Ev.step (fun k => by simp only [impl_Memory_hasSpan.l0]; exact rfl) (evPos hlt ?_)
      rw [hw2, hw1]
      exact evB hg h
    by_cases c1 : pg l (16384 + o + i) < 0
    · exact ⟨13, S (evPos c1 (evR _)), I (evPos c1 (evR _))⟩
    · by_cases c2 : (Go.bits .and .i64 ((rd_T95 l (pg l (16384 + o + i))).f1) p) = 0
      · exact ⟨14, S (evNeg c1 (evPos (by omega) (evPos (by omega) (evPos c2 (evR _))))), I (evNeg c1 (evPos (by omega) (evPos (by omega) (evPos c2 (evR _)))))⟩
      · rw [hw] at S I
        exact ⟨c, S (evNeg c1 (evPos (by omega) (evPos (by omega) (evNeg c2 hs)))), I (evNeg c1 (evPos (by omega) (evPos (by omega) (evNeg c2 hi))))⟩
theorem span_same (l : List S95) (hM : MOK l = true) (o n p : Int) (ho0 : -9223372036854775808 ≤ o) (ho : o ≤ 9223372036854775807) : ∃ r, Ev (fun k => spec_l12Span.f k l o n p) r ∧ Ev (fun k => impl_Memory_hasSpan.f k l o n p) r := by
  cases h1 : IN o 0 4096 with
  | false =>
    refine ⟨false, evB (by rw [sin, h1]) (evNeg (by decide) (evR _)), evB (by rw [iin, h1]) (evNeg (by decide) ?_)⟩
    exact Ev.step (fun k => by simp only [impl_Memory_hasSpan.j0]; exact rfl) (evPos (by trivial) (evR _))
  | true =>
    have h1' := IN_true.1 h1
    have hw : wrap64 (4096 - o) = 4096 - o := w64 (by omega) (by omega)
    have hw2 : wrap64 (16384 + o) = 16384 + o := w64 (by omega) (by omega)
    cases h2 : IN n 0 (4096 - o) with
    | false =>
      refine ⟨false, evB (by rw [sin, h1]) (evPos rfl (evB (by rw [sin, hw, h2]) (evNeg (by decide) (evR _)))), evB (by rw [iin, h1]) (evPos rfl (evB (by rw [iin, hw, h2]) ?_))⟩
      exact Ev.step (fun k => by simp only [impl_Memory_hasSpan.j0]; exact rfl) (evPos (by trivial) (evR _))
    | true =>
      have h2' := IN_true.1 h2
      obtain ⟨c, hs, hi⟩ := span_loop l hM o p n h1' h2' n.toNat 0 (by omega) (by omega)
      refine ⟨c == 0, evB (by rw [sin, h1]) (evPos rfl (evB (by rw [sin, hw, h2]) (evPos rfl ?_))), evB (by rw [iin, h1]) (evPos rfl (evB (by rw [iin, hw, h2]) ?_))⟩
      · rw [hw2]
        exact Ev.bind (a := c) hs (evR _)
      · exact Ev.step (fun k => by simp only [impl_Memory_hasSpan.j0]; exact rfl) (evNeg (by decide) hi)
theorem SpanOK_same (l : List S95) (hl : l.length ≤ 1048576) (o n p : Int) (ho0 : -9223372036854775808 ≤ o) (ho : o ≤ 9223372036854775807) : ∃ r, Ev (fun k => spec_SpanOK.f k l o n p) r ∧ Ev (fun k => impl_SpanOK.f k l o n p) r := by
  have hs := sMemOK_ev l hl
  have hi := iMemOK_ev l hl
  cases hM : MOK l with
  | false =>
    rw [hM] at hs hi
    exact ⟨(false, 1), Ev.bind hs (evNeg (by decide) (evR _)), Ev.bind hi (evNeg (by decide) (evR _))⟩
  | true =>
    rw [hM] at hs hi
    cases hp : IN p 0 7 with
    | false =>
      exact ⟨(false, 4), Ev.bind hs (evPos rfl (evB (by rw [sperm, hp]) (evNeg (by decide) (evR _)))), Ev.bind hi (evPos rfl (evB (by rw [iperm, hp]) (evNeg (by decide) (evR _))))⟩
    | true =>
      obtain ⟨r, h1, h2⟩ := span_same l hM o n p ho0 ho
      exact ⟨(r, 0), Ev.bind hs (evPos rfl (evB (by rw [sperm, hp]) (evPos rfl (Ev.bind h1 (evR _))))), Ev.bind hi (evPos rfl (evB (by rw [iperm, hp]) (evPos rfl (Ev.bind h2 (evR _)))))⟩
theorem FnExactSpanOK : laws_FnExactSpanOK.Pure := by
  intro x o n p ok ho hn hp
  have hb := wf64 ho
  refine Ev.rounds (g := fun k => laws_FnExactSpanOK.f k x.f0 o n p) ?_
  obtain ⟨r, hr, hlen⟩ := szMem_ev x.f0 ok.1 (fun y hy => (ok.2 y hy).2.2)
  by_cases c : r < 0
  · exact Ev.bind hr (evPos c (evR _))
  · have hl := hlen (by omega)
    have hm := toMem_ev x.f0 hl
    have hl2 : (x.f0.map cvP).length ≤ 1048576 := by rw [List.length_map]; exact hl
    obtain ⟨q, hs, hi⟩ := SpanOK_same (x.f0.map cvP) hl2 o n p hb.1 hb.2
    refine Ev.bind hr (evNeg c (Ev.bind hm (Ev.bind hs (Ev.bind hm (Ev.bind hi (evNeg (by simp) ?_))))))
    refine Ev.step (fun k => by simp only [laws_FnExactSpanOK.j0]; exact rfl) (evNeg (by simp) ?_)
    exact Ev.bind hm (Ev.bind (eqMem_ev _ hl2) (evPos rfl (evR _)))

end Go.Proofs.Ytoohimpbckpiaaa.Pure

/- The program's CheckImage tells what the reference's tells, for every image. No condition. -/
import Derived.Test.YtoohimpbckpiaaaPFnExactCheckImagex0
import Derived.Test.YtoohimpbckpiaaaPFnExactCheckImagex1
import Derived.Test.YtoohimpbckpiaaaPFnExactCheckImagex2
import Derived.Test.YtoohimpbckpiaaaPFnExactCheckImagex3
import Derived.Test.YtoohimpbckpiaaaPFnExactCheckImagex4
import Derived.Test.YtoohimpbckpiaaaPFnExactCheckImagex5
import Derived.Test.YtoohimpbckpiaaaPFnExactCheckImagex6
import Derived.Test.YtoohimpbckpiaaaPFnExactCheckImagex7
import Derived.Test.YtoohimpbckpiaaaPFnExactCheckImagex8
import Derived.Test.YtoohimpbckpiaaaNNum
namespace Go.Proofs.Ytoohimpbckpiaaa.Pure
open Go.RowKit Go.Proofs.Ytoohimpbckpiaaa.PFnExactCheckImage Go.Proofs.YtoohimpbckpiaaaW.PrintWords Go.Proofs.YtoohimpbckpiaaaW.PrintLast Go.Proofs.YtoohimpbckpiaaaW.PrintMore Go.Proofs.Ytoohimpbckpiaaa.Num
set_option linter.unusedSimpArgs false
set_option linter.unusedVariables false

theorem evPos {α : Type} {c : Prop} [Decidable c] {g f : Nat → Option α} {r : α} (h : c) (k : Ev g r) : Ev (fun n => if c then g n else f n) r := Ev.congr (fun _ => if_pos h) k
theorem evNeg {α : Type} {c : Prop} [Decidable c] {g f : Nat → Option α} {r : α} (h : ¬ c) (k : Ev f r) : Ev (fun n => if c then g n else f n) r := Ev.congr (fun _ => if_neg h) k
theorem evIte {α : Type} {c : Prop} [Decidable c] {g f : Nat → Option α} {r : α} (h : c → Ev g r) (k : ¬ c → Ev f r) : Ev (fun n => if c then g n else f n) r := by
  by_cases hc : c
  · exact evPos hc (h hc)
  · exact evNeg hc (k hc)
/-- A call that needs no rounds. -/
theorem evB {α β : Type} {o : Option α} {f : Nat → α → Option β} {a : α} {r : β} (h : o = some a) (k : Ev (fun n => f n a) r) : Ev (fun n => o.bind (f n)) r := Ev.congr (fun _ => by rw [h]; rfl) k
theorem evR {α : Type} (r : α) : Ev (fun _ => some r) r := Ev.now r
theorem evEq {α : Type} {g : Nat → Option α} {r r' : α} (h : Ev g r) (e : r = r') : Ev g r' := e ▸ h

def IN (a b c : Int) : Bool := decide (b ≤ a) && decide (a ≤ c)
theorem sin (a b c : Int) : spec_l01In.f a b c = some (IN a b c) := by
  unfold spec_l01In.f IN
  by_cases h : a ≥ b
  · rw [if_pos h]; simp [show b ≤ a from h]
  · rw [if_neg h]; simp [show ¬ b ≤ a from h]
theorem iin (a b c : Int) : impl_within.f a b c = some (IN a b c) := sin a b c
theorem IN_true {a b c : Int} : IN a b c = true ↔ b ≤ a ∧ a ≤ c := by unfold IN; simp
theorem IN_false {a b c : Int} : IN a b c = false ↔ ¬ (b ≤ a ∧ a ≤ c) := by unfold IN; simp

theorem rds_mem {l : List S85} {i : Int} (h0 : 0 ≤ i) (h1 : i < l.length) : rd_T85 l i ∈ l := by
  unfold rd_T85
  rw [List.getD_eq_getElem?_getD, List.getElem?_eq_getElem (by omega : i.toNat < l.length)]
  exact List.getElem_mem _
theorem rdm_mem {l : List S100} {i : Int} (h0 : 0 ≤ i) (h1 : i < l.length) : rd_T100 l i ∈ l := by
  unfold rd_T100
  rw [List.getD_eq_getElem?_getD, List.getElem?_eq_getElem (by omega : i.toNat < l.length)]
  exact List.getElem_mem _
theorem szSeg_ev (l : List S100) (hl : l.length ≤ 9223372036854775807) (hs : ∀ x ∈ l, x.f3.size ≤ 9223372036854775807) (d : Nat) : ∀ (left i : Int), 0 ≤ left → left ≤ 1048576 → 0 ≤ i → (l.length : Int) - i = d → ∃ r, Ev (fun k => laws_szSegmentS.l0 k l left i) r ∧ r ≤ 1048576 ∧ (0 ≤ r → ∀ j : Nat, i ≤ j → j < l.length → (rd_T100 l j).f3.size ≤ 1048576) := by
  induction d with
  | zero =>
    intro left i h0 h1 h2 h3
    exact ⟨left, Ev.step (fun k => by simp only [laws_szSegmentS.l0]; exact rfl) (evNeg (by omega) (evR _)), h1, fun _ j hj1 hj2 => by omega⟩
  | succ d ih =>
    intro left i h0 h1 h2 h3
    have hlt : i < (l.length : Int) := by omega
    have hz := hs _ (rdm_mem h2 hlt)
    have hw : wrap64 (i + 1) = i + 1 := w64 (by omega) (by omega)
    generalize hsz : ((rd_T100 l i).f3.size : Int) = z
    have hz0 : 0 ≤ z ∧ z ≤ 9223372036854775807 := by omega
    have hw2 : wrap64 (left - z) = left - z := w64 (by omega) (by omega)
    by_cases c : left - z < 0
    · refine ⟨-1, Ev.step (fun k => by simp only [laws_szSegmentS.l0]; exact rfl) (evPos hlt (evPos h2 ?_)), by omega, fun h => by omega⟩
      refine evB (a := -1) (by unfold laws_szSegment.f; rw [hsz, hw2, if_pos c]) (evPos (by omega) (evR _))
    · obtain ⟨r, hr, hr1, hr2⟩ := ih (left - z) (i + 1) (by omega) (by omega) (by omega) (by omega)
      refine ⟨r, Ev.step (fun k => by simp only [laws_szSegmentS.l0]; exact rfl) (evPos hlt (evPos h2 ?_)), hr1, fun h j hj1 hj2 => ?_⟩
      · refine evB (a := left - z) (by unfold laws_szSegment.f; rw [hsz, hw2, if_neg c]) (evNeg c ?_)
        rw [hw]; exact hr
      · by_cases e : (j : Int) = i
        · rw [e]; omega
        · exact hr2 h j (by omega) hj2
theorem szImg_ev (a : Int) (l : List S100) (hl : l.length ≤ 9223372036854775807) (hs : ∀ x ∈ l, x.f3.size ≤ 9223372036854775807) : ∃ r, Ev (fun k => laws_szImage.f k a l 1048576) r ∧ (0 ≤ r → l.length ≤ 1048576 ∧ ∀ j : Nat, j < l.length → (rd_T100 l j).f3.size ≤ 1048576) := by
  have hw : wrap64 (1048576 - (l.length : Int)) = 1048576 - (l.length : Int) := w64 (by omega) (by omega)
  by_cases c : (1048576 - (l.length : Int)) < 0
  · refine ⟨-1, ?_, fun h => by omega⟩
    exact Ev.bind (a := -1) (evPos (by rw [hw]; exact c) (evR _)) (evPos (by omega) (evR _))
  · obtain ⟨r, hr, hr1, hr2⟩ := szSeg_ev l hl hs l.length (1048576 - (l.length : Int)) 0 (by omega) (by omega) (by omega) (by omega)
    by_cases c2 : r < 0
    · refine ⟨-1, ?_, fun h => by omega⟩
      exact Ev.bind (a := r) (evNeg (by rw [hw]; exact c) (by rw [hw]; exact hr)) (evPos c2 (evR _))
    · refine ⟨r, ?_, fun h => ⟨by omega, fun j hj => hr2 h j (by omega) hj⟩⟩
      exact Ev.bind (a := r) (evNeg (by rw [hw]; exact c) (by rw [hw]; exact hr)) (evNeg c2 (evR _))
/-- The segment that a mirror tells. -/
def cvS (x : S100) : S85 := ⟨x.f0, x.f1, x.f2, x.f3⟩
theorem toSeg_ev (l : List S100) (hl : l.length ≤ 1048576) (d : Nat) : ∀ (xs : List S85) (i : Nat), xs.length = l.length → xs.take i = (l.take i).map cvS → l.length - i = d → i ≤ l.length → Ev (fun k => laws_toSegmentS.l0 k l xs (i : Int)) (l.map cvS) := by
  induction d with
  | zero =>
    intro xs i hx ht hd hi
    have e : xs = l.map cvS := by
      rw [List.take_of_length_le (by omega), List.take_of_length_le (by omega)] at ht
      exact ht
    exact Ev.step (fun k => by simp only [laws_toSegmentS.l0]; exact rfl) (evNeg (by omega) (evEq (evR xs) e))
  | succ d ih =>
    intro xs i hx ht hd hi
    have hlt : i < l.length := by omega
    refine Ev.step (fun k => by simp only [laws_toSegmentS.l0]; exact rfl) (evPos (by omega) (evPos (by omega) ?_))
    refine evB rfl (evPos (by omega) ?_)
    rw [w64 (n := (i : Int) + 1) (by omega) (by omega), show (i : Int) + 1 = ((i + 1 : Nat) : Int) by omega, show (i : Int).toNat = i by omega]
    refine ih _ (i + 1) (by rw [List.length_set]; exact hx) ?_ (by omega) (by omega)
    rw [List.take_succ_eq_append_getElem (by rw [List.length_set]; omega), List.take_succ_eq_append_getElem hlt, List.map_append, List.take_set_of_le (Nat.le_refl i), ht]
    congr 1
    simp only [List.getElem_set_self, List.map_cons, List.map_nil]
    congr 1
    unfold rd_T100 cvS
    rw [show ((i : Int)).toNat = i by omega, List.getD_eq_getElem?_getD, List.getElem?_eq_getElem hlt]
    rfl
theorem toImg_ev (a : Int) (l : List S100) (hl : l.length ≤ 1048576) : Ev (fun k => laws_toImage.f k a l) (a, l.map cvS) := by
  refine Ev.bind (a := l.map cvS) ?_ (evR _)
  refine evPos (by omega) (evPos (by omega) ?_)
  exact toSeg_ev l hl l.length _ 0 (by simp) (by simp) (by omega) (by omega)
theorem eqSeg_refl (a b c : Int) (d : ByteArray) : laws_eqSegment.f a b c d a b c d = some true := by unfold laws_eqSegment.f; simp
theorem eqSegS_ev (l : List S85) (hl : l.length ≤ 1048576) (d : Nat) : ∀ i : Int, 0 ≤ i → (l.length : Int) - i = d → Ev (fun k => laws_eqSegmentS.l0 k l l i) true := by
  induction d with
  | zero =>
    intro i h0 h1
    exact Ev.step (fun k => by simp only [laws_eqSegmentS.l0]; exact rfl) (evNeg (by omega) (evR _))
  | succ d ih =>
    intro i h0 h1
    have hlt : i < (l.length : Int) := by omega
    refine Ev.step (fun k => by simp only [laws_eqSegmentS.l0]; exact rfl) (evPos hlt (evPos h0 (evPos hlt ?_)))
    refine evB (eqSeg_refl _ _ _ _) (evPos rfl ?_)
    rw [w64 (n := i + 1) (by omega) (by omega)]
    exact ih (i + 1) (by omega) (by omega)
theorem eqImg_ev (a : Int) (l : List S85) (hl : l.length ≤ 1048576) : Ev (fun k => laws_eqImage.f k a l a l) true := by
  refine evPos (c := a = a) rfl (Ev.bind (a := true) ?_ (evPos rfl (evR _)))
  exact evPos (c := (l.length : Int) = (l.length : Int)) rfl (eqSegS_ev l hl l.length 0 (by omega) (by omega))

/-- The code of a segment that stands behind others: where it may begin at first, and whether one that can be run stands ahead. -/
def sc (first : Int) (had : Bool) (s : S85) : Int :=
  if s.f0 ≠ 4 ∧ s.f0 ≠ 5 ∧ s.f0 ≠ 6 then 14
  else if ¬ (Int.tmod s.f1 256 = 0 ∧ (first ≤ s.f1 ∧ s.f1 ≤ 3583) ∧ (1 ≤ s.f2 ∧ s.f2 ≤ 3584 - s.f1) ∧ (s.f3.size : Int) ≤ s.f2) then 31
  else if s.f0 = 5 ∧ (had = true ∨ (s.f3.size : Int) ≠ s.f2 ∨ Int.tmod s.f2 32 ≠ 0) then 28 else 0
def up (n : Int) : Int := (n + 255) / 256 * 256
def endOf (s : S85) : Int := s.f1 + up s.f2
def isRun (s : S85) : Bool := s.f0 == 5
def hadR (l : List S85) (i : Nat) : Bool := (l.take i).any isRun
def fst_ (l : List S85) (i : Nat) : Int := if i = 0 then 512 else endOf (rd_T85 l ((i : Int) - 1))
theorem sc_zero {first : Int} {had : Bool} {s : S85} (h : sc first had s = 0) : (s.f0 = 4 ∨ s.f0 = 5 ∨ s.f0 = 6) ∧ Int.tmod s.f1 256 = 0 ∧ (first ≤ s.f1 ∧ s.f1 ≤ 3583) ∧ (1 ≤ s.f2 ∧ s.f2 ≤ 3584 - s.f1) ∧ (s.f3.size : Int) ≤ s.f2 ∧ (s.f0 = 5 → had = false ∧ (s.f3.size : Int) = s.f2 ∧ Int.tmod s.f2 32 = 0) := by
  unfold sc at h
  split at h
  · cases h
  · split at h
    · cases h
    · rename_i h1 h2
      split at h
      · cases h
      · rename_i h3
        have h2' := Decidable.not_not.1 h2
        refine ⟨by omega, h2'.1, h2'.2.1, h2'.2.2.1, h2'.2.2.2, fun h5 => ?_⟩
        have h4 : ¬ (had = true ∨ (s.f3.size : Int) ≠ s.f2 ∨ Int.tmod s.f2 32 ≠ 0) := fun z => h3 ⟨h5, z⟩
        refine ⟨?_, ?_, ?_⟩
        · cases had
          · rfl
          · exact absurd (.inl rfl) h4
        · exact Decidable.byContradiction fun z => h4 (.inr (.inl z))
        · exact Decidable.byContradiction fun z => h4 (.inr (.inr z))
theorem firstAt_any {α : Type} (p : α → Bool) (l : List α) : (0 ≤ firstAt p l) ↔ l.any p = true := by
  unfold firstAt
  cases h : l.findIdx? p with
  | none =>
    have := List.findIdx?_eq_none_iff.1 h
    constructor
    · intro h2; exact absurd h2 (by decide)
    · intro h2
      obtain ⟨x, hx, hp⟩ := List.any_eq_true.1 h2
      rw [this x hx] at hp; cases hp
  | some i =>
    obtain ⟨hi, hp, _⟩ := List.findIdx?_eq_some_iff_getElem.1 h
    constructor
    · intro _; exact List.any_eq_true.2 ⟨_, List.getElem_mem hi, hp⟩
    · intro _; exact Int.natCast_nonneg i
theorem rds_take {l : List S85} {i : Nat} (hi : i ≤ l.length) (h0 : 0 < i) : rd_T85 (l.take i) ((i : Int) - 1) = rd_T85 l ((i : Int) - 1) := by
  unfold rd_T85
  rw [List.getD_eq_getElem?_getD, List.getD_eq_getElem?_getD, List.getElem?_take_of_lt (by omega)]
theorem hadR_succ {l : List S85} {i : Nat} (hi : i < l.length) : hadR l (i + 1) = (hadR l i || isRun (rd_T85 l i)) := by
  unfold hadR
  rw [List.take_succ_eq_append_getElem hi, List.any_append]
  congr 1
  simp only [List.any_cons, List.any_nil, Bool.or_false]
  congr 1
  unfold rd_T85
  rw [show ((i : Int)).toNat = i by omega, List.getD_eq_getElem?_getD, List.getElem?_eq_getElem hi]
  rfl
theorem pages_val (n : Int) (h0 : 0 ≤ n) (h1 : n ≤ 4611686018427387904) : impl_pages.f n = some (up n) := by
  unfold impl_pages.f up
  rw [w64 (n := n + 256) (by omega) (by omega), w64 (n := n + 256 - 1) (by omega) (by omega), Int.tdiv_eq_ediv_of_nonneg (by omega)]
  rw [w64 (n := (n + 256 - 1) / 256) (by omega) (by omega), w64 (by omega) (by omega)]
  congr 3
  omega
theorem end_val (a v m : Int) (t : ByteArray) (h0 : 0 ≤ m) (h1 : m ≤ 3584) (h2 : 0 ≤ v) (h3 : v ≤ 3584) : impl_Segment_end.f a v m t = some (v + up m) := by
  unfold impl_Segment_end.f
  rw [pages_val m h0 (by omega)]
  simp only [Option.bind_some]
  rw [w64 (by unfold up; omega) (by unfold up; omega)]
theorem irun_val (l : List S85) : impl_runSegment.f l = some (firstAt isRun l) := rfl
/-- From the test of the flags on. -/
theorem iseg0_ev (l : List S85) (first : Int) (hf : 0 ≤ first) (s : S85) : Ev (fun k => impl_segmentCode.j0 k l first s.f0 s.f1 s.f2 s.f3) (sc first (l.any isRun) s) := by
  have J2 : ∀ b : Bool, b = true → Ev (fun k => impl_segmentCode.j2 k l b s.f0 s.f1 s.f2 s.f3) 31 := by
    intro b hb
    exact Ev.step (fun k => by simp only [impl_segmentCode.j2]; exact rfl) (evPos hb (evR _))
  have J1 : ∀ b : Bool, b = decide (s.f0 ≠ 4 ∧ s.f0 ≠ 5 ∧ s.f0 ≠ 6) → Ev (fun k => impl_segmentCode.j1 k l first b s.f0 s.f1 s.f2 s.f3) (sc first (l.any isRun) s) := by
    intro b hb
    refine Ev.step (fun k => by simp only [impl_segmentCode.j1]; exact rfl) (evIte (fun h => ?_) (fun h => ?_))
    · refine evEq (evR _) ?_
      rw [hb] at h
      unfold sc
      rw [if_pos (of_decide_eq_true h)]
    · rw [hb] at h
      have h' : ¬ (s.f0 ≠ 4 ∧ s.f0 ≠ 5 ∧ s.f0 ≠ 6) := fun z => h (decide_eq_true z)
      by_cases c : (Int.tmod s.f1 256 = 0 ∧ (first ≤ s.f1 ∧ s.f1 ≤ 3583) ∧ (1 ≤ s.f2 ∧ s.f2 ≤ 3584 - s.f1) ∧ (s.f3.size : Int) ≤ s.f2)
      · have e : sc first (l.any isRun) s = if s.f0 = 5 ∧ (l.any isRun = true ∨ (s.f3.size : Int) ≠ s.f2 ∨ Int.tmod s.f2 32 ≠ 0) then 28 else 0 := by
          unfold sc
          rw [if_neg h', if_neg (Decidable.not_not.2 c)]
        refine evPos c.1 (evB (iin _ _ _) (evPos (IN_true.2 c.2.1) (evB (iin _ _ _) (evPos (IN_true.2 ?_) ?_))))
        · rw [w64 (n := 3584 - s.f1) (by omega) (by omega)]; exact c.2.2.1
        refine Ev.step (fun k => by simp only [impl_segmentCode.j2]; exact rfl) (evNeg (by simpa using c.2.2.2) ?_)
        refine evIte (fun h5 => ?_) (fun h5 => ?_)
        · refine evB (irun_val l) ?_
          refine evIte (fun hg => ?_) (fun hg => ?_)
          · refine evEq (evR _) ?_
            rw [e, if_pos ⟨h5, .inl ((firstAt_any _ _).1 hg)⟩]
          · have hg' : l.any isRun = false := by
              cases hq : l.any isRun
              · rfl
              · exact absurd ((firstAt_any _ _).2 hq) hg
            refine evIte (fun hz => ?_) (fun hz => ?_)
            · refine evIte (fun hm => ?_) (fun hm => ?_)
              · refine evEq (evR _) ?_
                rw [e, if_neg]
                rintro ⟨_, h1 | h1 | h1⟩
                · rw [hg'] at h1; cases h1
                · exact h1 hz
                · exact h1 hm
              · refine evEq (evR _) ?_
                rw [e, if_pos ⟨h5, .inr (.inr hm)⟩]
            · refine evEq (evR _) ?_
              rw [e, if_pos ⟨h5, .inr (.inl hz)⟩]
        · refine evEq (evR _) ?_
          rw [e, if_neg (fun z => h5 z.1)]
      · have e : sc first (l.any isRun) s = 31 := by
          unfold sc
          rw [if_neg h', if_pos c]
        rw [e]
        refine evIte (fun c1 => ?_) (fun c1 => J2 true rfl)
        refine evB (iin _ _ _) (evIte (fun c2 => ?_) (fun c2 => J2 true rfl))
        have c2' := IN_true.1 c2
        rw [w64 (n := 3584 - s.f1) (by omega) (by omega)]
        refine evB (iin _ _ _) (evIte (fun c3 => ?_) (fun c3 => J2 true rfl))
        refine J2 _ (decide_eq_true ?_)
        have c3' := IN_true.1 c3
        have : ¬ (s.f3.size : Int) ≤ s.f2 := fun z => c ⟨c1, c2', c3', z⟩
        omega
  refine Ev.step (fun k => by simp only [impl_segmentCode.j0]; exact rfl) (evIte (fun h4 => ?_) (fun h4 => evIte (fun h5 => ?_) (fun h5 => ?_)))
  · exact J1 false (by rw [decide_eq_false]; exact fun z => z.1 h4)
  · exact J1 false (by rw [decide_eq_false]; exact fun z => z.2.1 h5)
  · refine J1 _ ?_
    rw [Bool.eq_iff_iff]; simp [h4, h5]
/-- What is known of the segments that went through. -/
def Passed (l : List S85) (i : Nat) : Prop := ∀ j : Nat, j < i → sc (fst_ l j) (hadR l j) (rd_T85 l j) = 0
theorem fst_nonneg {l : List S85} : ∀ {i : Nat}, Passed l i → 512 ≤ fst_ l i ∧ fst_ l i ≤ 7168
  | 0, _ => by unfold fst_; simp
  | i + 1, h => by
    have hi := sc_zero (h i (Nat.lt_succ_self i))
    have h0 := fst_nonneg (i := i) (fun j hj => h j (Nat.lt_succ_of_lt hj))
    unfold fst_
    rw [if_neg (by omega), show ((i + 1 : Nat) : Int) - 1 = (i : Int) by omega]
    unfold endOf up
    omega
theorem iseg_ev (l : List S85) (i : Nat) (hi : i ≤ l.length) (hl : l.length ≤ 1048576) (hp : Passed l i) (s : S85) : Ev (fun k => impl_segmentCode.f k s.f0 s.f1 s.f2 s.f3 (l.take i)) (sc (fst_ l i) (hadR l i) s) := by
  have hn := fst_nonneg hp
  have hlen : (l.take i).length = i := by rw [List.length_take]; omega
  by_cases h0 : i = 0
  · subst h0
    refine evNeg (by rw [hlen]; omega) ?_
    exact iseg0_ev (l.take 0) 512 (by omega) s
  · refine evPos (by rw [hlen]; omega) ?_
    rw [hlen, w64 (n := (i : Int) - 1) (by omega) (by omega)]
    refine evPos (by omega) (evPos (by omega) ?_)
    have hq := sc_zero (hp (i - 1) (by omega))
    have hq0 := fst_nonneg (i := i - 1) (fun j hj => hp j (by omega))
    rw [show (((i - 1 : Nat)) : Int) = (i : Int) - 1 by omega] at hq
    rw [rds_take hi (by omega)]
    refine evB (end_val _ _ _ _ (by omega) (by omega) (by omega) (by omega)) ?_
    have e : fst_ l i = (rd_T85 l ((i : Int) - 1)).f1 + up (rd_T85 l ((i : Int) - 1)).f2 := by unfold fst_; rw [if_neg h0]; rfl
    rw [e] at hn ⊢
    exact iseg0_ev (l.take i) _ (by omega) s
/-- The entry's test. -/
def entryC (a : Int) (l : List S85) : Int × Int :=
  if (rd_T85 l (firstAt isRun l)).f1 ≤ a ∧ a ≤ (rd_T85 l (firstAt isRun l)).f1 + (rd_T85 l (firstAt isRun l)).f2 - 1 ∧ Int.tmod a 32 = 0 then (0, 0) else (0, 32)
/-- The segments' code from segment i on. -/
def codes (l : List S85) : Nat → Nat → Int × Int
  | i, 0 => if hadR l i = true then (0, 0) else (0, 28)
  | i, d + 1 => if sc (fst_ l i) (hadR l i) (rd_T85 l i) = 0 then codes l (i + 1) d else ((i : Int), sc (fst_ l i) (hadR l i) (rd_T85 l i))
def CI (a : Int) (l : List S85) : Int × Int :=
  if l.length = 0 then (0, 5) else if l.length > 4 then (0, 6) else if (codes l 0 l.length).2 = 0 then entryC a l else codes l 0 l.length
theorem entry_bounds {l : List S85} (hp : Passed l l.length) (hr : hadR l l.length = true) : 0 ≤ firstAt isRun l ∧ firstAt isRun l < l.length ∧ 0 ≤ (rd_T85 l (firstAt isRun l)).f1 ∧ (rd_T85 l (firstAt isRun l)).f1 ≤ 3583 ∧ 1 ≤ (rd_T85 l (firstAt isRun l)).f2 ∧ (rd_T85 l (firstAt isRun l)).f2 ≤ 3584 := by
  have h0 : 0 ≤ firstAt isRun l := by
    rw [firstAt_any]
    unfold hadR at hr
    rwa [List.take_length] at hr
  have h1 := (firstAt_ge isRun l).2
  have hq := sc_zero (hp (firstAt isRun l).toNat (by omega))
  have hq0 := fst_nonneg (i := (firstAt isRun l).toNat) (fun j hj => hp j (by omega))
  rw [show (((firstAt isRun l).toNat : Nat) : Int) = firstAt isRun l by omega] at hq
  exact ⟨h0, h1, by omega, by omega, by omega, by omega⟩
theorem ientry_ev (a : Int) (l : List S85) (hp : Passed l l.length) : Ev (fun k => ((impl_runSegment.f l).bind fun t157 => (if t157 < 0 then (some ((0 : Int), (28 : Int))) else (if 0 ≤ t157 then (if t157 < (l.length : Int) then ((impl_within.f a ((rd_T85 l t157).f1) (wrap64 ((wrap64 (((rd_T85 l t157).f1) + ((rd_T85 l t157).f2))) - 1))).bind fun t160 => (if t160 = true then (if (Int.tmod a 32) = 0 then (some (0, 0)) else (some (0, 32))) else (some (0, 32)))) else (none)) else (none))))) (if hadR l l.length = true then entryC a l else (0, 28)) := by
  refine evB (irun_val l) ?_
  by_cases hr : hadR l l.length = true
  · obtain ⟨b0, b1, b2, b3, b4, b5⟩ := entry_bounds hp hr
    rw [if_pos hr]
    refine evNeg (by omega) (evPos b0 (evPos b1 ?_))
    rw [w64 (n := (rd_T85 l (firstAt isRun l)).f1 + (rd_T85 l (firstAt isRun l)).f2) (by omega) (by omega), w64 (by omega) (by omega)]
    refine evB (iin _ _ _) (evIte (fun c => ?_) (fun c => ?_))
    · have c' := IN_true.1 c
      refine evIte (fun c2 => ?_) (fun c2 => ?_)
      · refine evEq (evR _) ?_
        unfold entryC
        rw [if_pos ⟨c'.1, c'.2, c2⟩]
      · refine evEq (evR _) ?_
        unfold entryC
        rw [if_neg (fun z => c2 z.2.2)]
    · refine evEq (evR _) ?_
      unfold entryC
      rw [if_neg (fun z => c (IN_true.2 ⟨z.1, z.2.1⟩))]
  · rw [if_neg hr]
    refine evPos ?_ (evR _)
    have : ¬ 0 ≤ firstAt isRun l := by
      rw [firstAt_any]
      unfold hadR at hr
      rwa [List.take_length] at hr
    omega
theorem iloop_ev (a : Int) (l : List S85) (hl : l.length ≤ 1048576) (d : Nat) : ∀ i : Nat, i + d = l.length → Passed l i → Ev (fun k => impl_CheckImage.l0 k l (l.length : Int) (i : Int) a l) (if (codes l i d).2 = 0 then entryC a l else codes l i d) := by
  induction d with
  | zero =>
    intro i hi hp
    have e : i = l.length := by omega
    refine Ev.step (fun k => by simp only [impl_CheckImage.l0]; exact rfl) (evNeg (by omega) ?_)
    refine evEq (ientry_ev a l (e ▸ hp)) ?_
    subst e
    unfold codes
    by_cases hr : hadR l l.length = true <;> simp [hr]
  | succ d ih =>
    intro i hi hp
    refine Ev.step (fun k => by simp only [impl_CheckImage.l0]; exact rfl) (evPos (by omega) (evPos (by omega) (evPos (by omega) (evPos (by omega) ?_))))
    rw [show ((i : Int)).toNat = i by omega]
    refine Ev.bind (iseg_ev l i (by omega) hl hp (rd_T85 l i)) (evIte (fun c => ?_) (fun c => ?_))
    · rw [w64 (n := (i : Int) + 1) (by omega) (by omega), show (i : Int) + 1 = ((i + 1 : Nat) : Int) by omega]
      refine evEq (ih (i + 1) (by omega) ?_) ?_
      · intro j hj
        by_cases e : j = i
        · rw [e]; exact c
        · exact hp j (by omega)
      · rw [show codes l i (d + 1) = codes l (i + 1) d by rw [codes, if_pos c]]
    · refine evEq (evR _) ?_
      rw [show codes l i (d + 1) = ((i : Int), sc (fst_ l i) (hadR l i) (rd_T85 l i)) by rw [codes, if_neg c]]
      rw [if_neg c]
theorem iCI_ev (a : Int) (l : List S85) (hl : l.length ≤ 1048576) : Ev (fun k => impl_CheckImage.f k a l) (CI a l) := by
  refine evIte (fun h => ?_) (fun h => evIte (fun h2 => ?_) (fun h2 => ?_))
  · refine evEq (evR _) ?_
    unfold CI
    rw [if_pos (by omega)]
  · refine evEq (evR _) ?_
    unfold CI
    rw [if_neg (by omega), if_pos (by omega)]
  · have e : CI a l = if (codes l 0 l.length).2 = 0 then entryC a l else codes l 0 l.length := by
      unfold CI
      rw [if_neg (by omega), if_neg (by omega)]
    rw [e]
    exact iloop_ev a l hl l.length 0 (by omega) (fun j hj => absurd hj (Nat.not_lt_zero _))
-- the reference
theorem up_loop (b x5 x6 a : Int) (l : List S85) (r : Int × Int) (v m : Int) (hv : Int.tmod v 256 = 0) (hv0 : 0 ≤ v ∧ v ≤ 3584) (hm : 1 ≤ m ∧ m ≤ 3584) (d : Nat) : ∀ t : Int, v + m ≤ t → t ≤ v + up m → v + up m - t = d →
    Ev (fun k => spec_l10Segments.l0 k (v + up m) x5 (wrap64 (x6 + 1)) a l) r → Ev (fun k => spec_l10Segments.l1 k t x5 x6 a l) r := by
  have hv' : v % 256 = 0 := by rw [Int.tmod_eq_emod_of_nonneg hv0.1] at hv; exact hv
  induction d with
  | zero =>
    intro t h0 h1 h2 h3
    have e : t = v + up m := by omega
    subst e
    refine Ev.step (fun k => by simp only [spec_l10Segments.l1]; exact rfl) (evPos ?_ h3)
    unfold up at h0 ⊢
    rw [Int.tmod_eq_emod_of_nonneg (by omega)]
    omega
  | succ d ih =>
    intro t h0 h1 h2 h3
    refine Ev.step (fun k => by simp only [spec_l10Segments.l1]; exact rfl) (evNeg ?_ ?_)
    · rw [Int.tmod_eq_emod_of_nonneg (by omega)]
      unfold up at h1 h2
      omega
    · unfold up at h1 h2
      rw [w64 (n := t + 1) (by omega) (by omega)]
      exact ih (t + 1) (by omega) (by unfold up; omega) (by unfold up; omega) h3
theorem sseg_ev (first x5 : Int) (had : Bool) (hx5 : x5 = if had = true then 1 else 0) (i : Int) (hi : 0 ≤ i ∧ i ≤ 1048576) (a : Int) (l : List S85) (hlt : i < (l.length : Int)) (hf : 0 ≤ first) (r : Int × Int)
    (hr : sc first had (rd_T85 l i) = 0 → Ev (fun k => spec_l10Segments.l0 k (endOf (rd_T85 l i)) (if (had || isRun (rd_T85 l i)) = true then 1 else 0) (i + 1) a l) r) :
    Ev (fun k => spec_l10Segments.l0 k first x5 i a l) (if sc first had (rd_T85 l i) = 0 then r else (i, sc first had (rd_T85 l i))) := by
  obtain ⟨s, hs⟩ : ∃ s, s = rd_T85 l i := ⟨_, rfl⟩
  rw [← hs] at hr ⊢
  have hwi : wrap64 (i + 1) = i + 1 := w64 (by omega) (by omega)
  have J2 : ∀ b : Bool, b = true → sc first had s = 31 → Ev (fun k => spec_l10Segments.j2 k x5 i b a l s.f0 s.f1 s.f2 s.f3) (if sc first had s = 0 then r else (i, sc first had s)) := by
    intro b hb e
    rw [e, if_neg (by decide)]
    exact Ev.step (fun k => by simp only [spec_l10Segments.j2]; exact rfl) (evPos hb (evR _))
  have J1 : ∀ b : Bool, b = decide (s.f0 ≠ 4 ∧ s.f0 ≠ 5 ∧ s.f0 ≠ 6) → Ev (fun k => spec_l10Segments.j1 k first x5 i b a l s.f0 s.f1 s.f2 s.f3) (if sc first had s = 0 then r else (i, sc first had s)) := by
    intro b hb
    refine Ev.step (fun k => by simp only [spec_l10Segments.j1]; exact rfl) (evIte (fun h => ?_) (fun h => ?_))
    · refine evEq (evR _) ?_
      rw [hb] at h
      have e : sc first had s = 14 := by unfold sc; rw [if_pos (of_decide_eq_true h)]
      rw [e]; rfl
    · rw [hb] at h
      have h' : ¬ (s.f0 ≠ 4 ∧ s.f0 ≠ 5 ∧ s.f0 ≠ 6) := fun z => h (decide_eq_true z)
      by_cases c : (Int.tmod s.f1 256 = 0 ∧ (first ≤ s.f1 ∧ s.f1 ≤ 3583) ∧ (1 ≤ s.f2 ∧ s.f2 ≤ 3584 - s.f1) ∧ (s.f3.size : Int) ≤ s.f2)
      · have e : sc first had s = if s.f0 = 5 ∧ (had = true ∨ (s.f3.size : Int) ≠ s.f2 ∨ Int.tmod s.f2 32 ≠ 0) then 28 else 0 := by
          unfold sc
          rw [if_neg h', if_neg (Decidable.not_not.2 c)]
        refine evPos c.1 (evB (sin _ _ _) (evPos (IN_true.2 c.2.1) (evB (sin _ _ _) (evPos (IN_true.2 ?_) ?_))))
        · rw [w64 (n := 3584 - s.f1) (by omega) (by omega)]; exact c.2.2.1
        have J3 : ∀ y : Int, sc first had s = 0 → y = (if (had || isRun s) = true then 1 else 0) → Ev (fun k => spec_l10Segments.j3 k y i a l s.f0 s.f1 s.f2 s.f3) (if sc first had s = 0 then r else (i, sc first had s)) := by
          intro y h0 hy
          rw [if_pos h0]
          refine Ev.step (fun k => by simp only [spec_l10Segments.j3]; exact rfl) ?_
          rw [w64 (n := s.f1 + s.f2) (by omega) (by omega)]
          refine up_loop first y i a l r s.f1 s.f2 c.1 (by omega) (by omega) (s.f1 + up s.f2 - (s.f1 + s.f2)).toNat (s.f1 + s.f2) (by omega) (by unfold up; omega) (by unfold up; omega) ?_
          rw [hwi, hy]
          exact hr h0
        refine Ev.step (fun k => by simp only [spec_l10Segments.j2]; exact rfl) (evNeg (by simpa using c.2.2.2) ?_)
        refine evIte (fun h5 => ?_) (fun h5 => ?_)
        · have hrun : isRun s = true := by unfold isRun; rw [h5]; rfl
          refine evIte (fun hg => ?_) (fun hg => ?_)
          · refine evEq (evR _) ?_
            have hh : had = true := by
              cases had with
              | true => rfl
              | false => rw [hx5] at hg; exact absurd hg (by unfold wrap64; decide)
            have e2 : sc first had s = 28 := by rw [e, if_pos ⟨h5, .inl hh⟩]
            rw [e2]; rfl
          · have hh : had = false := by
              cases had with
              | false => rfl
              | true => rw [hx5] at hg; exact absurd (by unfold wrap64; decide) hg
            refine evIte (fun hz => ?_) (fun hz => ?_)
            · refine evIte (fun hm => ?_) (fun hm => ?_)
              · refine J3 _ ?_ ?_
                · rw [e, if_neg]
                  rintro ⟨_, h1 | h1 | h1⟩
                  · rw [hh] at h1; cases h1
                  · exact h1 hz
                  · exact h1 hm
                · rw [hx5, hh, hrun]; unfold wrap64; decide
              · refine evEq (evR _) ?_
                have e2 : sc first had s = 28 := by rw [e, if_pos ⟨h5, .inr (.inr hm)⟩]
                rw [e2]; rfl
            · refine evEq (evR _) ?_
              have e2 : sc first had s = 28 := by rw [e, if_pos ⟨h5, .inr (.inl hz)⟩]
              rw [e2]; rfl
        · have hrun : isRun s = false := by unfold isRun; simpa using h5
          refine J3 _ ?_ ?_
          · rw [e, if_neg (fun z => h5 z.1)]
          · rw [hx5, hrun, Bool.or_false]
      · have e : sc first had s = 31 := by
          unfold sc
          rw [if_neg h', if_pos c]
        refine evIte (fun c1 => ?_) (fun c1 => J2 true rfl e)
        refine evB (sin _ _ _) (evIte (fun c2 => ?_) (fun c2 => J2 true rfl e))
        have c2' := IN_true.1 c2
        rw [w64 (n := 3584 - s.f1) (by omega) (by omega)]
        refine evB (sin _ _ _) (evIte (fun c3 => ?_) (fun c3 => J2 true rfl e))
        refine J2 _ (decide_eq_true ?_) e
        have c3' := IN_true.1 c3
        have : ¬ (s.f3.size : Int) ≤ s.f2 := fun z => c ⟨c1, c2', c3', z⟩
        omega
  refine Ev.step (fun k => by simp only [spec_l10Segments.l0]; exact rfl) (evPos hlt (evPos hi.1 ?_))
  rw [← hs]
  refine evIte (fun h4 => ?_) (fun h4 => evIte (fun h5 => ?_) (fun h5 => ?_))
  · exact J1 false (by rw [decide_eq_false]; exact fun z => z.1 h4)
  · exact J1 false (by rw [decide_eq_false]; exact fun z => z.2.1 h5)
  · refine J1 _ ?_
    rw [Bool.eq_iff_iff]; simp [h4, h5]
theorem sloop_ev (a : Int) (l : List S85) (hl : l.length ≤ 1048576) (d : Nat) : ∀ i : Nat, i + d = l.length → Passed l i → Ev (fun k => spec_l10Segments.l0 k (fst_ l i) (if hadR l i = true then 1 else 0) (i : Int) a l) (codes l i d) := by
  induction d with
  | zero =>
    intro i hi hp
    refine Ev.step (fun k => by simp only [spec_l10Segments.l0]; exact rfl) (evNeg (by omega) ?_)
    unfold codes
    by_cases hr : hadR l i = true
    · rw [if_pos hr, if_pos hr]
      exact evNeg (by decide) (evR _)
    · rw [if_neg hr, if_neg hr]
      exact evPos (by decide) (evR _)
  | succ d ih =>
    intro i hi hp
    have hn := fst_nonneg hp
    refine evEq (sseg_ev (fst_ l i) _ (hadR l i) rfl (i : Int) (by omega) a l (by omega) (by omega) (codes l (i + 1) d) (fun h0 => ?_)) ?_
    · have h1 := ih (i + 1) (by omega) (fun j hj => by
        by_cases e : j = i
        · rw [e]; exact h0
        · exact hp j (by omega))
      rw [hadR_succ (by omega)] at h1
      have e : fst_ l (i + 1) = endOf (rd_T85 l i) := by
        unfold fst_
        rw [if_neg (by omega), show ((i + 1 : Nat) : Int) - 1 = (i : Int) by omega]
      rw [e, show ((i + 1 : Nat) : Int) = (i : Int) + 1 by omega] at h1
      exact h1
    · rw [codes]
theorem srun_loop (a : Int) (l : List S85) (hl : l.length ≤ 1048576) (d : Nat) : ∀ i : Int, 0 ≤ i → (l.length : Int) - i = d → (∀ j : Nat, (j : Int) < i → isRun (rd_T85 l j) = false) → Ev (fun k => spec_l10Run.l0 k i a l) (firstAt isRun l) := by
  induction d with
  | zero =>
    intro i h0 h1 hno
    refine Ev.step (fun k => by simp only [spec_l10Run.l0]; exact rfl) (evNeg (by omega) (evEq (evR (-1)) ?_))
    exact (firstAt_miss (d := z85) (fun j hj => hno j (by omega))).symm
  | succ d ih =>
    intro i h0 h1 hno
    have hlt : i < (l.length : Int) := by omega
    refine Ev.step (fun k => by simp only [spec_l10Run.l0]; exact rfl) (evPos hlt (evPos h0 (evIte (fun c => ?_) (fun c => ?_))))
    · refine evEq (evR i) ?_
      rw [firstAt_hit (p := isRun) (l := l) (d := z85) (i := i.toNat) (by omega) (by show isRun (rd_T85 l i) = true; unfold isRun; rw [c]; rfl) (fun j hj => hno j (by omega))]
      omega
    · rw [w64 (n := i + 1) (by omega) (by omega)]
      refine ih (i + 1) (by omega) (by omega) (fun j hj => ?_)
      by_cases e : (j : Int) = i
      · rw [e]; unfold isRun; simpa using c
      · exact hno j (by omega)
theorem srun_ev (a : Int) (l : List S85) (hl : l.length ≤ 1048576) : Ev (fun k => spec_l10Run.f k a l) (firstAt isRun l) :=
  srun_loop a l hl l.length 0 (by omega) (by omega) (fun j hj => absurd hj (by omega))
theorem codes_zero (l : List S85) (d : Nat) : ∀ i : Nat, i + d = l.length → Passed l i → (codes l i d).2 = 0 → Passed l l.length ∧ hadR l l.length = true ∧ codes l i d = (0, 0) := by
  induction d with
  | zero =>
    intro i hi hp h
    have e : i = l.length := by omega
    subst e
    unfold codes at h ⊢
    by_cases hr : hadR l l.length = true
    · rw [if_pos hr]; exact ⟨hp, hr, rfl⟩
    · rw [if_neg hr] at h; exact absurd h (by decide)
  | succ d ih =>
    intro i hi hp h
    rw [codes] at h ⊢
    by_cases c : sc (fst_ l i) (hadR l i) (rd_T85 l i) = 0
    · rw [if_pos c] at h ⊢
      refine ih (i + 1) (by omega) (fun j hj => ?_) h
      by_cases e : j = i
      · rw [e]; exact c
      · exact hp j (by omega)
    · rw [if_neg c] at h; exact absurd h c
theorem sCheck_ev (a : Int) (l : List S85) (hl : l.length ≤ 1048576) : Ev (fun k => spec_l10Check.f k a l) (CI a l) := by
  refine evIte (fun h => ?_) (fun h => evIte (fun h2 => ?_) (fun h2 => ?_))
  · refine evEq (evR _) ?_
    unfold CI
    rw [if_pos (by omega)]
  · refine evEq (evR _) ?_
    unfold CI
    rw [if_neg (by omega), if_pos (by omega)]
  · have e : CI a l = if (codes l 0 l.length).2 = 0 then entryC a l else codes l 0 l.length := by
      unfold CI
      rw [if_neg (by omega), if_neg (by omega)]
    rw [e]
    refine Ev.bind (sloop_ev a l hl l.length 0 (by omega) (fun j hj => absurd hj (Nat.not_lt_zero _))) (evIte (fun c => ?_) (fun c => ?_))
    · obtain ⟨hp, hr, _⟩ := codes_zero l l.length 0 (by omega) (fun j hj => absurd hj (Nat.not_lt_zero _)) c
      obtain ⟨b0, b1, b2, b3, b4, b5⟩ := entry_bounds hp hr
      rw [if_pos c]
      refine Ev.bind (srun_ev a l hl) (evPos b0 (evPos b1 ?_))
      rw [w64 (n := (rd_T85 l (firstAt isRun l)).f1 + (rd_T85 l (firstAt isRun l)).f2) (by omega) (by omega), w64 (by omega) (by omega)]
      refine evB (sin _ _ _) (evIte (fun c => ?_) (fun c => ?_))
      · have c' := IN_true.1 c
        refine evIte (fun c2 => ?_) (fun c2 => ?_)
        · refine evEq (evR _) ?_
          unfold entryC
          rw [if_pos ⟨c'.1, c'.2, c2⟩]
        · refine evEq (evR _) ?_
          unfold entryC
          rw [if_neg (fun z => c2 z.2.2)]
      · refine evEq (evR _) ?_
        unfold entryC
        rw [if_neg (fun z => c (IN_true.2 ⟨z.1, z.2.1⟩))]
    · rw [if_neg c]
      exact evR _

theorem FnExactCheckImage : laws_FnExactCheckImage.Pure := by
  intro x ok
  refine Ev.rounds (g := fun k => laws_FnExactCheckImage.f k x.f0 x.f1) ?_
  obtain ⟨r, hr, hlen⟩ := szImg_ev x.f0 x.f1 ok.2.1 (fun y hy => (ok.2.2 y hy).2.2.2)
  by_cases c : r < 0
  · exact Ev.bind hr (evPos c (evR _))
  · have hl := (hlen (by omega)).1
    have hm := toImg_ev x.f0 x.f1 hl
    have hl2 : (x.f1.map cvS).length ≤ 1048576 := by rw [List.length_map]; exact hl
    refine Ev.bind hr (evNeg c (Ev.bind hm (Ev.bind (Ev.bind (sCheck_ev x.f0 _ hl2) (evR _)) (Ev.bind hm (Ev.bind (iCI_ev x.f0 _ hl2) (evPos rfl ?_))))))
    refine Ev.step (fun k => by simp only [laws_FnExactCheckImage.j0]; exact rfl) (evNeg (by simp) ?_)
    exact Ev.bind hm (Ev.bind (eqImg_ev x.f0 _ hl2) (evPos rfl (evR _)))

end Go.Proofs.Ytoohimpbckpiaaa.Pure

/- The program's ElfText tells what the reference's tells, for every image. No condition. -/
import Derived.Test.YtigoabhkdipdeaaPFnExactElfTextx0
import Derived.Test.YtigoabhkdipdeaaPFnExactElfTextx1
import Derived.Test.YtigoabhkdipdeaaPFnExactElfTextx2
import Derived.Test.YtigoabhkdipdeaaPFnExactElfTextx3
import Derived.Test.YtigoabhkdipdeaaPFnExactElfTextx4
import Derived.Test.YtigoabhkdipdeaaPFnExactElfTextx5
import Derived.Test.YtigoabhkdipdeaaPFnExactElfTextx6
import Derived.Test.YtigoabhkdipdeaaPFnExactElfTextx7
import Derived.Test.YtigoabhkdipdeaaPFnExactElfTextx8
import Derived.Test.YtigoabhkdipdeaaPFnExactElfTextx9
import Derived.Test.YtigoabhkdipdeaaPFnExactElfTextx10
import Derived.Test.YtigoabhkdipdeaaPFnExactElfTextx11
import Derived.Test.YtigoabhkdipdeaaPFnExactElfTextx12
import Derived.Test.YtigoabhkdipdeaaNNum
namespace Go.Proofs.Ytigoabhkdipdeaa.Pure
open Go.RowKit Go.Proofs.Ytigoabhkdipdeaa.PFnExactElfText Go.Proofs.YtigoabhkdipdeaaW.PrintWords Go.Proofs.YtigoabhkdipdeaaW.PrintLast Go.Proofs.YtigoabhkdipdeaaW.PrintMore Go.Proofs.Ytigoabhkdipdeaa.Num
set_option linter.unusedSimpArgs false
set_option linter.unusedVariables false

theorem evPos {α : Type} {c : Prop} [Decidable c] {g f : Nat → Option α} {r : α} (h : c) (k : Ev g r) : Ev (fun n => if c then g n else f n) r := Ev.congr (fun _ => if_pos h) k
theorem evNeg {α : Type} {c : Prop} [Decidable c] {g f : Nat → Option α} {r : α} (h : ¬ c) (k : Ev f r) : Ev (fun n => if c then g n else f n) r := Ev.congr (fun _ => if_neg h) k
theorem evIte {α : Type} {c : Prop} [Decidable c] {g f : Nat → Option α} {r : α} (h : c → Ev g r) (k : ¬ c → Ev f r) : Ev (fun n => if c then g n else f n) r := by
  by_cases hc : c
  · exact evPos hc (h hc)
  · exact evNeg hc (k hc)
/-- A call that needs no rounds. -/
theorem evB {α β : Type} {o : Option α} {f : Nat → α → Option β} {a : α} {r : β} (h : o = some a) (k : Ev (fun n => f n a) r) : Ev (fun n => o.bind (f n)) r := Ev.congr (fun _ => by rw [h]; rfl) k
theorem evR {α : Type} (r : α) : Ev (fun _ => some r) r := Ev.now r
theorem evEq {α : Type} {g : Nat → Option α} {r r' : α} (h : Ev g r) (e : r = r') : Ev g r' := e ▸ h

def IN (a b c : Int) : Bool := decide (b ≤ a) && decide (a ≤ c)
theorem sin (a b c : Int) : spec_l01In.f a b c = some (IN a b c) := by
  unfold spec_l01In.f IN
  by_cases h : a ≥ b
  · rw [if_pos h]; simp [show b ≤ a from h]
  · rw [if_neg h]; simp [show ¬ b ≤ a from h]
theorem iin (a b c : Int) : impl_within.f a b c = some (IN a b c) := sin a b c
theorem IN_true {a b c : Int} : IN a b c = true ↔ b ≤ a ∧ a ≤ c := by unfold IN; simp
theorem IN_false {a b c : Int} : IN a b c = false ↔ ¬ (b ≤ a ∧ a ≤ c) := by unfold IN; simp

theorem rds_mem {l : List S111} {i : Int} (h0 : 0 ≤ i) (h1 : i < l.length) : rd_T111 l i ∈ l := by
  unfold rd_T111
  rw [List.getD_eq_getElem?_getD, List.getElem?_eq_getElem (by omega : i.toNat < l.length)]
  exact List.getElem_mem _
theorem rdm_mem {l : List S149} {i : Int} (h0 : 0 ≤ i) (h1 : i < l.length) : rd_T149 l i ∈ l := by
  unfold rd_T149
  rw [List.getD_eq_getElem?_getD, List.getElem?_eq_getElem (by omega : i.toNat < l.length)]
  exact List.getElem_mem _
theorem szSeg_ev (l : List S149) (hl : l.length ≤ 9223372036854775807) (hs : ∀ x ∈ l, x.f3.size ≤ 9223372036854775807) (d : Nat) : ∀ (left i : Int), 0 ≤ left → left ≤ 1048576 → 0 ≤ i → (l.length : Int) - i = d → ∃ r, Ev (fun k => laws_szSegmentS.l0 k l left i) r ∧ r ≤ 1048576 ∧ (0 ≤ r → ∀ j : Nat, i ≤ j → j < l.length → (rd_T149 l j).f3.size ≤ 1048576) := by
  induction d with
  | zero =>
    intro left i h0 h1 h2 h3
    exact ⟨left, Ev.step (fun k => by simp only [laws_szSegmentS.l0]; exact rfl) (evNeg (by omega) (evR _)), h1, fun _ j hj1 hj2 => by omega⟩
  | succ d ih =>
    intro left i h0 h1 h2 h3
    have hlt : i < (l.length : Int) := by omega
    have hz := hs _ (rdm_mem h2 hlt)
    have hw : wrap64 (i + 1) = i + 1 := w64 (by omega) (by omega)
    generalize hsz : ((rd_T149 l i).f3.size : Int) = z
    have hz0 : 0 ≤ z ∧ z ≤ 9223372036854775807 := by omega
    have hw2 : wrap64 (left - z) = left - z := w64 (by omega) (by omega)
    by_cases c : left - z < 0
    · refine ⟨-1, Ev.step (fun k => by simp only [laws_szSegmentS.l0]; exact rfl) (evPos hlt (evPos h2 ?_)), by omega, fun h => by omega⟩
      refine evB (a := -1) (by unfold laws_szSegment.f; rw [hsz, hw2, if_pos c]) (evPos (by omega) (evR _))
    · obtain ⟨r, hr, hr1, hr2⟩ := ih (left - z) (i + 1) (by omega) (by omega) (by omega) (by omega)
      refine ⟨r, Ev.step (fun k => by simp only [laws_szSegmentS.l0]; exact rfl) (evPos hlt (evPos h2 ?_)), hr1, fun h j hj1 hj2 => ?_⟩
      · refine evB (a := left - z) (by unfold laws_szSegment.f; rw [hsz, hw2, if_neg c]) (evNeg c ?_)
        rw [hw]; exact hr
      · by_cases e : (j : Int) = i
        · rw [e]; omega
        · exact hr2 h j (by omega) hj2
theorem szImg_ev (a : Int) (l : List S149) (hl : l.length ≤ 9223372036854775807) (hs : ∀ x ∈ l, x.f3.size ≤ 9223372036854775807) : ∃ r, Ev (fun k => laws_szImage.f k a l 1048576) r ∧ (0 ≤ r → l.length ≤ 1048576 ∧ ∀ j : Nat, j < l.length → (rd_T149 l j).f3.size ≤ 1048576) := by
  have hw : wrap64 (1048576 - (l.length : Int)) = 1048576 - (l.length : Int) := w64 (by omega) (by omega)
  by_cases c : (1048576 - (l.length : Int)) < 0
  · refine ⟨-1, ?_, fun h => by omega⟩
    exact Ev.bind (a := -1) (evPos (by rw [hw]; exact c) (evR _)) (evPos (by omega) (evR _))
  · obtain ⟨r, hr, hr1, hr2⟩ := szSeg_ev l hl hs l.length (1048576 - (l.length : Int)) 0 (by omega) (by omega) (by omega) (by omega)
    by_cases c2 : r < 0
    · refine ⟨-1, ?_, fun h => by omega⟩
      exact Ev.bind (a := r) (evNeg (by rw [hw]; exact c) (by rw [hw]; exact hr)) (evPos c2 (evR _))
    · refine ⟨r, ?_, fun h => ⟨by omega, fun j hj => hr2 h j (by omega) hj⟩⟩
      exact Ev.bind (a := r) (evNeg (by rw [hw]; exact c) (by rw [hw]; exact hr)) (evNeg c2 (evR _))
/-- The segment that a mirror tells. -/
def cvS (x : S149) : S111 := ⟨x.f0, x.f1, x.f2, x.f3⟩
theorem toSeg_ev (l : List S149) (hl : l.length ≤ 1048576) (d : Nat) : ∀ (xs : List S111) (i : Nat), xs.length = l.length → xs.take i = (l.take i).map cvS → l.length - i = d → i ≤ l.length → Ev (fun k => laws_toSegmentS.l0 k l xs (i : Int)) (l.map cvS) := by
  induction d with
  | zero =>
    intro xs i hx ht hd hi
    have e : xs = l.map cvS := by
      rw [List.take_of_length_le (by omega), List.take_of_length_le (by omega)] at ht
      exact ht
    exact Ev.step (fun k => by simp only [laws_toSegmentS.l0]; exact rfl) (evNeg (by omega) (evEq (evR xs) e))
  | succ d ih =>
    intro xs i hx ht hd hi
    have hlt : i < l.length := by omega
    refine Ev.step (fun k => by simp only [laws_toSegmentS.l0]; exact rfl) (evPos (by omega) (evPos (by omega) ?_))
    refine evB rfl (evPos (by omega) ?_)
    rw [w64 (n := (i : Int) + 1) (by omega) (by omega), show (i : Int) + 1 = ((i + 1 : Nat) : Int) by omega, show (i : Int).toNat = i by omega]
    refine ih _ (i + 1) (by rw [List.length_set]; exact hx) ?_ (by omega) (by omega)
    rw [List.take_succ_eq_append_getElem (by rw [List.length_set]; omega), List.take_succ_eq_append_getElem hlt, List.map_append, List.take_set_of_le (Nat.le_refl i), ht]
    congr 1
    simp only [List.getElem_set_self, List.map_cons, List.map_nil]
    congr 1
    unfold rd_T149 cvS
    rw [show ((i : Int)).toNat = i by omega, List.getD_eq_getElem?_getD, List.getElem?_eq_getElem hlt]
    rfl
theorem toImg_ev (a : Int) (l : List S149) (hl : l.length ≤ 1048576) : Ev (fun k => laws_toImage.f k a l) (a, l.map cvS) := by
  refine Ev.bind (a := l.map cvS) ?_ (evR _)
  refine evPos (by omega) (evPos (by omega) ?_)
  exact toSeg_ev l hl l.length _ 0 (by simp) (by simp) (by omega) (by omega)
theorem eqSeg_refl (a b c : Int) (d : ByteArray) : laws_eqSegment.f a b c d a b c d = some true := by unfold laws_eqSegment.f; simp
theorem eqSegS_ev (l : List S111) (hl : l.length ≤ 1048576) (d : Nat) : ∀ i : Int, 0 ≤ i → (l.length : Int) - i = d → Ev (fun k => laws_eqSegmentS.l0 k l l i) true := by
  induction d with
  | zero =>
    intro i h0 h1
    exact Ev.step (fun k => by simp only [laws_eqSegmentS.l0]; exact rfl) (evNeg (by omega) (evR _))
  | succ d ih =>
    intro i h0 h1
    have hlt : i < (l.length : Int) := by omega
    refine Ev.step (fun k => by simp only [laws_eqSegmentS.l0]; exact rfl) (evPos hlt (evPos h0 (evPos hlt ?_)))
    refine evB (eqSeg_refl _ _ _ _) (evPos rfl ?_)
    rw [w64 (n := i + 1) (by omega) (by omega)]
    exact ih (i + 1) (by omega) (by omega)
theorem eqImg_ev (a : Int) (l : List S111) (hl : l.length ≤ 1048576) : Ev (fun k => laws_eqImage.f k a l a l) true := by
  refine evPos (c := a = a) rfl (Ev.bind (a := true) ?_ (evPos rfl (evR _)))
  exact evPos (c := (l.length : Int) = (l.length : Int)) rfl (eqSegS_ev l hl l.length 0 (by omega) (by omega))

/-- The code of a segment that stands behind others: where it may begin at first, and whether one that can be run stands ahead. -/
def sc (first : Int) (had : Bool) (s : S111) : Int :=
  if s.f0 ≠ 4 ∧ s.f0 ≠ 5 ∧ s.f0 ≠ 6 then 14
  else if ¬ (Int.tmod s.f1 256 = 0 ∧ (first ≤ s.f1 ∧ s.f1 ≤ 3583) ∧ (1 ≤ s.f2 ∧ s.f2 ≤ 3584 - s.f1) ∧ (s.f3.size : Int) ≤ s.f2) then 31
  else if s.f0 = 5 ∧ (had = true ∨ (s.f3.size : Int) ≠ s.f2 ∨ Int.tmod s.f2 32 ≠ 0) then 28 else 0
def up (n : Int) : Int := (n + 255) / 256 * 256
def endOf (s : S111) : Int := s.f1 + up s.f2
def isRun (s : S111) : Bool := s.f0 == 5
def hadR (l : List S111) (i : Nat) : Bool := (l.take i).any isRun
def fst_ (l : List S111) (i : Nat) : Int := if i = 0 then 512 else endOf (rd_T111 l ((i : Int) - 1))
theorem sc_zero {first : Int} {had : Bool} {s : S111} (h : sc first had s = 0) : (s.f0 = 4 ∨ s.f0 = 5 ∨ s.f0 = 6) ∧ Int.tmod s.f1 256 = 0 ∧ (first ≤ s.f1 ∧ s.f1 ≤ 3583) ∧ (1 ≤ s.f2 ∧ s.f2 ≤ 3584 - s.f1) ∧ (s.f3.size : Int) ≤ s.f2 ∧ (s.f0 = 5 → had = false ∧ (s.f3.size : Int) = s.f2 ∧ Int.tmod s.f2 32 = 0) := by
  unfold sc at h
  split at h
  · cases h
  · split at h
    · cases h
    · rename_i h1 h2
      split at h
      · cases h
      · rename_i h3
        have h2' := Decidable.not_not.1 h2
        refine ⟨by omega, h2'.1, h2'.2.1, h2'.2.2.1, h2'.2.2.2, fun h5 => ?_⟩
        have h4 : ¬ (had = true ∨ (s.f3.size : Int) ≠ s.f2 ∨ Int.tmod s.f2 32 ≠ 0) := fun z => h3 ⟨h5, z⟩
        refine ⟨?_, ?_, ?_⟩
        · cases had
          · rfl
          · exact absurd (.inl rfl) h4
        · exact Decidable.byContradiction fun z => h4 (.inr (.inl z))
        · exact Decidable.byContradiction fun z => h4 (.inr (.inr z))
theorem firstAt_any {α : Type} (p : α → Bool) (l : List α) : (0 ≤ firstAt p l) ↔ l.any p = true := by
  unfold firstAt
  cases h : l.findIdx? p with
  | none =>
    have := List.findIdx?_eq_none_iff.1 h
    constructor
    · intro h2; exact absurd h2 (by decide)
    · intro h2
      obtain ⟨x, hx, hp⟩ := List.any_eq_true.1 h2
      rw [this x hx] at hp; cases hp
  | some i =>
    obtain ⟨hi, hp, _⟩ := List.findIdx?_eq_some_iff_getElem.1 h
    constructor
    · intro _; exact List.any_eq_true.2 ⟨_, List.getElem_mem hi, hp⟩
    · intro _; exact Int.natCast_nonneg i
theorem rds_take {l : List S111} {i : Nat} (hi : i ≤ l.length) (h0 : 0 < i) : rd_T111 (l.take i) ((i : Int) - 1) = rd_T111 l ((i : Int) - 1) := by
  unfold rd_T111
  rw [List.getD_eq_getElem?_getD, List.getD_eq_getElem?_getD, List.getElem?_take_of_lt (by omega)]
theorem hadR_succ {l : List S111} {i : Nat} (hi : i < l.length) : hadR l (i + 1) = (hadR l i || isRun (rd_T111 l i)) := by
  unfold hadR
  rw [List.take_succ_eq_append_getElem hi, List.any_append]
  congr 1
  simp only [List.any_cons, List.any_nil, Bool.or_false]
  congr 1
  unfold rd_T111
  rw [show ((i : Int)).toNat = i by omega, List.getD_eq_getElem?_getD, List.getElem?_eq_getElem hi]
  rfl
theorem pages_val (n : Int) (h0 : 0 ≤ n) (h1 : n ≤ 4611686018427387904) : impl_pages.f n = some (up n) := by
  unfold impl_pages.f up
  rw [w64 (n := n + 256) (by omega) (by omega), w64 (n := n + 256 - 1) (by omega) (by omega), Int.tdiv_eq_ediv_of_nonneg (by omega)]
  rw [w64 (n := (n + 256 - 1) / 256) (by omega) (by omega), w64 (by omega) (by omega)]
  congr 3
  omega
theorem end_val (a v m : Int) (t : ByteArray) (h0 : 0 ≤ m) (h1 : m ≤ 3584) (h2 : 0 ≤ v) (h3 : v ≤ 3584) : impl_Segment_end.f a v m t = some (v + up m) := by
  unfold impl_Segment_end.f
  rw [pages_val m h0 (by omega)]
  simp only [Option.bind_some]
  rw [w64 (by unfold up; omega) (by unfold up; omega)]
theorem irun_val (l : List S111) : impl_runSegment.f l = some (firstAt isRun l) := rfl
/-- From the test of the flags on. -/
theorem iseg0_ev (l : List S111) (first : Int) (hf : 0 ≤ first) (s : S111) : Ev (fun k => impl_segmentCode.j0 k l first s.f0 s.f1 s.f2 s.f3) (sc first (l.any isRun) s) := by
  have J2 : ∀ b : Bool, b = true → Ev (fun k => impl_segmentCode.j2 k l b s.f0 s.f1 s.f2 s.f3) 31 := by
    intro b hb
    exact Ev.step (fun k => by simp only [impl_segmentCode.j2]; exact rfl) (evPos hb (evR _))
  have J1 : ∀ b : Bool, b = decide (s.f0 ≠ 4 ∧ s.f0 ≠ 5 ∧ s.f0 ≠ 6) → Ev (fun k => impl_segmentCode.j1 k l first b s.f0 s.f1 s.f2 s.f3) (sc first (l.any isRun) s) := by
    intro b hb
    refine Ev.step (fun k => by simp only [impl_segmentCode.j1]; exact rfl) (evIte (fun h => ?_) (fun h => ?_))
    · refine evEq (evR _) ?_
      rw [hb] at h
      unfold sc
      rw [if_pos (of_decide_eq_true h)]
    · rw [hb] at h
      have h' : ¬ (s.f0 ≠ 4 ∧ s.f0 ≠ 5 ∧ s.f0 ≠ 6) := fun z => h (decide_eq_true z)
      by_cases c : (Int.tmod s.f1 256 = 0 ∧ (first ≤ s.f1 ∧ s.f1 ≤ 3583) ∧ (1 ≤ s.f2 ∧ s.f2 ≤ 3584 - s.f1) ∧ (s.f3.size : Int) ≤ s.f2)
      · have e : sc first (l.any isRun) s = if s.f0 = 5 ∧ (l.any isRun = true ∨ (s.f3.size : Int) ≠ s.f2 ∨ Int.tmod s.f2 32 ≠ 0) then 28 else 0 := by
          unfold sc
          rw [if_neg h', if_neg (Decidable.not_not.2 c)]
        refine evPos c.1 (evB (iin _ _ _) (evPos (IN_true.2 c.2.1) (evB (iin _ _ _) (evPos (IN_true.2 ?_) ?_))))
        · rw [w64 (n := 3584 - s.f1) (by omega) (by omega)]; exact c.2.2.1
        refine Ev.step (fun k => by simp only [impl_segmentCode.j2]; exact rfl) (evNeg (by simpa using c.2.2.2) ?_)
        refine evIte (fun h5 => ?_) (fun h5 => ?_)
        · refine evB (irun_val l) ?_
          refine evIte (fun hg => ?_) (fun hg => ?_)
          · refine evEq (evR _) ?_
            rw [e, if_pos ⟨h5, .inl ((firstAt_any _ _).1 hg)⟩]
          · have hg' : l.any isRun = false := by
              cases hq : l.any isRun
              · rfl
              · exact absurd ((firstAt_any _ _).2 hq) hg
            refine evIte (fun hz => ?_) (fun hz => ?_)
            · refine evIte (fun hm => ?_) (fun hm => ?_)
              · refine evEq (evR _) ?_
                rw [e, if_neg]
                rintro ⟨_, h1 | h1 | h1⟩
                · rw [hg'] at h1; cases h1
                · exact h1 hz
                · exact h1 hm
              · refine evEq (evR _) ?_
                rw [e, if_pos ⟨h5, .inr (.inr hm)⟩]
            · refine evEq (evR _) ?_
              rw [e, if_pos ⟨h5, .inr (.inl hz)⟩]
        · refine evEq (evR _) ?_
          rw [e, if_neg (fun z => h5 z.1)]
      · have e : sc first (l.any isRun) s = 31 := by
          unfold sc
          rw [if_neg h', if_pos c]
        rw [e]
        refine evIte (fun c1 => ?_) (fun c1 => J2 true rfl)
        refine evB (iin _ _ _) (evIte (fun c2 => ?_) (fun c2 => J2 true rfl))
        have c2' := IN_true.1 c2
        rw [w64 (n := 3584 - s.f1) (by omega) (by omega)]
        refine evB (iin _ _ _) (evIte (fun c3 => ?_) (fun c3 => J2 true rfl))
        refine J2 _ (decide_eq_true ?_)
        have c3' := IN_true.1 c3
        have : ¬ (s.f3.size : Int) ≤ s.f2 := fun z => c ⟨c1, c2', c3', z⟩
        omega
  refine Ev.step (fun k => by simp only [impl_segmentCode.j0]; exact rfl) (evIte (fun h4 => ?_) (fun h4 => evIte (fun h5 => ?_) (fun h5 => ?_)))
  · exact J1 false (by rw [decide_eq_false]; exact fun z => z.1 h4)
  · exact J1 false (by rw [decide_eq_false]; exact fun z => z.2.1 h5)
  · refine J1 _ ?_
    rw [Bool.eq_iff_iff]; simp [h4, h5]
/-- What is known of the segments that went through. -/
def Passed (l : List S111) (i : Nat) : Prop := ∀ j : Nat, j < i → sc (fst_ l j) (hadR l j) (rd_T111 l j) = 0
theorem fst_nonneg {l : List S111} : ∀ {i : Nat}, Passed l i → 512 ≤ fst_ l i ∧ fst_ l i ≤ 7168
  | 0, _ => by unfold fst_; simp
  | i + 1, h => by
    have hi := sc_zero (h i (Nat.lt_succ_self i))
    have h0 := fst_nonneg (i := i) (fun j hj => h j (Nat.lt_succ_of_lt hj))
    unfold fst_
    rw [if_neg (by omega), show ((i + 1 : Nat) : Int) - 1 = (i : Int) by omega]
    unfold endOf up
    omega
theorem iseg_ev (l : List S111) (i : Nat) (hi : i ≤ l.length) (hl : l.length ≤ 1048576) (hp : Passed l i) (s : S111) : Ev (fun k => impl_segmentCode.f k s.f0 s.f1 s.f2 s.f3 (l.take i)) (sc (fst_ l i) (hadR l i) s) := by
  have hn := fst_nonneg hp
  have hlen : (l.take i).length = i := by rw [List.length_take]; omega
  by_cases h0 : i = 0
  · subst h0
    refine evNeg (by rw [hlen]; omega) ?_
    exact iseg0_ev (l.take 0) 512 (by omega) s
  · refine evPos (by rw [hlen]; omega) ?_
    rw [hlen, w64 (n := (i : Int) - 1) (by omega) (by omega)]
    refine evPos (by omega) (evPos (by omega) ?_)
    have hq := sc_zero (hp (i - 1) (by omega))
    have hq0 := fst_nonneg (i := i - 1) (fun j hj => hp j (by omega))
    rw [show (((i - 1 : Nat)) : Int) = (i : Int) - 1 by omega] at hq
    rw [rds_take hi (by omega)]
    refine evB (end_val _ _ _ _ (by omega) (by omega) (by omega) (by omega)) ?_
    have e : fst_ l i = (rd_T111 l ((i : Int) - 1)).f1 + up (rd_T111 l ((i : Int) - 1)).f2 := by unfold fst_; rw [if_neg h0]; rfl
    rw [e] at hn ⊢
    exact iseg0_ev (l.take i) _ (by omega) s
/-- The entry's test. -/
def entryC (a : Int) (l : List S111) : Int × Int :=
  if (rd_T111 l (firstAt isRun l)).f1 ≤ a ∧ a ≤ (rd_T111 l (firstAt isRun l)).f1 + (rd_T111 l (firstAt isRun l)).f2 - 1 ∧ Int.tmod a 32 = 0 then (0, 0) else (0, 32)
/-- The segments' code from segment i on. -/
def codes (l : List S111) : Nat → Nat → Int × Int
  | i, 0 => if hadR l i = true then (0, 0) else (0, 28)
  | i, d + 1 => if sc (fst_ l i) (hadR l i) (rd_T111 l i) = 0 then codes l (i + 1) d else ((i : Int), sc (fst_ l i) (hadR l i) (rd_T111 l i))
def CI (a : Int) (l : List S111) : Int × Int :=
  if l.length = 0 then (0, 5) else if l.length > 4 then (0, 6) else if (codes l 0 l.length).2 = 0 then entryC a l else codes l 0 l.length
theorem entry_bounds {l : List S111} (hp : Passed l l.length) (hr : hadR l l.length = true) : 0 ≤ firstAt isRun l ∧ firstAt isRun l < l.length ∧ 0 ≤ (rd_T111 l (firstAt isRun l)).f1 ∧ (rd_T111 l (firstAt isRun l)).f1 ≤ 3583 ∧ 1 ≤ (rd_T111 l (firstAt isRun l)).f2 ∧ (rd_T111 l (firstAt isRun l)).f2 ≤ 3584 := by
  have h0 : 0 ≤ firstAt isRun l := by
    rw [firstAt_any]
    unfold hadR at hr
    rwa [List.take_length] at hr
  have h1 := (firstAt_ge isRun l).2
  have hq := sc_zero (hp (firstAt isRun l).toNat (by omega))
  have hq0 := fst_nonneg (i := (firstAt isRun l).toNat) (fun j hj => hp j (by omega))
  rw [show (((firstAt isRun l).toNat : Nat) : Int) = firstAt isRun l by omega] at hq
  exact ⟨h0, h1, by omega, by omega, by omega, by omega⟩
theorem ientry_ev (a : Int) (l : List S111) (hp : Passed l l.length) : Ev (fun k => ((impl_runSegment.f l).bind fun t157 => (if t157 < 0 then (some ((0 : Int), (28 : Int))) else (if 0 ≤ t157 then (if t157 < (l.length : Int) then ((impl_within.f a ((rd_T111 l t157).f1) (wrap64 ((wrap64 (((rd_T111 l t157).f1) + ((rd_T111 l t157).f2))) - 1))).bind fun t160 => (if t160 = true then (if (Int.tmod a 32) = 0 then (some (0, 0)) else (some (0, 32))) else (some (0, 32)))) else (none)) else (none))))) (if hadR l l.length = true then entryC a l else (0, 28)) := by
  refine evB (irun_val l) ?_
  by_cases hr : hadR l l.length = true
  · obtain ⟨b0, b1, b2, b3, b4, b5⟩ := entry_bounds hp hr
    rw [if_pos hr]
    refine evNeg (by omega) (evPos b0 (evPos b1 ?_))
    rw [w64 (n := (rd_T111 l (firstAt isRun l)).f1 + (rd_T111 l (firstAt isRun l)).f2) (by omega) (by omega), w64 (by omega) (by omega)]
    refine evB (iin _ _ _) (evIte (fun c => ?_) (fun c => ?_))
    · have c' := IN_true.1 c
      refine evIte (fun c2 => ?_) (fun c2 => ?_)
      · refine evEq (evR _) ?_
        unfold entryC
        rw [if_pos ⟨c'.1, c'.2, c2⟩]
      · refine evEq (evR _) ?_
        unfold entryC
        rw [if_neg (fun z => c2 z.2.2)]
    · refine evEq (evR _) ?_
      unfold entryC
      rw [if_neg (fun z => c (IN_true.2 ⟨z.1, z.2.1⟩))]
  · rw [if_neg hr]
    refine evPos ?_ (evR _)
    have : ¬ 0 ≤ firstAt isRun l := by
      rw [firstAt_any]
      unfold hadR at hr
      rwa [List.take_length] at hr
    omega
theorem iloop_ev (a : Int) (l : List S111) (hl : l.length ≤ 1048576) (d : Nat) : ∀ i : Nat, i + d = l.length → Passed l i → Ev (fun k => impl_CheckImage.l0 k l (l.length : Int) (i : Int) a l) (if (codes l i d).2 = 0 then entryC a l else codes l i d) := by
  induction d with
  | zero =>
    intro i hi hp
    have e : i = l.length := by omega
    refine Ev.step (fun k => by simp only [impl_CheckImage.l0]; exact rfl) (evNeg (by omega) ?_)
    refine evEq (ientry_ev a l (e ▸ hp)) ?_
    subst e
    unfold codes
    by_cases hr : hadR l l.length = true <;> simp [hr]
  | succ d ih =>
    intro i hi hp
    refine Ev.step (fun k => by simp only [impl_CheckImage.l0]; exact rfl) (evPos (by omega) (evPos (by omega) (evPos (by omega) (evPos (by omega) ?_))))
    rw [show ((i : Int)).toNat = i by omega]
    refine Ev.bind (iseg_ev l i (by omega) hl hp (rd_T111 l i)) (evIte (fun c => ?_) (fun c => ?_))
    · rw [w64 (n := (i : Int) + 1) (by omega) (by omega), show (i : Int) + 1 = ((i + 1 : Nat) : Int) by omega]
      refine evEq (ih (i + 1) (by omega) ?_) ?_
      · intro j hj
        by_cases e : j = i
        · rw [e]; exact c
        · exact hp j (by omega)
      · rw [show codes l i (d + 1) = codes l (i + 1) d by rw [codes, if_pos c]]
    · refine evEq (evR _) ?_
      rw [show codes l i (d + 1) = ((i : Int), sc (fst_ l i) (hadR l i) (rd_T111 l i)) by rw [codes, if_neg c]]
      rw [if_neg c]
theorem iCI_ev (a : Int) (l : List S111) (hl : l.length ≤ 1048576) : Ev (fun k => impl_CheckImage.f k a l) (CI a l) := by
  refine evIte (fun h => ?_) (fun h => evIte (fun h2 => ?_) (fun h2 => ?_))
  · refine evEq (evR _) ?_
    unfold CI
    rw [if_pos (by omega)]
  · refine evEq (evR _) ?_
    unfold CI
    rw [if_neg (by omega), if_pos (by omega)]
  · have e : CI a l = if (codes l 0 l.length).2 = 0 then entryC a l else codes l 0 l.length := by
      unfold CI
      rw [if_neg (by omega), if_neg (by omega)]
    rw [e]
    exact iloop_ev a l hl l.length 0 (by omega) (fun j hj => absurd hj (Nat.not_lt_zero _))
-- the reference
theorem up_loop (b x5 x6 a : Int) (l : List S111) (r : Int × Int) (v m : Int) (hv : Int.tmod v 256 = 0) (hv0 : 0 ≤ v ∧ v ≤ 3584) (hm : 1 ≤ m ∧ m ≤ 3584) (d : Nat) : ∀ t : Int, v + m ≤ t → t ≤ v + up m → v + up m - t = d →
    Ev (fun k => spec_l10Segments.l0 k (v + up m) x5 (wrap64 (x6 + 1)) a l) r → Ev (fun k => spec_l10Segments.l1 k t x5 x6 a l) r := by
  have hv' : v % 256 = 0 := by rw [Int.tmod_eq_emod_of_nonneg hv0.1] at hv; exact hv
  induction d with
  | zero =>
    intro t h0 h1 h2 h3
    have e : t = v + up m := by omega
    subst e
    refine Ev.step (fun k => by simp only [spec_l10Segments.l1]; exact rfl) (evPos ?_ h3)
    unfold up at h0 ⊢
    rw [Int.tmod_eq_emod_of_nonneg (by omega)]
    omega
  | succ d ih =>
    intro t h0 h1 h2 h3
    refine Ev.step (fun k => by simp only [spec_l10Segments.l1]; exact rfl) (evNeg ?_ ?_)
    · rw [Int.tmod_eq_emod_of_nonneg (by omega)]
      unfold up at h1 h2
      omega
    · unfold up at h1 h2
      rw [w64 (n := t + 1) (by omega) (by omega)]
      exact ih (t + 1) (by omega) (by unfold up; omega) (by unfold up; omega) h3
theorem sseg_ev (first x5 : Int) (had : Bool) (hx5 : x5 = if had = true then 1 else 0) (i : Int) (hi : 0 ≤ i ∧ i ≤ 1048576) (a : Int) (l : List S111) (hlt : i < (l.length : Int)) (hf : 0 ≤ first) (r : Int × Int)
    (hr : sc first had (rd_T111 l i) = 0 → Ev (fun k => spec_l10Segments.l0 k (endOf (rd_T111 l i)) (if (had || isRun (rd_T111 l i)) = true then 1 else 0) (i + 1) a l) r) :
    Ev (fun k => spec_l10Segments.l0 k first x5 i a l) (if sc first had (rd_T111 l i) = 0 then r else (i, sc first had (rd_T111 l i))) := by
  obtain ⟨s, hs⟩ : ∃ s, s = rd_T111 l i := ⟨_, rfl⟩
  rw [← hs] at hr ⊢
  have hwi : wrap64 (i + 1) = i + 1 := w64 (by omega) (by omega)
  have J2 : ∀ b : Bool, b = true → sc first had s = 31 → Ev (fun k => spec_l10Segments.j2 k x5 i b a l s.f0 s.f1 s.f2 s.f3) (if sc first had s = 0 then r else (i, sc first had s)) := by
    intro b hb e
    rw [e, if_neg (by decide)]
    exact Ev.step (fun k => by simp only [spec_l10Segments.j2]; exact rfl) (evPos hb (evR _))
  have J1 : ∀ b : Bool, b = decide (s.f0 ≠ 4 ∧ s.f0 ≠ 5 ∧ s.f0 ≠ 6) → Ev (fun k => spec_l10Segments.j1 k first x5 i b a l s.f0 s.f1 s.f2 s.f3) (if sc first had s = 0 then r else (i, sc first had s)) := by
    intro b hb
    refine Ev.step (fun k => by simp only [spec_l10Segments.j1]; exact rfl) (evIte (fun h => ?_) (fun h => ?_))
    · refine evEq (evR _) ?_
      rw [hb] at h
      have e : sc first had s = 14 := by unfold sc; rw [if_pos (of_decide_eq_true h)]
      rw [e]; rfl
    · rw [hb] at h
      have h' : ¬ (s.f0 ≠ 4 ∧ s.f0 ≠ 5 ∧ s.f0 ≠ 6) := fun z => h (decide_eq_true z)
      by_cases c : (Int.tmod s.f1 256 = 0 ∧ (first ≤ s.f1 ∧ s.f1 ≤ 3583) ∧ (1 ≤ s.f2 ∧ s.f2 ≤ 3584 - s.f1) ∧ (s.f3.size : Int) ≤ s.f2)
      · have e : sc first had s = if s.f0 = 5 ∧ (had = true ∨ (s.f3.size : Int) ≠ s.f2 ∨ Int.tmod s.f2 32 ≠ 0) then 28 else 0 := by
          unfold sc
          rw [if_neg h', if_neg (Decidable.not_not.2 c)]
        refine evPos c.1 (evB (sin _ _ _) (evPos (IN_true.2 c.2.1) (evB (sin _ _ _) (evPos (IN_true.2 ?_) ?_))))
        · rw [w64 (n := 3584 - s.f1) (by omega) (by omega)]; exact c.2.2.1
        have J3 : ∀ y : Int, sc first had s = 0 → y = (if (had || isRun s) = true then 1 else 0) → Ev (fun k => spec_l10Segments.j3 k y i a l s.f0 s.f1 s.f2 s.f3) (if sc first had s = 0 then r else (i, sc first had s)) := by
          intro y h0 hy
          rw [if_pos h0]
          refine Ev.step (fun k => by simp only [spec_l10Segments.j3]; exact rfl) ?_
          rw [w64 (n := s.f1 + s.f2) (by omega) (by omega)]
          refine up_loop first y i a l r s.f1 s.f2 c.1 (by omega) (by omega) (s.f1 + up s.f2 - (s.f1 + s.f2)).toNat (s.f1 + s.f2) (by omega) (by unfold up; omega) (by unfold up; omega) ?_
          rw [hwi, hy]
          exact hr h0
        refine Ev.step (fun k => by simp only [spec_l10Segments.j2]; exact rfl) (evNeg (by simpa using c.2.2.2) ?_)
        refine evIte (fun h5 => ?_) (fun h5 => ?_)
        · have hrun : isRun s = true := by unfold isRun; rw [h5]; rfl
          refine evIte (fun hg => ?_) (fun hg => ?_)
          · refine evEq (evR _) ?_
            have hh : had = true := by
              cases had with
              | true => rfl
              | false => rw [hx5] at hg; exact absurd hg (by unfold wrap64; decide)
            have e2 : sc first had s = 28 := by rw [e, if_pos ⟨h5, .inl hh⟩]
            rw [e2]; rfl
          · have hh : had = false := by
              cases had with
              | false => rfl
              | true => rw [hx5] at hg; exact absurd (by unfold wrap64; decide) hg
            refine evIte (fun hz => ?_) (fun hz => ?_)
            · refine evIte (fun hm => ?_) (fun hm => ?_)
              · refine J3 _ ?_ ?_
                · rw [e, if_neg]
                  rintro ⟨_, h1 | h1 | h1⟩
                  · rw [hh] at h1; cases h1
                  · exact h1 hz
                  · exact h1 hm
                · rw [hx5, hh, hrun]; unfold wrap64; decide
              · refine evEq (evR _) ?_
                have e2 : sc first had s = 28 := by rw [e, if_pos ⟨h5, .inr (.inr hm)⟩]
                rw [e2]; rfl
            · refine evEq (evR _) ?_
              have e2 : sc first had s = 28 := by rw [e, if_pos ⟨h5, .inr (.inl hz)⟩]
              rw [e2]; rfl
        · have hrun : isRun s = false := by unfold isRun; simpa using h5
          refine J3 _ ?_ ?_
          · rw [e, if_neg (fun z => h5 z.1)]
          · rw [hx5, hrun, Bool.or_false]
      · have e : sc first had s = 31 := by
          unfold sc
          rw [if_neg h', if_pos c]
        refine evIte (fun c1 => ?_) (fun c1 => J2 true rfl e)
        refine evB (sin _ _ _) (evIte (fun c2 => ?_) (fun c2 => J2 true rfl e))
        have c2' := IN_true.1 c2
        rw [w64 (n := 3584 - s.f1) (by omega) (by omega)]
        refine evB (sin _ _ _) (evIte (fun c3 => ?_) (fun c3 => J2 true rfl e))
        refine J2 _ (decide_eq_true ?_) e
        have c3' := IN_true.1 c3
        have : ¬ (s.f3.size : Int) ≤ s.f2 := fun z => c ⟨c1, c2', c3', z⟩
        omega
  refine Ev.step (fun k => by simp only [spec_l10Segments.l0]; exact rfl) (evPos hlt (evPos hi.1 ?_))
  rw [← hs]
  refine evIte (fun h4 => ?_) (fun h4 => evIte (fun h5 => ?_) (fun h5 => ?_))
  · exact J1 false (by rw [decide_eq_false]; exact fun z => z.1 h4)
  · exact J1 false (by rw [decide_eq_false]; exact fun z => z.2.1 h5)
  · refine J1 _ ?_
    rw [Bool.eq_iff_iff]; simp [h4, h5]
theorem sloop_ev (a : Int) (l : List S111) (hl : l.length ≤ 1048576) (d : Nat) : ∀ i : Nat, i + d = l.length → Passed l i → Ev (fun k => spec_l10Segments.l0 k (fst_ l i) (if hadR l i = true then 1 else 0) (i : Int) a l) (codes l i d) := by
  induction d with
  | zero =>
    intro i hi hp
    refine Ev.step (fun k => by simp only [spec_l10Segments.l0]; exact rfl) (evNeg (by omega) ?_)
    unfold codes
    by_cases hr : hadR l i = true
    · rw [if_pos hr, if_pos hr]
      exact evNeg (by decide) (evR _)
    · rw [if_neg hr, if_neg hr]
      exact evPos (by decide) (evR _)
  | succ d ih =>
    intro i hi hp
    have hn := fst_nonneg hp
    refine evEq (sseg_ev (fst_ l i) _ (hadR l i) rfl (i : Int) (by omega) a l (by omega) (by omega) (codes l (i + 1) d) (fun h0 => ?_)) ?_
    · have h1 := ih (i + 1) (by omega) (fun j hj => by
        by_cases e : j = i
        · rw [e]; exact h0
        · exact hp j (by omega))
      rw [hadR_succ (by omega)] at h1
      have e : fst_ l (i + 1) = endOf (rd_T111 l i) := by
        unfold fst_
        rw [if_neg (by omega), show ((i + 1 : Nat) : Int) - 1 = (i : Int) by omega]
      rw [e, show ((i + 1 : Nat) : Int) = (i : Int) + 1 by omega] at h1
      exact h1
    · rw [codes]
theorem srun_loop (a : Int) (l : List S111) (hl : l.length ≤ 1048576) (d : Nat) : ∀ i : Int, 0 ≤ i → (l.length : Int) - i = d → (∀ j : Nat, (j : Int) < i → isRun (rd_T111 l j) = false) → Ev (fun k => spec_l10Run.l0 k i a l) (firstAt isRun l) := by
  induction d with
  | zero =>
    intro i h0 h1 hno
    refine Ev.step (fun k => by simp only [spec_l10Run.l0]; exact rfl) (evNeg (by omega) (evEq (evR (-1)) ?_))
    exact (firstAt_miss (d := z111) (fun j hj => hno j (by omega))).symm
  | succ d ih =>
    intro i h0 h1 hno
    have hlt : i < (l.length : Int) := by omega
    refine Ev.step (fun k => by simp only [spec_l10Run.l0]; exact rfl) (evPos hlt (evPos h0 (evIte (fun c => ?_) (fun c => ?_))))
    · refine evEq (evR i) ?_
      rw [firstAt_hit (p := isRun) (l := l) (d := z111) (i := i.toNat) (by omega) (by show isRun (rd_T111 l i) = true; unfold isRun; rw [c]; rfl) (fun j hj => hno j (by omega))]
      omega
    · rw [w64 (n := i + 1) (by omega) (by omega)]
      refine ih (i + 1) (by omega) (by omega) (fun j hj => ?_)
      by_cases e : (j : Int) = i
      · rw [e]; unfold isRun; simpa using c
      · exact hno j (by omega)
theorem srun_ev (a : Int) (l : List S111) (hl : l.length ≤ 1048576) : Ev (fun k => spec_l10Run.f k a l) (firstAt isRun l) :=
  srun_loop a l hl l.length 0 (by omega) (by omega) (fun j hj => absurd hj (by omega))
theorem codes_zero (l : List S111) (d : Nat) : ∀ i : Nat, i + d = l.length → Passed l i → (codes l i d).2 = 0 → Passed l l.length ∧ hadR l l.length = true ∧ codes l i d = (0, 0) := by
  induction d with
  | zero =>
    intro i hi hp h
    have e : i = l.length := by omega
    subst e
    unfold codes at h ⊢
    by_cases hr : hadR l l.length = true
    · rw [if_pos hr]; exact ⟨hp, hr, rfl⟩
    · rw [if_neg hr] at h; exact absurd h (by decide)
  | succ d ih =>
    intro i hi hp h
    rw [codes] at h ⊢
    by_cases c : sc (fst_ l i) (hadR l i) (rd_T111 l i) = 0
    · rw [if_pos c] at h ⊢
      refine ih (i + 1) (by omega) (fun j hj => ?_) h
      by_cases e : j = i
      · rw [e]; exact c
      · exact hp j (by omega)
    · rw [if_neg c] at h; exact absurd h c
theorem sCheck_ev (a : Int) (l : List S111) (hl : l.length ≤ 1048576) : Ev (fun k => spec_l10Check.f k a l) (CI a l) := by
  refine evIte (fun h => ?_) (fun h => evIte (fun h2 => ?_) (fun h2 => ?_))
  · refine evEq (evR _) ?_
    unfold CI
    rw [if_pos (by omega)]
  · refine evEq (evR _) ?_
    unfold CI
    rw [if_neg (by omega), if_pos (by omega)]
  · have e : CI a l = if (codes l 0 l.length).2 = 0 then entryC a l else codes l 0 l.length := by
      unfold CI
      rw [if_neg (by omega), if_neg (by omega)]
    rw [e]
    refine Ev.bind (sloop_ev a l hl l.length 0 (by omega) (fun j hj => absurd hj (Nat.not_lt_zero _))) (evIte (fun c => ?_) (fun c => ?_))
    · obtain ⟨hp, hr, _⟩ := codes_zero l l.length 0 (by omega) (fun j hj => absurd hj (Nat.not_lt_zero _)) c
      obtain ⟨b0, b1, b2, b3, b4, b5⟩ := entry_bounds hp hr
      rw [if_pos c]
      refine Ev.bind (srun_ev a l hl) (evPos b0 (evPos b1 ?_))
      rw [w64 (n := (rd_T111 l (firstAt isRun l)).f1 + (rd_T111 l (firstAt isRun l)).f2) (by omega) (by omega), w64 (by omega) (by omega)]
      refine evB (sin _ _ _) (evIte (fun c => ?_) (fun c => ?_))
      · have c' := IN_true.1 c
        refine evIte (fun c2 => ?_) (fun c2 => ?_)
        · refine evEq (evR _) ?_
          unfold entryC
          rw [if_pos ⟨c'.1, c'.2, c2⟩]
        · refine evEq (evR _) ?_
          unfold entryC
          rw [if_neg (fun z => c2 z.2.2)]
      · refine evEq (evR _) ?_
        unfold entryC
        rw [if_neg (fun z => c (IN_true.2 ⟨z.1, z.2.1⟩))]
    · rw [if_neg c]
      exact evR _

/-- The numbers of bytes. -/
def numsOf (s : ByteArray) : List Int := s.data.toList.map fun b => (b.toNat : Int)
theorem numsOf_len (s : ByteArray) : (numsOf s).length = s.size := by unfold numsOf; simp
theorem bt_get (s : ByteArray) (i : Nat) (h : i < s.size) : bt s i = (numsOf s).getD i 0 := by
  unfold bt numsOf
  rw [dif_pos (by omega), List.getD_eq_getElem?_getD, List.getElem?_map]
  have h2 : i < s.data.toList.length := by simpa using h
  rw [List.getElem?_eq_getElem h2]
  rfl
theorem strOf_nums (s : ByteArray) : strOfNums (numsOf s) = s := by
  obtain ⟨⟨l⟩⟩ := s
  unfold strOfNums numsOf
  have e : ∀ l : List UInt8, List.map (fun n : Int => UInt8.ofNat n.toNat) (List.map (fun b : UInt8 => (b.toNat : Int)) l) = l := by
    intro l
    induction l with
    | nil => rfl
    | cons x xs ih => rw [List.map_cons, List.map_cons, ih, Int.toNat_natCast, UInt8.ofNat_toNat]
  simp only []
  rw [e]
theorem take_snoc_getD (l : List Int) (i : Nat) (h : i < l.length) : l.take (i + 1) = l.take i ++ [l.getD i 0] := by
  rw [List.take_succ_eq_append_getElem h, List.getD_eq_getElem?_getD, List.getElem?_eq_getElem h]
  rfl

/-- A string's bytes as a list. -/
noncomputable def dc (p : Prop) : Bool := @decide p (Classical.propDecidable p)
theorem dc_iff (p : Prop) : dc p = true ↔ p := @decide_eq_true_iff p (Classical.propDecidable p)
theorem dc_yes {p : Prop} (h : p) : dc p = true := (dc_iff p).2 h
theorem dc_no {p : Prop} (h : ¬ p) : dc p = false := by
  cases e : dc p
  · rfl
  · exact absurd ((dc_iff p).1 e) h
theorem dc_eq {p q : Prop} (h : p ↔ q) : dc p = dc q := by rw [propext h]
def L (s : ByteArray) : List UInt8 := s.data.toList
theorem L_app (s t : ByteArray) : L (s ++ t) = L s ++ L t := by
  unfold L
  rw [ByteArray.data_append, Array.toList_append]
theorem L_inj {s t : ByteArray} (h : L s = L t) : s = t := by
  obtain ⟨⟨a⟩⟩ := s
  obtain ⟨⟨b⟩⟩ := t
  unfold L at h
  simp only at h
  rw [h]
theorem L_len (s : ByteArray) : (L s).length = s.size := by unfold L; simp
theorem L_nums (xs : List Int) : L (strOfNums xs) = xs.map (fun n => UInt8.ofNat n.toNat) := by
  unfold L strOfNums
  simp
/-- A byte of a number, the lowest one first. -/
def byteAt (v : Int) (j : Nat) : Int := v % 18446744073709551616 / 2 ^ (8 * j) % 256
def lit (v : Int) (n : Nat) : ByteArray := strOfNums ((List.range n).map (byteAt v))
theorem L_lit (v : Int) (n : Nat) : L (lit v n) = (List.range n).map (fun j => UInt8.ofNat (byteAt v j).toNat) := by
  unfold lit
  rw [L_nums, List.map_map]
  rfl
theorem lit_size (v : Int) (n : Nat) : (lit v n).size = n := by rw [← L_len, L_lit]; simp
theorem byteAt_range (v : Int) (j : Nat) : 0 ≤ byteAt v j ∧ byteAt v j < 256 := by unfold byteAt; omega
theorem sLittle_loop (v : Int) (n : Nat) (hn : n ≤ 8) (d : Nat) : ∀ i : Nat, i + d = n → Ev (fun k => spec_l01Little.l0 k v (n : Int) ((List.range i).map (byteAt v)) (i : Int)) (lit v n) := by
  induction d with
  | zero =>
    intro i hi
    have e : i = n := by omega
    subst e
    exact Ev.step (fun k => by simp only [spec_l01Little.l0]; exact rfl) (evNeg (by omega) (evR _))
  | succ d ih =>
    intro i hi
    have hw : IntKind.u64.wrap (wrap64 (8 * (i : Int))) = ((8 * i : Nat) : Int) := by rw [u64, w64 (by omega) (by omega)]; omega
    refine Ev.step (fun k => by simp only [spec_l01Little.l0]; exact rfl) (evPos (by omega) ?_)
    rw [hw]
    refine evPos (by omega) (evPos (by rw [List.length_map, List.length_range]; omega) ?_)
    have e : shr .u64 (IntKind.u64.wrap v) ((8 * i : Nat) : Int) % 256 = byteAt v i := by
      unfold shr byteAt
      simp only [IntKind.bits]
      rw [u64, Int.toNat_natCast, show min (8 * i) 64 = 8 * i by omega]
    rw [e, w64 (n := (i : Int) + 1) (by omega) (by omega), show (i : Int) + 1 = ((i + 1 : Nat) : Int) by omega]
    have := ih (i + 1) (by omega)
    rw [List.range_succ, List.map_append] at this
    exact this
theorem sLittle_ev (v : Int) (n : Nat) (hn : n ≤ 8) : Ev (fun k => spec_l01Little.f k v (n : Int)) (lit v n) := sLittle_loop v n hn n 0 (by omega)
theorem sLit2 (v : Int) : Ev (fun k => spec_l01Little.f k v 2) (lit v 2) := sLittle_ev v 2 (by omega)
theorem sLit4 (v : Int) : Ev (fun k => spec_l01Little.f k v 4) (lit v 4) := sLittle_ev v 4 (by omega)
theorem sLit8 (v : Int) : Ev (fun k => spec_l01Little.f k v 8) (lit v 8) := sLittle_ev v 8 (by omega)
theorem mod_step8 (u : Int) (n : Nat) : u % 2 ^ (8 * (n + 1)) = u / 2 ^ (8 * n) % 256 * 2 ^ (8 * n) + u % 2 ^ (8 * n) := by
  have hp : (0 : Int) < 2 ^ (8 * n) := Int.pow_pos (by decide)
  have hs : (2 : Int) ^ (8 * (n + 1)) = 2 ^ (8 * n) * 256 := by rw [show 8 * (n + 1) = 8 * n + 8 by omega, Int.pow_add]; rfl
  rw [hs]
  generalize (2 : Int) ^ (8 * n) = P at *
  have h1 := Int.emod_add_mul_ediv u P
  have h2 := Int.emod_add_mul_ediv (u / P) 256
  have h3 := Int.emod_add_mul_ediv u (P * 256)
  have e : u / (P * 256) = u / P / 256 := by rw [Int.ediv_ediv_of_nonneg (by omega)]
  rw [e] at h3
  have h6 : P * 256 * (u / P / 256) = P * (256 * (u / P / 256)) := by rw [Int.mul_assoc]
  have h4 : P * (u / P) = P * (u / P % 256) + P * (256 * (u / P / 256)) := by rw [← Int.mul_add, h2]
  have h5 : u / P % 256 * P = P * (u / P % 256) := Int.mul_comm _ _
  omega
theorem lit_low (u w : Int) (n : Nat) (h : ∀ j, j < n → byteAt u j = byteAt w j) : (u % 18446744073709551616) % 2 ^ (8 * n) = (w % 18446744073709551616) % 2 ^ (8 * n) := by
  induction n with
  | zero => simp [Int.emod_one]
  | succ n ih =>
    have h1 := ih (fun j hj => h j (by omega))
    have h2 := h n (by omega)
    unfold byteAt at h2
    rw [mod_step8, mod_step8 (w % _), h1, h2]
theorem lit_inj {u w : Int} {n : Nat} (h : L (lit u n) = L (lit w n)) : (u % 18446744073709551616) % 2 ^ (8 * n) = (w % 18446744073709551616) % 2 ^ (8 * n) := by
  refine lit_low u w n (fun j hj => ?_)
  rw [L_lit, L_lit] at h
  have h2 := congrArg (fun l => l[j]?) h
  simp only [List.getElem?_map, List.getElem?_range hj, Option.map_some, Option.some.injEq] at h2
  have h3 := congrArg UInt8.toNat h2
  have hu := byteAt_range u j
  have hw := byteAt_range w j
  rw [UInt8.toNat_ofNat', UInt8.toNat_ofNat'] at h3
  omega
/-- The head of an image's text. -/
def HD (a n : Int) : ByteArray := ((((((((((((⟨#[127, 69, 76, 70, 2, 1, 1, 0]⟩ : ByteArray) ++ strOfNums (List.replicate 8 0)) ++ lit 2 2) ++ lit 62 2) ++ lit 1 4) ++ lit a 8) ++ lit 64 8) ++ lit 0 8) ++ lit 0 4) ++ lit 64 2) ++ lit 56 2) ++ lit n 2) ++ strOfNums (List.replicate 6 0)
theorem rep_size (n : Nat) : (strOfNums (List.replicate n 0)).size = n := by rw [← L_len, L_nums]; simp
theorem lit8_size : ((⟨#[127, 69, 76, 70, 2, 1, 1, 0]⟩ : ByteArray)).size = 8 := rfl
theorem HD_size (a n : Int) : (HD a n).size = 64 := by
  unfold HD
  simp only [ByteArray.size_append, lit_size, rep_size, lit8_size]
/-- The head of a segment. -/
def SH (s : S111) (p : Int) : ByteArray := ((((((lit 1 4 ++ lit s.f0 4) ++ lit p 8) ++ lit s.f1 8) ++ lit s.f1 8) ++ lit s.f3.size 8) ++ lit s.f2 8) ++ lit 256 8
theorem SH_size (s : S111) (p : Int) : (SH s p).size = 56 := by
  unfold SH
  simp only [ByteArray.size_append, lit_size]
def HS : List S111 → Int → ByteArray → ByteArray
  | [], _, t => t
  | s :: r, p, t => HS r (p + s.f3.size) (t ++ SH s p)
def DS : List S111 → ByteArray → ByteArray
  | [], t => t
  | s :: r, t => DS r (t ++ s.f3)
/-- An image's text. -/
def TX (a : Int) (l : List S111) : ByteArray := DS l (HS l (64 + 56 * l.length) (HD a l.length))
def HL : List S111 → Int → List UInt8
  | [], _ => []
  | s :: r, p => L (SH s p) ++ HL r (p + s.f3.size)
def DL : List S111 → List UInt8
  | [] => []
  | s :: r => L s.f3 ++ DL r
theorem L_HS (l : List S111) : ∀ (p : Int) (t : ByteArray), L (HS l p t) = L t ++ HL l p := by
  induction l with
  | nil => intro p t; simp [HS, HL]
  | cons s r ih => intro p t; rw [HS, HL, ih, L_app, List.append_assoc]
theorem L_DS (l : List S111) : ∀ (t : ByteArray), L (DS l t) = L t ++ DL l := by
  induction l with
  | nil => intro t; simp [DS, DL]
  | cons s r ih => intro t; rw [DS, DL, ih, L_app, List.append_assoc]
theorem L_TX (a : Int) (l : List S111) : L (TX a l) = L (HD a l.length) ++ (HL l (64 + 56 * l.length) ++ DL l) := by
  unfold TX
  rw [L_DS, L_HS, List.append_assoc]
theorem HL_len (l : List S111) : ∀ p, (HL l p).length = 56 * l.length := by
  induction l with
  | nil => intro p; rfl
  | cons s r ih => intro p; rw [HL, List.length_append, ih, L_len, SH_size, List.length_cons]; omega
/-- What a text needs of a list, for its bytes to tell it. -/
def Fit (s : S111) : Prop := (0 ≤ s.f0 ∧ s.f0 < 4294967296) ∧ (0 ≤ s.f1 ∧ s.f1 < 9223372036854775808) ∧ (0 ≤ s.f2 ∧ s.f2 < 9223372036854775808) ∧ s.f3.size < 9223372036854775808
theorem SH_inj {s t : S111} {p q : Int} (hs : Fit s) (ht : Fit t) (h : L (SH s p) = L (SH t q)) : s.f0 = t.f0 ∧ s.f1 = t.f1 ∧ s.f2 = t.f2 ∧ s.f3.size = t.f3.size := by
  unfold SH at h
  simp only [L_app] at h
  have len : ∀ (u w : Int) (n : Nat), (L (lit u n)).length = (L (lit w n)).length := fun u w n => by rw [L_len, L_len, lit_size, lit_size]
  have h7 := List.append_inj' h (len _ _ _)
  have h6 := List.append_inj' h7.1 (len _ _ _)
  have h5 := List.append_inj' h6.1 (len _ _ _)
  have h4 := List.append_inj' h5.1 (len _ _ _)
  have h3 := List.append_inj' h4.1 (len _ _ _)
  have h2 := List.append_inj' h3.1 (len _ _ _)
  have h1 := List.append_inj' h2.1 (len _ _ _)
  have e0 := lit_inj h1.2
  have e1 := lit_inj h4.2
  have e3 := lit_inj h5.2
  have e2 := lit_inj h6.2
  unfold Fit at hs ht
  simp only [show (2 : Int) ^ (8 * 4) = 4294967296 by decide, show (2 : Int) ^ (8 * 8) = 18446744073709551616 by decide] at e0 e1 e2 e3
  omega
theorem HL_inj (l : List S111) : ∀ (m : List S111) (p q : Int), l.length = m.length → (∀ s ∈ l, Fit s) → (∀ s ∈ m, Fit s) → HL l p = HL m q → DL l = DL m → l = m := by
  induction l with
  | nil => intro m p q hl _ _ _ _; exact (List.eq_nil_of_length_eq_zero hl.symm).symm
  | cons s r ih =>
    intro m p q hl hs hm hh hd
    cases m with
    | nil => simp at hl
    | cons t u =>
      simp only [HL, DL] at hh hd
      have h1 := List.append_inj hh (by rw [L_len, L_len, SH_size, SH_size])
      have e := SH_inj (hs s List.mem_cons_self) (hm t List.mem_cons_self) h1.1
      have h2 := List.append_inj hd (by rw [L_len, L_len]; exact e.2.2.2)
      have e3 := L_inj h2.1
      have hr := ih u _ _ (by simpa using hl) (fun x hx => hs x (List.mem_cons_of_mem _ hx)) (fun x hx => hm x (List.mem_cons_of_mem _ hx)) h1.2 h2.2
      obtain ⟨s0, s1, s2, s3⟩ := s
      obtain ⟨t0, t1, t2, t3⟩ := t
      simp only at e e3
      obtain ⟨rfl, rfl, rfl, _⟩ := e
      rw [hr, e3]
theorem HD_inj {a b n m : Int} (h : L (HD a n) = L (HD b m)) : a % 18446744073709551616 = b % 18446744073709551616 ∧ n % 65536 = m % 65536 := by
  unfold HD at h
  simp only [L_app] at h
  have len : ∀ (u w : Int) (n : Nat), (L (lit u n)).length = (L (lit w n)).length := fun u w n => by rw [L_len, L_len, lit_size, lit_size]
  have h12 := List.append_inj' h rfl
  have h11 := List.append_inj' h12.1 (len _ _ _)
  have h10 := List.append_inj' h11.1 (len _ _ _)
  have h9 := List.append_inj' h10.1 (len _ _ _)
  have h8 := List.append_inj' h9.1 (len _ _ _)
  have h7 := List.append_inj' h8.1 (len _ _ _)
  have h6 := List.append_inj' h7.1 (len _ _ _)
  have h5 := List.append_inj' h6.1 (len _ _ _)
  have e0 := lit_inj h5.2
  have e1 := lit_inj h11.2
  simp only [show (2 : Int) ^ (8 * 2) = 65536 by decide, show (2 : Int) ^ (8 * 8) = 18446744073709551616 by decide] at e0 e1
  omega
theorem TX_inj {a b : Int} {l m : List S111} (ha : -9223372036854775808 ≤ a ∧ a ≤ 9223372036854775807) (hb : -9223372036854775808 ≤ b ∧ b ≤ 9223372036854775807) (hl : l.length ≤ 4) (hm : m.length ≤ 4) (fl : ∀ s ∈ l, Fit s) (fm : ∀ s ∈ m, Fit s) (h : TX a l = TX b m) : a = b ∧ l = m := by
  have h := congrArg L h
  rw [L_TX, L_TX] at h
  have h1 := List.append_inj h (by rw [L_len, L_len, HD_size, HD_size])
  have e := HD_inj h1.1
  have elen : l.length = m.length := by omega
  have h2 := List.append_inj h1.2 (by rw [HL_len, HL_len, elen])
  exact ⟨by omega, HL_inj l m _ _ elen fl fm h2.1 h2.2⟩
/-- What a right image's segments are. -/
theorem CI_fit {a : Int} {l : List S111} (h : (CI a l).2 = 0) : l.length ≤ 4 ∧ 0 < l.length ∧ Passed l l.length ∧ hadR l l.length = true ∧ ∀ s ∈ l, Fit s ∧ s.f3.size ≤ 3584 := by
  unfold CI at h
  split at h
  · cases h
  · split at h
    · cases h
    · rename_i h1 h2
      split at h
      · rename_i h3
        obtain ⟨hp, hr, _⟩ := codes_zero l l.length 0 (by omega) (fun j hj => absurd hj (Nat.not_lt_zero _)) h3
        refine ⟨by omega, by omega, hp, hr, fun s hs => ?_⟩
        obtain ⟨i, hi, rfl⟩ := List.getElem_of_mem hs
        have hz := sc_zero (hp i hi)
        have hq := fst_nonneg (i := i) (fun j hj => hp j (by omega))
        have e : rd_T111 l (i : Int) = l[i] := by
          unfold rd_T111
          rw [Int.toNat_natCast, List.getD_eq_getElem?_getD, List.getElem?_eq_getElem hi]
          rfl
        rw [e] at hz
        unfold Fit
        omega
      · exact absurd h (by assumption)
theorem szImgL_ev (a : Int) (l : List S149) (lf : Int) (h0 : 0 ≤ lf) (h1 : lf ≤ 1048576) (hl : l.length ≤ 9223372036854775807) (hs : ∀ x ∈ l, x.f3.size ≤ 9223372036854775807) : ∃ r, Ev (fun k => laws_szImage.f k a l lf) r ∧ r ≤ 1048576 ∧ (0 ≤ r → l.length ≤ 1048576) := by
  have hw : wrap64 (lf - (l.length : Int)) = lf - (l.length : Int) := w64 (by omega) (by omega)
  by_cases c : (lf - (l.length : Int)) < 0
  · refine ⟨-1, ?_, by omega, fun h => by omega⟩
    exact Ev.bind (a := -1) (evPos (by rw [hw]; exact c) (evR _)) (evPos (by omega) (evR _))
  · obtain ⟨r, hr, hr1, hr2⟩ := szSeg_ev l hl hs l.length (lf - (l.length : Int)) 0 (by omega) (by omega) (by omega) (by omega)
    by_cases c2 : r < 0
    · refine ⟨-1, ?_, by omega, fun h => by omega⟩
      exact Ev.bind (a := r) (evNeg (by rw [hw]; exact c) (by rw [hw]; exact hr)) (evPos c2 (evR _))
    · refine ⟨r, ?_, hr1, fun h => by omega⟩
      exact Ev.bind (a := r) (evNeg (by rw [hw]; exact c) (by rw [hw]; exact hr)) (evNeg c2 (evR _))
theorem sHead_ev (a n : Int) : Ev (fun k => spec_l10Head.f k a n) (HD a n) := by
  have sz : ∀ n : Nat, (strOfNums (List.replicate n 0)).size = n := rep_size
  have C : ∀ (x : Nat), x ≤ 1000 → x ≤ 9223372036854775807 := fun x h => by omega
  refine evPos (by omega) (evB rfl (evPos (C _ (by rw [rep_size]; omega)) ?_))
  refine Ev.bind (sLit2 2) (evPos (C _ (by simp only [ByteArray.size_append, lit_size, rep_size, lit8_size]; omega)) ?_)
  refine Ev.bind (sLit2 62) (evPos (C _ (by simp only [ByteArray.size_append, lit_size, rep_size, lit8_size]; omega)) ?_)
  refine Ev.bind (sLit4 1) (evPos (C _ (by simp only [ByteArray.size_append, lit_size, rep_size, lit8_size]; omega)) ?_)
  refine Ev.bind (sLit8 a) (evPos (C _ (by simp only [ByteArray.size_append, lit_size, rep_size, lit8_size]; omega)) ?_)
  refine Ev.bind (sLit8 64) (evPos (C _ (by simp only [ByteArray.size_append, lit_size, rep_size, lit8_size]; omega)) ?_)
  refine Ev.bind (sLit8 0) (evPos (C _ (by simp only [ByteArray.size_append, lit_size, rep_size, lit8_size]; omega)) ?_)
  refine Ev.bind (sLit4 0) (evPos (C _ (by simp only [ByteArray.size_append, lit_size, rep_size, lit8_size]; omega)) ?_)
  refine Ev.bind (sLit2 64) (evPos (C _ (by simp only [ByteArray.size_append, lit_size, rep_size, lit8_size]; omega)) ?_)
  refine Ev.bind (sLit2 56) (evPos (C _ (by simp only [ByteArray.size_append, lit_size, rep_size, lit8_size]; omega)) ?_)
  refine Ev.bind (sLit2 n) (evPos (C _ (by simp only [ByteArray.size_append, lit_size, rep_size, lit8_size]; omega)) ?_)
  exact evPos (by omega) (evB rfl (evPos (C _ (by simp only [ByteArray.size_append, lit_size, rep_size, lit8_size]; omega)) (evR _)))
theorem rds_cons {l : List S111} {i : Nat} {s : S111} {r : List S111} (h : l.drop i = s :: r) : rd_T111 l (i : Int) = s ∧ i < l.length ∧ l.drop (i + 1) = r := by
  have hi : i < l.length := by
    rcases Nat.lt_or_ge i l.length with h' | h'
    · exact h'
    · rw [List.drop_eq_nil_of_le h'] at h; cases h
  rw [List.drop_eq_getElem_cons hi] at h
  injection h with h1 h2
  refine ⟨?_, hi, h2⟩
  unfold rd_T111
  rw [Int.toNat_natCast, List.getD_eq_getElem?_getD, List.getElem?_eq_getElem hi]
  exact h1
theorem sText_l1 (a : Int) (l : List S111) (hl : l.length ≤ 4) (hf : ∀ s ∈ l, s.f3.size ≤ 3584) (r : List S111) : ∀ (i : Nat) (t : ByteArray), l.drop i = r → t.size ≤ 100000 + 3584 * i → Ev (fun k => spec_l10Text.l1 k t (i : Int) a l) (DS r t) := by
  induction r with
  | nil =>
    intro i t hd ht
    have hi : l.length ≤ i := List.drop_eq_nil_iff.1 hd
    exact Ev.step (fun k => by simp only [spec_l10Text.l1]; exact rfl) (evNeg (by omega) (evR _))
  | cons s r ih =>
    intro i t hd ht
    obtain ⟨e, hi, hd2⟩ := rds_cons hd
    have hs := hf s (by rw [← e]; exact rds_mem (by omega) (by omega))
    refine Ev.step (fun k => by simp only [spec_l10Text.l1]; exact rfl) (evPos (by omega) (evPos (by omega) ?_))
    rw [e, w64 (n := (i : Int) + 1) (by omega) (by omega), show (i : Int) + 1 = ((i + 1 : Nat) : Int) by omega]
    exact evPos (by omega) (ih (i + 1) _ hd2 (by rw [ByteArray.size_append]; omega))
theorem sText_l0 (a : Int) (l : List S111) (hl : l.length ≤ 4) (hf : ∀ s ∈ l, s.f3.size ≤ 3584) (x : ByteArray) (r : List S111) : ∀ (i : Nat) (t : ByteArray) (p : Int), l.drop i = r → t.size ≤ 64 + 56 * i → (0 ≤ p ∧ p ≤ 1000 + 3584 * (i : Int)) → (Ev (fun k => spec_l10Text.l1 k (HS r p t) 0 a l) x) → Ev (fun k => spec_l10Text.l0 k t p (i : Int) a l) x := by
  have C : ∀ (x : Nat), x ≤ 1000000 → x ≤ 9223372036854775807 := fun x h => by omega
  induction r with
  | nil =>
    intro i t p hd ht hp hx
    have hi : l.length ≤ i := List.drop_eq_nil_iff.1 hd
    exact Ev.step (fun k => by simp only [spec_l10Text.l0]; exact rfl) (evNeg (by omega) hx)
  | cons s r ih =>
    intro i t p hd ht hp hx
    obtain ⟨e, hi, hd2⟩ := rds_cons hd
    have hs := hf s (by rw [← e]; exact rds_mem (by omega) (by omega))
    refine Ev.step (fun k => by simp only [spec_l10Text.l0]; exact rfl) (evPos (by omega) (evPos (by omega) ?_))
    rw [e, w64 (n := (i : Int) + 1) (by omega) (by omega), w64 (n := p + (s.f3.size : Int)) (by omega) (by omega), show (i : Int) + 1 = ((i + 1 : Nat) : Int) by omega]
    refine Ev.bind (sLit4 1) (Ev.bind (sLit4 _) (evPos (C _ (by simp only [ByteArray.size_append, lit_size]; omega)) ?_))
    refine Ev.bind (sLit8 _) (evPos (C _ (by simp only [ByteArray.size_append, lit_size]; omega)) ?_)
    refine Ev.bind (sLit8 _) (evPos (C _ (by simp only [ByteArray.size_append, lit_size]; omega)) ?_)
    refine Ev.bind (sLit8 _) (evPos (C _ (by simp only [ByteArray.size_append, lit_size]; omega)) ?_)
    refine Ev.bind (sLit8 _) (evPos (C _ (by simp only [ByteArray.size_append, lit_size]; omega)) ?_)
    refine Ev.bind (sLit8 _) (evPos (C _ (by simp only [ByteArray.size_append, lit_size]; omega)) ?_)
    refine Ev.bind (sLit8 _) (evPos (C _ (by simp only [ByteArray.size_append, lit_size]; omega)) ?_)
    refine evPos (C _ (by simp only [ByteArray.size_append, lit_size]; omega)) ?_
    refine ih (i + 1) _ _ hd2 ?_ (by omega) hx
    have := SH_size s p
    unfold SH at this
    rw [ByteArray.size_append, this]
    omega
theorem HS_size (l : List S111) (p : Int) (t : ByteArray) : (HS l p t).size = t.size + 56 * l.length := by rw [← L_len, L_HS, List.length_append, HL_len, L_len]
theorem sText_ev (a : Int) (l : List S111) (hl : l.length ≤ 4) (hf : ∀ s ∈ l, s.f3.size ≤ 3584) : Ev (fun k => spec_l10Text.f k a l) (TX a l) := by
  refine Ev.bind (sHead_ev a _) ?_
  rw [w64 (n := 56 * (l.length : Int)) (by omega) (by omega), w64 (by omega) (by omega)]
  refine sText_l0 a l hl hf _ l 0 _ _ rfl (by rw [HD_size]; omega) (by omega) ?_
  exact sText_l1 a l hl hf l 0 _ rfl (by rw [HS_size, HD_size]; omega)

theorem shr_byte (v : Int) (i : Nat) (hi : i < 8) : shr .i64 v ((8 * i : Nat) : Int) % 256 = byteAt v i := by
  unfold shr byteAt
  simp only [IntKind.bits]
  rw [Int.toNat_natCast, show min (8 * i) 64 = 8 * i by omega]
  have key : ∀ (P : Int), 0 < P → P * 256 ∣ 18446744073709551616 → v / P % 256 = v % 18446744073709551616 / P % 256 := by
    intro P hP hd
    obtain ⟨q, hq⟩ := hd
    have h1 := Int.emod_add_mul_ediv v 18446744073709551616
    have h2 : v / P = v % 18446744073709551616 / P + 256 * (q * (v / 18446744073709551616)) := by
      have e : v = v % 18446744073709551616 + P * (256 * (q * (v / 18446744073709551616))) := by
        rw [← Int.mul_assoc, ← Int.mul_assoc, ← hq]
        exact h1.symm
      conv => lhs; rw [e]
      rw [Int.add_mul_ediv_left _ _ (by omega)]
    rw [h2]
    omega
  refine key _ (Int.pow_pos (by decide)) ⟨2 ^ (8 * (7 - i)), ?_⟩
  rw [show (256 : Int) = 2 ^ 8 from rfl, ← Int.pow_add, ← Int.pow_add, show 8 * i + 8 + 8 * (7 - i) = 64 by omega]
  rfl
theorem iLittle_loop (v : Int) (n : Nat) (hn : n ≤ 8) (d : Nat) : ∀ (xs : List Int) (i : Nat), i + d = n → xs.length = n → xs.take i = (List.range i).map (byteAt v) → Ev (fun k => impl_little.l0 k v xs (n : Int) (i : Int)) (lit v n) := by
  induction d with
  | zero =>
    intro xs i hi hl ht
    have e : i = n := by omega
    subst e
    rw [List.take_of_length_le (by omega)] at ht
    exact Ev.step (fun k => by simp only [impl_little.l0]; exact rfl) (evNeg (by omega) (evEq (evR _) (by rw [ht]; rfl)))
  | succ d ih =>
    intro xs i hi hl ht
    have hw : wrap64 (8 * (i : Int)) = ((8 * i : Nat) : Int) := by rw [w64 (by omega) (by omega)]; omega
    refine Ev.step (fun k => by simp only [impl_little.l0]; exact rfl) (evPos (by omega) ?_)
    rw [hw]
    refine evPos (by omega) (evPos (by omega) (evPos (by omega) ?_))
    rw [shr_byte v i (by omega), w64 (n := (i : Int) + 1) (by omega) (by omega), show (i : Int) + 1 = ((i + 1 : Nat) : Int) by omega, Int.toNat_natCast]
    refine ih _ (i + 1) (by omega) (by rw [List.length_set]; exact hl) ?_
    rw [List.take_succ_eq_append_getElem (by rw [List.length_set]; omega), List.take_set_of_le (Nat.le_refl i), ht, List.range_succ, List.map_append]
    simp
theorem iLittle_ev (v : Int) (n : Nat) (hn : n ≤ 8) : Ev (fun k => impl_little.f k v (n : Int)) (lit v n) := by
  have key : ∀ xs : List Int, xs.length = n → Ev (fun k => impl_little.l0 k v xs (xs.length : Int) 0) (lit v n) := by
    intro xs h
    have := iLittle_loop v n hn n xs 0 (by omega) h (by rw [List.take_zero]; rfl)
    rw [h]
    exact this
  refine evPos (by omega) ?_
  rw [Int.toNat_natCast]
  exact evPos (by omega) (evB rfl (key _ List.length_replicate))
theorem iLit2 (v : Int) : Ev (fun k => impl_little.f k v 2) (lit v 2) := iLittle_ev v 2 (by omega)
theorem iLit4 (v : Int) : Ev (fun k => impl_little.f k v 4) (lit v 4) := iLittle_ev v 4 (by omega)
theorem iLit8 (v : Int) : Ev (fun k => impl_little.f k v 8) (lit v 8) := iLittle_ev v 8 (by omega)
def zs (n : Nat) : ByteArray := ⟨(List.replicate n (0 : UInt8)).toArray⟩
theorem zs_size (n : Nat) : (zs n).size = n := by unfold zs; simp [ByteArray.size]
theorem rep_val (n : Nat) (hn : n ≤ 1000) : strings_Repeat.f (⟨#[0]⟩ : ByteArray) (n : Int) = some (zs n) := by
  have hsz : ((⟨#[0]⟩ : ByteArray)).size = 1 := rfl
  unfold strings_Repeat.f
  simp only [hsz, Int.toNat_natCast]
  rw [if_pos (by omega)]
  have hl : Go.Lib.repeatL (⟨#[0]⟩ : ByteArray).data.toList n = List.replicate n 0 := by
    have := Go.Lib.repeatL_replicate (0 : UInt8) 1 n
    rw [Nat.mul_one] at this
    exact this
  rw [hl]
  rfl
def HDi (a n : Int) : ByteArray := ((((((((((((⟨#[127, 69, 76, 70, 2, 1, 1]⟩ : ByteArray) ++ zs 9) ++ lit 2 2) ++ lit 62 2) ++ lit 1 4) ++ lit a 8) ++ lit 64 8) ++ lit 0 8) ++ lit 0 4) ++ lit 64 2) ++ lit 56 2) ++ lit n 2) ++ zs 6
theorem HDi_eq (a n : Int) : HDi a n = HD a n := by
  apply L_inj
  unfold HDi HD
  simp only [L_app]
  rfl
theorem lit7_size : ((⟨#[127, 69, 76, 70, 2, 1, 1]⟩ : ByteArray)).size = 7 := rfl
theorem iHead_ev (a n : Int) : Ev (fun k => impl_headText.f k a n) (HD a n) := by
  rw [← HDi_eq]
  have C : ∀ (x : Nat), x ≤ 1000 → x ≤ 9223372036854775807 := fun x h => by omega
  refine evB (rep_val 9 (by omega)) (evPos (C _ (by rw [zs_size]; omega)) ?_)
  refine Ev.bind (iLit2 2) (evPos (C _ (by simp only [ByteArray.size_append, lit_size, zs_size, lit7_size]; omega)) ?_)
  refine Ev.bind (iLit2 62) (evPos (C _ (by simp only [ByteArray.size_append, lit_size, zs_size, lit7_size]; omega)) ?_)
  refine Ev.bind (iLit4 1) (evPos (C _ (by simp only [ByteArray.size_append, lit_size, zs_size, lit7_size]; omega)) ?_)
  refine Ev.bind (iLit8 a) (evPos (C _ (by simp only [ByteArray.size_append, lit_size, zs_size, lit7_size]; omega)) ?_)
  refine Ev.bind (iLit8 64) (evPos (C _ (by simp only [ByteArray.size_append, lit_size, zs_size, lit7_size]; omega)) ?_)
  refine Ev.bind (iLit8 0) (evPos (C _ (by simp only [ByteArray.size_append, lit_size, zs_size, lit7_size]; omega)) ?_)
  refine Ev.bind (iLit4 0) (evPos (C _ (by simp only [ByteArray.size_append, lit_size, zs_size, lit7_size]; omega)) ?_)
  refine Ev.bind (iLit2 64) (evPos (C _ (by simp only [ByteArray.size_append, lit_size, zs_size, lit7_size]; omega)) ?_)
  refine Ev.bind (iLit2 56) (evPos (C _ (by simp only [ByteArray.size_append, lit_size, zs_size, lit7_size]; omega)) ?_)
  refine Ev.bind (iLit2 n) (evPos (C _ (by simp only [ByteArray.size_append, lit_size, zs_size, lit7_size]; omega)) ?_)
  exact evB (rep_val 6 (by omega)) (evPos (C _ (by simp only [ByteArray.size_append, lit_size, zs_size, lit7_size]; omega)) (evR _))

theorem iText_l0 (l : List S111) (hl : l.length ≤ 4) (hf : ∀ s ∈ l, s.f3.size ≤ 3584) (q : Int) (hq : 0 ≤ q ∧ q ≤ 1000) (r : List S111) : ∀ (i : Nat) (t u : ByteArray), i ≤ l.length → l.drop i = r → t.size ≤ 64 + 56 * i → u.size ≤ 3584 * i → Ev (fun k => impl_ElfText.l0 k t u q l (l.length : Int) (i : Int)) (HS r (q + u.size) t ++ DS r u, 0) := by
  have C : ∀ (x : Nat), x ≤ 1000000 → x ≤ 9223372036854775807 := fun x h => by omega
  induction r with
  | nil =>
    intro i t u hil hd ht hu
    have hi : l.length ≤ i := List.drop_eq_nil_iff.1 hd
    exact Ev.step (fun k => by simp only [impl_ElfText.l0]; exact rfl) (evNeg (by omega) (evPos (by omega) (evR _)))
  | cons s r ih =>
    intro i t u hil hd ht hu
    obtain ⟨e, hi, hd2⟩ := rds_cons hd
    have hs := hf s (by rw [← e]; exact rds_mem (by omega) (by omega))
    refine Ev.step (fun k => by simp only [impl_ElfText.l0]; exact rfl) (evPos (by omega) (evPos (by omega) (evPos (by omega) ?_)))
    rw [e, w64 (n := (i : Int) + 1) (by omega) (by omega), w64 (n := q + (u.size : Int)) (by omega) (by omega), show (i : Int) + 1 = ((i + 1 : Nat) : Int) by omega]
    refine Ev.bind (iLit4 1) (Ev.bind (iLit4 _) (evPos (C _ (by simp only [ByteArray.size_append, lit_size]; omega)) ?_))
    refine Ev.bind (iLit8 _) (evPos (C _ (by simp only [ByteArray.size_append, lit_size]; omega)) ?_)
    refine Ev.bind (iLit8 _) (evPos (C _ (by simp only [ByteArray.size_append, lit_size]; omega)) ?_)
    refine Ev.bind (iLit8 _) (evPos (C _ (by simp only [ByteArray.size_append, lit_size]; omega)) ?_)
    refine Ev.bind (iLit8 _) (evPos (C _ (by simp only [ByteArray.size_append, lit_size]; omega)) ?_)
    refine Ev.bind (iLit8 _) (evPos (C _ (by simp only [ByteArray.size_append, lit_size]; omega)) ?_)
    refine Ev.bind (iLit8 _) (evPos (C _ (by simp only [ByteArray.size_append, lit_size]; omega)) ?_)
    refine evPos (C _ (by simp only [ByteArray.size_append, lit_size]; omega)) (evPos (by omega) ?_)
    have hz := SH_size s (q + (u.size : Int))
    have := ih (i + 1) (t ++ SH s (q + (u.size : Int))) (u ++ s.f3) (by omega) hd2 (by rw [ByteArray.size_append, hz]; omega) (by rw [ByteArray.size_append]; omega)
    rw [ByteArray.size_append, show q + ((u.size + s.f3.size : Nat) : Int) = q + (u.size : Int) + s.f3.size by omega] at this
    exact this
theorem same (a : Int) (l : List S111) (hl : l.length ≤ 1048576) : ∃ r, Ev (fun k => spec_ElfText.f k a l) r ∧ Ev (fun k => impl_ElfText.f k a l) r := by
  have sa : Ev (fun k => spec_ImageOK.f k a l) ((CI a l).2 == 0) := Ev.bind (sCheck_ev a l hl) (evR _)
  have ia : Ev (fun k => impl_ImageOK.f k a l) ((CI a l).2 == 0) := Ev.bind (iCI_ev a l hl) (evR _)
  by_cases c : (CI a l).2 = 0
  · have ca : ((CI a l).2 == 0) = true := by rw [c]; rfl
    rw [ca] at sa ia
    obtain ⟨l4, _, _, _, fl⟩ := CI_fit c
    refine ⟨(TX a l, 0), Ev.bind sa (evPos rfl (Ev.bind (sText_ev a l l4 (fun s hs => (fl s hs).2)) (evR _))), Ev.bind ia (evPos rfl (Ev.bind (iHead_ev a _) ?_))⟩
    rw [w64 (n := 56 * (l.length : Int)) (by omega) (by omega), w64 (by omega) (by omega)]
    refine evEq (iText_l0 l l4 (fun s hs => (fl s hs).2) _ (by omega) l 0 _ _ (by omega) rfl (by rw [HD_size]; omega) (by show (0 : Nat) ≤ _; omega)) ?_
    rw [show 64 + 56 * (l.length : Int) + (((⟨#[]⟩ : ByteArray).size : Nat) : Int) = 64 + 56 * (l.length : Int) by show _ + ((0 : Nat) : Int) = _; omega]
    congr 1
    apply L_inj
    unfold TX
    rw [L_app, L_DS, L_DS]
    rfl
  · have ca : ((CI a l).2 == 0) = false := by simpa using c
    rw [ca] at sa ia
    exact ⟨(⟨#[]⟩, 1), Ev.bind sa (evNeg (by decide) (evR _)), Ev.bind ia (evNeg (by decide) (evR _))⟩
theorem FnExactElfText : laws_FnExactElfText.Pure := by
  intro x ok
  refine Ev.rounds (g := fun k => laws_FnExactElfText.f k x.f0 x.f1) ?_
  obtain ⟨r, hr, hr1, hlen⟩ := szImgL_ev x.f0 x.f1 1048576 (by omega) (by omega) ok.2.1 (fun z hz => (ok.2.2 z hz).2.2.2)
  by_cases c : r < 0
  · exact Ev.bind hr (evPos c (evR _))
  · have hl := hlen (by omega)
    have hm := toImg_ev x.f0 x.f1 hl
    have hl2 : (x.f1.map cvS).length ≤ 1048576 := by rw [List.length_map]; exact hl
    obtain ⟨z, hs, hi⟩ := same x.f0 _ hl2
    refine Ev.bind hr (evNeg c (Ev.bind hm (Ev.bind hs (Ev.bind hm (Ev.bind hi (evPos rfl ?_))))))
    refine Ev.step (fun k => by simp only [laws_FnExactElfText.j0]; exact rfl) (evNeg (by simp) ?_)
    exact Ev.bind hm (Ev.bind (eqImg_ev x.f0 _ hl2) (evPos rfl (evR _)))

end Go.Proofs.Ytigoabhkdipdeaa.Pure

/- A part of the plain reading of Go's code: what a function's code comes to, by a plain function. No condition. -/
import Derived.Test.YtigoabhkdipdeaaZPuMarkS
/- An image is checked: impl's code of a segment. -/
namespace Go.Proofs.Ytigoabhkdipdeaa
open Go Go.Proofs.Ytigoabhkdipdeaa.AM
set_option linter.all false
/-- The code of a segment that stands behind others: where it may begin at first, and whether one that can be run stands ahead. -/
def sc (first : Int) (had : Bool) (s : S_Segment) : Int :=
  if s.f0 ≠ 4 ∧ s.f0 ≠ 5 ∧ s.f0 ≠ 6 then 14
  else if ¬ (Int.tmod s.f1 256 = 0 ∧ (first ≤ s.f1 ∧ s.f1 ≤ 3583) ∧ (1 ≤ s.f2 ∧ s.f2 ≤ 3584 - s.f1) ∧ (s.f3.size : Int) ≤ s.f2) then 31
  else if s.f0 = 5 ∧ (had = true ∨ (s.f3.size : Int) ≠ s.f2 ∨ Int.tmod s.f2 32 ≠ 0) then 28 else 0
def up (n : Int) : Int := (n + 255) / 256 * 256
def endOf (s : S_Segment) : Int := s.f1 + up s.f2
def isRun (s : S_Segment) : Bool := s.f0 == 5
def hadR (l : List S_Segment) (i : Nat) : Bool := (l.take i).any isRun
def fst_ (l : List S_Segment) (i : Nat) : Int := if i = 0 then 512 else endOf (rd z_Segment l (i - 1))
def firstR (l : List S_Segment) : Int := match l.findIdx? isRun with
  | some i => (i : Int)
  | none => -1
theorem firstR_any (l : List S_Segment) : (0 ≤ firstR l) ↔ l.any isRun = true := by
  unfold firstR
  cases h : l.findIdx? isRun with
  | none =>
    have := List.findIdx?_eq_none_iff.1 h
    constructor
    · intro h2; exact absurd h2 (by decide)
    · intro h2
      obtain ⟨x, hx, hp⟩ := List.any_eq_true.1 h2
      rw [this x hx] at hp; cases hp
  | some i =>
    obtain ⟨hi, hp, _⟩ := List.findIdx?_eq_some_iff_getElem.1 h
    constructor
    · intro _; exact List.any_eq_true.2 ⟨_, List.getElem_mem hi, hp⟩
    · intro _; exact Int.natCast_nonneg i
theorem i_pages_val (n : Int) (k : Nat) (h0 : 0 ≤ n) (h1 : n ≤ 4611686018427387904) : i_pages k n = some (up n) := by
  unfold i_pages up
  rw [wI (n := n + 256) (by omega) (by omega), wI (n := n + 256 - 1) (by omega) (by omega), Int.tdiv_eq_ediv_of_nonneg (by omega)]
  rw [wI (n := (n + 256 - 1) / 256) (by omega) (by omega), wI (by omega) (by omega)]
  congr 3
  omega
noncomputable def segTail (n : Nat) (e1 : List S_Segment) (e5 : Int) (b0_0 : Int) (b0_1 : Int) (b0_2 : Int) (b0_3 : ByteArray) : Option Int :=
  (bif b0_1.tmod (256 : Int) != (0 : Int) then (some ((31 : Int))) else ((i_within n (b0_1) (e5) ((3583 : Int))).bind fun t0 => (bif !t0 then (some ((31 : Int))) else ((i_within n (b0_2) ((1 : Int)) (IntKind.i64.wrap ((3584 : Int) - b0_1))).bind fun t1 => (bif !t1 then (some ((31 : Int))) else (bif decide (Int.ofNat b0_3.size > b0_2) then (some ((31 : Int))) else (bif b0_0 == (5 : Int) then ((i_runSegment n (e1)).bind fun t2 => (bif decide (t2 ≥ (0 : Int)) then (some ((28 : Int))) else (bif Int.ofNat b0_3.size != b0_2 then (some ((28 : Int))) else (bif b0_2.tmod (32 : Int) != (0 : Int) then (some ((28 : Int))) else (some ((0 : Int))))))) else (some ((0 : Int))))))))))
theorem segTail_ev (l : List S_Segment) (hR : Ev (fun n => i_runSegment n l) (firstR l)) (first : Int) (hf : 0 ≤ first) (s : S_Segment) (h : s.f0 = 4 ∨ s.f0 = 5 ∨ s.f0 = 6) : Ev (fun n => segTail n l first s.f0 s.f1 s.f2 s.f3) (sc first (l.any isRun) s) := by
  have h' : ¬ (s.f0 ≠ 4 ∧ s.f0 ≠ 5 ∧ s.f0 ≠ 6) := by omega
  unfold segTail
  by_cases c : (Int.tmod s.f1 256 = 0 ∧ (first ≤ s.f1 ∧ s.f1 ≤ 3583) ∧ (1 ≤ s.f2 ∧ s.f2 ≤ 3584 - s.f1) ∧ (s.f3.size : Int) ≤ s.f2)
  · have e : sc first (l.any isRun) s = if s.f0 = 5 ∧ (l.any isRun = true ∨ (s.f3.size : Int) ≠ s.f2 ∨ Int.tmod s.f2 32 ≠ 0) then 28 else 0 := by
      unfold sc
      rw [if_neg h', if_neg (Decidable.not_not.2 c)]
    rw [e]
    refine Ev.f (by simp [c.1]) (Ev.bind (Ev.all fun n => i_within_val n _ _ _) (Ev.f (by rw [IN_true.2 c.2.1]; rfl) (Ev.bind (Ev.all fun n => i_within_val n _ _ _) (Ev.f (by rw [wI (n := 3584 - s.f1) (by omega) (by omega), IN_true.2 c.2.2.1]; rfl) (Ev.df (by simp only [Int.ofNat_eq_natCast]; omega) ?_)))))
    by_cases h5 : s.f0 = 5
    · refine Ev.t (by simp [h5]) (Ev.bind hR ?_)
      by_cases hg : 0 ≤ firstR l
      · exact Ev.dt hg (Ev.eq (Ev.now _) (by rw [if_pos ⟨h5, .inl ((firstR_any l).1 hg)⟩]))
      · have hg' : l.any isRun = false := by
          cases hq : l.any isRun
          · rfl
          · exact absurd ((firstR_any l).2 hq) hg
        refine Ev.df hg ?_
        by_cases hz : (s.f3.size : Int) = s.f2
        · refine Ev.f (by simp [hz]) ?_
          by_cases hm : Int.tmod s.f2 32 = 0
          · refine Ev.f (by simp [hm]) (Ev.eq (Ev.now _) ?_)
            rw [if_neg]
            rintro ⟨_, h1 | h1 | h1⟩
            · rw [hg'] at h1; cases h1
            · exact h1 hz
            · exact h1 hm
          · exact Ev.t (by simp [hm]) (Ev.eq (Ev.now _) (by rw [if_pos ⟨h5, .inr (.inr hm)⟩]))
        · exact Ev.t (by simp [hz]) (Ev.eq (Ev.now _) (by rw [if_pos ⟨h5, .inr (.inl hz)⟩]))
    · exact Ev.f (by simp [h5]) (Ev.eq (Ev.now _) (by rw [if_neg (fun z => h5 z.1)]))
  · have e : sc first (l.any isRun) s = 31 := by
      unfold sc
      rw [if_neg h', if_pos c]
    rw [e]
    by_cases c1 : Int.tmod s.f1 256 = 0
    · refine Ev.f (by simp [c1]) (Ev.bind (Ev.all fun n => i_within_val n _ _ _) ?_)
      by_cases c2 : first ≤ s.f1 ∧ s.f1 ≤ 3583
      · refine Ev.f (by rw [IN_true.2 c2]; rfl) (Ev.bind (Ev.all fun n => i_within_val n _ _ _) ?_)
        rw [wI (n := 3584 - s.f1) (by omega) (by omega)]
        by_cases c3 : 1 ≤ s.f2 ∧ s.f2 ≤ 3584 - s.f1
        · refine Ev.f (by rw [IN_true.2 c3]; rfl) (Ev.dt ?_ (Ev.now _))
          have : ¬ (s.f3.size : Int) ≤ s.f2 := fun z => c ⟨c1, c2, c3, z⟩
          simp only [Int.ofNat_eq_natCast]
          omega
        · exact Ev.t (by rw [IN_false.2 c3]; rfl) (Ev.now _)
      · exact Ev.t (by rw [IN_false.2 c2]; rfl) (Ev.now _)
    · exact Ev.t (by simp [c1]) (Ev.now _)
theorem segJ_ev (l : List S_Segment) (hR : Ev (fun n => i_runSegment n l) (firstR l)) (first : Int) (hf : 0 ≤ first) (s : S_Segment) : Ev (fun n => i_segmentCode_j9 n l first s.f0 s.f1 s.f2 s.f3) (sc first (l.any isRun) s) := by
  unfold i_segmentCode_j9
  by_cases h4 : s.f0 = 4
  · exact Ev.f (by simp [h4]) (segTail_ev l hR first hf s (.inl h4))
  · refine Ev.t (by simp [h4]) ?_
    by_cases h5 : s.f0 = 5
    · exact Ev.f (by simp [h5]) (segTail_ev l hR first hf s (.inr (.inl h5)))
    · refine Ev.t (by simp [h5]) ?_
      by_cases h6 : s.f0 = 6
      · exact Ev.f (by simp [h6]) (segTail_ev l hR first hf s (.inr (.inr h6)))
      · refine Ev.t (by simp [h6]) (Ev.eq (Ev.now _) ?_)
        unfold sc
        rw [if_pos ⟨h4, h5, h6⟩]
end Go.Proofs.Ytigoabhkdipdeaa

/- A part of the plain reading of Go's code: what a function's code comes to, by a plain function. No condition. -/
import Derived.Test.YtigoabhkdipdeaaZPuChk2
/- An image is checked: impl's CheckImage, whole. -/
namespace Go.Proofs.Ytigoabhkdipdeaa
open Go Go.Proofs.Ytigoabhkdipdeaa.AM
set_option linter.all false
def runS (l : List S_Segment) : S_Segment := rd z_Segment l (firstR l).toNat
/-- The entry's test. -/
def entryC (a : Int) (l : List S_Segment) : Int × Int :=
  if (runS l).f1 ≤ a ∧ a ≤ (runS l).f1 + (runS l).f2 - 1 ∧ Int.tmod a 32 = 0 then (0, 0) else (0, 32)
/-- The segments' code from segment i on. -/
def codes (l : List S_Segment) : Nat → Nat → Int × Int
  | i, 0 => if hadR l i = true then (0, 0) else (0, 28)
  | i, d + 1 => if sc (fst_ l i) (hadR l i) (rd z_Segment l i) = 0 then codes l (i + 1) d else ((i : Int), sc (fst_ l i) (hadR l i) (rd z_Segment l i))
def CI (a : Int) (l : List S_Segment) : Int × Int :=
  if l.length = 0 then (0, 5) else if l.length > 4 then (0, 6) else if (codes l 0 l.length).2 = 0 then entryC a l else codes l 0 l.length
theorem entry_bounds {l : List S_Segment} (hp : Passed l l.length) (hr : hadR l l.length = true) : 0 ≤ firstR l ∧ firstR l < l.length ∧ 0 ≤ (runS l).f1 ∧ (runS l).f1 ≤ 3583 ∧ 1 ≤ (runS l).f2 ∧ (runS l).f2 ≤ 3584 := by
  have h0 : 0 ≤ firstR l := by
    rw [firstR_any]
    unfold hadR at hr
    rwa [List.take_length] at hr
  have h1 := firstR_lt l
  have hq := sc_zero (hp (firstR l).toNat (by omega))
  have hq0 := fst_nonneg (i := (firstR l).toNat) (fun j hj => hp j (by omega))
  unfold runS
  exact ⟨h0, h1, by omega, by omega, by omega, by omega⟩
theorem noRun {l : List S_Segment} (hr : ¬ hadR l l.length = true) : firstR l < 0 := by
  have : ¬ 0 ≤ firstR l := by
    rw [firstR_any]
    unfold hadR at hr
    rwa [List.take_length] at hr
  omega
theorem iloop_ev (a : Int) (l : List S_Segment) (hl : l.length ≤ 1048576) : ∀ (d i : Nat), i + d = l.length → Passed l i → Ev (fun n => i_CheckImage_ls n l (l.length : Int) (i : Int) a l) (if (codes l i d).2 = 0 then entryC a l else codes l i d) := by
  intro d
  induction d with
  | zero =>
    intro i hi hp
    have e : i = l.length := by omega
    subst e
    refine Ev.step (g := fun n => i_CheckImage_r2 (i_CheckImage_ls n) n l l.length l.length a l) (fun n => rfl) ?_
    unfold i_CheckImage_r2
    refine Ev.df (by omega) (Ev.bind (i_runSegment_ev l hl) ?_)
    by_cases hr : hadR l l.length = true
    · obtain ⟨b0, b1, b2, b3, b4, b5⟩ := entry_bounds hp hr
      have e1 : (if (codes l l.length 0).2 = 0 then entryC a l else codes l l.length 0) = entryC a l := by unfold codes; simp [hr]
      rw [e1]
      refine Ev.df (by omega) (Ev.dt b0 (Ev.dt (by simp only [Int.ofNat_eq_natCast]; omega) ?_))
      change Ev (fun n => (i_within n a (runS l).f1 (IntKind.i64.wrap (IntKind.i64.wrap ((runS l).f1 + (runS l).f2) - 1))).bind fun t1 => (bif !t1 then (some (((0 : Int), (32 : Int)))) else (bif a.tmod (32 : Int) != (0 : Int) then (some (((0 : Int), (32 : Int)))) else (some (((0 : Int), (0 : Int))))))) (entryC a l)
      rw [wI (n := (runS l).f1 + (runS l).f2) (by omega) (by omega), wI (by omega) (by omega)]
      refine Ev.bind (Ev.all fun n => i_within_val n _ _ _) ?_
      unfold entryC
      by_cases c : (runS l).f1 ≤ a ∧ a ≤ (runS l).f1 + (runS l).f2 - 1
      · rw [IN_true.2 c]
        refine Ev.f rfl ?_
        by_cases c2 : Int.tmod a 32 = 0
        · exact Ev.f (by simp [c2]) (Ev.eq (Ev.now _) (by rw [if_pos ⟨c.1, c.2, c2⟩]))
        · exact Ev.t (by simp [c2]) (Ev.eq (Ev.now _) (by rw [if_neg (fun z => c2 z.2.2)]))
      · rw [IN_false.2 c]
        exact Ev.t rfl (Ev.eq (Ev.now _) (by rw [if_neg (fun z => c ⟨z.1, z.2.1⟩)]))
    · refine Ev.dt (noRun hr) (Ev.eq (Ev.now _) ?_)
      unfold codes
      simp [hr]
  | succ d ih =>
    intro i hi hp
    refine Ev.step (g := fun n => i_CheckImage_r2 (i_CheckImage_ls n) n l l.length i a l) (fun n => rfl) ?_
    unfold i_CheckImage_r2
    rw [Int.toNat_natCast]
    refine Ev.dt (by omega) (Ev.dt (by omega) (Ev.dt (by simp only [Int.ofNat_eq_natCast]; omega) (Ev.dt (by omega) (Ev.dt (by omega) ?_))))
    refine Ev.bind (iseg_ev l i (by omega) hl hp (rd z_Segment l i)) ?_
    by_cases c : sc (fst_ l i) (hadR l i) (rd z_Segment l i) = 0
    · refine Ev.f (by simp [c]) ?_
      rw [wI (n := (i : Int) + 1) (by omega) (by omega), show (i : Int) + 1 = ((i + 1 : Nat) : Int) by omega]
      refine Ev.eq (ih (i + 1) (by omega) ?_) ?_
      · intro j hj
        by_cases e : j = i
        · rw [e]; exact c
        · exact hp j (by omega)
      · rw [show codes l i (d + 1) = codes l (i + 1) d by rw [codes, if_pos c]]
    · refine Ev.t (by simp [c]) (Ev.eq (Ev.now _) ?_)
      rw [show codes l i (d + 1) = ((i : Int), sc (fst_ l i) (hadR l i) (rd z_Segment l i)) by rw [codes, if_neg c]]
      rw [if_neg c]
theorem i_CheckImage_ev (a : Int) (l : List S_Segment) (hl : l.length ≤ 1048576) : Ev (fun n => i_CheckImage n (a, l, ())) (CI a l) := by
  unfold i_CheckImage i_CheckImage_m
  by_cases h : l.length = 0
  · refine Ev.t (by simp [h]) (Ev.eq (Ev.now _) ?_)
    unfold CI
    rw [if_pos h]
  · refine Ev.f (by simp; exact fun z => h (by rw [z]; rfl)) ?_
    by_cases h2 : l.length > 4
    · refine Ev.dt (by simp only [Int.ofNat_eq_natCast]; omega) (Ev.eq (Ev.now _) ?_)
      unfold CI
      rw [if_neg h, if_pos h2]
    · refine Ev.df (by simp only [Int.ofNat_eq_natCast]; omega) ?_
      have e : CI a l = if (codes l 0 l.length).2 = 0 then entryC a l else codes l 0 l.length := by
        unfold CI
        rw [if_neg h, if_neg h2]
      rw [e]
      exact iloop_ev a l hl l.length 0 (by omega) (fun j hj => absurd hj (Nat.not_lt_zero _))
end Go.Proofs.Ytigoabhkdipdeaa

/- A part of the plain reading of Go's code: what a function's code comes to, by a plain function. No condition. -/
import Derived.Test.YtigoabhkdipdeaaZPuChk4
/- An image is checked: the reference's l10Check, whole. -/
namespace Go.Proofs.Ytigoabhkdipdeaa
open Go Go.Proofs.Ytigoabhkdipdeaa.AM
set_option linter.all false
theorem sloop_ev (a : Int) (l : List S_Segment) (hl : l.length ≤ 1048576) : ∀ (d i : Nat), i + d = l.length → Passed l i → Ev (fun n => (s_l10Segments_ls n).1 (fst_ l i) (if hadR l i = true then 1 else 0) (i : Int) a l) (codes l i d) := by
  intro d
  induction d with
  | zero =>
    intro i hi hp
    refine Ev.step (g := fun n => s_l10Segments_r0 (s_l10Segments_ls n).1 (s_l10Segments_ls n).2 n (fst_ l i) (if hadR l i = true then 1 else 0) i a l) (fun n => rfl) ?_
    unfold s_l10Segments_r0
    refine Ev.df (by simp only [Int.ofNat_eq_natCast]; omega) ?_
    unfold codes
    by_cases hr : hadR l i = true
    · rw [if_pos hr, if_pos hr]
      exact Ev.f (by decide) (Ev.now _)
    · rw [if_neg hr, if_neg hr]
      exact Ev.t (by decide) (Ev.now _)
  | succ d ih =>
    intro i hi hp
    have hn := fst_nonneg hp
    have hlt : (i : Int) < Int.ofNat l.length := by simp only [Int.ofNat_eq_natCast]; omega
    have hr : sc (fst_ l i) (hadR l i) (rd z_Segment l i) = 0 → Ev (fun n => (s_l10Segments_ls n).1 (endOf (rd z_Segment l i)) (if (hadR l i || isRun (rd z_Segment l i)) = true then 1 else 0) ((i + 1 : Nat) : Int) a l) (codes l (i + 1) d) := by
      intro h0
      have h1 := ih (i + 1) (by omega) (fun j hj => by
        by_cases e : j = i
        · rw [e]; exact h0
        · exact hp j (by omega))
      rw [hadR_succ (by omega)] at h1
      have e : fst_ l (i + 1) = endOf (rd z_Segment l i) := by
        unfold fst_
        rw [if_neg (by omega), show i + 1 - 1 = i by omega]
      rw [e] at h1
      exact h1
    rw [codes]
    have tl := fun h => sTail_ev (fst_ l i) _ (hadR l i) rfl i (by omega) a l (by omega) (codes l (i + 1) d) h hr
    refine Ev.step (g := fun n => s_l10Segments_r0 (s_l10Segments_ls n).1 (s_l10Segments_ls n).2 n (fst_ l i) (if hadR l i = true then 1 else 0) i a l) (fun n => rfl) ?_
    unfold s_l10Segments_r0
    refine Ev.dt hlt (Ev.dt (by omega) (Ev.dt hlt ?_))
    rw [Int.toNat_natCast]
    by_cases h4 : (rd z_Segment l i).f0 = 4
    · exact Ev.f (by simp [h4]) (tl (.inl h4))
    · refine Ev.t (by simp [h4]) ?_
      by_cases h5 : (rd z_Segment l i).f0 = 5
      · exact Ev.f (by simp [h5]) (tl (.inr (.inl h5)))
      · refine Ev.t (by simp [h5]) ?_
        by_cases h6 : (rd z_Segment l i).f0 = 6
        · exact Ev.f (by simp [h6]) (tl (.inr (.inr h6)))
        · refine Ev.t (by simp [h6]) (Ev.eq (Ev.now _) ?_)
          have e : sc (fst_ l i) (hadR l i) (rd z_Segment l i) = 14 := by unfold sc; rw [if_pos ⟨h4, h5, h6⟩]
          rw [e, if_neg (by decide)]
theorem srun_loop (a : Int) (l : List S_Segment) (hl : l.length ≤ 1048576) : ∀ (d i : Nat), i + d = l.length → (∀ j, j < i → isRun (rd z_Segment l j) = false) → Ev (fun n => s_l10Run_ls n (i : Int) a l) (firstR l) := by
  intro d
  induction d with
  | zero =>
    intro i hi hj
    refine Ev.step (g := fun n => s_l10Run_r0 (s_l10Run_ls n) n i a l) (fun n => rfl) ?_
    unfold s_l10Run_r0
    exact Ev.df (by simp only [Int.ofNat_eq_natCast]; omega) (Ev.eq (Ev.now _) (firstR_none fun j h => hj j (by omega)).symm)
  | succ d ih =>
    intro i hi hj
    have hlt : (i : Int) < Int.ofNat l.length := by simp only [Int.ofNat_eq_natCast]; omega
    refine Ev.step (g := fun n => s_l10Run_r0 (s_l10Run_ls n) n i a l) (fun n => rfl) ?_
    unfold s_l10Run_r0
    rw [Int.toNat_natCast]
    refine Ev.dt hlt (Ev.dt (by omega) (Ev.dt hlt ?_))
    cases hr : isRun (rd z_Segment l i) with
    | true => exact Ev.t hr (Ev.eq (Ev.now _) (firstR_hit (by omega) hr hj).symm)
    | false =>
      refine Ev.f hr ?_
      rw [wI (by omega) (by omega)]
      refine ih (i + 1) (by omega) fun j h => ?_
      by_cases e : j = i
      · rw [e]; exact hr
      · exact hj j (by omega)
theorem srun_ev (a : Int) (l : List S_Segment) (hl : l.length ≤ 1048576) : Ev (fun n => s_l10Run n (a, l, ())) (firstR l) := srun_loop a l hl l.length 0 (by omega) fun j h => by omega
theorem codes_zero (l : List S_Segment) : ∀ (d i : Nat), i + d = l.length → Passed l i → (codes l i d).2 = 0 → Passed l l.length ∧ hadR l l.length = true ∧ codes l i d = (0, 0) := by
  intro d
  induction d with
  | zero =>
    intro i hi hp h
    have e : i = l.length := by omega
    subst e
    unfold codes at h ⊢
    by_cases hr : hadR l l.length = true
    · rw [if_pos hr]; exact ⟨hp, hr, rfl⟩
    · rw [if_neg hr] at h; exact absurd h (by decide)
  | succ d ih =>
    intro i hi hp h
    rw [codes] at h ⊢
    by_cases c : sc (fst_ l i) (hadR l i) (rd z_Segment l i) = 0
    · rw [if_pos c] at h ⊢
      refine ih (i + 1) (by omega) (fun j hj => ?_) h
      by_cases e : j = i
      · rw [e]; exact c
      · exact hp j (by omega)
    · rw [if_neg c] at h; exact absurd h c
theorem s_l10Check_ev (a : Int) (l : List S_Segment) (hl : l.length ≤ 1048576) : Ev (fun n => s_l10Check n (a, l, ())) (CI a l) := by
  unfold s_l10Check
  by_cases h : l.length = 0
  · refine Ev.t (by simp [h]) (Ev.eq (Ev.now _) ?_)
    unfold CI
    rw [if_pos h]
  · refine Ev.f (by simp; exact fun z => h (by rw [z]; rfl)) ?_
    by_cases h2 : l.length > 4
    · refine Ev.dt (by simp only [Int.ofNat_eq_natCast]; omega) (Ev.eq (Ev.now _) ?_)
      unfold CI
      rw [if_neg h, if_pos h2]
    · refine Ev.df (by simp only [Int.ofNat_eq_natCast]; omega) ?_
      have e : CI a l = if (codes l 0 l.length).2 = 0 then entryC a l else codes l 0 l.length := by
        unfold CI
        rw [if_neg h, if_neg h2]
      rw [e]
      refine Ev.bind (sloop_ev a l hl l.length 0 (by omega) (fun j hj => absurd hj (Nat.not_lt_zero _))) ?_
      by_cases c : (codes l 0 l.length).2 = 0
      · obtain ⟨hp, hr, _⟩ := codes_zero l l.length 0 (by omega) (fun j hj => absurd hj (Nat.not_lt_zero _)) c
        obtain ⟨b0, b1, b2, b3, b4, b5⟩ := entry_bounds hp hr
        rw [if_pos c]
        refine Ev.f (by simp [c]) (Ev.bind (srun_ev a l hl) (Ev.dt b0 (Ev.dt (by simp only [Int.ofNat_eq_natCast]; omega) ?_)))
        change Ev (fun n => (s_l01In n a (runS l).f1 (IntKind.i64.wrap (IntKind.i64.wrap ((runS l).f1 + (runS l).f2) - 1))).bind fun t1 => (bif !t1 then (some (((0 : Int), (32 : Int)))) else (bif a.tmod (32 : Int) != (0 : Int) then (some (((0 : Int), (32 : Int)))) else (some (((0 : Int), (0 : Int))))))) (entryC a l)
        rw [wI (n := (runS l).f1 + (runS l).f2) (by omega) (by omega), wI (by omega) (by omega)]
        refine Ev.bind (Ev.all fun n => s_l01In_val n _ _ _) ?_
        unfold entryC
        by_cases c : (runS l).f1 ≤ a ∧ a ≤ (runS l).f1 + (runS l).f2 - 1
        · rw [IN_true.2 c]
          refine Ev.f rfl ?_
          by_cases c2 : Int.tmod a 32 = 0
          · exact Ev.f (by simp [c2]) (Ev.eq (Ev.now _) (by rw [if_pos ⟨c.1, c.2, c2⟩]))
          · exact Ev.t (by simp [c2]) (Ev.eq (Ev.now _) (by rw [if_neg (fun z => c2 z.2.2)]))
        · rw [IN_false.2 c]
          exact Ev.t rfl (Ev.eq (Ev.now _) (by rw [if_neg (fun z => c ⟨z.1, z.2.1⟩)]))
      · rw [if_neg c]
        exact Ev.t (by simp [c]) (Ev.now _)
end Go.Proofs.Ytigoabhkdipdeaa

/- A part of the plain reading of Go's code: what a function's code comes to, by a plain function. No condition. -/
import Derived.Test.YtigoabhkdipdeaaZPuChk
/- An image is checked: impl's CheckImage. -/
namespace Go.Proofs.Ytigoabhkdipdeaa
open Go Go.Proofs.Ytigoabhkdipdeaa.AM
set_option linter.all false
theorem firstR_hit {l : List S_Segment} {i : Nat} (hi : i < l.length) (h : isRun (rd z_Segment l i) = true) (hj : ∀ j, j < i → isRun (rd z_Segment l j) = false) : firstR l = i := by
  have : l.findIdx? isRun = some i := List.findIdx?_eq_some_iff_getElem.2 ⟨hi, by rw [← rd_lt (d := z_Segment) hi]; exact h, fun j hlt => by rw [← rd_lt (d := z_Segment) (by omega : j < l.length), hj j hlt]; decide⟩
  unfold firstR
  rw [this]
theorem firstR_none {l : List S_Segment} (hj : ∀ j, j < l.length → isRun (rd z_Segment l j) = false) : firstR l = -1 := by
  have : l.findIdx? isRun = none := List.findIdx?_eq_none_iff.2 fun x hx => by
    obtain ⟨j, hlt, rfl⟩ := List.getElem_of_mem hx
    rw [← rd_lt (d := z_Segment) hlt]
    exact hj j hlt
  unfold firstR
  rw [this]
theorem firstR_lt (l : List S_Segment) : firstR l < l.length := by
  unfold firstR
  split
  · rename_i i h
    obtain ⟨hi, _⟩ := List.findIdx?_eq_some_iff_getElem.1 h
    omega
  · omega
theorem irun_loop (l : List S_Segment) (hl : l.length ≤ 1048576) : ∀ (d i : Nat), i + d = l.length → (∀ j, j < i → isRun (rd z_Segment l j) = false) → Ev (fun n => slices_IndexFunc_i_Segment_i_Segment_i_runSegment_1_ls n l (l.length : Int) (i : Int)) (firstR l) := by
  intro d
  induction d with
  | zero =>
    intro i hi hj
    refine Ev.step (g := fun n => slices_IndexFunc_i_Segment_i_Segment_i_runSegment_1_r0 (slices_IndexFunc_i_Segment_i_Segment_i_runSegment_1_ls n) n l l.length i) (fun n => rfl) ?_
    unfold slices_IndexFunc_i_Segment_i_Segment_i_runSegment_1_r0
    exact Ev.df (by omega) (Ev.eq (Ev.now _) (firstR_none fun j h => hj j (by omega)).symm)
  | succ d ih =>
    intro i hi hj
    refine Ev.step (g := fun n => slices_IndexFunc_i_Segment_i_Segment_i_runSegment_1_r0 (slices_IndexFunc_i_Segment_i_Segment_i_runSegment_1_ls n) n l l.length i) (fun n => rfl) ?_
    unfold slices_IndexFunc_i_Segment_i_Segment_i_runSegment_1_r0
    rw [Int.toNat_natCast]
    refine Ev.dt (by omega) (Ev.dt (by omega) (Ev.dt (by simp only [Int.ofNat_eq_natCast]; omega) (Ev.bind (a := isRun (rd z_Segment l i)) (Ev.all fun n => rfl) ?_)))
    cases hr : isRun (rd z_Segment l i) with
    | true => exact Ev.t rfl (Ev.eq (Ev.now _) (firstR_hit (by omega) hr hj).symm)
    | false =>
      refine Ev.f rfl ?_
      rw [wI (by omega) (by omega)]
      refine ih (i + 1) (by omega) fun j h => ?_
      by_cases e : j = i
      · rw [e]; exact hr
      · exact hj j (by omega)
theorem i_runSegment_ev (l : List S_Segment) (hl : l.length ≤ 1048576) : Ev (fun n => i_runSegment n l) (firstR l) := by
  unfold i_runSegment
  exact Ev.bind (irun_loop l hl l.length 0 (by omega) fun j h => by omega) (Ev.now _)
theorem i_end_val (n : Nat) (a v m : Int) (t : ByteArray) (h0 : 0 ≤ m) (h1 : m ≤ 3584) (h2 : 0 ≤ v) (h3 : v ≤ 3584) : i_Segment_end n (a, v, m, t, ()) = some (v + up m) := by
  unfold i_Segment_end
  rw [i_pages_val m n h0 (by omega)]
  simp only [Option.bind_some]
  rw [wI (by unfold up; omega) (by unfold up; omega)]
theorem sc_zero {first : Int} {had : Bool} {s : S_Segment} (h : sc first had s = 0) : (s.f0 = 4 ∨ s.f0 = 5 ∨ s.f0 = 6) ∧ Int.tmod s.f1 256 = 0 ∧ (first ≤ s.f1 ∧ s.f1 ≤ 3583) ∧ (1 ≤ s.f2 ∧ s.f2 ≤ 3584 - s.f1) ∧ (s.f3.size : Int) ≤ s.f2 ∧ (s.f0 = 5 → had = false ∧ (s.f3.size : Int) = s.f2 ∧ Int.tmod s.f2 32 = 0) := by
  unfold sc at h
  split at h
  · cases h
  · split at h
    · cases h
    · rename_i h1 h2
      split at h
      · cases h
      · rename_i h3
        have h2' := Decidable.not_not.1 h2
        refine ⟨by omega, h2'.1, h2'.2.1, h2'.2.2.1, h2'.2.2.2, fun h5 => ?_⟩
        have h4 : ¬ (had = true ∨ (s.f3.size : Int) ≠ s.f2 ∨ Int.tmod s.f2 32 ≠ 0) := fun z => h3 ⟨h5, z⟩
        refine ⟨?_, ?_, ?_⟩
        · cases had
          · rfl
          · exact absurd (.inl rfl) h4
        · exact Decidable.byContradiction fun z => h4 (.inr (.inl z))
        · exact Decidable.byContradiction fun z => h4 (.inr (.inr z))
/-- What is known of the segments that went through. -/
def Passed (l : List S_Segment) (i : Nat) : Prop := ∀ j : Nat, j < i → sc (fst_ l j) (hadR l j) (rd z_Segment l j) = 0
theorem fst_nonneg {l : List S_Segment} : ∀ {i : Nat}, Passed l i → 512 ≤ fst_ l i ∧ fst_ l i ≤ 7168
  | 0, _ => by unfold fst_; simp
  | i + 1, h => by
    have hi := sc_zero (h i (Nat.lt_succ_self i))
    have h0 := fst_nonneg (i := i) (fun j hj => h j (Nat.lt_succ_of_lt hj))
    unfold fst_
    rw [if_neg (by omega), show i + 1 - 1 = i by omega]
    unfold endOf up
    omega
theorem rd_take {l : List S_Segment} {i j : Nat} (hj : j < i) (hi : i ≤ l.length) : rd z_Segment (l.take i) j = rd z_Segment l j := by
  rw [rd_lt (by rw [List.length_take]; omega), rd_lt (by omega)]
  simp
theorem iseg_ev (l : List S_Segment) (i : Nat) (hi : i ≤ l.length) (hl : l.length ≤ 1048576) (hp : Passed l i) (s : S_Segment) : Ev (fun n => i_segmentCode n (s.f0, s.f1, s.f2, s.f3, ()) (l.take i)) (sc (fst_ l i) (hadR l i) s) := by
  have hn := fst_nonneg hp
  have hlen : (l.take i).length = i := by rw [List.length_take]; omega
  have hR := i_runSegment_ev (l.take i) (by omega)
  unfold i_segmentCode
  rw [hlen]
  by_cases h0 : i = 0
  · subst h0
    refine Ev.df (by simp) ?_
    exact segJ_ev (l.take 0) hR 512 (by omega) s
  · refine Ev.dt (by simp only [Int.ofNat_eq_natCast]; omega) ?_
    have e1 : IntKind.i64.wrap (Int.ofNat i - 1) = ((i - 1 : Nat) : Int) := by rw [wI (by simp only [Int.ofNat_eq_natCast]; omega) (by simp only [Int.ofNat_eq_natCast]; omega)]; simp only [Int.ofNat_eq_natCast]; omega
    rw [e1, Int.toNat_natCast, rd_take (by omega) hi]
    have hq := sc_zero (hp (i - 1) (by omega))
    have hq0 := fst_nonneg (i := i - 1) (fun j hj => hp j (by omega))
    refine Ev.dt (by omega) (Ev.dt (by simp only [Int.ofNat_eq_natCast]; omega) (Ev.bind (Ev.all fun n => i_end_val n _ _ _ _ (by omega) (by omega) (by omega) (by omega)) ?_))
    have e : fst_ l i = (rd z_Segment l (i - 1)).f1 + up (rd z_Segment l (i - 1)).f2 := by unfold fst_; rw [if_neg h0]; rfl
    rw [e] at hn ⊢
    exact segJ_ev (l.take i) hR _ (by omega) s
end Go.Proofs.Ytigoabhkdipdeaa

/- A part of the plain reading of Go's code: what a function's code comes to, by a plain function. No condition. -/
import Derived.Test.YtigoabhkdipdeaaZPuChk3
/- An image is checked: the reference's l10Check. -/
namespace Go.Proofs.Ytigoabhkdipdeaa
open Go Go.Proofs.Ytigoabhkdipdeaa.AM
set_option linter.all false
theorem hadR_succ {l : List S_Segment} {i : Nat} (hi : i < l.length) : hadR l (i + 1) = (hadR l i || isRun (rd z_Segment l i)) := by
  unfold hadR
  rw [List.take_succ_eq_append_getElem hi, List.any_append, rd_lt hi]
  simp
theorem up_loop (b x5 : Int) (i : Nat) (hi : i ≤ 1048576) (a : Int) (l : List S_Segment) (r : Int × Int) (v m : Int) (hv : Int.tmod v 256 = 0) (hv0 : 0 ≤ v ∧ v ≤ 3584) (hm : 1 ≤ m ∧ m ≤ 3584) : ∀ (d : Nat) (t : Int), v + m ≤ t → t ≤ v + up m → v + up m - t = d →
    Ev (fun n => (s_l10Segments_ls n).1 (v + up m) x5 ((i + 1 : Nat) : Int) a l) r → Ev (fun n => (s_l10Segments_ls n).2 t x5 (i : Int) a l) r := by
  have hv' : v % 256 = 0 := by rw [Int.tmod_eq_emod_of_nonneg hv0.1] at hv; exact hv
  intro d
  induction d with
  | zero =>
    intro t h0 h1 h2 h3
    have e : t = v + up m := by omega
    subst e
    refine Ev.step (g := fun n => s_l10Segments_r4 (s_l10Segments_ls n).1 (s_l10Segments_ls n).2 n (v + up m) x5 i a l) (fun n => rfl) ?_
    unfold s_l10Segments_r4
    have hz : (v + up m).tmod 256 = 0 := by
      unfold up at h0 ⊢
      rw [Int.tmod_eq_emod_of_nonneg (by omega)]
      omega
    refine Ev.f (by simp [hz]) ?_
    rw [wI (n := (i : Int) + 1) (by omega) (by omega)]
    exact h3
  | succ d ih =>
    intro t h0 h1 h2 h3
    refine Ev.step (g := fun n => s_l10Segments_r4 (s_l10Segments_ls n).1 (s_l10Segments_ls n).2 n t x5 i a l) (fun n => rfl) ?_
    unfold s_l10Segments_r4
    have hz : t.tmod 256 ≠ 0 := by
      rw [Int.tmod_eq_emod_of_nonneg (by omega)]
      unfold up at h1 h2
      omega
    refine Ev.t (by simp [hz]) ?_
    have hb : v + up m ≤ 8000 := by unfold up; omega
    rw [wI (n := t + 1) (by omega) (by omega)]
    exact ih (t + 1) (by omega) (by omega) (by omega) h3
noncomputable def sTail (l0 : Int → Int → Int → Int → List S_Segment → Option (Int × Int)) (l4 : Int → Int → Int → Int → List S_Segment → Option (Int × Int)) (n : Nat) (e4 : Int) (e5 : Int) (e6 : Int) (b0_0 : Int) (b0_1 : List S_Segment) : Option (Int × Int) :=
  (bif (rd z_Segment b0_1 e6.toNat).f1.tmod (256 : Int) != (0 : Int) then (some ((e6, (31 : Int)))) else ((s_l01In n ((rd z_Segment b0_1 e6.toNat).f1) (e4) ((3583 : Int))).bind fun t0 => (bif !t0 then (some ((e6, (31 : Int)))) else ((s_l01In n ((rd z_Segment b0_1 e6.toNat).f2) ((1 : Int)) (IntKind.i64.wrap ((3584 : Int) - (rd z_Segment b0_1 e6.toNat).f1))).bind fun t1 => (bif !t1 then (some ((e6, (31 : Int)))) else (bif decide (Int.ofNat (rd z_Segment b0_1 e6.toNat).f3.size > (rd z_Segment b0_1 e6.toNat).f2) then (some ((e6, (31 : Int)))) else (bif (rd z_Segment b0_1 e6.toNat).f0 == (5 : Int) then (bif decide (IntKind.i64.wrap (e5 + (1 : Int)) > (1 : Int)) then (some ((e6, (28 : Int)))) else (bif Int.ofNat (rd z_Segment b0_1 e6.toNat).f3.size != (rd z_Segment b0_1 e6.toNat).f2 then (some ((e6, (28 : Int)))) else (bif (rd z_Segment b0_1 e6.toNat).f2.tmod (32 : Int) != (0 : Int) then (some ((e6, (28 : Int)))) else ((s_l10Segments_j31 l0 l4 n (IntKind.i64.wrap (e5 + (1 : Int))) (e6) (b0_0) (b0_1) ((rd z_Segment b0_1 e6.toNat).f0) ((rd z_Segment b0_1 e6.toNat).f1) ((rd z_Segment b0_1 e6.toNat).f2) ((rd z_Segment b0_1 e6.toNat).f3)))))) else ((s_l10Segments_j31 l0 l4 n (e5) (e6) (b0_0) (b0_1) ((rd z_Segment b0_1 e6.toNat).f0) ((rd z_Segment b0_1 e6.toNat).f1) ((rd z_Segment b0_1 e6.toNat).f2) ((rd z_Segment b0_1 e6.toNat).f3))))))))))
theorem sTail_ev (first x5 : Int) (had : Bool) (hx5 : x5 = if had = true then 1 else 0) (i : Nat) (hi : i ≤ 1048576) (a : Int) (l : List S_Segment) (hf : 0 ≤ first) (r : Int × Int) (h : (rd z_Segment l i).f0 = 4 ∨ (rd z_Segment l i).f0 = 5 ∨ (rd z_Segment l i).f0 = 6)
    (hr : sc first had (rd z_Segment l i) = 0 → Ev (fun n => (s_l10Segments_ls n).1 (endOf (rd z_Segment l i)) (if (had || isRun (rd z_Segment l i)) = true then 1 else 0) ((i + 1 : Nat) : Int) a l) r) :
    Ev (fun n => sTail (s_l10Segments_ls n).1 (s_l10Segments_ls n).2 n first x5 (i : Int) a l) (if sc first had (rd z_Segment l i) = 0 then r else ((i : Int), sc first had (rd z_Segment l i))) := by
  unfold sTail
  rw [Int.toNat_natCast]
  obtain ⟨s, hs⟩ : ∃ s, s = rd z_Segment l i := ⟨_, rfl⟩
  rw [← hs] at hr h ⊢
  have h' : ¬ (s.f0 ≠ 4 ∧ s.f0 ≠ 5 ∧ s.f0 ≠ 6) := by omega
  by_cases c : (Int.tmod s.f1 256 = 0 ∧ (first ≤ s.f1 ∧ s.f1 ≤ 3583) ∧ (1 ≤ s.f2 ∧ s.f2 ≤ 3584 - s.f1) ∧ (s.f3.size : Int) ≤ s.f2)
  · have e : sc first had s = if s.f0 = 5 ∧ (had = true ∨ (s.f3.size : Int) ≠ s.f2 ∨ Int.tmod s.f2 32 ≠ 0) then 28 else 0 := by
      unfold sc
      rw [if_neg h', if_neg (Decidable.not_not.2 c)]
    refine Ev.f (by simp [c.1]) (Ev.bind (Ev.all fun n => s_l01In_val n _ _ _) (Ev.f (by rw [IN_true.2 c.2.1]; rfl) (Ev.bind (Ev.all fun n => s_l01In_val n _ _ _) (Ev.f (by rw [wI (n := 3584 - s.f1) (by omega) (by omega), IN_true.2 c.2.2.1]; rfl) (Ev.df (by simp only [Int.ofNat_eq_natCast]; omega) ?_)))))
    have J3 : ∀ y : Int, sc first had s = 0 → y = (if (had || isRun s) = true then 1 else 0) → Ev (fun n => s_l10Segments_j31 (s_l10Segments_ls n).1 (s_l10Segments_ls n).2 n y (i : Int) a l s.f0 s.f1 s.f2 s.f3) (if sc first had s = 0 then r else ((i : Int), sc first had s)) := by
      intro y h0 hy
      rw [if_pos h0]
      unfold s_l10Segments_j31
      rw [wI (n := s.f1 + s.f2) (by omega) (by omega)]
      refine up_loop first y i hi a l r s.f1 s.f2 c.1 (by omega) (by omega) (s.f1 + up s.f2 - (s.f1 + s.f2)).toNat (s.f1 + s.f2) (by omega) (by unfold up; omega) (by unfold up; omega) ?_
      rw [hy]
      exact hr h0
    by_cases h5 : s.f0 = 5
    · have hrun : isRun s = true := by unfold isRun; rw [h5]; rfl
      refine Ev.t (by simp [h5]) ?_
      cases had with
      | true =>
        have e2 : sc first true s = 28 := by rw [e, if_pos ⟨h5, .inl rfl⟩]
        rw [e2]
        exact Ev.dt (by rw [hx5]; decide) (Ev.now _)
      | false =>
        refine Ev.df (by rw [hx5]; decide) ?_
        by_cases hz : (s.f3.size : Int) = s.f2
        · refine Ev.f (by simp [hz]) ?_
          by_cases hm : Int.tmod s.f2 32 = 0
          · refine Ev.f (by simp [hm]) (J3 _ ?_ ?_)
            · rw [e, if_neg]
              rintro ⟨_, h1 | h1 | h1⟩
              · cases h1
              · exact h1 hz
              · exact h1 hm
            · rw [hx5, hrun]; decide
          · have e2 : sc first false s = 28 := by rw [e, if_pos ⟨h5, .inr (.inr hm)⟩]
            rw [e2]
            exact Ev.t (by simp [hm]) (Ev.now _)
        · have e2 : sc first false s = 28 := by rw [e, if_pos ⟨h5, .inr (.inl hz)⟩]
          rw [e2]
          exact Ev.t (by simp [hz]) (Ev.now _)
    · have hrun : isRun s = false := by unfold isRun; simpa using h5
      refine Ev.f (by simp [h5]) (J3 _ ?_ ?_)
      · rw [e, if_neg (fun z => h5 z.1)]
      · rw [hx5, hrun, Bool.or_false]
  · have e : sc first had s = 31 := by
      unfold sc
      rw [if_neg h', if_pos c]
    rw [e, if_neg (by decide)]
    by_cases c1 : Int.tmod s.f1 256 = 0
    · refine Ev.f (by simp [c1]) (Ev.bind (Ev.all fun n => s_l01In_val n _ _ _) ?_)
      by_cases c2 : first ≤ s.f1 ∧ s.f1 ≤ 3583
      · refine Ev.f (by rw [IN_true.2 c2]; rfl) (Ev.bind (Ev.all fun n => s_l01In_val n _ _ _) ?_)
        rw [wI (n := 3584 - s.f1) (by omega) (by omega)]
        by_cases c3 : 1 ≤ s.f2 ∧ s.f2 ≤ 3584 - s.f1
        · refine Ev.f (by rw [IN_true.2 c3]; rfl) (Ev.dt ?_ (Ev.now _))
          have : ¬ (s.f3.size : Int) ≤ s.f2 := fun z => c ⟨c1, c2, c3, z⟩
          simp only [Int.ofNat_eq_natCast]
          omega
        · exact Ev.t (by rw [IN_false.2 c3]; rfl) (Ev.now _)
      · exact Ev.t (by rw [IN_false.2 c2]; rfl) (Ev.now _)
    · exact Ev.t (by simp [c1]) (Ev.now _)
end Go.Proofs.Ytigoabhkdipdeaa

/- A part of the plain reading of Go's code: what a function's code comes to, by a plain function. No condition. -/
import Derived.Test.YtigoabhkdipdeaaZPuChk5
import Derived.Test.YtigoabhkdipdeaaZPuSeg
/- ReadElf. -/
namespace Go.Proofs.Ytigoabhkdipdeaa
open Go Go.Proofs.Ytigoabhkdipdeaa.AM
set_option linter.all false
def zI (c : Int) : ImgT × Int := ((0, [], ()), c)
theorem end_ex (e : Int) (l : List S_Segment) (hl : l.length ≤ 4) : ∃ r : ImgT × Int, r.1.2.1.length ≤ 4 ∧
    Ev (fun n => (s_l10Check n (e, l, ())).bind fun t0 => (bif t0.2 != (0 : Int) then (some ((((0 : Int), ([] : List S_Segment), ()), t0.2))) else (some (((e, l, ()), (0 : Int)))))) r ∧
    Ev (fun n => (i_CheckImage n (e, l, ())).bind fun t0 => (bif t0.2 != (0 : Int) then (some ((((0 : Int), ([] : List S_Segment), ()), t0.2))) else (some (((e, l, ()), (0 : Int)))))) r := by
  have hs := s_l10Check_ev e l (by omega)
  have hi := i_CheckImage_ev e l (by omega)
  by_cases c : (CI e l).2 = 0
  · exact ⟨((e, l, ()), 0), hl, Ev.bind hs (Ev.f (by simp [c]) (Ev.now _)), Ev.bind hi (Ev.f (by simp [c]) (Ev.now _))⟩
  · exact ⟨zI (CI e l).2, by show 0 ≤ 4; omega, Ev.bind hs (Ev.t (by simp [c]) (Ev.now _)), Ev.bind hi (Ev.t (by simp [c]) (Ev.now _))⟩
theorem read_loop (s : ByteArray) (e : Int) (m : Nat) (hm : m ≤ 4) (hs : 64 + 56 * m ≤ s.size) (hz : s.size ≤ 65536) : ∀ (d i : Nat) (b : List S_Segment), i + d = m → b.length = i → ∃ r : ImgT × Int, r.1.2.1.length ≤ 4 ∧
    Ev (fun n => s_l10Read_ls n s (m : Int) (i : Int) 0 e [] b) r ∧ Ev (fun n => i_ReadElf_ls n s (m : Int) (i : Int) 0 e [] b) r := by
  intro d
  induction d with
  | zero =>
    intro i b hi hb
    obtain ⟨r, h1, h2, h3⟩ := end_ex e b (by omega)
    refine ⟨r, h1, ?_, ?_⟩
    · refine Ev.step (g := fun n => s_l10Read_r0 (s_l10Read_ls n) n s m i 0 e [] b) (fun n => rfl) ?_
      unfold s_l10Read_r0
      exact Ev.df (by omega) h2
    · refine Ev.step (g := fun n => i_ReadElf_r4 (i_ReadElf_ls n) n s m i 0 e [] b) (fun n => rfl) ?_
      unfold i_ReadElf_r4
      exact Ev.df (by omega) h3
  | succ d ih =>
    intro i b hi hb
    obtain ⟨rs, ri, g1, g2, g3, g4⟩ := seg_ex s (64 + 56 * i) (by omega) hz
    have es : IntKind.i64.wrap ((64 : Int) + IntKind.i64.wrap ((56 : Int) * (i : Int))) = ((64 + 56 * i : Nat) : Int) := by
      rw [wI (n := (56 : Int) * i) (by omega) (by omega), wI (by omega) (by omega)]; omega
    have ei : IntKind.i64.wrap ((64 : Int) + IntKind.i64.wrap ((i : Int) * (56 : Int))) = ((64 + 56 * i : Nat) : Int) := by
      rw [wI (n := (i : Int) * 56) (by omega) (by omega), wI (by omega) (by omega)]; omega
    have ei2 : IntKind.i64.wrap (((64 + 56 * i : Nat) : Int) + 56) = ((64 + 56 * i + 56 : Nat) : Int) := by
      rw [wI (by omega) (by omega)]; omega
    have ei3 : IntKind.i64.wrap ((i : Int) + 1) = ((i + 1 : Nat) : Int) := by rw [wI (by omega) (by omega)]; omega
    by_cases c : rs.2 = 0
    · have c' : ri.2 = 0 := g3 ▸ c
      have q := (g4 c).1
      obtain ⟨r, h1, h2, h3⟩ := ih (i + 1) (b ++ (List.replicate (1 : Nat) z_Segment).set (0 : Nat) (S_Segment.mk rs.1.1 rs.1.2.1 rs.1.2.2.1 rs.1.2.2.2.1)) (by omega) (by simp [hb])
      refine ⟨r, h1, ?_, ?_⟩
      · refine Ev.step (g := fun n => s_l10Read_r0 (s_l10Read_ls n) n s m i 0 e [] b) (fun n => rfl) ?_
        unfold s_l10Read_r0
        rw [es, ei3]
        exact Ev.dt (by omega) (Ev.bind g1 (Ev.f (by simp [c]) (Ev.dt (by simp; omega) h2)))
      · refine Ev.step (g := fun n => i_ReadElf_r4 (i_ReadElf_ls n) n s m i 0 e [] b) (fun n => rfl) ?_
        unfold i_ReadElf_r4
        rw [ei, ei2, ei3, Int.toNat_natCast, Int.toNat_natCast]
        refine Ev.dt (by omega) (Ev.dt (by omega) (Ev.dt (by omega) (Ev.dt (by omega) (Ev.dt (by omega) (Ev.bind g2 (Ev.f (by simp [c']) (Ev.dt (by simp; omega) ?_)))))))
        rw [← q]
        exact h3
    · have c' : ¬ ri.2 = 0 := fun z => c (g3.trans z)
      refine ⟨zI rs.2, by show 0 ≤ 4; omega, ?_, ?_⟩
      · refine Ev.step (g := fun n => s_l10Read_r0 (s_l10Read_ls n) n s m i 0 e [] b) (fun n => rfl) ?_
        unfold s_l10Read_r0
        rw [es]
        exact Ev.dt (by omega) (Ev.bind g1 (Ev.t (by simp [c]) (Ev.now _)))
      · refine Ev.step (g := fun n => i_ReadElf_r4 (i_ReadElf_ls n) n s m i 0 e [] b) (fun n => rfl) ?_
        unfold i_ReadElf_r4
        rw [ei, ei2, Int.toNat_natCast, Int.toNat_natCast]
        refine Ev.dt (by omega) (Ev.dt (by omega) (Ev.dt (by omega) (Ev.dt (by omega) (Ev.dt (by omega) (Ev.bind g2 (Ev.t (by simp [c']) (Ev.eq (Ev.now _) ?_)))))))
        rw [← g3]
        rfl
theorem ReadElf_ex (s : ByteArray) : ∃ r : ImgT × Int, r.1.2.1.length ≤ 4 ∧ Ev (fun n => s_ReadElf n s) r ∧ Ev (fun n => i_ReadElf n s) r := by
  unfold s_ReadElf i_ReadElf i_ReadElf_m s_l10Read s_l10Read_m
  by_cases c0 : Int.ofNat s.size > 65536
  · exact ⟨zI 2, by show 0 ≤ 4; omega, Ev.dt c0 (Ev.now _), Ev.dt c0 (Ev.now _)⟩
  have hz : s.size ≤ 65536 := by simp only [Int.ofNat_eq_natCast] at c0; omega
  by_cases c1 : Int.ofNat s.size < 64
  · exact ⟨zI 9, by show 0 ≤ 4; omega, Ev.df c0 (Ev.bind (Ev.dt c1 (Ev.now _)) (Ev.now _)), Ev.df c0 (Ev.dt c1 (Ev.now _))⟩
  have h64 : 64 ≤ s.size := by simp only [Int.ofNat_eq_natCast] at c1; omega
  have hM := s_l10Magic_ev s h64
  have t24 := s_l01Take_ev s 24 8 (by omega) (by omega) (by omega) (by omega)
  have t56 := s_l01Take_ev s 56 2 (by omega) (by omega) (by omega) (by omega)
  have u24 := i_takeAt_ev s 24 8 (by omega) (by omega)
  have u56 := i_takeAt_ev s 56 2 (by omega) (by omega)
  have hr := tk_range s 2 56
  have hw : IntKind.i64.wrap (tk s 56 2) = tk s 56 2 := wI (by omega) (by simp at hr; omega)
  have hH := i_headText_ev (IntKind.i64.wrap (tk s 24 8)) (IntKind.i64.wrap (tk s 56 2))
  obtain ⟨m, hm⟩ : ∃ m : Nat, tk s 56 2 = m := ⟨(tk s 56 2).toNat, by omega⟩

  cases hh : HOK s with
  | false =>
    rw [hh] at hM
    refine ⟨zI 30, by show 0 ≤ 4; omega, Ev.df c0 (Ev.bind (Ev.df c1 (Ev.bind hM (Ev.t rfl (Ev.now _)))) (Ev.now _)), ?_⟩
    refine Ev.df c0 (Ev.df c1 (Ev.dt (by show 32 ≤ s.size; omega) (Ev.bind u24 (Ev.dt (by show 58 ≤ s.size; omega) (Ev.bind u56 (Ev.dt (by show 64 ≤ s.size; omega) (Ev.bind hH (Ev.t ?_ (Ev.now _)))))))))
    rw [toList_eq]
    show (!decide (s.extract 0 64 = _)) = true
    unfold HOK at hh
    rw [hh]
    rfl
  | true =>
    rw [hh] at hM
    have hd : (!(s.extract (0 : Nat) (Int.toNat (64 : Int))).toList == ByteArray.toList (HD (IntKind.i64.wrap (tk s 24 8)) (IntKind.i64.wrap (tk s 56 2)))) = false := by
      rw [toList_eq]
      show (!decide (s.extract 0 64 = _)) = false
      unfold HOK at hh
      rw [hh]
      rfl
    by_cases c2 : m > 4
    · refine ⟨zI 6, by show 0 ≤ 4; omega, Ev.df c0 (Ev.bind (Ev.df c1 (Ev.bind hM (Ev.f rfl (Ev.bind t24 (Ev.bind t56 (Ev.dt (by rw [hw]; omega) (Ev.now _))))))) (Ev.now _)), ?_⟩
      exact Ev.df c0 (Ev.df c1 (Ev.dt (by show 32 ≤ s.size; omega) (Ev.bind u24 (Ev.dt (by show 58 ≤ s.size; omega) (Ev.bind u56 (Ev.dt (by show 64 ≤ s.size; omega) (Ev.bind hH (Ev.f hd (Ev.dt (by rw [hw]; omega) (Ev.now _))))))))))
    · have w1 : IntKind.i64.wrap ((64 : Int) + IntKind.i64.wrap ((56 : Int) * IntKind.i64.wrap (tk s 56 2))) = 64 + 56 * m := by
        rw [hw, hm, wI (n := (56 : Int) * m) (by omega) (by omega), wI (by omega) (by omega)]
      have w2 : IntKind.i64.wrap ((64 : Int) + IntKind.i64.wrap (IntKind.i64.wrap (tk s 56 2) * (56 : Int))) = 64 + 56 * m := by
        rw [hw, hm, wI (n := (m : Int) * 56) (by omega) (by omega), wI (by omega) (by omega)]
        omega
      by_cases c3 : (s.size : Int) < 64 + 56 * m
      · refine ⟨zI 9, by show 0 ≤ 4; omega, Ev.df c0 (Ev.bind (Ev.df c1 (Ev.bind hM (Ev.f rfl (Ev.bind t24 (Ev.bind t56 (Ev.df (by rw [hw]; omega) (Ev.dt (by rw [w1]; exact c3) (Ev.now _)))))))) (Ev.now _)), ?_⟩
        exact Ev.df c0 (Ev.df c1 (Ev.dt (by show 32 ≤ s.size; omega) (Ev.bind u24 (Ev.dt (by show 58 ≤ s.size; omega) (Ev.bind u56 (Ev.dt (by show 64 ≤ s.size; omega) (Ev.bind hH (Ev.f hd (Ev.df (by rw [hw]; omega) (Ev.dt (by rw [w2]; exact c3) (Ev.now _)))))))))))
      · obtain ⟨r, h1, h2, h3⟩ := read_loop s (IntKind.i64.wrap (tk s 24 8)) m (by omega) (by omega) hz m 0 [] (by omega) rfl
        have hwm : IntKind.i64.wrap (tk s 56 2) = (m : Int) := hw.trans hm
        refine ⟨r, h1, Ev.df c0 (Ev.bind (Ev.df c1 (Ev.bind hM (Ev.f rfl (Ev.bind t24 (Ev.bind t56 (Ev.df (by rw [hw]; omega) (Ev.df (by rw [w1]; exact c3) ?_))))))) (Ev.now _)), ?_⟩
        · rw [hwm]; exact h2
        · refine Ev.df c0 (Ev.df c1 (Ev.dt (by show 32 ≤ s.size; omega) (Ev.bind u24 (Ev.dt (by show 58 ≤ s.size; omega) (Ev.bind u56 (Ev.dt (by show 64 ≤ s.size; omega) (Ev.bind hH (Ev.f hd (Ev.df (by rw [hw]; omega) (Ev.df (by rw [w2]; exact c3) ?_))))))))))
          rw [hwm]; exact h3
theorem FnExactReadElf_ev (s : ByteArray) : Ev (fun n => w_FnExactReadElf n s) true := by
  obtain ⟨r, hr, hs, hi⟩ := ReadElf_ex s
  have eq := w_eqImage_refl r.1 (by omega)
  have mk := w_markImage_ev r.1 (by omega)
  have hd := w_heldImage_ev r.1.1 r.1.2.1.length (by omega)
  unfold w_FnExactReadElf
  refine Ev.dcases (fun _ => Ev.now _) fun _ => Ev.bind hs (Ev.bind hi (Ev.bind eq (Ev.f rfl (Ev.f (by simp) ?_))))
  refine Ev.bind mk (Ev.bind hd (Ev.df (by omega) (Ev.f (by simp) (Ev.bind hi (Ev.bind eq (Ev.f rfl (Ev.f (by simp) ?_)))))))
  exact Ev.bind hd (Ev.df (by omega) (Ev.f (by simp) (Ev.now _)))
end Go.Proofs.Ytigoabhkdipdeaa

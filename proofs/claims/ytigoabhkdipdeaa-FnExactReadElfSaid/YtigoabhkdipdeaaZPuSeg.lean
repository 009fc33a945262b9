/- A part of the plain reading of Go's code: what a function's code comes to, by a plain function. No condition. -/
import Derived.Test.YtigoabhkdipdeaaZPuMagic
/- A segment's head, read. -/
namespace Go.Proofs.Ytigoabhkdipdeaa
open Go Go.Proofs.Ytigoabhkdipdeaa.AM
set_option linter.all false
abbrev SegT : Type := Int × Int × Int × ByteArray × Unit
def T (s : ByteArray) (p o n : Nat) : Int := IntKind.i64.wrap (tk s (p + o) n)
theorem sT (s : ByteArray) (p o n : Nat) (h0 : 0 < n) (hn : n ≤ 8) (ho : o + n ≤ 56) (hs : p + 56 ≤ s.size) (hz : s.size ≤ 1048576) : Ev (fun k => s_l01Take k s (IntKind.i64.wrap ((p : Int) + (o : Int))) (n : Int)) (T s p o n) := by
  have e : IntKind.i64.wrap ((p : Int) + (o : Int)) = ((p + o : Nat) : Int) := by rw [wI (by omega) (by omega)]; omega
  rw [e]
  exact s_l01Take_ev s (p + o) n h0 hn (by omega) hz
theorem sT0 (s : ByteArray) (p n : Nat) (h0 : 0 < n) (hn : n ≤ 8) (hs : p + 56 ≤ s.size) (hz : s.size ≤ 1048576) : Ev (fun k => s_l01Take k s (p : Int) (n : Int)) (T s p 0 n) := s_l01Take_ev s p n h0 hn (by omega) hz
theorem iT (s : ByteArray) (p o n : Nat) (hn : n ≤ 8) (ho : o + n ≤ 56) (hs : p + 56 ≤ s.size) : Ev (fun k => i_readSegment_1 k (o : Int) (n : Int) (s.extract p (p + 56))) (T s p o n) := by
  have hx : (s.extract p (p + 56)).size = 56 := by rw [ByteArray.size_extract]; omega
  have e : IntKind.i64.wrap ((o : Int) + (n : Int)) = ((o + n : Nat) : Int) := by rw [wI (by omega) (by omega)]; omega
  unfold i_readSegment_1
  rw [e, Int.toNat_natCast, Int.toNat_natCast]
  refine Ev.dt (by omega) (Ev.dt (by show o + n ≤ (s.extract p (p + 56)).size; omega) (Ev.dt (by omega) (Ev.dt (by omega) (Ev.bind ?_ (Ev.now _)))))
  have := i_takeAt_ev (s.extract p (p + 56)) o n hn (by omega)
  rw [tk_extract s p (p + 56) hs n o (by omega)] at this
  exact this
theorem T_R (s : ByteArray) (p o n : Nat) : R64 (T s p o n) := wI_R _
attribute [irreducible] T
set_option maxHeartbeats 4000000 in
theorem seg_ex (s : ByteArray) (p : Nat) (hs : p + 56 ≤ s.size) (hz : s.size ≤ 65536) : ∃ rs ri : SegT × Int, Ev (fun k => s_l10Segment k s (p : Int)) rs ∧ Ev (fun k => i_readSegment k s (s.extract p (p + 56))) ri ∧ rs.2 = ri.2 ∧ (rs.2 = 0 → rs.1 = ri.1 ∧ R64 rs.1.1 ∧ R64 rs.1.2.1 ∧ R64 rs.1.2.2.1 ∧ rs.1.2.2.2.1.size ≤ 65536) := by
  have a4 := sT s p 4 4 (by omega) (by omega) (by omega) hs (by omega)
  have a16 := sT s p 16 8 (by omega) (by omega) (by omega) hs (by omega)
  have a40 := sT s p 40 8 (by omega) (by omega) (by omega) hs (by omega)
  have a8 := sT s p 8 8 (by omega) (by omega) (by omega) hs (by omega)
  have a32 := sT s p 32 8 (by omega) (by omega) (by omega) hs (by omega)
  have a0 := sT0 s p 4 (by omega) (by omega) hs (by omega)
  have a24 := sT s p 24 8 (by omega) (by omega) (by omega) hs (by omega)
  have a48 := sT s p 48 8 (by omega) (by omega) (by omega) hs (by omega)
  have b4 := iT s p 4 4 (by omega) (by omega) hs
  have b16 := iT s p 16 8 (by omega) (by omega) hs
  have b40 := iT s p 40 8 (by omega) (by omega) hs
  have b8 := iT s p 8 8 (by omega) (by omega) hs
  have b32 := iT s p 32 8 (by omega) (by omega) hs
  have b0 := iT s p 0 4 (by omega) (by omega) hs
  have b24 := iT s p 24 8 (by omega) (by omega) hs
  have b48 := iT s p 48 8 (by omega) (by omega) hs
  have r8 := T_R s p 8 8
  have r32 := T_R s p 32 8
  have n31 : ¬ ((31 : Int) = 0) := by omega
  have n9 : ¬ ((9 : Int) = 0) := by omega
  have hw : 0 ≤ T s p 8 8 → T s p 8 8 ≤ s.size → IntKind.i64.wrap (Int.ofNat s.size - T s p 8 8) = s.size - T s p 8 8 := fun h1 h2 => by rw [wI (by simp only [Int.ofNat_eq_natCast]; omega) (by simp only [Int.ofNat_eq_natCast]; omega)]; rfl
  unfold s_l10Segment i_readSegment
  by_cases c0 : T s p 0 4 = 1
  · by_cases c1 : T s p 24 8 = T s p 16 8
    · by_cases c2 : T s p 48 8 = 256
      · by_cases c3 : 0 ≤ T s p 8 8 ∧ T s p 8 8 ≤ s.size
        · have hw := hw c3.1 c3.2
          by_cases c4 : 0 ≤ T s p 32 8 ∧ T s p 32 8 ≤ s.size - T s p 8 8
          · have e : IntKind.i64.wrap (T s p 8 8 + T s p 32 8) = T s p 8 8 + T s p 32 8 := wI (by omega) (by omega)
            refine ⟨((T s p 4 4, T s p 16 8, T s p 40 8, s.extract (T s p 8 8).toNat (IntKind.i64.wrap (T s p 8 8 + T s p 32 8)).toNat, ()), 0), ((T s p 4 4, T s p 16 8, T s p 40 8, s.extract (T s p 8 8).toNat (IntKind.i64.wrap (T s p 8 8 + T s p 32 8)).toNat, ()), 0), ?_, ?_, rfl, fun _ => ⟨rfl, T_R _ _ _ _, T_R _ _ _ _, T_R _ _ _ _, by show (s.extract _ _).size ≤ _; rw [ByteArray.size_extract]; omega⟩⟩
            · refine Ev.bind a4 (Ev.bind a16 (Ev.bind a40 (Ev.bind a8 (Ev.bind a32 (Ev.bind a0 (Ev.f (by simp [c0]) (Ev.bind a24 (Ev.f (by simp [c1]) (Ev.bind a48 (Ev.f (by simp [c2]) ?_))))))))))
              refine Ev.df (by omega) (Ev.df (by simp only [Int.ofNat_eq_natCast]; omega) (Ev.df (by omega) (Ev.df (by rw [hw]; omega) ?_)))
              exact Ev.dt (by rw [e]; omega) (Ev.dt (by rw [e]; omega) (Ev.dt (by omega) (Ev.dt (by rw [e]; omega) (Ev.now _))))
            · refine Ev.bind b4 (Ev.bind b16 (Ev.bind b40 (Ev.bind b8 (Ev.bind b32 (Ev.bind b0 (Ev.f (by simp [c0]) (Ev.bind b24 (Ev.f (by simp [c1]) (Ev.bind b48 (Ev.f (by simp [c2]) ?_))))))))))
              refine Ev.bind (Ev.all fun n => i_within_val n _ _ _) (Ev.f (by rw [IN_true.2 (by simp only [Int.ofNat_eq_natCast]; omega)]; rfl) (Ev.bind (Ev.all fun n => i_within_val n _ _ _) (Ev.f (by rw [hw, IN_true.2 (by omega)]; rfl) ?_)))
              exact Ev.dt (by rw [e]; omega) (Ev.dt (by rw [e]; omega) (Ev.dt (by omega) (Ev.dt (by rw [e]; omega) (Ev.now _))))
          · refine ⟨((T s p 4 4, T s p 16 8, T s p 40 8, ByteArray.mk #[], ()), 9), ((0, 0, 0, ByteArray.mk #[], ()), 9), ?_, ?_, rfl, fun h => absurd h n9⟩
            · refine Ev.bind a4 (Ev.bind a16 (Ev.bind a40 (Ev.bind a8 (Ev.bind a32 (Ev.bind a0 (Ev.f (by simp [c0]) (Ev.bind a24 (Ev.f (by simp [c1]) (Ev.bind a48 (Ev.f (by simp [c2]) ?_))))))))))
              refine Ev.df (by omega) (Ev.df (by simp only [Int.ofNat_eq_natCast]; omega) (Ev.dcases (fun _ => Ev.now _) fun c => Ev.dt (by rw [hw]; omega) (Ev.now _)))
            · refine Ev.bind b4 (Ev.bind b16 (Ev.bind b40 (Ev.bind b8 (Ev.bind b32 (Ev.bind b0 (Ev.f (by simp [c0]) (Ev.bind b24 (Ev.f (by simp [c1]) (Ev.bind b48 (Ev.f (by simp [c2]) ?_))))))))))
              exact Ev.bind (Ev.all fun n => i_within_val n _ _ _) (Ev.f (by rw [IN_true.2 (by simp only [Int.ofNat_eq_natCast]; omega)]; rfl) (Ev.bind (Ev.all fun n => i_within_val n _ _ _) (Ev.t (by rw [hw, IN_false.2 c4]; rfl) (Ev.now _))))
        · refine ⟨((T s p 4 4, T s p 16 8, T s p 40 8, ByteArray.mk #[], ()), 9), ((0, 0, 0, ByteArray.mk #[], ()), 9), ?_, ?_, rfl, fun h => absurd h n9⟩
          · refine Ev.bind a4 (Ev.bind a16 (Ev.bind a40 (Ev.bind a8 (Ev.bind a32 (Ev.bind a0 (Ev.f (by simp [c0]) (Ev.bind a24 (Ev.f (by simp [c1]) (Ev.bind a48 (Ev.f (by simp [c2]) ?_))))))))))
            exact Ev.dcases (fun _ => Ev.now _) fun c => Ev.dt (by simp only [Int.ofNat_eq_natCast]; omega) (Ev.now _)
          · refine Ev.bind b4 (Ev.bind b16 (Ev.bind b40 (Ev.bind b8 (Ev.bind b32 (Ev.bind b0 (Ev.f (by simp [c0]) (Ev.bind b24 (Ev.f (by simp [c1]) (Ev.bind b48 (Ev.f (by simp [c2]) ?_))))))))))
            exact Ev.bind (Ev.all fun n => i_within_val n _ _ _) (Ev.t (by rw [IN_false.2 (by simp only [Int.ofNat_eq_natCast]; exact c3)]; rfl) (Ev.now _))
      · exact ⟨((T s p 4 4, T s p 16 8, T s p 40 8, ByteArray.mk #[], ()), 31), ((0, 0, 0, ByteArray.mk #[], ()), 31), Ev.bind a4 (Ev.bind a16 (Ev.bind a40 (Ev.bind a8 (Ev.bind a32 (Ev.bind a0 (Ev.f (by simp [c0]) (Ev.bind a24 (Ev.f (by simp [c1]) (Ev.bind a48 (Ev.t (by simp [c2]) (Ev.now _))))))))))), Ev.bind b4 (Ev.bind b16 (Ev.bind b40 (Ev.bind b8 (Ev.bind b32 (Ev.bind b0 (Ev.f (by simp [c0]) (Ev.bind b24 (Ev.f (by simp [c1]) (Ev.bind b48 (Ev.t (by simp [c2]) (Ev.now _))))))))))), rfl, fun h => absurd h n31⟩
    · exact ⟨((T s p 4 4, T s p 16 8, T s p 40 8, ByteArray.mk #[], ()), 31), ((0, 0, 0, ByteArray.mk #[], ()), 31), Ev.bind a4 (Ev.bind a16 (Ev.bind a40 (Ev.bind a8 (Ev.bind a32 (Ev.bind a0 (Ev.f (by simp [c0]) (Ev.bind a24 (Ev.t (by simp [c1]) (Ev.now _))))))))), Ev.bind b4 (Ev.bind b16 (Ev.bind b40 (Ev.bind b8 (Ev.bind b32 (Ev.bind b0 (Ev.f (by simp [c0]) (Ev.bind b24 (Ev.t (by simp [c1]) (Ev.now _))))))))), rfl, fun h => absurd h n31⟩
  · exact ⟨((T s p 4 4, T s p 16 8, T s p 40 8, ByteArray.mk #[], ()), 31), ((0, 0, 0, ByteArray.mk #[], ()), 31), Ev.bind a4 (Ev.bind a16 (Ev.bind a40 (Ev.bind a8 (Ev.bind a32 (Ev.bind a0 (Ev.t (by simp [c0]) (Ev.now _))))))), Ev.bind b4 (Ev.bind b16 (Ev.bind b40 (Ev.bind b8 (Ev.bind b32 (Ev.bind b0 (Ev.t (by simp [c0]) (Ev.now _))))))), rfl, fun h => absurd h n31⟩
end Go.Proofs.Ytigoabhkdipdeaa

/- A part of the plain reading of Go's code: what a function's code comes to, by a plain function. No condition. -/
import Derived.Test.YtigoabhkdipdeaaZPuTake
/- The head of an ELF text. -/
namespace Go.Proofs.Ytigoabhkdipdeaa
open Go Go.Proofs.Ytigoabhkdipdeaa.AM
set_option linter.all false
def H0 : ByteArray := ByteArray.mk #[(127 : UInt8), (69 : UInt8), (76 : UInt8), (70 : UInt8), (2 : UInt8), (1 : UInt8), (1 : UInt8), (0 : UInt8)] ++ ByteArray.mk (List.map (fun y => AM.byteOf [Value.int IntKind.u8 y]) (List.replicate (Int.toNat (8 : Int)) (0 : Int))).toArray
def H6 : ByteArray := ByteArray.mk (List.map (fun y => AM.byteOf [Value.int IntKind.u8 y]) (List.replicate (Int.toNat (6 : Int)) (0 : Int))).toArray
def HD (a m : Int) : ByteArray := H0 ++ LB 2 2 ++ LB 62 2 ++ LB 1 4 ++ LB a 8 ++ LB 64 8 ++ LB 0 8 ++ LB 0 4 ++ LB 64 2 ++ LB 56 2 ++ LB m 2 ++ H6
theorem H0_size : H0.size = 16 := rfl
theorem H6_size : H6.size = 6 := rfl
theorem H0_i : ByteArray.mk #[(127 : UInt8), (69 : UInt8), (76 : UInt8), (70 : UInt8), (2 : UInt8), (1 : UInt8), (1 : UInt8)] ++ (⟨(Go.Lib.repeatL (ByteArray.mk #[(0 : UInt8)]).data.toList 9).toArray⟩ : ByteArray) = H0 := by rfl
theorem H6_i : (⟨(Go.Lib.repeatL (ByteArray.mk #[(0 : UInt8)]).data.toList 6).toArray⟩ : ByteArray) = H6 := by rfl
theorem sl2 (v : Int) : Ev (fun n => s_l01Little n v 2) (LB v 2) := s_l01Little_ev v 2 (by omega)
theorem sl4 (v : Int) : Ev (fun n => s_l01Little n v 4) (LB v 4) := s_l01Little_ev v 4 (by omega)
theorem sl8 (v : Int) : Ev (fun n => s_l01Little n v 8) (LB v 8) := s_l01Little_ev v 8 (by omega)
theorem il2 (v : Int) : Ev (fun n => i_little n v 2) (LB v 2) := i_little_ev v 2 (by omega)
theorem il4 (v : Int) : Ev (fun n => i_little n v 4) (LB v 4) := i_little_ev v 4 (by omega)
theorem il8 (v : Int) : Ev (fun n => i_little n v 8) (LB v 8) := i_little_ev v 8 (by omega)
theorem small {k : Nat} (h : k ≤ 64) : ¬ (Int.ofNat k > IntKind.i64.max) := by
  rw [show IntKind.i64.max = 9223372036854775807 from rfl]; simp only [Int.ofNat_eq_natCast]; omega
theorem s_l10Head_ev (a m : Int) : Ev (fun n => s_l10Head n a m) (HD a m) := by
  unfold s_l10Head
  have h0 : (ByteArray.mk #[(127 : UInt8), (69 : UInt8), (76 : UInt8), (70 : UInt8), (2 : UInt8), (1 : UInt8), (1 : UInt8), (0 : UInt8)] ++ ByteArray.mk (List.map (fun y => AM.byteOf [Value.int IntKind.u8 y]) (List.replicate (Int.toNat (8 : Int)) (0 : Int))).toArray) = H0 := rfl
  have h6 : ByteArray.mk (List.map (fun y => AM.byteOf [Value.int IntKind.u8 y]) (List.replicate (Int.toNat (6 : Int)) (0 : Int))).toArray = H6 := rfl
  rw [h0, h6]
  refine Ev.bind (sl2 _) (Ev.df (small (by simp only [ByteArray.size_append, LB_size, H0_size]; omega)) ?_)
  refine Ev.bind (sl2 _) (Ev.df (small (by simp only [ByteArray.size_append, LB_size, H0_size]; omega)) ?_)
  refine Ev.bind (sl4 _) (Ev.df (small (by simp only [ByteArray.size_append, LB_size, H0_size]; omega)) ?_)
  refine Ev.bind (sl8 _) (Ev.df (small (by simp only [ByteArray.size_append, LB_size, H0_size]; omega)) ?_)
  refine Ev.bind (sl8 _) (Ev.df (small (by simp only [ByteArray.size_append, LB_size, H0_size]; omega)) ?_)
  refine Ev.bind (sl8 _) (Ev.df (small (by simp only [ByteArray.size_append, LB_size, H0_size]; omega)) ?_)
  refine Ev.bind (sl4 _) (Ev.df (small (by simp only [ByteArray.size_append, LB_size, H0_size]; omega)) ?_)
  refine Ev.bind (sl2 _) (Ev.df (small (by simp only [ByteArray.size_append, LB_size, H0_size]; omega)) ?_)
  refine Ev.bind (sl2 _) (Ev.df (small (by simp only [ByteArray.size_append, LB_size, H0_size]; omega)) ?_)
  refine Ev.bind (sl2 _) (Ev.df (small (by simp only [ByteArray.size_append, LB_size, H0_size]; omega)) ?_)
  exact Ev.df (small (by simp only [ByteArray.size_append, LB_size, H0_size, H6_size]; omega)) (Ev.now _)
theorem i_headText_ev (a m : Int) : Ev (fun n => i_headText n a m) (HD a m) := by
  unfold i_headText
  refine Ev.bind (a := ⟨(Go.Lib.repeatL (ByteArray.mk #[(0 : UInt8)]).data.toList 9).toArray⟩) (Ev.all fun n => rfl) ?_
  rw [H0_i]
  refine Ev.df (by decide) ?_
  refine Ev.bind (il2 _) (Ev.df (small (by simp only [ByteArray.size_append, LB_size, H0_size]; omega)) ?_)
  refine Ev.bind (il2 _) (Ev.df (small (by simp only [ByteArray.size_append, LB_size, H0_size]; omega)) ?_)
  refine Ev.bind (il4 _) (Ev.df (small (by simp only [ByteArray.size_append, LB_size, H0_size]; omega)) ?_)
  refine Ev.bind (il8 _) (Ev.df (small (by simp only [ByteArray.size_append, LB_size, H0_size]; omega)) ?_)
  refine Ev.bind (il8 _) (Ev.df (small (by simp only [ByteArray.size_append, LB_size, H0_size]; omega)) ?_)
  refine Ev.bind (il8 _) (Ev.df (small (by simp only [ByteArray.size_append, LB_size, H0_size]; omega)) ?_)
  refine Ev.bind (il4 _) (Ev.df (small (by simp only [ByteArray.size_append, LB_size, H0_size]; omega)) ?_)
  refine Ev.bind (il2 _) (Ev.df (small (by simp only [ByteArray.size_append, LB_size, H0_size]; omega)) ?_)
  refine Ev.bind (il2 _) (Ev.df (small (by simp only [ByteArray.size_append, LB_size, H0_size]; omega)) ?_)
  refine Ev.bind (il2 _) (Ev.df (small (by simp only [ByteArray.size_append, LB_size, H0_size]; omega)) ?_)
  refine Ev.bind (a := H6) (Ev.all fun n => rfl) ?_
  exact Ev.df (small (by simp only [ByteArray.size_append, LB_size, H0_size, H6_size]; omega)) (Ev.now _)
end Go.Proofs.Ytigoabhkdipdeaa

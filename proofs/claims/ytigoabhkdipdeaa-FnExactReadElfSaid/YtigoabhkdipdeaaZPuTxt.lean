/- A part of the plain reading of Go's code: what a function's code comes to, by a plain function. No condition. -/
import Derived.Test.YtigoabhkdipdeaaZPuMark
/- Numbers as bytes, little end first: written and read. -/
namespace Go.Proofs.Ytigoabhkdipdeaa
open Go Go.Proofs.Ytigoabhkdipdeaa.AM
set_option linter.all false
def byteAt (v : Int) (j : Nat) : Int := v / 2 ^ (8 * j) % 256
def B8 (y : Int) : UInt8 := AM.byteOf [Value.int IntKind.u8 y]
def LB (v : Int) (n : Nat) : ByteArray := ByteArray.mk (List.map (fun y => AM.byteOf [Value.int IntKind.u8 y]) ((List.range n).map (byteAt v))).toArray
theorem fdiv_pos (a b : Int) (h : 0 ≤ b) : a.fdiv b = a / b := Int.fdiv_eq_ediv_of_nonneg a h
theorem byte_i (v : Int) (i : Nat) : IntKind.u8.wrap (v.fdiv ((2 : Int) ^ (8 * i))) = byteAt v i := by
  rw [fdiv_pos _ _ (Int.pow_nonneg (by omega)), wU8_def]; rfl
theorem byte_s (v : Int) (i : Nat) (h : i < 8) : IntKind.u8.wrap ((IntKind.u64.wrap v).fdiv ((2 : Int) ^ (8 * i))) = byteAt v i := by
  rw [fdiv_pos _ _ (Int.pow_nonneg (by omega)), wU8_def, wU_def]
  unfold byteAt
  have : i = 0 ∨ i = 1 ∨ i = 2 ∨ i = 3 ∨ i = 4 ∨ i = 5 ∨ i = 6 ∨ i = 7 := by omega
  rcases this with rfl | rfl | rfl | rfl | rfl | rfl | rfl | rfl <;> simp only [Nat.mul_zero, Nat.reduceMul, Int.reducePow] <;> omega
theorem sLittle_loop (v : Int) (N : Nat) (hN : N ≤ 8) : ∀ (d i : Nat), i + d = N → Ev (fun n => s_l01Little_ls n v (N : Int) (i : Int) ((List.range i).map (byteAt v))) (LB v N) := by
  intro d
  induction d with
  | zero =>
    intro i hi
    refine Ev.step (g := fun n => s_l01Little_r0 (s_l01Little_ls n) n v N i ((List.range i).map (byteAt v))) (fun n => rfl) ?_
    unfold s_l01Little_r0
    refine Ev.df (by omega) ?_
    rw [show i = N by omega]
    exact Ev.now _
  | succ d ih =>
    intro i hi
    refine Ev.step (g := fun n => s_l01Little_r0 (s_l01Little_ls n) n v N i ((List.range i).map (byteAt v))) (fun n => rfl) ?_
    unfold s_l01Little_r0
    have e1 : IntKind.i64.wrap ((8 : Int) * i) = 8 * i := wI (by omega) (by omega)
    have e2 : IntKind.u64.wrap ((8 : Int) * i) = 8 * i := by rw [wU_def]; omega
    have e3 : min ((8 : Int) * i).toNat IntKind.u64.bits = 8 * i := by rw [show IntKind.u64.bits = 64 from rfl]; omega
    rw [e1, e2, e3, byte_s v i (by omega)]
    refine Ev.dt (by omega) (Ev.df (by omega) (Ev.dt (by simp; omega) ?_))
    rw [wI (by omega) (by omega)]
    have := ih (i + 1) (by omega)
    rw [List.range_succ, List.map_append] at this
    exact this
theorem s_l01Little_ev (v : Int) (N : Nat) (hN : N ≤ 8) : Ev (fun n => s_l01Little n v (N : Int)) (LB v N) := sLittle_loop v N hN N 0 (by omega)
theorem iLittle_loop (v : Int) (N : Nat) (hN : N ≤ 8) : ∀ (d i : Nat) (b : List Int), i + d = N → b.length = N → (∀ j, j < i → rd 0 b j = byteAt v j) → Ev (fun n => i_little_ls n v (N : Int) (i : Int) b) (LB v N) := by
  intro d
  induction d with
  | zero =>
    intro i b hi hb hj
    refine Ev.step (g := fun n => i_little_r0 (i_little_ls n) n v N i b) (fun n => rfl) ?_
    unfold i_little_r0
    refine Ev.df (by omega) ?_
    have : b = (List.range N).map (byteAt v) := rd_ext (d := 0) (by simpa using hb) fun j h => by
      rw [hj j (by omega), rd_lt (by simpa using (by omega : j < N))]
      simp
    rw [this]
    exact Ev.now _
  | succ d ih =>
    intro i b hi hb hj
    refine Ev.step (g := fun n => i_little_r0 (i_little_ls n) n v N i b) (fun n => rfl) ?_
    unfold i_little_r0
    have e1 : IntKind.i64.wrap ((8 : Int) * i) = 8 * i := wI (by omega) (by omega)
    have e3 : min ((8 : Int) * i).toNat IntKind.i64.bits = 8 * i := by rw [show IntKind.i64.bits = 64 from rfl]; omega
    rw [e1, e3, byte_i v i]
    refine Ev.dt (by omega) (Ev.df (by omega) (Ev.dt (by omega) (Ev.dt (by simp only [Int.ofNat_eq_natCast]; omega) ?_)))
    rw [wI (by omega) (by omega), show ((i : Int)).toNat = i by omega]
    refine ih (i + 1) _ (by omega) (by simp [hb]) fun j hj' => ?_
    rw [rd_set (by omega)]
    split
    · rename_i h; rw [h]
    · exact hj j (by omega)
theorem i_little_ev (v : Int) (N : Nat) (hN : N ≤ 8) : Ev (fun n => i_little n v (N : Int)) (LB v N) := by
  unfold i_little i_little_m
  refine Ev.dt (by omega) (Ev.dt (by omega) (Ev.dt (by simp only [Int.ofNat_eq_natCast]; omega) ?_))
  have := iLittle_loop v N hN N 0 (List.replicate N 0) (by omega) (by simp) (fun j h => by omega)
  simp only [List.length_replicate, Int.toNat_natCast, Int.ofNat_eq_natCast]
  exact this
theorem LB_size (v : Int) (n : Nat) : (LB v n).size = n := by unfold LB ByteArray.size; simp
end Go.Proofs.Ytigoabhkdipdeaa

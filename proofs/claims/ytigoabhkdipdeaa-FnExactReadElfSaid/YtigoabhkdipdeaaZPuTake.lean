/- A part of the plain reading of Go's code: what a function's code comes to, by a plain function. No condition. -/
import Derived.Test.YtigoabhkdipdeaaZPuTxt
/- Numbers read from bytes. -/
namespace Go.Proofs.Ytigoabhkdipdeaa
open Go Go.Proofs.Ytigoabhkdipdeaa.AM
set_option linter.all false
def tk (s : ByteArray) : Nat → Nat → Int
  | _, 0 => 0
  | p, n + 1 => bt s p + 256 * tk s (p + 1) n
theorem bt_range (s : ByteArray) (i : Nat) : 0 ≤ bt s i ∧ bt s i < 256 := by
  unfold bt
  have := (s.data.getD i 0).toNat_lt
  omega
theorem tk_range (s : ByteArray) : ∀ (n p : Nat), 0 ≤ tk s p n ∧ tk s p n < 2 ^ (8 * n) := by
  intro n
  induction n with
  | zero => intro p; unfold tk; simp
  | succ n ih =>
    intro p
    have h1 := ih (p + 1)
    have h2 := bt_range s p
    have h3 : (2 : Int) ^ (8 * (n + 1)) = 256 * 2 ^ (8 * n) := by rw [show 8 * (n + 1) = 8 * n + 8 by omega, Int.pow_add]; omega
    unfold tk
    omega
theorem tk_last (s : ByteArray) : ∀ (n p : Nat), tk s p (n + 1) = tk s p n + bt s (p + n) * 2 ^ (8 * n) := by
  intro n
  induction n with
  | zero => intro p; unfold tk; simp [tk]
  | succ n ih =>
    intro p
    have h1 := ih (p + 1)
    have h3 : (2 : Int) ^ (8 * (n + 1)) = 256 * 2 ^ (8 * n) := by rw [show 8 * (n + 1) = 8 * n + 8 by omega, Int.pow_add]; omega
    show bt s p + 256 * tk s (p + 1) (n + 1) = bt s p + 256 * tk s (p + 1) n + bt s (p + (n + 1)) * 2 ^ (8 * (n + 1))
    rw [h1, h3, show p + (n + 1) = p + 1 + n by omega, Int.mul_add, Int.mul_left_comm 256 (bt s (p + 1 + n)) _]
    omega
theorem pow_le64 (n : Nat) (h : n ≤ 8) : (2 : Int) ^ (8 * n) ≤ 18446744073709551616 := by
  have : n = 0 ∨ n = 1 ∨ n = 2 ∨ n = 3 ∨ n = 4 ∨ n = 5 ∨ n = 6 ∨ n = 7 ∨ n = 8 := by omega
  rcases this with rfl | rfl | rfl | rfl | rfl | rfl | rfl | rfl | rfl <;> decide
theorem sTake_loop (s : ByteArray) (p N : Nat) (hN : N ≤ 8) (hs : p + N ≤ s.size) (hz : s.size ≤ 1048576) : ∀ (i : Nat), i ≤ N → Ev (fun n => s_l01Take_ls n s (p : Int) (tk s (p + i) (N - i)) ((i : Int) - 1)) (IntKind.i64.wrap (tk s p N)) := by
  intro i
  induction i with
  | zero =>
    intro _
    refine Ev.step (g := fun n => s_l01Take_r0 (s_l01Take_ls n) n s p (tk s (p + 0) (N - 0)) (((0 : Nat) : Int) - 1)) (fun n => rfl) ?_
    unfold s_l01Take_r0
    exact Ev.df (by omega) (Ev.now _)
  | succ i ih =>
    intro hi
    refine Ev.step (g := fun n => s_l01Take_r0 (s_l01Take_ls n) n s p (tk s (p + (i + 1)) (N - (i + 1))) (((i + 1 : Nat) : Int) - 1)) (fun n => rfl) ?_
    unfold s_l01Take_r0
    have e0 : ((i + 1 : Nat) : Int) - 1 = i := by omega
    have e1 : IntKind.i64.wrap ((p : Int) + i) = ((p + i : Nat) : Int) := by rw [wI (by omega) (by omega)]; omega
    rw [e0, e1, Int.toNat_natCast]
    refine Ev.dt (by omega) (Ev.dt (by omega) (Ev.dt (by simp only [Int.ofNat_eq_natCast]; omega) ?_))
    have h1 := tk_range s (N - (i + 1)) (p + (i + 1))
    have h2 := bt_range s (p + i)
    have h3 : tk s (p + i) (N - i) = bt s (p + i) + 256 * tk s (p + (i + 1)) (N - (i + 1)) := by
      rw [show N - i = (N - (i + 1)) + 1 by omega]
      rfl
    have h4 := tk_range s (N - i) (p + i)
    have h5 := pow_le64 (N - i) (by omega)
    have e2 : IntKind.u64.wrap (IntKind.u64.wrap ((256 : Int) * tk s (p + (i + 1)) (N - (i + 1))) + IntKind.u64.wrap (bt s (p + i))) = tk s (p + i) (N - i) := by
      rw [wU_def, wU_def, wU_def, h3]
      omega
    rw [e2, wI (by omega) (by omega)]
    exact ih (by omega)
theorem s_l01Take_ev (s : ByteArray) (p N : Nat) (h0 : 0 < N) (hN : N ≤ 8) (hs : p + N ≤ s.size) (hz : s.size ≤ 1048576) : Ev (fun n => s_l01Take n s (p : Int) (N : Int)) (IntKind.i64.wrap (tk s p N)) := by
  have := sTake_loop s p N hN hs hz N (by omega)
  rw [show N - N = 0 by omega] at this
  unfold s_l01Take s_l01Take_m
  rw [wI (by omega) (by omega)]
  exact this
theorem or_add (a b : Int) (i : Nat) (hi : i < 8) (ha : 0 ≤ a ∧ a < 2 ^ (8 * i)) (hb : 0 ≤ b ∧ b < 256) : ibits BinOp.or .i64 (IntKind.i64.wrap a) (IntKind.i64.wrap (b * 2 ^ (8 * i))) = IntKind.i64.wrap (a + b * 2 ^ (8 * i)) := by
  have h3 : (2 : Int) ^ (8 * (i + 1)) = 256 * 2 ^ (8 * i) := by rw [show 8 * (i + 1) = 8 * i + 8 by omega, Int.pow_add]; omega
  have h4 := pow_le64 (i + 1) (by omega)
  have hp : (0 : Int) < 2 ^ (8 * i) := Int.pow_pos (by omega)
  have hbm : 0 ≤ b * 2 ^ (8 * i) := Int.mul_nonneg hb.1 (by omega)
  have hbm2 : b * 2 ^ (8 * i) ≤ 255 * 2 ^ (8 * i) := Int.mul_le_mul_of_nonneg_right (by omega) (by omega)
  have key : ∀ x : Int, 0 ≤ x → x < 18446744073709551616 → (BitVec.ofInt IntKind.i64.bits (IntKind.i64.wrap x)).toNat = x.toNat := by
    intro x h0 h1
    rw [BitVec.toNat_ofInt, wI_def]
    congr 1
    show ((x + 9223372036854775808) % 18446744073709551616 - 9223372036854775808) % ((2 ^ 64 : Nat) : Int) = x
    rw [show ((2 ^ 64 : Nat) : Int) = 18446744073709551616 by decide]
    omega
  unfold ibits
  rw [BitVec.toNat_or, key a ha.1 (by omega), key _ hbm (by omega)]
  have e : (b * 2 ^ (8 * i)).toNat = 2 ^ (8 * i) * b.toNat := by
    rw [Int.toNat_mul hb.1 (by omega), Nat.mul_comm]
    rw [show ((2 : Int) ^ (8 * i)) = ((2 ^ (8 * i) : Nat) : Int) by simp, Int.toNat_natCast]
  have hal : a.toNat < 2 ^ (8 * i) := by
    have : ((a.toNat : Nat) : Int) < ((2 ^ (8 * i) : Nat) : Int) := by rw [Int.toNat_of_nonneg ha.1]; simpa using ha.2
    omega
  rw [Nat.or_comm, e, ← Nat.two_pow_add_eq_or_of_lt hal, ← e]
  show IntKind.i64.wrap (((b * 2 ^ (8 * i)).toNat + a.toNat : Nat) : Int) = _
  congr 1
  omega
theorem iTake_loop (s : ByteArray) (N : Nat) (hN : N ≤ 8) (hs : N = s.size) : ∀ (d i : Nat), i + d = N → Ev (fun n => i_take_ls n s (IntKind.i64.wrap (tk s 0 i)) (N : Int) (i : Int)) (IntKind.i64.wrap (tk s 0 N)) := by
  intro d
  induction d with
  | zero =>
    intro i hi
    refine Ev.step (g := fun n => i_take_r0 (i_take_ls n) n s (IntKind.i64.wrap (tk s 0 i)) N i) (fun n => rfl) ?_
    unfold i_take_r0
    refine Ev.df (by omega) ?_
    rw [show i = N by omega]
    exact Ev.now _
  | succ d ih =>
    intro i hi
    refine Ev.step (g := fun n => i_take_r0 (i_take_ls n) n s (IntKind.i64.wrap (tk s 0 i)) N i) (fun n => rfl) ?_
    unfold i_take_r0
    have hb := bt_range s i
    have e1 : IntKind.i64.wrap ((8 : Int) * i) = 8 * i := wI (by omega) (by omega)
    have e3 : min ((8 : Int) * i).toNat IntKind.i64.bits = 8 * i := by rw [show IntKind.i64.bits = 64 from rfl]; omega
    rw [e1, e3, Int.toNat_natCast, wI (n := bt s i) (by omega) (by omega), or_add _ _ i (by omega) (tk_range s i 0) hb]
    have h1 := tk_last s i 0
    rw [Nat.zero_add] at h1
    rw [← h1]
    refine Ev.dt (by omega) (Ev.dt (by omega) (Ev.dt (by simp only [Int.ofNat_eq_natCast]; omega) (Ev.df (by omega) ?_)))
    rw [wI (n := (i : Int) + 1) (by omega) (by omega)]
    exact ih (i + 1) (by omega)
theorem i_take_ev (s : ByteArray) (hN : s.size ≤ 8) : Ev (fun n => i_take n s) (IntKind.i64.wrap (tk s 0 s.size)) := iTake_loop s s.size hN rfl s.size 0 (by omega)
theorem bt_extract (s : ByteArray) (p q j : Nat) (hq : q ≤ s.size) (h : p + j < q) : bt (s.extract p q) j = bt s (p + j) := by
  have e : (s.extract p q).data.getD j 0 = s.data.getD (p + j) 0 := by
    have hz : s.data.size = s.size := rfl
    simp only [ByteArray.data_extract, Array.getD_eq_getD_getElem?, Array.getElem?_extract]
    rw [if_pos (by omega)]
  unfold bt
  rw [e]
theorem tk_extract (s : ByteArray) (p q : Nat) (hq : q ≤ s.size) : ∀ (n j : Nat), p + j + n ≤ q → tk (s.extract p q) j n = tk s (p + j) n := by
  intro n
  induction n with
  | zero => intro j _; rfl
  | succ n ih =>
    intro j hj
    unfold tk
    rw [bt_extract s p q j hq (by omega), ih (j + 1) (by omega)]
    rfl
theorem i_takeAt_ev (s : ByteArray) (p N : Nat) (hN : N ≤ 8) (hs : p + N ≤ s.size) : Ev (fun n => i_take n (s.extract p (p + N))) (IntKind.i64.wrap (tk s p N)) := by
  have hz : (s.extract p (p + N)).size = N := by rw [ByteArray.size_extract]; omega
  have := i_take_ev (s.extract p (p + N)) (by omega)
  rw [hz, tk_extract s p (p + N) hs N 0 (by omega)] at this
  exact this
end Go.Proofs.Ytigoabhkdipdeaa

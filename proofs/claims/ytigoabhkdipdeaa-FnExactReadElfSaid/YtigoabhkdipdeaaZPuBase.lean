/- A part of the plain reading of Go's code: what a function's code comes to, by a plain function. No condition. -/
import Derived.Test.YtigoabhkdipdeaaZP
import Derived.Test.YtigoabhkdipdeaaZPV
/- Small tests, the bytes of numbers: what the plain functions come to. -/
namespace Go.Proofs.Ytigoabhkdipdeaa
open Go Go.Proofs.Ytigoabhkdipdeaa.AM
set_option linter.all false

def IN (a b c : Int) : Bool := decide (b ≤ a) && decide (a ≤ c)
theorem IN_true {a b c : Int} : IN a b c = true ↔ b ≤ a ∧ a ≤ c := by unfold IN; simp
theorem IN_false {a b c : Int} : IN a b c = false ↔ ¬ (b ≤ a ∧ a ≤ c) := by rw [← IN_true]; simp
theorem s_l01In_val (n : Nat) (a b c : Int) : s_l01In n a b c = some (IN a b c) := by
  unfold s_l01In IN
  by_cases h : a ≥ b <;> simp [h]
theorem i_within_val (n : Nat) (a b c : Int) : i_within n a b c = some (IN a b c) := by
  unfold i_within IN
  by_cases h : a ≥ b <;> simp [h]

/-! the sign of the lowest bytes -/
theorem s_l01Bit_val (n : Nat) (a i : Int) (h0 : 0 ≤ i) (h1 : i ≤ 63) : s_l01Bit n a i = some ((a % 18446744073709551616) / 2 ^ i.toNat % 2) := by
  have hi : IntKind.u64.wrap i = i := by rw [wU_def]; omega
  unfold s_l01Bit
  rw [hi, wU_def]
  have hn : min i.toNat IntKind.u64.bits = i.toNat := by have : IntKind.u64.bits = 64 := rfl; omega
  rw [hn]
  have hp : (0 : Int) < 2 ^ i.toNat := Int.pow_pos (by decide)
  rw [Int.fdiv_eq_ediv_of_nonneg _ (by omega)]
  have hnn : 0 ≤ (a % 18446744073709551616) / 2 ^ i.toNat := Int.ediv_nonneg (by omega) (by omega)
  rw [Int.tmod_eq_emod_of_nonneg hnn, decide_eq_false (by omega), cond_false]
  by_cases h : a % 18446744073709551616 / 2 ^ i.toNat % 2 = 1
  · rw [h]; rfl
  · rw [show a % 18446744073709551616 / 2 ^ i.toNat % 2 = 0 by omega]; rfl
theorem mod_step (u : Int) (n : Nat) : u % 2 ^ (n + 1) = u / 2 ^ n % 2 * 2 ^ n + u % 2 ^ n := by
  have hp : (0 : Int) < 2 ^ n := Int.pow_pos (by decide)
  have h1 := Int.emod_add_mul_ediv u (2 ^ n)
  have h2 := Int.emod_add_mul_ediv (u / 2 ^ n) 2
  have h3 := Int.emod_add_mul_ediv u (2 ^ (n + 1))
  have e : u / 2 ^ (n + 1) = u / 2 ^ n / 2 := by
    rw [Int.pow_succ, Int.ediv_ediv_of_nonneg (by omega)]
  rw [e] at h3
  have : (2 : Int) ^ (n + 1) * (u / 2 ^ n / 2) = 2 ^ n * (2 * (u / 2 ^ n / 2)) := by rw [Int.pow_succ, Int.mul_assoc]
  have h4 : 2 ^ n * (u / 2 ^ n) = 2 ^ n * (u / 2 ^ n % 2) + 2 ^ n * (2 * (u / 2 ^ n / 2)) := by rw [← Int.mul_add, h2]
  have h5 : u / 2 ^ n % 2 * 2 ^ n = 2 ^ n * (u / 2 ^ n % 2) := Int.mul_comm _ _
  omega
theorem mn_eq (a b : Int) : (if true = true then min a b else max a b) = min a b := if_pos rfl
theorem sign_low (a x1 : Int) (m : Nat) (hx : IntKind.i64.wrap (IntKind.i64.wrap (8 * x1) - 1) = (m : Int) - 1) (n : Nat) : ∀ acc : Int, 0 ≤ acc → n ≤ m → m ≤ 64 → acc * 2 ^ n + 2 ^ n ≤ 18446744073709551616 →
    Ev (fun k => s_l01Sign_ls k a x1 acc ((n : Int) - 1)) (IntKind.i64.wrap (acc * 2 ^ n + (a % 18446744073709551616) % 2 ^ n)) := by
  induction n with
  | zero =>
    intro acc h0 h1 h1' h2
    refine Ev.step (g := fun n => s_l01Sign_r0 (s_l01Sign_ls n) n a x1 acc _) (fun n => rfl) ?_
    unfold s_l01Sign_r0
    refine Ev.df (by omega) ?_
    simp only [Int.pow_zero, Int.mul_one, Int.emod_one, Int.add_zero]
    exact Ev.now _
  | succ n ih =>
    intro acc h0 h1 h1' h2
    have hp : (0 : Int) < 2 ^ n := Int.pow_pos (by decide)
    have hs : (2 : Int) ^ (n + 1) = 2 * 2 ^ n := by rw [Int.pow_succ, Int.mul_comm]
    rw [hs] at h2
    have hacc : acc * (2 * 2 ^ n) = (2 * acc) * 2 ^ n := by rw [Int.mul_comm 2, ← Int.mul_assoc, Int.mul_comm (acc * _), ← Int.mul_assoc]
    refine Ev.step (g := fun n' => s_l01Sign_r0 (s_l01Sign_ls n') n' a x1 acc _) (fun n => rfl) ?_
    unfold s_l01Sign_r0
    refine Ev.dt (by omega) ?_
    rw [mn_eq, hx]
    have hmn : min ((↑(n + 1) : Int) - 1) ((m : Int) - 1) = (n : Int) := by omega
    rw [hmn]
    refine Ev.bind (Ev.all fun k => s_l01Bit_val k a n (by omega) (by omega)) ?_
    have ht : ((n : Int)).toNat = n := by omega
    rw [ht]
    generalize hb : (a % 18446744073709551616) / 2 ^ n % 2 = b
    have hb0 : 0 ≤ b ∧ b ≤ 1 := by omega
    have hlt : 2 * acc + 2 ≤ 18446744073709551616 := by
      have h6 : (2 * acc + 2) * 1 ≤ (2 * acc + 2) * 2 ^ n := Int.mul_le_mul_of_nonneg_left (by omega) (by omega)
      have h7 : (2 * acc + 2) * 2 ^ n = (2 * acc) * 2 ^ n + 2 * 2 ^ n := Int.add_mul _ _ _
      omega
    have e1 : IntKind.u64.wrap (IntKind.u64.wrap (2 * acc) + IntKind.u64.wrap b) = 2 * acc + b := by rw [wU_def, wU_def, wU_def]; omega
    have e2 : IntKind.i64.wrap ((↑(n + 1) : Int) - 1 - 1) = (n : Int) - 1 := by rw [wI (by omega) (by omega)]; omega
    rw [e1, e2]
    have hbm : b * 2 ^ n ≤ 1 * 2 ^ n := Int.mul_le_mul_of_nonneg_right hb0.2 (by omega)
    have h8 : (2 * acc + b) * 2 ^ n = (2 * acc) * 2 ^ n + b * 2 ^ n := Int.add_mul _ _ _
    refine Ev.eq (ih (2 * acc + b) (by omega) (by omega) (by omega) (by omega)) ?_
    rw [mod_step (a % 18446744073709551616) n, hb, hs, hacc, h8]
    congr 1
    omega
theorem sign_high (a x1 : Int) (m : Nat) (hm : 0 < m) (hx : IntKind.i64.wrap (IntKind.i64.wrap (8 * x1) - 1) = (m : Int) - 1) (b : Int) (hb : (a % 18446744073709551616) / 2 ^ (m - 1) % 2 = b) (d : Nat) : ∀ acc : Int, 0 ≤ acc → m + d ≤ 64 → acc * 2 ^ (m + d) + 2 ^ (m + d) ≤ 18446744073709551616 →
    Ev (fun k => s_l01Sign_ls k a x1 acc (((m + d : Nat) : Int) - 1)) (IntKind.i64.wrap (acc * 2 ^ (m + d) + (b * (2 ^ (m + d) - 2 ^ m) + (a % 18446744073709551616) % 2 ^ m))) := by
  induction d with
  | zero =>
    intro acc h0 h1 h2
    have := sign_low a x1 m hx m acc h0 (Nat.le_refl _) (by omega) h2
    simp only [Nat.add_zero, Int.sub_self, Int.mul_zero, Int.zero_add]
    exact this
  | succ d ih =>
    intro acc h0 h1 h2
    have hp : (0 : Int) < 2 ^ (m + d) := Int.pow_pos (by decide)
    have hs : (2 : Int) ^ (m + (d + 1)) = 2 * 2 ^ (m + d) := by rw [← Nat.add_assoc, Int.pow_succ, Int.mul_comm]
    rw [hs] at h2
    have hacc : acc * (2 * 2 ^ (m + d)) = (2 * acc) * 2 ^ (m + d) := by rw [Int.mul_comm 2, ← Int.mul_assoc, Int.mul_comm (acc * _), ← Int.mul_assoc]
    refine Ev.step (g := fun n' => s_l01Sign_r0 (s_l01Sign_ls n') n' a x1 acc _) (fun n => rfl) ?_
    unfold s_l01Sign_r0
    refine Ev.dt (by omega) ?_
    rw [mn_eq, hx]
    have hmn : min ((↑(m + (d + 1)) : Int) - 1) ((m : Int) - 1) = ((m - 1 : Nat) : Int) := by omega
    rw [hmn]
    refine Ev.bind (Ev.all fun k => s_l01Bit_val k a _ (by omega) (by omega)) ?_
    have ht : (((m - 1 : Nat) : Int)).toNat = m - 1 := by omega
    rw [ht, hb]
    have hb0 : 0 ≤ b ∧ b ≤ 1 := by omega
    have hlt : 2 * acc + 2 ≤ 18446744073709551616 := by
      have h6 : (2 * acc + 2) * 1 ≤ (2 * acc + 2) * 2 ^ (m + d) := Int.mul_le_mul_of_nonneg_left (by omega) (by omega)
      have h7 : (2 * acc + 2) * 2 ^ (m + d) = (2 * acc) * 2 ^ (m + d) + 2 * 2 ^ (m + d) := Int.add_mul _ _ _
      omega
    have e1 : IntKind.u64.wrap (IntKind.u64.wrap (2 * acc) + IntKind.u64.wrap b) = 2 * acc + b := by rw [wU_def, wU_def, wU_def]; omega
    have e2 : IntKind.i64.wrap ((↑(m + (d + 1)) : Int) - 1 - 1) = ((m + d : Nat) : Int) - 1 := by rw [wI (by omega) (by omega)]; omega
    rw [e1, e2]
    have hbm : b * 2 ^ (m + d) ≤ 1 * 2 ^ (m + d) := Int.mul_le_mul_of_nonneg_right hb0.2 (by omega)
    have h8 : (2 * acc + b) * 2 ^ (m + d) = (2 * acc) * 2 ^ (m + d) + b * 2 ^ (m + d) := Int.add_mul _ _ _
    refine Ev.eq (ih (2 * acc + b) (by omega) (by omega) (by omega)) ?_
    rw [hs, hacc, h8, Int.mul_sub, Int.mul_sub, show b * (2 * 2 ^ (m + d)) = 2 * (b * 2 ^ (m + d)) by rw [← Int.mul_assoc, Int.mul_comm b 2, Int.mul_assoc]]
    congr 1
    omega
/-- The lowest n bytes as a number with a sign. -/
def sg (a n : Int) : Int := if n = 1 then (a + 128) % 256 - 128 else if n = 2 then (a + 32768) % 65536 - 32768 else if n = 4 then (a + 2147483648) % 4294967296 - 2147483648 else a
theorem s_l01Sign_ev (a n : Int) (hn : n = 1 ∨ n = 2 ∨ n = 4 ∨ n = 8) (h0 : -9223372036854775808 ≤ a) (h1 : a ≤ 9223372036854775807) : Ev (fun k => s_l01Sign k a n) (sg a n) := by
  have key : ∀ m d : Nat, 0 < m → m + d = 64 → IntKind.i64.wrap (IntKind.i64.wrap (8 * n) - 1) = (m : Int) - 1 → Ev (fun k => s_l01Sign k a n) (IntKind.i64.wrap ((a % 18446744073709551616) / 2 ^ (m - 1) % 2 * (18446744073709551616 - 2 ^ m) + (a % 18446744073709551616) % 2 ^ m)) := by
    intro m d hm hd hx
    have h3 : (2 : Int) ^ 64 = 18446744073709551616 := by decide
    have := sign_high a n m hm hx _ rfl d 0 (by omega) (by omega) (by rw [hd]; omega)
    rw [hd, Int.zero_mul, Int.zero_add, h3] at this
    exact this
  have hu : a % 18446744073709551616 = a ∨ a % 18446744073709551616 = a + 18446744073709551616 := by omega
  rcases hn with rfl | rfl | rfl | rfl
  · refine Ev.eq (key 8 56 (by omega) (by omega) (by rw [wI_def, wI_def]; omega)) ?_
    simp only [sg, if_true]
    rw [show (2 : Int) ^ (8 - 1) = 128 by decide, show (2 : Int) ^ 8 = 256 by decide]
    have e1 : a % 18446744073709551616 % 256 = a % 256 := by omega
    have e2 : a % 18446744073709551616 / 128 % 2 = a % 256 / 128 := by omega
    rw [e1, e2]
    by_cases c : a % 256 < 128
    · rw [show a % 256 / 128 = 0 by omega, wI_def]; omega
    · rw [show a % 256 / 128 = 1 by omega, wI_def]; omega
  · refine Ev.eq (key 16 48 (by omega) (by omega) (by rw [wI_def, wI_def]; omega)) ?_
    simp only [sg, if_true]
    rw [if_neg (by decide), show (2 : Int) ^ (16 - 1) = 32768 by decide, show (2 : Int) ^ 16 = 65536 by decide]
    have e1 : a % 18446744073709551616 % 65536 = a % 65536 := by omega
    have e2 : a % 18446744073709551616 / 32768 % 2 = a % 65536 / 32768 := by omega
    rw [e1, e2]
    by_cases c : a % 65536 < 32768
    · rw [show a % 65536 / 32768 = 0 by omega, wI_def]; omega
    · rw [show a % 65536 / 32768 = 1 by omega, wI_def]; omega
  · refine Ev.eq (key 32 32 (by omega) (by omega) (by rw [wI_def, wI_def]; omega)) ?_
    simp only [sg, if_true]
    rw [if_neg (by decide), if_neg (by decide), show (2 : Int) ^ (32 - 1) = 2147483648 by decide, show (2 : Int) ^ 32 = 4294967296 by decide]
    have e1 : a % 18446744073709551616 % 4294967296 = a % 4294967296 := by omega
    have e2 : a % 18446744073709551616 / 2147483648 % 2 = a % 4294967296 / 2147483648 := by omega
    rw [e1, e2]
    by_cases c : a % 4294967296 < 2147483648
    · rw [show a % 4294967296 / 2147483648 = 0 by omega, wI_def]; omega
    · rw [show a % 4294967296 / 2147483648 = 1 by omega, wI_def]; omega
  · refine Ev.eq (key 64 0 (by omega) (by omega) (by rw [wI_def, wI_def]; omega)) ?_
    simp only [sg]
    rw [if_neg (by decide), if_neg (by decide), if_neg (by decide), show (2 : Int) ^ 64 = 18446744073709551616 by decide, wI_def]
    omega
theorem i_sign_val (k : Nat) (a n : Int) (hn : n = 1 ∨ n = 2 ∨ n = 4 ∨ n = 8) (h0 : -9223372036854775808 ≤ a) (h1 : a ≤ 9223372036854775807) : i_sign k a n = some (sg a n) := by
  have hb : IntKind.i64.bits = 64 := rfl
  unfold i_sign
  have hd : ∀ m : Nat, (0 : Int) ≤ 2 ^ m := fun m => Int.le_of_lt (Int.pow_pos (by decide))
  simp only [Int.fdiv_eq_ediv_of_nonneg _ (hd _), hb]
  rcases hn with rfl | rfl | rfl | rfl
  · rw [show IntKind.i64.wrap (64 - IntKind.i64.wrap (8 * 1)) = 56 by rw [wI_def, wI_def]; omega]
    rw [show (2 : Int) ^ min (56 : Int).toNat 64 = 72057594037927936 by decide, wI_def]
    simp only [sg, if_true]
    show some _ = _
    congr 1; omega
  · rw [show IntKind.i64.wrap (64 - IntKind.i64.wrap (8 * 2)) = 48 by rw [wI_def, wI_def]; omega]
    rw [show (2 : Int) ^ min (48 : Int).toNat 64 = 281474976710656 by decide, wI_def]
    simp only [sg, if_true]
    rw [if_neg (by decide)]
    show some _ = _
    congr 1; omega
  · rw [show IntKind.i64.wrap (64 - IntKind.i64.wrap (8 * 4)) = 32 by rw [wI_def, wI_def]; omega]
    rw [show (2 : Int) ^ min (32 : Int).toNat 64 = 4294967296 by decide, wI_def]
    simp only [sg, if_true]
    rw [if_neg (by decide), if_neg (by decide)]
    show some _ = _
    congr 1; omega
  · rw [show IntKind.i64.wrap (64 - IntKind.i64.wrap (8 * 8)) = 0 by rw [wI_def, wI_def]; omega]
    rw [show (2 : Int) ^ min (0 : Int).toNat 64 = 1 by decide, wI_def]
    simp only [sg]
    rw [if_neg (by decide), if_neg (by decide), if_neg (by decide)]
    show some _ = _
    congr 1; omega
end Go.Proofs.Ytigoabhkdipdeaa

/- The program's Masked tells what the reference's tells, for all ints. No condition. -/
import Derived.Test.YtoohimpbckpiaaaPFnExactMaskedx1
import Derived.Test.YtoohimpbckpiaaaNNum
namespace Go.Proofs.Ytoohimpbckpiaaa.Pure
open Go.RowKit Go.Proofs.Ytoohimpbckpiaaa.PFnExactMasked Go.Proofs.YtoohimpbckpiaaaW.PrintWords Go.Proofs.YtoohimpbckpiaaaW.PrintLast Go.Proofs.YtoohimpbckpiaaaW.PrintMore Go.Proofs.Ytoohimpbckpiaaa.Num

theorem bit_val (a i : Int) (h0 : 0 ≤ i) (h1 : i ≤ 63) : spec_l01Bit.f a i = some ((a % 18446744073709551616) / 2 ^ i.toNat % 2) := by
  have hi : IntKind.u64.wrap i = i := by rw [u64]; omega
  unfold spec_l01Bit.f
  rw [hi, if_pos h0, u64]
  have hn : min i.toNat 64 = i.toNat := by omega
  have e : shr .u64 (a % 18446744073709551616) i = (a % 18446744073709551616) / 2 ^ i.toNat := by unfold shr; simp only [IntKind.bits]; rw [hn]
  rw [e]
  have hp : (0 : Int) < 2 ^ i.toNat := Int.pow_pos (by decide)
  have hnn : 0 ≤ (a % 18446744073709551616) / 2 ^ i.toNat := Int.ediv_nonneg (by omega) (by omega)
  rw [Int.tmod_eq_emod_of_nonneg hnn]
  split <;> simp <;> omega
theorem mod_step (u : Int) (n : Nat) : u % 2 ^ (n + 1) = u / 2 ^ n % 2 * 2 ^ n + u % 2 ^ n := by
  have hp : (0 : Int) < 2 ^ n := Int.pow_pos (by decide)
  have h1 := Int.emod_add_mul_ediv u (2 ^ n)
  have h2 := Int.emod_add_mul_ediv (u / 2 ^ n) 2
  have h3 := Int.emod_add_mul_ediv u (2 ^ (n + 1))
  have e : u / 2 ^ (n + 1) = u / 2 ^ n / 2 := by
    rw [Int.pow_succ, Int.ediv_ediv_of_nonneg (by omega)]
  rw [e] at h3
  have : (2 : Int) ^ (n + 1) * (u / 2 ^ n / 2) = 2 ^ n * (2 * (u / 2 ^ n / 2)) := by rw [Int.pow_succ, Int.mul_assoc]
  have h4 : 2 ^ n * (u / 2 ^ n) = 2 ^ n * (u / 2 ^ n % 2) + 2 ^ n * (2 * (u / 2 ^ n / 2)) := by rw [← Int.mul_add, h2]
  have h5 : u / 2 ^ n % 2 * 2 ^ n = 2 ^ n * (u / 2 ^ n % 2) := Int.mul_comm _ _
  omega
/-- The loop from bit i down: the bits below i + 1 come behind what there is. -/
theorem zero_loop (a : Int) (n : Nat) : ∀ acc : Int, 0 ≤ acc → n ≤ 64 → acc * 2 ^ n + 2 ^ n ≤ 18446744073709551616 →
    spec_l01Zero.l0 (n + 1) a acc ((n : Int) - 1) = some (wrap64 (acc * 2 ^ n + (a % 18446744073709551616) % 2 ^ n)) := by
  induction n with
  | zero =>
    intro acc h0 h1 h2
    simp only [spec_l01Zero.l0]
    rw [if_neg (by omega)]
    simp only [Int.pow_zero, Int.mul_one, Int.emod_one, Int.add_zero]
  | succ n ih =>
    intro acc h0 h1 h2
    have hp : (0 : Int) < 2 ^ n := Int.pow_pos (by decide)
    have hs : (2 : Int) ^ (n + 1) = 2 * 2 ^ n := by rw [Int.pow_succ, Int.mul_comm]
    rw [hs] at h2
    have hacc : acc * (2 * 2 ^ n) = (2 * acc) * 2 ^ n := by rw [Int.mul_comm 2, ← Int.mul_assoc, Int.mul_comm (acc * _), ← Int.mul_assoc]
    rw [show spec_l01Zero.l0 (n + 1 + 1) a acc ((↑(n + 1) : Int) - 1) = (if ((↑(n + 1) : Int) - 1) ≥ 0 then ((spec_l01Bit.f a ((↑(n + 1) : Int) - 1)).bind fun t101 => (spec_l01Zero.l0 (n + 1) a (IntKind.u64.wrap ((IntKind.u64.wrap (2 * acc)) + (IntKind.u64.wrap (t101)))) (wrap64 (((↑(n + 1) : Int) - 1) - 1)))) else (some (wrap64 (acc)))) from rfl]
    rw [if_pos (by omega), bit_val _ _ (by omega) (by omega)]
    have ht : ((↑(n + 1) : Int) - 1).toNat = n := by omega
    simp only [Option.bind_some, ht]
    generalize hb : (a % 18446744073709551616) / 2 ^ n % 2 = b
    have hb0 : 0 ≤ b ∧ b ≤ 1 := by omega
    have hle : (2 * acc) * 1 ≤ (2 * acc) * 2 ^ n := Int.mul_le_mul_of_nonneg_left (by omega) (by omega)
    have hlt : 2 * acc + 2 ≤ 18446744073709551616 := by
      have h6 : (2 * acc + 2) * 1 ≤ (2 * acc + 2) * 2 ^ n := Int.mul_le_mul_of_nonneg_left (by omega) (by omega)
      have h7 : (2 * acc + 2) * 2 ^ n = (2 * acc) * 2 ^ n + 2 * 2 ^ n := Int.add_mul _ _ _
      omega
    have e1 : IntKind.u64.wrap (IntKind.u64.wrap (2 * acc) + IntKind.u64.wrap b) = 2 * acc + b := by rw [u64, u64, u64]; omega
    have e2 : wrap64 ((↑(n + 1) : Int) - 1 - 1) = (n : Int) - 1 := by rw [w64 (by omega) (by omega)]; omega
    rw [e1, e2]
    have hbm : b * 2 ^ n ≤ 1 * 2 ^ n := Int.mul_le_mul_of_nonneg_right hb0.2 (by omega)
    have h8 : (2 * acc + b) * 2 ^ n = (2 * acc) * 2 ^ n + b * 2 ^ n := Int.add_mul _ _ _
    rw [ih (2 * acc + b) (by omega) (by omega) (by omega), mod_step (a % 18446744073709551616) n, hb, hs, hacc, h8]
    congr 2
    omega
/-- The lowest n bytes as a number without a sign (of 8 bytes: as they are). -/
theorem zero_val (a n : Int) (hn : n = 1 ∨ n = 2 ∨ n = 4 ∨ n = 8) (h0 : -9223372036854775808 ≤ a) (h1 : a ≤ 9223372036854775807) : spec_l01Zero.f 65 a n = some (if n = 8 then a else a % 2 ^ (8 * n.toNat)) := by
  have key : ∀ m : Nat, m ≤ 64 → spec_l01Zero.l0 65 a 0 ((m : Int) - 1) = some (wrap64 ((a % 18446744073709551616) % 2 ^ m)) := by
    intro m hm
    have h2 : (2 : Int) ^ m ≤ 2 ^ 64 := by exact_mod_cast Nat.pow_le_pow_right (by decide) hm
    have h3 : (2 : Int) ^ 64 = 18446744073709551616 := by decide
    have := zero_loop a m 0 (by omega) hm (by omega)
    rw [Int.zero_mul, Int.zero_add] at this
    exact at_rounds (fun k => spec_l01Zero.mono_l k _ _ _) (by omega : m + 1 ≤ 65) this
  unfold spec_l01Zero.f
  rcases hn with rfl | rfl | rfl | rfl
  · have := key 8 (by omega)
    rw [show wrap64 (wrap64 (8 * 1) - 1) = ((8 : Nat) : Int) - 1 by unfold wrap64; omega, this, if_neg (by decide)]
    rw [show (2 : Int) ^ (8 * (1 : Int).toNat) = 256 by decide, show (2 : Int) ^ 8 = 256 by decide, w64 (by omega) (by omega)]
    congr 1; omega
  · have := key 16 (by omega)
    rw [show wrap64 (wrap64 (8 * 2) - 1) = ((16 : Nat) : Int) - 1 by unfold wrap64; omega, this, if_neg (by decide)]
    rw [show (2 : Int) ^ (8 * (2 : Int).toNat) = 65536 by decide, show (2 : Int) ^ 16 = 65536 by decide, w64 (by omega) (by omega)]
    congr 1; omega
  · have := key 32 (by omega)
    rw [show wrap64 (wrap64 (8 * 4) - 1) = ((32 : Nat) : Int) - 1 by unfold wrap64; omega, this, if_neg (by decide)]
    rw [show (2 : Int) ^ (8 * (4 : Int).toNat) = 4294967296 by decide, show (2 : Int) ^ 32 = 4294967296 by decide, w64 (by omega) (by omega)]
    congr 1; omega
  · have := key 64 (by omega)
    rw [show wrap64 (wrap64 (8 * 8) - 1) = ((64 : Nat) : Int) - 1 by unfold wrap64; omega, this, if_pos rfl]
    rw [show (2 : Int) ^ 64 = 18446744073709551616 by decide]
    congr 1; unfold wrap64; omega

/-- A mask below 4096 sees the lowest four bytes alone. -/
theorem and_low (a m : Int) (h0 : 0 ≤ m) (h1 : m ≤ 4095) : Go.bits .and .i64 (a % 2 ^ 32) m = Go.bits .and .i64 a m := by
  rw [and64, and64]
  congr 1
  apply BitVec.eq_of_toNat_eq
  rw [BitVec.toNat_and, BitVec.toNat_and]
  have em : (BitVec.ofInt 64 m).toNat = m.toNat := by
    have := ofInt_nat m
    omega
  have ea : (BitVec.ofInt 64 (a % 2 ^ 32)).toNat = (BitVec.ofInt 64 a).toNat % 2 ^ 32 := by
    have h2 := ofInt_nat a
    have h3 := ofInt_nat (a % 2 ^ 32)
    omega
  rw [em, ea]
  have hm : m.toNat < 2 ^ 32 := by omega
  apply Nat.eq_of_testBit_eq
  intro i
  simp only [Nat.testBit_and, Nat.testBit_mod_two_pow]
  by_cases hi : i < 32
  · simp [hi]
  · have : m.toNat.testBit i = false := Nat.testBit_lt_two_pow (Nat.lt_of_lt_of_le hm (Nat.pow_le_pow_right (by decide) (by omega)))
    simp [this]

theorem FnExactMasked : laws_FnExactMasked.Pure := by
  intro a m ha hm
  have hb := wf64 ha
  refine ⟨65, ?_⟩
  unfold laws_FnExactMasked.f spec_Masked.f impl_Masked.f impl_within.f spec_l01In.f
  by_cases h0 : m ≥ 0
  · rw [if_pos h0]
    by_cases h1 : m ≤ 4095
    · simp only [h1, decide_true, Option.bind_some, if_true]
      rw [zero_val a 4 (by omega) hb.1 hb.2, if_neg (by decide)]
      simp only [Option.bind_some]
      rw [show (8 * (4 : Int).toNat) = 32 by decide, and_low a m h0 h1, if_pos rfl]
    · simp [h1]
  · simp [h0]

end Go.Proofs.Ytoohimpbckpiaaa.Pure

/- The program's StmtOK tells what the reference's tells, for every statement. No condition. -/
import Derived.Test.YtoohimpbckpiaaaPFnExactStmtOKx5
import Derived.Test.YtoohimpbckpiaaaNNum
namespace Go.Proofs.Ytoohimpbckpiaaa.Pure
open Go.RowKit Go.Proofs.Ytoohimpbckpiaaa.PFnExactStmtOK Go.Proofs.YtoohimpbckpiaaaW.PrintWords Go.Proofs.YtoohimpbckpiaaaW.PrintLast Go.Proofs.YtoohimpbckpiaaaW.PrintMore Go.Proofs.Ytoohimpbckpiaaa.Num

set_option linter.unusedSimpArgs false
set_option linter.unusedVariables false

theorem bit_val (a i : Int) (h0 : 0 ≤ i) (h1 : i ≤ 63) : spec_l01Bit.f a i = some ((a % 18446744073709551616) / 2 ^ i.toNat % 2) := by
  have hi : IntKind.u64.wrap i = i := by rw [u64]; omega
  unfold spec_l01Bit.f
  rw [hi, if_pos h0, u64]
  have hn : min i.toNat 64 = i.toNat := by omega
  have e : shr .u64 (a % 18446744073709551616) i = (a % 18446744073709551616) / 2 ^ i.toNat := by unfold shr; simp only [IntKind.bits]; rw [hn]
  rw [e]
  have hp : (0 : Int) < 2 ^ i.toNat := Int.pow_pos (by decide)
  have hnn : 0 ≤ (a % 18446744073709551616) / 2 ^ i.toNat := Int.ediv_nonneg (by omega) (by omega)
  rw [Int.tmod_eq_emod_of_nonneg hnn]
  split <;> simp <;> omega
theorem mod_step (u : Int) (n : Nat) : u % 2 ^ (n + 1) = u / 2 ^ n % 2 * 2 ^ n + u % 2 ^ n := by
  have hp : (0 : Int) < 2 ^ n := Int.pow_pos (by decide)
  have h1 := Int.emod_add_mul_ediv u (2 ^ n)
  have h2 := Int.emod_add_mul_ediv (u / 2 ^ n) 2
  have h3 := Int.emod_add_mul_ediv u (2 ^ (n + 1))
  have e : u / 2 ^ (n + 1) = u / 2 ^ n / 2 := by
    rw [Int.pow_succ, Int.ediv_ediv_of_nonneg (by omega)]
  rw [e] at h3
  have : (2 : Int) ^ (n + 1) * (u / 2 ^ n / 2) = 2 ^ n * (2 * (u / 2 ^ n / 2)) := by rw [Int.pow_succ, Int.mul_assoc]
  have h4 : 2 ^ n * (u / 2 ^ n) = 2 ^ n * (u / 2 ^ n % 2) + 2 ^ n * (2 * (u / 2 ^ n / 2)) := by rw [← Int.mul_add, h2]
  have h5 : u / 2 ^ n % 2 * 2 ^ n = 2 ^ n * (u / 2 ^ n % 2) := Int.mul_comm _ _
  omega

theorem sign_low (a x1 : Int) (m : Nat) (hx : wrap64 (wrap64 (8 * x1) - 1) = (m : Int) - 1) (n : Nat) : ∀ acc : Int, 0 ≤ acc → n ≤ m → m ≤ 64 → acc * 2 ^ n + 2 ^ n ≤ 18446744073709551616 →
    spec_l01Sign.l0 (n + 1) a x1 acc ((n : Int) - 1) = some (wrap64 (acc * 2 ^ n + (a % 18446744073709551616) % 2 ^ n)) := by
  induction n with
  | zero =>
    intro acc h0 h1 h1' h2
    simp only [spec_l01Sign.l0]
    rw [if_neg (by omega)]
    simp only [Int.pow_zero, Int.mul_one, Int.emod_one, Int.add_zero]
  | succ n ih =>
    intro acc h0 h1 h1' h2
    have hp : (0 : Int) < 2 ^ n := Int.pow_pos (by decide)
    have hs : (2 : Int) ^ (n + 1) = 2 * 2 ^ n := by rw [Int.pow_succ, Int.mul_comm]
    rw [hs] at h2
    have hacc : acc * (2 * 2 ^ n) = (2 * acc) * 2 ^ n := by rw [Int.mul_comm 2, ← Int.mul_assoc, Int.mul_comm (acc * _), ← Int.mul_assoc]
    rw [show spec_l01Sign.l0 (n + 1 + 1) a x1 acc ((↑(n + 1) : Int) - 1) = (if ((↑(n + 1) : Int) - 1) ≥ 0 then ((spec_l01Bit.f a (mn ((↑(n + 1) : Int) - 1) (wrap64 ((wrap64 (8 * x1)) - 1)))).bind fun t103 => (spec_l01Sign.l0 (n + 1) a x1 (IntKind.u64.wrap ((IntKind.u64.wrap (2 * acc)) + (IntKind.u64.wrap (t103)))) (wrap64 (((↑(n + 1) : Int) - 1) - 1)))) else (some (wrap64 (acc)))) from rfl]
    have hmn : mn ((↑(n + 1) : Int) - 1) (wrap64 ((wrap64 (8 * x1)) - 1)) = (n : Int) := by rw [hx]; unfold mn; split <;> omega
    rw [if_pos (by omega), hmn, bit_val _ _ (by omega) (by omega)]
    have ht : ((n : Int)).toNat = n := by omega
    simp only [Option.bind_some, ht]
    generalize hb : (a % 18446744073709551616) / 2 ^ n % 2 = b
    have hb0 : 0 ≤ b ∧ b ≤ 1 := by omega
    have hlt : 2 * acc + 2 ≤ 18446744073709551616 := by
      have h6 : (2 * acc + 2) * 1 ≤ (2 * acc + 2) * 2 ^ n := Int.mul_le_mul_of_nonneg_left (by omega) (by omega)
      have h7 : (2 * acc + 2) * 2 ^ n = (2 * acc) * 2 ^ n + 2 * 2 ^ n := Int.add_mul _ _ _
      omega
    have e1 : IntKind.u64.wrap (IntKind.u64.wrap (2 * acc) + IntKind.u64.wrap b) = 2 * acc + b := by rw [u64, u64, u64]; omega
    have e2 : wrap64 ((↑(n + 1) : Int) - 1 - 1) = (n : Int) - 1 := by rw [w64 (by omega) (by omega)]; omega
    rw [e1, e2]
    have hbm : b * 2 ^ n ≤ 1 * 2 ^ n := Int.mul_le_mul_of_nonneg_right hb0.2 (by omega)
    have h8 : (2 * acc + b) * 2 ^ n = (2 * acc) * 2 ^ n + b * 2 ^ n := Int.add_mul _ _ _
    rw [ih (2 * acc + b) (by omega) (by omega) h1' (by omega), mod_step (a % 18446744073709551616) n, hb, hs, hacc, h8]
    congr 2
    omega
theorem sign_high (a x1 : Int) (m : Nat) (hm : 0 < m) (hx : wrap64 (wrap64 (8 * x1) - 1) = (m : Int) - 1) (b : Int) (hb : (a % 18446744073709551616) / 2 ^ (m - 1) % 2 = b) (d : Nat) : ∀ acc : Int, 0 ≤ acc → m + d ≤ 64 → acc * 2 ^ (m + d) + 2 ^ (m + d) ≤ 18446744073709551616 →
    spec_l01Sign.l0 (m + d + 1) a x1 acc (((m + d : Nat) : Int) - 1) = some (wrap64 (acc * 2 ^ (m + d) + (b * (2 ^ (m + d) - 2 ^ m) + (a % 18446744073709551616) % 2 ^ m))) := by
  induction d with
  | zero =>
    intro acc h0 h1 h2
    have := sign_low a x1 m hx m acc h0 (Nat.le_refl _) (by omega) h2
    simp only [Nat.add_zero, Int.sub_self, Int.mul_zero, Int.zero_add]
    exact this
  | succ d ih =>
    intro acc h0 h1 h2
    have hp : (0 : Int) < 2 ^ (m + d) := Int.pow_pos (by decide)
    have hs : (2 : Int) ^ (m + (d + 1)) = 2 * 2 ^ (m + d) := by rw [← Nat.add_assoc, Int.pow_succ, Int.mul_comm]
    rw [hs] at h2
    have hacc : acc * (2 * 2 ^ (m + d)) = (2 * acc) * 2 ^ (m + d) := by rw [Int.mul_comm 2, ← Int.mul_assoc, Int.mul_comm (acc * _), ← Int.mul_assoc]
    rw [show m + (d + 1) + 1 = (m + d + 1) + 1 by omega]
    rw [show spec_l01Sign.l0 (m + d + 1 + 1) a x1 acc ((↑(m + (d + 1)) : Int) - 1) = (if ((↑(m + (d + 1)) : Int) - 1) ≥ 0 then ((spec_l01Bit.f a (mn ((↑(m + (d + 1)) : Int) - 1) (wrap64 ((wrap64 (8 * x1)) - 1)))).bind fun t103 => (spec_l01Sign.l0 (m + d + 1) a x1 (IntKind.u64.wrap ((IntKind.u64.wrap (2 * acc)) + (IntKind.u64.wrap (t103)))) (wrap64 (((↑(m + (d + 1)) : Int) - 1) - 1)))) else (some (wrap64 (acc)))) from rfl]
    have hmn : mn ((↑(m + (d + 1)) : Int) - 1) (wrap64 ((wrap64 (8 * x1)) - 1)) = ((m - 1 : Nat) : Int) := by rw [hx]; unfold mn; split <;> omega
    rw [if_pos (by omega), hmn, bit_val _ _ (by omega) (by omega)]
    have ht : (((m - 1 : Nat) : Int)).toNat = m - 1 := by omega
    simp only [Option.bind_some, ht, hb]
    have hb0 : 0 ≤ b ∧ b ≤ 1 := by omega
    have hlt : 2 * acc + 2 ≤ 18446744073709551616 := by
      have h6 : (2 * acc + 2) * 1 ≤ (2 * acc + 2) * 2 ^ (m + d) := Int.mul_le_mul_of_nonneg_left (by omega) (by omega)
      have h7 : (2 * acc + 2) * 2 ^ (m + d) = (2 * acc) * 2 ^ (m + d) + 2 * 2 ^ (m + d) := Int.add_mul _ _ _
      omega
    have e1 : IntKind.u64.wrap (IntKind.u64.wrap (2 * acc) + IntKind.u64.wrap b) = 2 * acc + b := by rw [u64, u64, u64]; omega
    have e2 : wrap64 ((↑(m + (d + 1)) : Int) - 1 - 1) = ((m + d : Nat) : Int) - 1 := by rw [w64 (by omega) (by omega)]; omega
    rw [e1, e2]
    have hbm : b * 2 ^ (m + d) ≤ 1 * 2 ^ (m + d) := Int.mul_le_mul_of_nonneg_right hb0.2 (by omega)
    have h8 : (2 * acc + b) * 2 ^ (m + d) = (2 * acc) * 2 ^ (m + d) + b * 2 ^ (m + d) := Int.add_mul _ _ _
    rw [ih (2 * acc + b) (by omega) (by omega) (by omega), hs, hacc, h8, Int.mul_sub, Int.mul_sub, show b * (2 * 2 ^ (m + d)) = 2 * (b * 2 ^ (m + d)) by rw [← Int.mul_assoc, Int.mul_comm b 2, Int.mul_assoc]]
    congr 2
    omega
/-- The lowest n bytes as a number with a sign. -/
def sg (a n : Int) : Int := if n = 1 then (a + 128) % 256 - 128 else if n = 2 then (a + 32768) % 65536 - 32768 else if n = 4 then (a + 2147483648) % 4294967296 - 2147483648 else a
theorem sign_val (a n : Int) (hn : n = 1 ∨ n = 2 ∨ n = 4 ∨ n = 8) (h0 : -9223372036854775808 ≤ a) (h1 : a ≤ 9223372036854775807) : spec_l01Sign.f 65 a n = some (sg a n) := by
  have key : ∀ m d : Nat, 0 < m → m + d = 64 → wrap64 (wrap64 (8 * n) - 1) = (m : Int) - 1 → spec_l01Sign.f 65 a n = some (wrap64 ((a % 18446744073709551616) / 2 ^ (m - 1) % 2 * (18446744073709551616 - 2 ^ m) + (a % 18446744073709551616) % 2 ^ m)) := by
    intro m d hm hd hx
    have h3 : (2 : Int) ^ 64 = 18446744073709551616 := by decide
    have := sign_high a n m hm hx _ rfl d 0 (by omega) (by omega) (by rw [hd]; omega)
    rw [hd, Int.zero_mul, Int.zero_add, h3] at this
    exact this
  have hu : a % 18446744073709551616 = a ∨ a % 18446744073709551616 = a + 18446744073709551616 := by omega
  rcases hn with rfl | rfl | rfl | rfl
  · rw [key 8 56 (by omega) (by omega) (by unfold wrap64; omega)]
    simp only [sg, if_true]
    rw [show (2 : Int) ^ (8 - 1) = 128 by decide, show (2 : Int) ^ 8 = 256 by decide]
    have e1 : a % 18446744073709551616 % 256 = a % 256 := by omega
    have e2 : a % 18446744073709551616 / 128 % 2 = a % 256 / 128 := by omega
    rw [e1, e2]
    congr 1
    by_cases c : a % 256 < 128
    · rw [show a % 256 / 128 = 0 by omega]; unfold wrap64; omega
    · rw [show a % 256 / 128 = 1 by omega]; unfold wrap64; omega
  · rw [key 16 48 (by omega) (by omega) (by unfold wrap64; omega)]
    simp only [sg, if_true]
    rw [if_neg (by decide), show (2 : Int) ^ (16 - 1) = 32768 by decide, show (2 : Int) ^ 16 = 65536 by decide]
    have e1 : a % 18446744073709551616 % 65536 = a % 65536 := by omega
    have e2 : a % 18446744073709551616 / 32768 % 2 = a % 65536 / 32768 := by omega
    rw [e1, e2]
    congr 1
    by_cases c : a % 65536 < 32768
    · rw [show a % 65536 / 32768 = 0 by omega]; unfold wrap64; omega
    · rw [show a % 65536 / 32768 = 1 by omega]; unfold wrap64; omega
  · rw [key 32 32 (by omega) (by omega) (by unfold wrap64; omega)]
    simp only [sg, if_true]
    rw [if_neg (by decide), if_neg (by decide), show (2 : Int) ^ (32 - 1) = 2147483648 by decide, show (2 : Int) ^ 32 = 4294967296 by decide]
    have e1 : a % 18446744073709551616 % 4294967296 = a % 4294967296 := by omega
    have e2 : a % 18446744073709551616 / 2147483648 % 2 = a % 4294967296 / 2147483648 := by omega
    rw [e1, e2]
    congr 1
    by_cases c : a % 4294967296 < 2147483648
    · rw [show a % 4294967296 / 2147483648 = 0 by omega]; unfold wrap64; omega
    · rw [show a % 4294967296 / 2147483648 = 1 by omega]; unfold wrap64; omega
  · rw [key 64 0 (by omega) (by omega) (by unfold wrap64; omega)]
    simp only [sg]
    rw [if_neg (by decide), if_neg (by decide), if_neg (by decide), show (2 : Int) ^ 64 = 18446744073709551616 by decide]
    congr 1; unfold wrap64; omega

theorem isign_val (a n : Int) (hn : n = 1 ∨ n = 2 ∨ n = 4 ∨ n = 8) (h0 : -9223372036854775808 ≤ a) (h1 : a ≤ 9223372036854775807) : impl_sign.f a n = some (sg a n) := by
  unfold impl_sign.f
  rcases hn with rfl | rfl | rfl | rfl
  · rw [show wrap64 (64 - wrap64 (8 * 1)) = 56 by unfold wrap64; omega, if_pos (by decide)]
    simp only [shr, shl, sg, if_true, IntKind.bits, i64_wrap]
    rw [show (2 : Int) ^ min (56 : Int).toNat 64 = 72057594037927936 by decide]
    congr 1; unfold wrap64; omega
  · rw [show wrap64 (64 - wrap64 (8 * 2)) = 48 by unfold wrap64; omega, if_pos (by decide)]
    simp only [shr, shl, sg, if_true, IntKind.bits, i64_wrap]
    rw [show (2 : Int) ^ min (48 : Int).toNat 64 = 281474976710656 by decide, if_neg (by decide)]
    congr 1; unfold wrap64; omega
  · rw [show wrap64 (64 - wrap64 (8 * 4)) = 32 by unfold wrap64; omega, if_pos (by decide)]
    simp only [shr, shl, sg, if_true, IntKind.bits, i64_wrap]
    rw [show (2 : Int) ^ min (32 : Int).toNat 64 = 4294967296 by decide, if_neg (by decide), if_neg (by decide)]
    congr 1; unfold wrap64; omega
  · rw [show wrap64 (64 - wrap64 (8 * 8)) = 0 by unfold wrap64; omega, if_pos (by decide)]
    simp only [shr, shl, sg, IntKind.bits, i64_wrap]
    rw [show (2 : Int) ^ min (0 : Int).toNat 64 = 1 by decide, if_neg (by decide), if_neg (by decide), if_neg (by decide)]
    congr 1; unfold wrap64; omega

def IN (a b c : Int) : Bool := decide (b ≤ a) && decide (a ≤ c)
theorem sin (a b c : Int) : spec_l01In.f a b c = some (IN a b c) := by
  unfold spec_l01In.f IN
  by_cases h : a ≥ b
  · rw [if_pos h]; simp [show b ≤ a from h]
  · rw [if_neg h]; simp [show ¬ b ≤ a from h]
theorem iin (a b c : Int) : impl_within.f a b c = some (IN a b c) := sin a b c
def RG (a : Int) : Bool := IN a 0 14 && (!(a == 4) && (!(a == 5) && (a != 11)))
theorem sreg (a : Int) : spec_l14Reg.f a = some (RG a) := by
  unfold spec_l14Reg.f RG
  rw [sin]
  by_cases h4 : a = 4
  · subst h4; rfl
  · by_cases h5 : a = 5
    · subst h5; rfl
    · have e4 : (a == 4) = false := by simpa using h4
      have e5 : (a == 5) = false := by simpa using h5
      rw [e4, e5]
      cases IN a 0 14 <;> simp [h4, h5]
theorem ireg (a : Int) : impl_isOwnReg.f a = some (RG a) := by
  unfold impl_isOwnReg.f impl_isStackReg.f RG
  rw [iin]
  by_cases h4 : a = 4
  · subst h4; rfl
  · by_cases h5 : a = 5
    · subst h5; rfl
    · have e4 : (a == 4) = false := by simpa using h4
      have e5 : (a == 5) = false := by simpa using h5
      rw [e4, e5]
      cases IN a 0 14 <;> simp [h4, h5]
theorem slab (a : Int) : spec_l14Label.f a = some (IN a 0 31) := by unfold spec_l14Label.f; rw [sin]; rfl
theorem ilab (a : Int) : impl_isLabel.f a = some (IN a 0 31) := by unfold impl_isLabel.f; rw [iin]; rfl
theorem sdisp (a : Int) : spec_l14Disp.f a = some (IN a (-2048) 2047) := by unfold spec_l14Disp.f; rw [sin]; rfl
theorem sfit (b : Int) (h0 : -9223372036854775808 ≤ b) (h1 : b ≤ 9223372036854775807) (k : Nat) (hk : 65 ≤ k) : spec_l05Fits.f k b 4 = some (sg b 4 == b) := by
  refine at_rounds (fun k => spec_l05Fits.mono _ _ k) hk ?_
  unfold spec_l05Fits.f
  rw [show mn (4 : Int) 4 = 4 from rfl, sign_val b 4 (by omega) h0 h1]
  rfl
theorem ifit (b : Int) (h0 : -9223372036854775808 ≤ b) (h1 : b ≤ 9223372036854775807) : impl_fits.f b 4 = some (sg b 4 == b) := by
  unfold impl_fits.f
  rw [isign_val b 4 (by omega) h0 h1]
  rfl
theorem kinds (P : Int → Prop) (a : Int) (h1 : P 1) (h2 : P 2) (h3 : P 3) (h4 : P 4) (h5 : P 5) (h6 : P 6) (h7 : P 7) (h8 : P 8) (h9 : P 9) (h10 : P 10) (h11 : P 11) (h12 : P 12) (h13 : P 13) (h14 : P 14) (h15 : P 15) (h16 : P 16) (h17 : P 17) (ho : a ≠ 1 → a ≠ 2 → a ≠ 3 → a ≠ 4 → a ≠ 5 → a ≠ 6 → a ≠ 7 → a ≠ 8 → a ≠ 9 → a ≠ 10 → a ≠ 11 → a ≠ 12 → a ≠ 13 → a ≠ 14 → a ≠ 15 → a ≠ 16 → a ≠ 17 → P a) : P a := by
  by_cases c1 : a = 1
  · rw [c1]; exact h1
  by_cases c2 : a = 2
  · rw [c2]; exact h2
  by_cases c3 : a = 3
  · rw [c3]; exact h3
  by_cases c4 : a = 4
  · rw [c4]; exact h4
  by_cases c5 : a = 5
  · rw [c5]; exact h5
  by_cases c6 : a = 6
  · rw [c6]; exact h6
  by_cases c7 : a = 7
  · rw [c7]; exact h7
  by_cases c8 : a = 8
  · rw [c8]; exact h8
  by_cases c9 : a = 9
  · rw [c9]; exact h9
  by_cases c10 : a = 10
  · rw [c10]; exact h10
  by_cases c11 : a = 11
  · rw [c11]; exact h11
  by_cases c12 : a = 12
  · rw [c12]; exact h12
  by_cases c13 : a = 13
  · rw [c13]; exact h13
  by_cases c14 : a = 14
  · rw [c14]; exact h14
  by_cases c15 : a = 15
  · rw [c15]; exact h15
  by_cases c16 : a = 16
  · rw [c16]; exact h16
  by_cases c17 : a = 17
  · rw [c17]; exact h17
  exact ho c1 c2 c3 c4 c5 c6 c7 c8 c9 c10 c11 c12 c13 c14 c15 c16 c17
def Both (a b c d : Int) : Prop := ∃ r, spec_StmtOK.f 75 a b c d = some r ∧ impl_StmtOK.f 75 a b c d = some r
theorem of_eq {a b c d : Int} {r : Bool} (h1 : spec_StmtOK.f 75 a b c d = some r) (h2 : impl_StmtOK.f 75 a b c d = some r) : Both a b c d := ⟨r, h1, h2⟩
theorem both1 (b c d : Int) (ft : Bool) (f1 : impl_fits.f c 4 = some ft) (f2 : ∀ k, 65 ≤ k → spec_l05Fits.f k c 4 = some ft) : Both 1 b c d := by
  have f3 := f2 73 (by omega)
  refine of_eq (r := (d == 0) && ((c == 0) && IN b 0 31)) ?_ ?_
  · simp [spec_StmtOK.f, spec_StmtOK.j0, spec_StmtOK.j1, spec_StmtOK.j2, spec_StmtOK.j3, sin, sreg, slab, sdisp, f3]
    by_cases hc : c = 0 <;> by_cases hd : d = 0 <;> (try simp [hc, hd]) <;> (try (repeat' split)) <;> (try simp_all)
  · simp [impl_StmtOK.f, impl_StmtOK.j0, impl_StmtOK.j1, impl_StmtOK.j2, impl_StmtOK.j3, iin, ireg, ilab, f1]
    by_cases hc : c = 0 <;> by_cases hd : d = 0 <;> (try simp [hc, hd]) <;> (try (repeat' split)) <;> (try simp_all)
theorem both2 (b c d : Int) (ft : Bool) (f1 : impl_fits.f c 4 = some ft) (f2 : ∀ k, 65 ≤ k → spec_l05Fits.f k c 4 = some ft) : Both 2 b c d := by
  have f3 := f2 73 (by omega)
  refine of_eq (r := (d == 0) && (RG b && ft)) ?_ ?_
  · simp [spec_StmtOK.f, spec_StmtOK.j0, spec_StmtOK.j1, spec_StmtOK.j2, spec_StmtOK.j3, sin, sreg, slab, sdisp, f3]
    by_cases hc : c = 0 <;> by_cases hd : d = 0 <;> (try simp [hc, hd]) <;> (try (repeat' split)) <;> (try simp_all)
  · simp [impl_StmtOK.f, impl_StmtOK.j0, impl_StmtOK.j1, impl_StmtOK.j2, impl_StmtOK.j3, iin, ireg, ilab, f1]
    by_cases hc : c = 0 <;> by_cases hd : d = 0 <;> (try simp [hc, hd]) <;> (try (repeat' split)) <;> (try simp_all)
theorem both3 (b c d : Int) (ft : Bool) (f1 : impl_fits.f c 4 = some ft) (f2 : ∀ k, 65 ≤ k → spec_l05Fits.f k c 4 = some ft) : Both 3 b c d := by
  have f3 := f2 73 (by omega)
  refine of_eq (r := (d == 0) && (RG b && RG c)) ?_ ?_
  · simp [spec_StmtOK.f, spec_StmtOK.j0, spec_StmtOK.j1, spec_StmtOK.j2, spec_StmtOK.j3, sin, sreg, slab, sdisp, f3]
    by_cases hc : c = 0 <;> by_cases hd : d = 0 <;> (try simp [hc, hd]) <;> (try (repeat' split)) <;> (try simp_all)
  · simp [impl_StmtOK.f, impl_StmtOK.j0, impl_StmtOK.j1, impl_StmtOK.j2, impl_StmtOK.j3, iin, ireg, ilab, f1]
    by_cases hc : c = 0 <;> by_cases hd : d = 0 <;> (try simp [hc, hd]) <;> (try (repeat' split)) <;> (try simp_all)
theorem both4 (b c d : Int) (ft : Bool) (f1 : impl_fits.f c 4 = some ft) (f2 : ∀ k, 65 ≤ k → spec_l05Fits.f k c 4 = some ft) : Both 4 b c d := by
  have f3 := f2 73 (by omega)
  refine of_eq (r := IN b 1 8 && (RG c && RG d)) ?_ ?_
  · simp [spec_StmtOK.f, spec_StmtOK.j0, spec_StmtOK.j1, spec_StmtOK.j2, spec_StmtOK.j3, sin, sreg, slab, sdisp, f3]
    by_cases hc : c = 0 <;> by_cases hd : d = 0 <;> (try simp [hc, hd]) <;> (try (repeat' split)) <;> (try simp_all)
  · simp [impl_StmtOK.f, impl_StmtOK.j0, impl_StmtOK.j1, impl_StmtOK.j2, impl_StmtOK.j3, iin, ireg, ilab, f1]
    by_cases hc : c = 0 <;> by_cases hd : d = 0 <;> (try simp [hc, hd]) <;> (try (repeat' split)) <;> (try simp_all)
theorem both5 (b c d : Int) (ft : Bool) (f1 : impl_fits.f c 4 = some ft) (f2 : ∀ k, 65 ≤ k → spec_l05Fits.f k c 4 = some ft) : Both 5 b c d := by
  have f3 := f2 73 (by omega)
  refine of_eq (r := RG b && (RG c && IN d (-2048) 2047)) ?_ ?_
  · simp [spec_StmtOK.f, spec_StmtOK.j0, spec_StmtOK.j1, spec_StmtOK.j2, spec_StmtOK.j3, sin, sreg, slab, sdisp, f3]
    by_cases hc : c = 0 <;> by_cases hd : d = 0 <;> (try simp [hc, hd]) <;> (try (repeat' split)) <;> (try simp_all)
  · simp [impl_StmtOK.f, impl_StmtOK.j0, impl_StmtOK.j1, impl_StmtOK.j2, impl_StmtOK.j3, iin, ireg, ilab, f1]
    by_cases hc : c = 0 <;> by_cases hd : d = 0 <;> (try simp [hc, hd]) <;> (try (repeat' split)) <;> (try simp_all)
theorem both6 (b c d : Int) (ft : Bool) (f1 : impl_fits.f c 4 = some ft) (f2 : ∀ k, 65 ≤ k → spec_l05Fits.f k c 4 = some ft) : Both 6 b c d := by
  have f3 := f2 73 (by omega)
  refine of_eq (r := RG b && (RG c && IN d (-2048) 2047)) ?_ ?_
  · simp [spec_StmtOK.f, spec_StmtOK.j0, spec_StmtOK.j1, spec_StmtOK.j2, spec_StmtOK.j3, sin, sreg, slab, sdisp, f3]
    by_cases hc : c = 0 <;> by_cases hd : d = 0 <;> (try simp [hc, hd]) <;> (try (repeat' split)) <;> (try simp_all)
  · simp [impl_StmtOK.f, impl_StmtOK.j0, impl_StmtOK.j1, impl_StmtOK.j2, impl_StmtOK.j3, iin, ireg, ilab, f1]
    by_cases hc : c = 0 <;> by_cases hd : d = 0 <;> (try simp [hc, hd]) <;> (try (repeat' split)) <;> (try simp_all)
theorem both7 (b c d : Int) (ft : Bool) (f1 : impl_fits.f c 4 = some ft) (f2 : ∀ k, 65 ≤ k → spec_l05Fits.f k c 4 = some ft) : Both 7 b c d := by
  have f3 := f2 73 (by omega)
  refine of_eq (r := (d == 0) && ((c == 0) && RG b)) ?_ ?_
  · simp [spec_StmtOK.f, spec_StmtOK.j0, spec_StmtOK.j1, spec_StmtOK.j2, spec_StmtOK.j3, sin, sreg, slab, sdisp, f3]
    by_cases hc : c = 0 <;> by_cases hd : d = 0 <;> (try simp [hc, hd]) <;> (try (repeat' split)) <;> (try simp_all)
  · simp [impl_StmtOK.f, impl_StmtOK.j0, impl_StmtOK.j1, impl_StmtOK.j2, impl_StmtOK.j3, iin, ireg, ilab, f1]
    by_cases hc : c = 0 <;> by_cases hd : d = 0 <;> (try simp [hc, hd]) <;> (try (repeat' split)) <;> (try simp_all)
theorem both8 (b c d : Int) (ft : Bool) (f1 : impl_fits.f c 4 = some ft) (f2 : ∀ k, 65 ≤ k → spec_l05Fits.f k c 4 = some ft) : Both 8 b c d := by
  have f3 := f2 73 (by omega)
  refine of_eq (r := (d == 0) && ((c == 0) && RG b)) ?_ ?_
  · simp [spec_StmtOK.f, spec_StmtOK.j0, spec_StmtOK.j1, spec_StmtOK.j2, spec_StmtOK.j3, sin, sreg, slab, sdisp, f3]
    by_cases hc : c = 0 <;> by_cases hd : d = 0 <;> (try simp [hc, hd]) <;> (try (repeat' split)) <;> (try simp_all)
  · simp [impl_StmtOK.f, impl_StmtOK.j0, impl_StmtOK.j1, impl_StmtOK.j2, impl_StmtOK.j3, iin, ireg, ilab, f1]
    by_cases hc : c = 0 <;> by_cases hd : d = 0 <;> (try simp [hc, hd]) <;> (try (repeat' split)) <;> (try simp_all)
theorem both9 (b c d : Int) (ft : Bool) (f1 : impl_fits.f c 4 = some ft) (f2 : ∀ k, 65 ≤ k → spec_l05Fits.f k c 4 = some ft) : Both 9 b c d := by
  have f3 := f2 73 (by omega)
  refine of_eq (r := (d == 0) && ((c == 0) && (IN b (-256) 256 && (Int.tmod b 8 == 0)))) ?_ ?_
  · simp [spec_StmtOK.f, spec_StmtOK.j0, spec_StmtOK.j1, spec_StmtOK.j2, spec_StmtOK.j3, sin, sreg, slab, sdisp, f3]
    by_cases hc : c = 0 <;> by_cases hd : d = 0 <;> (try simp [hc, hd]) <;> (try (repeat' split)) <;> (try simp_all)
  · simp [impl_StmtOK.f, impl_StmtOK.j0, impl_StmtOK.j1, impl_StmtOK.j2, impl_StmtOK.j3, iin, ireg, ilab, f1]
    by_cases hc : c = 0 <;> by_cases hd : d = 0 <;> (try simp [hc, hd]) <;> (try (repeat' split)) <;> (try simp_all)
theorem both10 (b c d : Int) (ft : Bool) (f1 : impl_fits.f c 4 = some ft) (f2 : ∀ k, 65 ≤ k → spec_l05Fits.f k c 4 = some ft) : Both 10 b c d := by
  have f3 := f2 73 (by omega)
  refine of_eq (r := (d == 0) && ((c == 0) && IN b 0 31)) ?_ ?_
  · simp [spec_StmtOK.f, spec_StmtOK.j0, spec_StmtOK.j1, spec_StmtOK.j2, spec_StmtOK.j3, sin, sreg, slab, sdisp, f3]
    by_cases hc : c = 0 <;> by_cases hd : d = 0 <;> (try simp [hc, hd]) <;> (try (repeat' split)) <;> (try simp_all)
  · simp [impl_StmtOK.f, impl_StmtOK.j0, impl_StmtOK.j1, impl_StmtOK.j2, impl_StmtOK.j3, iin, ireg, ilab, f1]
    by_cases hc : c = 0 <;> by_cases hd : d = 0 <;> (try simp [hc, hd]) <;> (try (repeat' split)) <;> (try simp_all)
theorem both11 (b c d : Int) (ft : Bool) (f1 : impl_fits.f c 4 = some ft) (f2 : ∀ k, 65 ≤ k → spec_l05Fits.f k c 4 = some ft) : Both 11 b c d := by
  have f3 := f2 73 (by omega)
  refine of_eq (r := (d == 0) && (IN b 0 15 && IN c 0 31)) ?_ ?_
  · simp [spec_StmtOK.f, spec_StmtOK.j0, spec_StmtOK.j1, spec_StmtOK.j2, spec_StmtOK.j3, sin, sreg, slab, sdisp, f3]
    by_cases hc : c = 0 <;> by_cases hd : d = 0 <;> (try simp [hc, hd]) <;> (try (repeat' split)) <;> (try simp_all)
  · simp [impl_StmtOK.f, impl_StmtOK.j0, impl_StmtOK.j1, impl_StmtOK.j2, impl_StmtOK.j3, iin, ireg, ilab, f1]
    by_cases hc : c = 0 <;> by_cases hd : d = 0 <;> (try simp [hc, hd]) <;> (try (repeat' split)) <;> (try simp_all)
theorem both12 (b c d : Int) (ft : Bool) (f1 : impl_fits.f c 4 = some ft) (f2 : ∀ k, 65 ≤ k → spec_l05Fits.f k c 4 = some ft) : Both 12 b c d := by
  have f3 := f2 73 (by omega)
  refine of_eq (r := (d == 0) && ((c == 0) && IN b 0 31)) ?_ ?_
  · simp [spec_StmtOK.f, spec_StmtOK.j0, spec_StmtOK.j1, spec_StmtOK.j2, spec_StmtOK.j3, sin, sreg, slab, sdisp, f3]
    by_cases hc : c = 0 <;> by_cases hd : d = 0 <;> (try simp [hc, hd]) <;> (try (repeat' split)) <;> (try simp_all)
  · simp [impl_StmtOK.f, impl_StmtOK.j0, impl_StmtOK.j1, impl_StmtOK.j2, impl_StmtOK.j3, iin, ireg, ilab, f1]
    by_cases hc : c = 0 <;> by_cases hd : d = 0 <;> (try simp [hc, hd]) <;> (try (repeat' split)) <;> (try simp_all)
theorem both13 (b c d : Int) (ft : Bool) (f1 : impl_fits.f c 4 = some ft) (f2 : ∀ k, 65 ≤ k → spec_l05Fits.f k c 4 = some ft) : Both 13 b c d := by
  have f3 := f2 73 (by omega)
  refine of_eq (r := (d == 0) && ((c == 0) && (b == 0))) ?_ ?_
  · simp [spec_StmtOK.f, spec_StmtOK.j0, spec_StmtOK.j1, spec_StmtOK.j2, spec_StmtOK.j3, sin, sreg, slab, sdisp, f3]
    by_cases hc : c = 0 <;> by_cases hd : d = 0 <;> (try simp [hc, hd]) <;> (try (repeat' split)) <;> (try simp_all)
  · simp [impl_StmtOK.f, impl_StmtOK.j0, impl_StmtOK.j1, impl_StmtOK.j2, impl_StmtOK.j3, iin, ireg, ilab, f1]
    by_cases hc : c = 0 <;> by_cases hd : d = 0 <;> (try simp [hc, hd]) <;> (try (repeat' split)) <;> (try simp_all)
theorem both14 (b c d : Int) (ft : Bool) (f1 : impl_fits.f c 4 = some ft) (f2 : ∀ k, 65 ≤ k → spec_l05Fits.f k c 4 = some ft) : Both 14 b c d := by
  have f3 := f2 73 (by omega)
  refine of_eq (r := (d == 0) && ((c == 0) && IN b 0 7)) ?_ ?_
  · simp [spec_StmtOK.f, spec_StmtOK.j0, spec_StmtOK.j1, spec_StmtOK.j2, spec_StmtOK.j3, sin, sreg, slab, sdisp, f3]
    by_cases hc : c = 0 <;> by_cases hd : d = 0 <;> (try simp [hc, hd]) <;> (try (repeat' split)) <;> (try simp_all)
  · simp [impl_StmtOK.f, impl_StmtOK.j0, impl_StmtOK.j1, impl_StmtOK.j2, impl_StmtOK.j3, iin, ireg, ilab, f1]
    by_cases hc : c = 0 <;> by_cases hd : d = 0 <;> (try simp [hc, hd]) <;> (try (repeat' split)) <;> (try simp_all)
theorem both15 (b c d : Int) (ft : Bool) (f1 : impl_fits.f c 4 = some ft) (f2 : ∀ k, 65 ≤ k → spec_l05Fits.f k c 4 = some ft) : Both 15 b c d := by
  have f3 := f2 73 (by omega)
  refine of_eq (r := (d == 0) && ((c == 0) && (b == 0))) ?_ ?_
  · simp [spec_StmtOK.f, spec_StmtOK.j0, spec_StmtOK.j1, spec_StmtOK.j2, spec_StmtOK.j3, sin, sreg, slab, sdisp, f3]
    by_cases hc : c = 0 <;> by_cases hd : d = 0 <;> (try simp [hc, hd]) <;> (try (repeat' split)) <;> (try simp_all)
  · simp [impl_StmtOK.f, impl_StmtOK.j0, impl_StmtOK.j1, impl_StmtOK.j2, impl_StmtOK.j3, iin, ireg, ilab, f1]
    by_cases hc : c = 0 <;> by_cases hd : d = 0 <;> (try simp [hc, hd]) <;> (try (repeat' split)) <;> (try simp_all)
theorem both16 (b c d : Int) (ft : Bool) (f1 : impl_fits.f c 4 = some ft) (f2 : ∀ k, 65 ≤ k → spec_l05Fits.f k c 4 = some ft) : Both 16 b c d := by
  have f3 := f2 73 (by omega)
  refine of_eq (r := (d == 0) && ((c == 0) && RG b)) ?_ ?_
  · simp [spec_StmtOK.f, spec_StmtOK.j0, spec_StmtOK.j1, spec_StmtOK.j2, spec_StmtOK.j3, sin, sreg, slab, sdisp, f3]
    by_cases hc : c = 0 <;> by_cases hd : d = 0 <;> (try simp [hc, hd]) <;> (try (repeat' split)) <;> (try simp_all)
  · simp [impl_StmtOK.f, impl_StmtOK.j0, impl_StmtOK.j1, impl_StmtOK.j2, impl_StmtOK.j3, iin, ireg, ilab, f1]
    by_cases hc : c = 0 <;> by_cases hd : d = 0 <;> (try simp [hc, hd]) <;> (try (repeat' split)) <;> (try simp_all)
theorem both17 (b c d : Int) (ft : Bool) (f1 : impl_fits.f c 4 = some ft) (f2 : ∀ k, 65 ≤ k → spec_l05Fits.f k c 4 = some ft) : Both 17 b c d := by
  have f3 := f2 73 (by omega)
  refine of_eq (r := (d == 0) && (RG b && IN c 0 31)) ?_ ?_
  · simp [spec_StmtOK.f, spec_StmtOK.j0, spec_StmtOK.j1, spec_StmtOK.j2, spec_StmtOK.j3, sin, sreg, slab, sdisp, f3]
    by_cases hc : c = 0 <;> by_cases hd : d = 0 <;> (try simp [hc, hd]) <;> (try (repeat' split)) <;> (try simp_all)
  · simp [impl_StmtOK.f, impl_StmtOK.j0, impl_StmtOK.j1, impl_StmtOK.j2, impl_StmtOK.j3, iin, ireg, ilab, f1]
    by_cases hc : c = 0 <;> by_cases hd : d = 0 <;> (try simp [hc, hd]) <;> (try (repeat' split)) <;> (try simp_all)
theorem both_no (a b c d : Int) (g1 : a ≠ 1) (g2 : a ≠ 2) (g3 : a ≠ 3) (g4 : a ≠ 4) (g5 : a ≠ 5) (g6 : a ≠ 6) (g7 : a ≠ 7) (g8 : a ≠ 8) (g9 : a ≠ 9) (g10 : a ≠ 10) (g11 : a ≠ 11) (g12 : a ≠ 12) (g13 : a ≠ 13) (g14 : a ≠ 14) (g15 : a ≠ 15) (g16 : a ≠ 16) (g17 : a ≠ 17) : Both a b c d := by
  refine of_eq (r := false) ?_ ?_
  · by_cases hc : c = 0 <;> by_cases hd : d = 0 <;> simp [spec_StmtOK.f, spec_StmtOK.j0, spec_StmtOK.j1, spec_StmtOK.j2, spec_StmtOK.j3, *]
  · simp [impl_StmtOK.f, impl_StmtOK.j0, impl_StmtOK.j1, impl_StmtOK.j2, impl_StmtOK.j3, *]
theorem pair (a b c d : Int) (h0 : -9223372036854775808 ≤ c) (h1 : c ≤ 9223372036854775807) : Both a b c d := by
  have f1 := ifit c h0 h1
  have f2 := sfit c h0 h1
  generalize (sg c 4 == c) = ft at f1 f2
  exact kinds (fun a => Both a b c d) a (both1 b c d ft f1 f2) (both2 b c d ft f1 f2) (both3 b c d ft f1 f2) (both4 b c d ft f1 f2) (both5 b c d ft f1 f2) (both6 b c d ft f1 f2) (both7 b c d ft f1 f2) (both8 b c d ft f1 f2) (both9 b c d ft f1 f2) (both10 b c d ft f1 f2) (both11 b c d ft f1 f2) (both12 b c d ft f1 f2) (both13 b c d ft f1 f2) (both14 b c d ft f1 f2) (both15 b c d ft f1 f2) (both16 b c d ft f1 f2) (both17 b c d ft f1 f2) (both_no a b c d)
theorem FnExactStmtOK : laws_FnExactStmtOK.Pure := by
  intro x ok
  obtain ⟨r, hs, hi⟩ := pair x.f0 x.f1 x.f2 x.f3 (wf64 ok.2.2.1).1 (wf64 ok.2.2.1).2
  refine ⟨75, ?_⟩
  unfold laws_FnExactStmtOK.f laws_toStmt.f
  simp only [Option.bind_some, hs, hi]
  simp

end Go.Proofs.Ytoohimpbckpiaaa.Pure

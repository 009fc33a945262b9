/- The program's MemoryOf tells what the reference's tells, for all arguments. No condition. -/
import Derived.Test.YtonogadabgilfaaPFnExactMemoryOfx0
import Derived.Test.YtonogadabgilfaaNNum
namespace Go.Proofs.Ytonogadabgilfaa.Pure
open Go.RowKit Go.Proofs.Ytonogadabgilfaa.PFnExactBaseAddOf Go.Proofs.Ytonogadabgilfaa.PFnExactMemoryOf Go.Proofs.YtonogadabgilfaaW.PrintWords Go.Proofs.YtonogadabgilfaaW.PrintLast Go.Proofs.YtonogadabgilfaaW.PrintMore Go.Proofs.Ytonogadabgilfaa.Num
set_option linter.unusedSimpArgs false
set_option linter.unusedVariables false

theorem bit_val (a i : Int) (h0 : 0 ≤ i) (h1 : i ≤ 63) : spec_l01Bit.f a i = some ((a % 18446744073709551616) / 2 ^ i.toNat % 2) := by
  have hi : IntKind.u64.wrap i = i := by rw [u64]; omega
  unfold spec_l01Bit.f
  rw [hi, if_pos h0, u64]
  have hn : min i.toNat 64 = i.toNat := by omega
  have e : shr .u64 (a % 18446744073709551616) i = (a % 18446744073709551616) / 2 ^ i.toNat := by unfold shr; simp only [IntKind.bits]; rw [hn]
  rw [e]
  have hp : (0 : Int) < 2 ^ i.toNat := Int.pow_pos (by decide)
  have hnn : 0 ≤ (a % 18446744073709551616) / 2 ^ i.toNat := Int.ediv_nonneg (by omega) (by omega)
  rw [Int.tmod_eq_emod_of_nonneg hnn]
  split <;> simp <;> omega
theorem mod_step (u : Int) (n : Nat) : u % 2 ^ (n + 1) = u / 2 ^ n % 2 * 2 ^ n + u % 2 ^ n := by
  have hp : (0 : Int) < 2 ^ n := Int.pow_pos (by decide)
  have h1 := Int.emod_add_mul_ediv u (2 ^ n)
  have h2 := Int.emod_add_mul_ediv (u / 2 ^ n) 2
  have h3 := Int.emod_add_mul_ediv u (2 ^ (n + 1))
  have e : u / 2 ^ (n + 1) = u / 2 ^ n / 2 := by
    rw [Int.pow_succ, Int.ediv_ediv_of_nonneg (by omega)]
  rw [e] at h3
  have : (2 : Int) ^ (n + 1) * (u / 2 ^ n / 2) = 2 ^ n * (2 * (u / 2 ^ n / 2)) := by rw [Int.pow_succ, Int.mul_assoc]
  have h4 : 2 ^ n * (u / 2 ^ n) = 2 ^ n * (u / 2 ^ n % 2) + 2 ^ n * (2 * (u / 2 ^ n / 2)) := by rw [← Int.mul_add, h2]
  have h5 : u / 2 ^ n % 2 * 2 ^ n = 2 ^ n * (u / 2 ^ n % 2) := Int.mul_comm _ _
  omega

theorem sign_low (a x1 : Int) (m : Nat) (hx : wrap64 (wrap64 (8 * x1) - 1) = (m : Int) - 1) (n : Nat) : ∀ acc : Int, 0 ≤ acc → n ≤ m → m ≤ 64 → acc * 2 ^ n + 2 ^ n ≤ 18446744073709551616 →
    spec_l01Sign.l0 (n + 1) a x1 acc ((n : Int) - 1) = some (wrap64 (acc * 2 ^ n + (a % 18446744073709551616) % 2 ^ n)) := by
  induction n with
  | zero =>
    intro acc h0 h1 h1' h2
    simp only [spec_l01Sign.l0]
    rw [if_neg (by omega)]
    simp only [Int.pow_zero, Int.mul_one, Int.emod_one, Int.add_zero]
  | succ n ih =>
    intro acc h0 h1 h1' h2
    have hp : (0 : Int) < 2 ^ n := Int.pow_pos (by decide)
    have hs : (2 : Int) ^ (n + 1) = 2 * 2 ^ n := by rw [Int.pow_succ, Int.mul_comm]
    rw [hs] at h2
    have hacc : acc * (2 * 2 ^ n) = (2 * acc) * 2 ^ n := by rw [Int.mul_comm 2, ← Int.mul_assoc, Int.mul_comm (acc * _), ← Int.mul_assoc]
    rw [show spec_l01Sign.l0 (n + 1 + 1) a x1 acc ((↑(n + 1) : Int) - 1) = (if ((↑(n + 1) : Int) - 1) ≥ 0 then ((spec_l01Bit.f a (mn ((↑(n + 1) : Int) - 1) (wrap64 ((wrap64 (8 * x1)) - 1)))).bind fun t103 => (spec_l01Sign.l0 (n + 1) a x1 (IntKind.u64.wrap ((IntKind.u64.wrap (2 * acc)) + (IntKind.u64.wrap (t103)))) (wrap64 (((↑(n + 1) : Int) - 1) - 1)))) else (some (wrap64 (acc)))) from rfl]
    have hmn : mn ((↑(n + 1) : Int) - 1) (wrap64 ((wrap64 (8 * x1)) - 1)) = (n : Int) := by rw [hx]; unfold mn; split <;> omega
    rw [if_pos (by omega), hmn, bit_val _ _ (by omega) (by omega)]
    have ht : ((n : Int)).toNat = n := by omega
    simp only [Option.bind_some, ht]
    generalize hb : (a % 18446744073709551616) / 2 ^ n % 2 = b
    have hb0 : 0 ≤ b ∧ b ≤ 1 := by omega
    have hlt : 2 * acc + 2 ≤ 18446744073709551616 := by
      have h6 : (2 * acc + 2) * 1 ≤ (2 * acc + 2) * 2 ^ n := Int.mul_le_mul_of_nonneg_left (by omega) (by omega)
      have h7 : (2 * acc + 2) * 2 ^ n = (2 * acc) * 2 ^ n + 2 * 2 ^ n := Int.add_mul _ _ _
      omega
    have e1 : IntKind.u64.wrap (IntKind.u64.wrap (2 * acc) + IntKind.u64.wrap b) = 2 * acc + b := by rw [u64, u64, u64]; omega
    have e2 : wrap64 ((↑(n + 1) : Int) - 1 - 1) = (n : Int) - 1 := by rw [w64 (by omega) (by omega)]; omega
    rw [e1, e2]
    have hbm : b * 2 ^ n ≤ 1 * 2 ^ n := Int.mul_le_mul_of_nonneg_right hb0.2 (by omega)
    have h8 : (2 * acc + b) * 2 ^ n = (2 * acc) * 2 ^ n + b * 2 ^ n := Int.add_mul _ _ _
    rw [ih (2 * acc + b) (by omega) (by omega) h1' (by omega), mod_step (a % 18446744073709551616) n, hb, hs, hacc, h8]
    congr 2
    omega
theorem sign_high (a x1 : Int) (m : Nat) (hm : 0 < m) (hx : wrap64 (wrap64 (8 * x1) - 1) = (m : Int) - 1) (b : Int) (hb : (a % 18446744073709551616) / 2 ^ (m - 1) % 2 = b) (d : Nat) : ∀ acc : Int, 0 ≤ acc → m + d ≤ 64 → acc * 2 ^ (m + d) + 2 ^ (m + d) ≤ 18446744073709551616 →
    spec_l01Sign.l0 (m + d + 1) a x1 acc (((m + d : Nat) : Int) - 1) = some (wrap64 (acc * 2 ^ (m + d) + (b * (2 ^ (m + d) - 2 ^ m) + (a % 18446744073709551616) % 2 ^ m))) := by
  induction d with
  | zero =>
    intro acc h0 h1 h2
    have := sign_low a x1 m hx m acc h0 (Nat.le_refl _) (by omega) h2
    simp only [Nat.add_zero, Int.sub_self, Int.mul_zero, Int.zero_add]
    exact this
  | succ d ih =>
    intro acc h0 h1 h2
    have hp : (0 : Int) < 2 ^ (m + d) := Int.pow_pos (by decide)
    have hs : (2 : Int) ^ (m + (d + 1)) = 2 * 2 ^ (m + d) := by rw [← Nat.add_assoc, Int.pow_succ, Int.mul_comm]
    rw [hs] at h2
    have hacc : acc * (2 * 2 ^ (m + d)) = (2 * acc) * 2 ^ (m + d) := by rw [Int.mul_comm 2, ← Int.mul_assoc, Int.mul_comm (acc * _), ← Int.mul_assoc]
    rw [show m + (d + 1) + 1 = (m + d + 1) + 1 by omega]
    rw [show spec_l01Sign.l0 (m + d + 1 + 1) a x1 acc ((↑(m + (d + 1)) : Int) - 1) = (if ((↑(m + (d + 1)) : Int) - 1) ≥ 0 then ((spec_l01Bit.f a (mn ((↑(m + (d + 1)) : Int) - 1) (wrap64 ((wrap64 (8 * x1)) - 1)))).bind fun t103 => (spec_l01Sign.l0 (m + d + 1) a x1 (IntKind.u64.wrap ((IntKind.u64.wrap (2 * acc)) + (IntKind.u64.wrap (t103)))) (wrap64 (((↑(m + (d + 1)) : Int) - 1) - 1)))) else (some (wrap64 (acc)))) from rfl]
    have hmn : mn ((↑(m + (d + 1)) : Int) - 1) (wrap64 ((wrap64 (8 * x1)) - 1)) = ((m - 1 : Nat) : Int) := by rw [hx]; unfold mn; split <;> omega
    rw [if_pos (by omega), hmn, bit_val _ _ (by omega) (by omega)]
    have ht : (((m - 1 : Nat) : Int)).toNat = m - 1 := by omega
    simp only [Option.bind_some, ht, hb]
    have hb0 : 0 ≤ b ∧ b ≤ 1 := by omega
    have hlt : 2 * acc + 2 ≤ 18446744073709551616 := by
      have h6 : (2 * acc + 2) * 1 ≤ (2 * acc + 2) * 2 ^ (m + d) := Int.mul_le_mul_of_nonneg_left (by omega) (by omega)
      have h7 : (2 * acc + 2) * 2 ^ (m + d) = (2 * acc) * 2 ^ (m + d) + 2 * 2 ^ (m + d) := Int.add_mul _ _ _
      omega
    have e1 : IntKind.u64.wrap (IntKind.u64.wrap (2 * acc) + IntKind.u64.wrap b) = 2 * acc + b := by rw [u64, u64, u64]; omega
    have e2 : wrap64 ((↑(m + (d + 1)) : Int) - 1 - 1) = ((m + d : Nat) : Int) - 1 := by rw [w64 (by omega) (by omega)]; omega
    rw [e1, e2]
    have hbm : b * 2 ^ (m + d) ≤ 1 * 2 ^ (m + d) := Int.mul_le_mul_of_nonneg_right hb0.2 (by omega)
    have h8 : (2 * acc + b) * 2 ^ (m + d) = (2 * acc) * 2 ^ (m + d) + b * 2 ^ (m + d) := Int.add_mul _ _ _
    rw [ih (2 * acc + b) (by omega) (by omega) (by omega), hs, hacc, h8, Int.mul_sub, Int.mul_sub, show b * (2 * 2 ^ (m + d)) = 2 * (b * 2 ^ (m + d)) by rw [← Int.mul_assoc, Int.mul_comm b 2, Int.mul_assoc]]
    congr 2
    omega
/-- The lowest n bytes as a number with a sign. -/
def sg (a n : Int) : Int := if n = 1 then (a + 128) % 256 - 128 else if n = 2 then (a + 32768) % 65536 - 32768 else if n = 4 then (a + 2147483648) % 4294967296 - 2147483648 else a
theorem sign_val (a n : Int) (hn : n = 1 ∨ n = 2 ∨ n = 4 ∨ n = 8) (h0 : -9223372036854775808 ≤ a) (h1 : a ≤ 9223372036854775807) : spec_l01Sign.f 65 a n = some (sg a n) := by
  have key : ∀ m d : Nat, 0 < m → m + d = 64 → wrap64 (wrap64 (8 * n) - 1) = (m : Int) - 1 → spec_l01Sign.f 65 a n = some (wrap64 ((a % 18446744073709551616) / 2 ^ (m - 1) % 2 * (18446744073709551616 - 2 ^ m) + (a % 18446744073709551616) % 2 ^ m)) := by
    intro m d hm hd hx
    have h3 : (2 : Int) ^ 64 = 18446744073709551616 := by decide
    have := sign_high a n m hm hx _ rfl d 0 (by omega) (by omega) (by rw [hd]; omega)
    rw [hd, Int.zero_mul, Int.zero_add, h3] at this
    exact this
  have hu : a % 18446744073709551616 = a ∨ a % 18446744073709551616 = a + 18446744073709551616 := by omega
  rcases hn with rfl | rfl | rfl | rfl
  · rw [key 8 56 (by omega) (by omega) (by unfold wrap64; omega)]
    simp only [sg, if_true]
    rw [show (2 : Int) ^ (8 - 1) = 128 by decide, show (2 : Int) ^ 8 = 256 by decide]
    have e1 : a % 18446744073709551616 % 256 = a % 256 := by omega
    have e2 : a % 18446744073709551616 / 128 % 2 = a % 256 / 128 := by omega
    rw [e1, e2]
    congr 1
    by_cases c : a % 256 < 128
    · rw [show a % 256 / 128 = 0 by omega]; unfold wrap64; omega
    · rw [show a % 256 / 128 = 1 by omega]; unfold wrap64; omega
  · rw [key 16 48 (by omega) (by omega) (by unfold wrap64; omega)]
    simp only [sg, if_true]
    rw [if_neg (by decide), show (2 : Int) ^ (16 - 1) = 32768 by decide, show (2 : Int) ^ 16 = 65536 by decide]
    have e1 : a % 18446744073709551616 % 65536 = a % 65536 := by omega
    have e2 : a % 18446744073709551616 / 32768 % 2 = a % 65536 / 32768 := by omega
    rw [e1, e2]
    congr 1
    by_cases c : a % 65536 < 32768
    · rw [show a % 65536 / 32768 = 0 by omega]; unfold wrap64; omega
    · rw [show a % 65536 / 32768 = 1 by omega]; unfold wrap64; omega
  · rw [key 32 32 (by omega) (by omega) (by unfold wrap64; omega)]
    simp only [sg, if_true]
    rw [if_neg (by decide), if_neg (by decide), show (2 : Int) ^ (32 - 1) = 2147483648 by decide, show (2 : Int) ^ 32 = 4294967296 by decide]
    have e1 : a % 18446744073709551616 % 4294967296 = a % 4294967296 := by omega
    have e2 : a % 18446744073709551616 / 2147483648 % 2 = a % 4294967296 / 2147483648 := by omega
    rw [e1, e2]
    congr 1
    by_cases c : a % 4294967296 < 2147483648
    · rw [show a % 4294967296 / 2147483648 = 0 by omega]; unfold wrap64; omega
    · rw [show a % 4294967296 / 2147483648 = 1 by omega]; unfold wrap64; omega
  · rw [key 64 0 (by omega) (by omega) (by unfold wrap64; omega)]
    simp only [sg]
    rw [if_neg (by decide), if_neg (by decide), if_neg (by decide), show (2 : Int) ^ 64 = 18446744073709551616 by decide]
    congr 1; unfold wrap64; omega

theorem isign_val (a n : Int) (hn : n = 1 ∨ n = 2 ∨ n = 4 ∨ n = 8) (h0 : -9223372036854775808 ≤ a) (h1 : a ≤ 9223372036854775807) : impl_sign.f a n = some (sg a n) := by
  unfold impl_sign.f
  rcases hn with rfl | rfl | rfl | rfl
  · rw [show wrap64 (64 - wrap64 (8 * 1)) = 56 by unfold wrap64; omega, if_pos (by decide)]
    simp only [shr, shl, sg, if_true, IntKind.bits, i64_wrap]
    rw [show (2 : Int) ^ min (56 : Int).toNat 64 = 72057594037927936 by decide]
    congr 1; unfold wrap64; omega
  · rw [show wrap64 (64 - wrap64 (8 * 2)) = 48 by unfold wrap64; omega, if_pos (by decide)]
    simp only [shr, shl, sg, if_true, IntKind.bits, i64_wrap]
    rw [show (2 : Int) ^ min (48 : Int).toNat 64 = 281474976710656 by decide, if_neg (by decide)]
    congr 1; unfold wrap64; omega
  · rw [show wrap64 (64 - wrap64 (8 * 4)) = 32 by unfold wrap64; omega, if_pos (by decide)]
    simp only [shr, shl, sg, if_true, IntKind.bits, i64_wrap]
    rw [show (2 : Int) ^ min (32 : Int).toNat 64 = 4294967296 by decide, if_neg (by decide), if_neg (by decide)]
    congr 1; unfold wrap64; omega
  · rw [show wrap64 (64 - wrap64 (8 * 8)) = 0 by unfold wrap64; omega, if_pos (by decide)]
    simp only [shr, shl, sg, IntKind.bits, i64_wrap]
    rw [show (2 : Int) ^ min (0 : Int).toNat 64 = 1 by decide, if_neg (by decide), if_neg (by decide), if_neg (by decide)]
    congr 1; unfold wrap64; omega

theorem ev_one {α : Type} {g : Nat → Option α} {a b : α} (h : Ev g a) (k : Ev g b) : a = b := by
  obtain ⟨K, h⟩ := h
  obtain ⟨K', k⟩ := k
  have h1 := h (max K K') (by omega)
  have h2 := k (max K K') (by omega)
  rw [h1] at h2
  exact Option.some.inj h2
/-- Some number of rounds more. -/
theorem evAt {α : Type} {g : Nat → Option α} {r : α} (K : Nat) (h : ∀ m, g (m + K) = some r) : Ev g r := ⟨K, fun k hk => by
  obtain ⟨m, rfl⟩ : ∃ m, k = m + K := ⟨k - K, by omega⟩
  exact h m⟩
def I64 (a : Int) : Prop := -9223372036854775808 ≤ a ∧ a ≤ 9223372036854775807
theorem iin (a b c : Int) : impl_within.f a b c = some (inV a b c) := inV_eq a b c
theorem inV_true {a b c : Int} : inV a b c = true ↔ b ≤ a ∧ a ≤ c := by unfold inV; simp
theorem sizeV_true {a : Int} : sizeV a = true ↔ a = 1 ∨ a = 2 ∨ a = 4 ∨ a = 8 := by unfold sizeV; simp
theorem isz (a : Int) : impl_isSize.f a = some (sizeV a) := sizeV_eq a
theorem ishift (a : Int) : impl_isShift.f a = some (inV a 20 24) := by unfold impl_isShift.f; rw [iin]; rfl
theorem iop (a : Int) : impl_isOp.f a = some (inV a 1 44) := by unfold impl_isOp.f; rw [iin]; rfl
theorem sop (a : Int) : spec_l03Op.f a = some (inV a 1 44) := by unfold spec_l03Op.f; rw [inV_eq]; rfl
theorem ihigh (a : Int) : impl_isHigh.f a = some (inV a 16 19) := by unfold impl_isHigh.f; rw [iin]; rfl
theorem ibyte (a : Int) : impl_isByte.f a = some (inV a 0 255) := by unfold impl_isByte.f; rw [iin]; rfl
theorem icond (a : Int) : impl_hasCond.f a = some (a == 33 || (a == 35 || a == 36)) := by
  unfold impl_hasCond.f
  by_cases h : a = 33
  · subst h; rfl
  by_cases h2 : a = 35
  · subst h2; rfl
  rw [if_neg h, if_neg h2, beq_eq_false_iff_ne.mpr h, beq_eq_false_iff_ne.mpr h2]
  rfl
theorem ireg (a z : Int) : impl_isReg.f a z = some (sizeV z && (inV a 0 15 || (z == 1 && inV a 16 19))) := by
  unfold impl_isReg.f
  rw [isz, iin, ihigh]
  cases sizeV z <;> cases inV a 0 15 <;> by_cases h : z = 1 <;> simp [h]
theorem ifit (b n : Int) (hb : I64 b) (hn : n = 1 ∨ n = 2 ∨ n = 4 ∨ n = 8) : impl_fits.f b n = some (sg b n == b) := by
  unfold impl_fits.f
  rw [isign_val b n hn hb.1 hb.2]
  rfl
theorem sfit (b n : Int) (hb : I64 b) (hn : n = 1 ∨ n = 2 ∨ n = 4 ∨ n = 8) : fitsV b n = (sg b (mn n 4) == b) := by
  have hm : mn n 4 = 1 ∨ mn n 4 = 2 ∨ mn n 4 = 4 ∨ mn n 4 = 8 := by unfold mn; rcases hn with rfl | rfl | rfl | rfl <;> decide
  refine ev_one (fitsV_ev b n) ?_
  refine Ev.of (fun k => spec_l05Fits.mono _ _ k) (k := 65) ?_
  unfold spec_l05Fits.f
  rw [sign_val b _ hm hb.1 hb.2]
  rfl
theorem fit4 (b : Int) (hb : I64 b) : (sg b 4 == b) = inV b (-2147483648) 2147483647 := by
  rw [Bool.eq_iff_iff, inV_true, beq_iff_eq]
  unfold sg
  rw [if_neg (by decide), if_neg (by decide), if_pos rfl]
  omega
/-- What an operand must be, at a size of a register. -/
def opdV (k r b i s d m z : Int) : Bool :=
  if k = 1 then (inV r 0 15 || (z == 1 && inV r 16 19)) && (b == 0 && (i == 0 && (s == 0 && (d == 0 && m == 0))))
  else if k = 2 then r == 0 && (m == 0 && (inV b (-1) 16 && (inV i (-1) 15 && (!(i == 4) && (sizeV s && (inV d (-2147483648) 2147483647 && ((decide (i ≥ 0) || s == 1) && (!(b == 16) || decide (i < 0)))))))))
  else if k = 3 then r == 0 && (b == 0 && (i == 0 && (s == 0 && d == 0)))
  else k == 0 && (r == 0 && (b == 0 && (i == 0 && (s == 0 && (d == 0 && m == 0)))))
theorem so {c : Prop} [Decidable c] {a b : Option Bool} {x y : Bool} (h1 : a = some x) (h2 : b = some y) : (if c then a else b) = some (if c then x else y) := by split <;> assumption
theorem ite_tt {c : Prop} [Decidable c] {x y : Bool} : (if c then x else y) = true ↔ (c ∧ x = true) ∨ (¬ c ∧ y = true) := by by_cases h : c <;> simp [h]
theorem ite_some {c : Prop} [Decidable c] (a b : Bool) : (if c then some a else some b) = some (if c then a else b) := by split <;> rfl
theorem sopd (k r b i s d m z : Int) : spec_l04Operand.f k r b i s d m z = some (opdV k r b i s d m z) := by
  unfold spec_l04Operand.f opdV
  by_cases h1 : k = 1
  · subst h1
    rw [if_pos rfl, if_pos rfl, inV_eq, inV_eq]
    simp only [Option.bind_some, ite_some]
    refine congrArg some ?_
    rw [Bool.eq_iff_iff]
    simp only [ite_tt, Bool.and_eq_true, Bool.or_eq_true, inV_true, beq_iff_eq, Bool.false_eq_true, and_false, or_false, true_and]
    grind
  rw [if_neg h1, if_neg h1]
  by_cases h2 : k = 2
  · subst h2
    rw [if_pos rfl, if_pos rfl, inV_eq, inV_eq, inV_eq, sizeV_eq]
    simp only [Option.bind_some, ite_some]
    refine congrArg some ?_
    rw [Bool.eq_iff_iff]
    simp only [ite_tt, Bool.and_eq_true, Bool.or_eq_true, beq_iff_eq, Bool.not_eq_true', beq_eq_false_iff_ne, decide_eq_true_eq, Bool.false_eq_true, and_false, or_false, false_or, and_true]
    grind
  rw [if_neg h2, if_neg h2]
  by_cases h3 : k = 3
  · subst h3
    rw [if_pos rfl, if_pos rfl]
    rfl
  rw [if_neg h3, if_neg h3]
theorem imem (r b i s d m : Int) (hd : I64 d) : impl_Operand_isMem.f 2 r b i s d m = some (opdV 2 r b i s d m 1) := by
  unfold impl_Operand_isMem.f opdV
  simp only [iin, ifit d 4 hd (by omega), fit4 d hd, Option.bind_some, if_pos, if_true]
  rw [if_neg (by decide : ¬ (2 : Int) = 1)]
  by_cases hr : r = 0
  · by_cases hm : m = 0
    · cases hb : inV b (-1) 16
      · simp [hr, hm, hb]
      cases hi : inV i (-1) 15
      · simp [hr, hm, hb, hi]
      have hi' := inV_true.1 hi
      by_cases h4 : i = 4
      · simp [hr, hm, hb, hi, h4]
      subst hr hm
      simp only [hb, hi, h4, if_true, if_false, beq_self_eq_true, Bool.true_and, beq_eq_false_iff_ne.mpr h4, Bool.not_false]
      by_cases s1 : s = 1
      · subst s1
        rw [if_pos rfl]
        by_cases hb16 : b = 16
        · subst hb16
          rw [if_pos rfl]
          by_cases him : i = -1
          · subst him; rw [if_pos rfl]; simp [sizeV]
          · rw [if_neg him]; simp [sizeV]; omega
        · rw [if_neg hb16]; simp [sizeV, hb16]
      · rw [if_neg s1]
        by_cases him : i = -1
        · rw [if_pos him]; simp [s1, him]
        · rw [if_neg him]
          have hge : decide (i ≥ 0) = true := decide_eq_true (by omega)
          have hlt : decide (i < 0) = false := decide_eq_false (by omega)
          rw [hge, hlt]
          by_cases s2 : s = 2
          · subst s2; by_cases hb16 : b = 16 <;> simp [hb16, sizeV]
          · by_cases s4 : s = 4
            · subst s4; by_cases hb16 : b = 16 <;> simp [hb16, sizeV]
            · by_cases s8 : s = 8
              · subst s8; by_cases hb16 : b = 16 <;> simp [hb16, sizeV]
              · have : sizeV s = false := by
                  rw [← Bool.not_eq_true, sizeV_true]; omega
                simp [s2, s4, s8, this]
    · cases inV b (-1) 16 <;> cases inV i (-1) 15 <;> simp [hr, hm]
  · simp [hr]
theorem iopd (k r b i s d m z : Int) (hd : I64 d) : impl_OperandOK.f k r b i s d m z = some (sizeV z && opdV k r b i s d m z) := by
  unfold impl_OperandOK.f
  rw [isz, Option.bind_some]
  cases hz : sizeV z
  · rfl
  rw [if_pos rfl, Bool.true_and]
  by_cases h1 : k = 1
  · subst h1
    rw [if_pos rfl]
    unfold impl_regOf.f opdV
    simp only [Option.bind_some, ireg, hz, if_true, if_pos, beq_self_eq_true, Bool.true_and]
    cases (b == 0 && (i == 0 && (s == 0 && (d == 0 && m == 0)))) <;> simp
  rw [if_neg h1]
  by_cases h2 : k = 2
  · subst h2
    rw [if_pos rfl, imem r b i s d m hd]
    rfl
  rw [if_neg h2]
  by_cases h3 : k = 3
  · subst h3
    rw [if_pos rfl]
    unfold impl_immOf.f opdV
    simp [Bool.and_assoc]
  rw [if_neg h3]
  unfold opdV
  rw [if_neg h1, if_neg h2, if_neg h3]
/-- The letters that tell operands' kinds. -/
def letV (k : Int) : ByteArray := if k = 1 then ⟨#[114]⟩ else if k = 2 then ⟨#[109]⟩ else if k = 3 then ⟨#[105]⟩ else ⟨#[45]⟩
theorem ilet (k r b i s d m : Int) : impl_Operand_letter.f k r b i s d m = some (letV k) := by
  unfold impl_Operand_letter.f letV
  by_cases h1 : k = 1
  · rw [if_pos h1, if_pos h1]
  by_cases h2 : k = 2
  · rw [if_neg h1, if_pos h2, if_neg h1, if_pos h2]
  by_cases h3 : k = 3
  · rw [if_neg h1, if_neg h2, if_pos h3, if_neg h1, if_neg h2, if_pos h3]
  rw [if_neg h1, if_neg h2, if_neg h3, if_neg h1, if_neg h2, if_neg h3]
theorem letV_size (k : Int) : (letV k).size = 1 := by
  unfold letV
  split; rfl
  split; rfl
  split; rfl
  rfl
/-- Both letters stand side by side among the forms. -/
def conV (F : ByteArray) (k1 k2 : Int) : Bool := Lib.contains (((⟨#[32]⟩ : ByteArray) ++ F) ++ (⟨#[32]⟩ : ByteArray)).data.toList (((⟨#[32]⟩ : ByteArray) ++ (letV k1 ++ letV k2)) ++ (⟨#[32]⟩ : ByteArray)).data.toList
def fromV (o z f : Int) : Bool := if o = 26 then f == 1 || (f == 2 && decide (z > 2)) else if o = 27 then f == 1 || ((f == 2 && decide (z > 2)) || (f == 4 && z == 8)) else f == 0
theorem ifrom (o z c f : Int) (k1 r1 b1 i1 s1 d1 m1 k2 r2 b2 i2 s2 d2 m2 n : Int) : impl_isFrom.f o z c f k1 r1 b1 i1 s1 d1 m1 k2 r2 b2 i2 s2 d2 m2 n = some (fromV o z f) := by
  unfold impl_isFrom.f fromV
  by_cases h1 : o = 26
  · subst h1
    by_cases f1 : f = 1 <;> by_cases f2 : f = 2 <;> simp [f1, f2]
  by_cases h2 : o = 27
  · subst h2
    by_cases f1 : f = 1
    · simp [f1]
    · by_cases f2 : f = 2
      · subst f2; by_cases hz : z > 2 <;> simp [hz]
      · by_cases f4 : f = 4 <;> simp [f1, f2, f4]
  simp [h1, h2]
/-- The size of the second operand. -/
def srcV (o z f : Int) : Int := if f = 0 then (if inV o 20 24 = true then 8 else if z = 0 then 8 else z) else f
theorem isrc (o z c f : Int) (k1 r1 b1 i1 s1 d1 m1 k2 r2 b2 i2 s2 d2 m2 n : Int) : impl_srcSize.f o z c f k1 r1 b1 i1 s1 d1 m1 k2 r2 b2 i2 s2 d2 m2 n = some (srcV o z f) := by
  unfold impl_srcSize.f srcV
  by_cases h : f = 0
  · rw [if_pos h, if_pos h, ishift, Option.bind_some]
    by_cases hi : inV o 20 24 = true
    · rw [if_pos hi, if_pos hi]
    · rw [if_neg hi, if_neg hi]
      by_cases hz : z = 0
      · rw [if_pos hz, if_pos hz]
      · rw [if_neg hz, if_neg hz]
  · rw [if_neg h, if_neg h]
def numV (o z k1 m2 : Int) : Bool := if inV o 20 24 = true ∨ o = 44 then inV m2 0 255 else if o = 9 ∧ z = 8 ∧ k1 = 1 then true else if z = 0 then sg m2 4 == m2 else sg m2 (mn 4 z) == m2
theorem inum (o z c f : Int) (k1 r1 b1 i1 s1 d1 m1 k2 r2 b2 i2 s2 d2 m2 n : Int) (hm : I64 m2) (hz : z = 0 ∨ z = 1 ∨ z = 2 ∨ z = 4 ∨ z = 8) : Ev (fun k => impl_isNumber.f k o z c f k1 r1 b1 i1 s1 d1 m1 k2 r2 b2 i2 s2 d2 m2 n) (numV o z k1 m2) := by
  have hj : ∀ x : Bool, Ev (fun k => impl_isNumber.j1 k m2 x o z c f k1 r1 b1 i1 s1 d1 m1 k2 r2 b2 i2 s2 d2 m2 n) (if x = true then true else if z = 0 then sg m2 4 == m2 else sg m2 (mn 4 z) == m2) := by
    intro x
    refine Ev.step (fun k => by simp only [impl_isNumber.j1]; exact rfl) ?_
    refine evIte (fun h => evEq (evR _) (by rw [if_pos h])) (fun h => ?_)
    rw [if_neg h]
    refine evIte (fun h0 => ?_) (fun h0 => ?_)
    · rw [if_pos h0]
      exact evB (ifit m2 4 hm (by omega)) (evR _)
    · rw [if_neg h0]
      exact evB (ifit m2 (mn 4 z) hm (by unfold mn; rcases hz with rfl | rfl | rfl | rfl | rfl <;> simp_all)) (evR _)
  have hj0 : ∀ x : Bool, Ev (fun k => impl_isNumber.j0 k m2 x o z c f k1 r1 b1 i1 s1 d1 m1 k2 r2 b2 i2 s2 d2 m2 n) (if x = true then inV m2 0 255 else if o = 9 ∧ z = 8 ∧ k1 = 1 then true else if z = 0 then sg m2 4 == m2 else sg m2 (mn 4 z) == m2) := by
    intro x
    refine Ev.step (fun k => by simp only [impl_isNumber.j0]; exact rfl) ?_
    refine evIte (fun h => ?_) (fun h => ?_)
    · rw [if_pos h]
      exact evB (ibyte m2) (evR _)
    · rw [if_neg h]
      refine evIte (fun h9 => evIte (fun h8 => ?_) (fun h8 => ?_)) (fun h9 => ?_)
      · refine evEq (hj _) ?_
        by_cases hk : k1 = 1 <;> simp [h9, h8, hk]
      · refine evEq (hj _) ?_
        simp [h8]
      · refine evEq (hj _) ?_
        simp [h9]
  refine evB (ishift o) (evIte (fun h => ?_) (fun h => ?_))
  · refine evEq (hj0 _) ?_
    unfold numV
    rw [if_pos rfl, if_pos (.inl h)]
  · refine evEq (hj0 _) ?_
    unfold numV
    rw [Bool.not_eq_true] at h
    by_cases h44 : o = 44 <;> simp [h, h44]
def wideV (o : Int) : Bool := o == 29 || (o == 30 || (o == 31 || o == 32))
def fixV (o : Int) : Bool := wideV o || (o == 33 || (o == 34 || (o == 37 || (o == 38 || (o == 43 || o == 44)))))
theorem ifix (o : Int) : Ev (fun k => impl_fixedSize.f k o) ((if wideV o = true then 8 else 0), fixV o) := by
  have hj : ∀ x : Bool, Ev (fun k => impl_fixedSize.j0 k o x) ((if x = true then 8 else 0), x || (o == 33 || (o == 34 || (o == 37 || (o == 38 || (o == 43 || o == 44)))))) := by
    intro x
    refine Ev.step (fun k => by simp only [impl_fixedSize.j0]; exact rfl) ?_
    cases x
    · refine evNeg (by decide) ?_
      by_cases c1 : o = 33
      · subst c1; exact evPos rfl (evR _)
      refine evNeg c1 ?_
      by_cases c2 : o = 34
      · subst c2; exact evPos rfl (evR _)
      refine evNeg c2 ?_
      by_cases c3 : o = 37
      · subst c3; exact evPos rfl (evR _)
      refine evNeg c3 ?_
      by_cases c4 : o = 38
      · subst c4; exact evPos rfl (evR _)
      refine evNeg c4 ?_
      by_cases c5 : o = 43
      · subst c5; exact evPos rfl (evR _)
      refine evNeg c5 ?_
      by_cases c6 : o = 44
      · subst c6; exact evPos rfl (evR _)
      refine evNeg c6 (evEq (evR _) ?_)
      simp [c1, c2, c3, c4, c5, c6]
    · exact evPos rfl (evR _)
  unfold fixV wideV
  refine evIte (fun h => ?_) (fun h => evIte (fun h2 => ?_) (fun h2 => evIte (fun h3 => ?_) (fun h3 => ?_)))
  · subst h; exact hj _
  · subst h2; exact hj _
  · subst h3; exact hj _
  · refine evEq (hj _) ?_
    rw [beq_eq_false_iff_ne.mpr h, beq_eq_false_iff_ne.mpr h2, beq_eq_false_iff_ne.mpr h3]
    rfl
theorem swide (o : Int) : spec_l05Wide.f o = some (wideV o) := by
  unfold spec_l05Wide.f wideV
  by_cases c1 : o = 29
  · subst c1; rfl
  by_cases c2 : o = 30
  · subst c2; rfl
  by_cases c3 : o = 31
  · subst c3; rfl
  rw [if_neg c1, if_neg c2, if_neg c3, beq_eq_false_iff_ne.mpr c1, beq_eq_false_iff_ne.mpr c2, beq_eq_false_iff_ne.mpr c3]
  rfl
def highV (k r : Int) : Bool := k == 1 && inV r 16 19
theorem ihas (k r b i s d m : Int) : impl_hasHigh.f k r b i s d m = some (highV k r) := by
  unfold impl_hasHigh.f highV
  by_cases h : k = 1
  · subst h; rw [if_pos rfl, ihigh]; rfl
  · rw [if_neg h, beq_eq_false_iff_ne.mpr h]; rfl
theorem ineeds (o z c f : Int) (k1 r1 b1 i1 s1 d1 m1 k2 r2 b2 i2 s2 d2 m2 n : Int) : Ev (fun k => impl_needsRex.f k o z c f k1 r1 b1 i1 s1 d1 m1 k2 r2 b2 i2 s2 d2 m2 n) ((z == 8 && !fixV o) || (rexV k1 r1 b1 i1 z || rexV k2 r2 b2 i2 (srcV o z f))) := by
  have hw : Ev (fun k => impl_isWide.f k o z c f k1 r1 b1 i1 s1 d1 m1 k2 r2 b2 i2 s2 d2 m2 n) (z == 8 && !fixV o) := by
    refine Ev.bind (ifix o) (evIte (fun h => ?_) (fun h => ?_))
    · exact evEq (evR _) (by rw [h]; rfl)
    · exact evEq (evR _) (by rw [beq_eq_false_iff_ne.mpr h]; rfl)
  refine Ev.bind hw (evIte (fun h => evEq (evR _) (by rw [h]; rfl)) (fun h => ?_))
  rw [Bool.not_eq_true] at h
  rw [h, Bool.false_or]
  refine evB rfl (evIte (fun h1 => evEq (evR _) (by rw [h1]; rfl)) (fun h1 => ?_))
  rw [Bool.not_eq_true] at h1
  rw [h1, Bool.false_or]
  exact evB (isrc _ _ _ _ _ _ _ _ _ _ _ _ _ _ _ _ _ _ _) (evB rfl (evR _))
def srexV (k r b i z : Int) : Bool := if k = 1 then inV r 8 15 || (z == 1 && inV r 4 7) else if k = 2 then inV b 8 15 || decide (i ≥ 8) else false
theorem srex (k r b i s d m z : Int) : spec_l05Rex.f k r b i s d m z = some (srexV k r b i z, k == 1 && decide (r ≥ 16)) := by
  unfold spec_l05Rex.f srexV
  by_cases h1 : k = 1
  · subst h1
    rw [if_pos rfl, if_pos rfl, inV_eq, inV_eq]
    cases inV r 8 15 <;> by_cases hz : z = 1 <;> simp [hz]
  rw [if_neg h1, if_neg h1, beq_eq_false_iff_ne.mpr h1]
  by_cases h2 : k = 2
  · rw [if_pos h2, if_pos h2, inV_eq]
    cases inV b 8 15 <;> simp
  · rw [if_neg h2, if_neg h2]; rfl


def s2V (o z f : Int) : Int := if inV o 20 24 = true then 8 else if f > 0 then f else z
/-- What the reference asks of REX. -/
def sRex (o z f k1 r1 b1 i1 k2 r2 b2 i2 : Int) : Bool :=
  !((k1 == 1 && decide (r1 ≥ 16)) || (k2 == 1 && decide (r2 ≥ 16))) || (!srexV k1 r1 b1 i1 z && (!srexV k2 r2 b2 i2 (s2V o z f) && (!(z == 8) || wideV o)))
theorem ssizes (o z c f k1 r1 b1 i1 s1 d1 m1 k2 r2 b2 i2 s2 d2 m2 n : Int) : spec_l05Sizes.f o z c f k1 r1 b1 i1 s1 d1 m1 k2 r2 b2 i2 s2 d2 m2 n = some (z, s2V o z f) := by
  unfold spec_l05Sizes.f spec_l05From.f s2V
  rw [inV_eq]
  by_cases hf : f > 0
  · rw [if_pos hf, if_pos hf]
    cases inV o 20 24 <;> rfl
  · rw [if_neg hf, if_neg hf]
    cases inV o 20 24 <;> rfl
def cdV (o : Int) : Bool := o == 33 || (o == 35 || o == 36)
def sV (o z c f k1 r1 b1 i1 s1 d1 m1 k2 r2 b2 i2 s2 d2 m2 n : Int) : Bool :=
  inV o 1 44 && (inV n 0 15 && (shapeV o z c f k1 r1 b1 i1 s1 d1 m1 k2 r2 b2 i2 s2 d2 m2 n && (((o == 26 || o == 27) || f == 0) && ((cdV o || c == 0) && (inV c 0 15 && (opdV k1 r1 b1 i1 s1 d1 m1 z && (opdV k2 r2 b2 i2 s2 d2 m2 (s2V o z f) && sRex o z f k1 r1 b1 i1 k2 r2 b2 i2)))))))
theorem sOK_ev (o z c f k1 r1 b1 i1 s1 d1 m1 k2 r2 b2 i2 s2 d2 m2 n : Int) : Ev (fun k => spec_l05OK.f k o z c f k1 r1 b1 i1 s1 d1 m1 k2 r2 b2 i2 s2 d2 m2 n) (sV o z c f k1 r1 b1 i1 s1 d1 m1 k2 r2 b2 i2 s2 d2 m2 n) := by
  have h3 : ∀ x : Bool, Ev (fun k => spec_l05OK.j3 k z (s2V o z f) x o z c f k1 r1 b1 i1 s1 d1 m1 k2 r2 b2 i2 s2 d2 m2 n) (!x && sRex o z f k1 r1 b1 i1 k2 r2 b2 i2) := by
    intro x
    refine Ev.step (fun k => by simp only [spec_l05OK.j3]; exact rfl) ?_
    cases x
    · refine evNeg (by decide) (evB (srex _ _ _ _ _ _ _ _) (evB (srex _ _ _ _ _ _ _ _) ?_))
      unfold sRex
      have key : Ev (fun k => if srexV k1 r1 b1 i1 z = true then some false else if srexV k2 r2 b2 i2 (s2V o z f) = true then some false else if z = 8 then (spec_l05Wide.f o).bind fun t => some t else some true) (!srexV k1 r1 b1 i1 z && (!srexV k2 r2 b2 i2 (s2V o z f) && (!(z == 8) || wideV o))) := by
        cases srexV k1 r1 b1 i1 z
        · refine evNeg (by decide) ?_
          cases srexV k2 r2 b2 i2 (s2V o z f)
          · refine evNeg (by decide) ?_
            by_cases h8 : z = 8
            · exact evPos h8 (evB (swide o) (evEq (evR _) (by rw [beq_iff_eq.mpr h8]; rfl)))
            · exact evNeg h8 (evEq (evR _) (by rw [beq_eq_false_iff_ne.mpr h8]; rfl))
          · exact evPos rfl (evR _)
        · exact evPos rfl (evR _)
      cases (k1 == 1 && decide (r1 ≥ 16))
      · refine evNeg (by simp) ?_
        cases (k2 == 1 && decide (r2 ≥ 16))
        · exact evNeg (by simp) (evR _)
        · exact evPos rfl key
      · refine evPos rfl ?_
        simpa using key
    · exact evPos rfl (evR _)
  have h2 : ∀ x : Bool, Ev (fun k => spec_l05OK.j2 k x o z c f k1 r1 b1 i1 s1 d1 m1 k2 r2 b2 i2 s2 d2 m2 n) (!x && (opdV k1 r1 b1 i1 s1 d1 m1 z && (opdV k2 r2 b2 i2 s2 d2 m2 (s2V o z f) && sRex o z f k1 r1 b1 i1 k2 r2 b2 i2))) := by
    intro x
    refine Ev.step (fun k => by simp only [spec_l05OK.j2]; exact rfl) ?_
    cases x
    · refine evNeg (by decide) (evB (ssizes o z c f k1 r1 b1 i1 s1 d1 m1 k2 r2 b2 i2 s2 d2 m2 n) (evB (sopd _ _ _ _ _ _ _ _) ?_))
      cases hd : opdV k1 r1 b1 i1 s1 d1 m1 z
      · exact evNeg (by decide) (h3 true)
      · refine evPos rfl (evB (sopd _ _ _ _ _ _ _ _) (evEq (h3 _) ?_))
        simp
    · exact evPos rfl (evR _)
  have h1 : ∀ x : Bool, Ev (fun k => spec_l05OK.j1 k x o z c f k1 r1 b1 i1 s1 d1 m1 k2 r2 b2 i2 s2 d2 m2 n) (!x && ((cdV o || c == 0) && (inV c 0 15 && (opdV k1 r1 b1 i1 s1 d1 m1 z && (opdV k2 r2 b2 i2 s2 d2 m2 (s2V o z f) && sRex o z f k1 r1 b1 i1 k2 r2 b2 i2))))) := by
    intro x
    refine Ev.step (fun k => by simp only [spec_l05OK.j1]; exact rfl) ?_
    unfold cdV
    cases x
    · refine evNeg (by decide) (evIte (fun h => ?_) (fun h => evIte (fun hh => ?_) (fun hh => evIte (fun hhh => ?_) (fun hhh => evIte (fun h4 => ?_) (fun h4 => ?_)))))
      · exact evB (inV_eq _ _ _) (evEq (h2 _) (by rw [h]; simp))
      · exact evB (inV_eq _ _ _) (evEq (h2 _) (by rw [hh]; simp))
      · exact evB (inV_eq _ _ _) (evEq (h2 _) (by rw [hhh]; simp))
      · exact evB (inV_eq _ _ _) (evEq (h2 _) (by rw [h4]; simp))
      · refine evEq (h2 _) ?_
        rw [beq_eq_false_iff_ne.mpr h, beq_eq_false_iff_ne.mpr hh, beq_eq_false_iff_ne.mpr hhh, beq_eq_false_iff_ne.mpr h4]
        rfl
    · exact evPos rfl (evR _)
  have h0 : ∀ x : Bool, Ev (fun k => spec_l05OK.j0 k x o z c f k1 r1 b1 i1 s1 d1 m1 k2 r2 b2 i2 s2 d2 m2 n) (!x && (((o == 26 || o == 27) || f == 0) && ((cdV o || c == 0) && (inV c 0 15 && (opdV k1 r1 b1 i1 s1 d1 m1 z && (opdV k2 r2 b2 i2 s2 d2 m2 (s2V o z f) && sRex o z f k1 r1 b1 i1 k2 r2 b2 i2)))))) := by
    intro x
    refine Ev.step (fun k => by simp only [spec_l05OK.j0]; exact rfl) ?_
    cases x
    · refine evNeg (by decide) (evIte (fun h => ?_) (fun h => evIte (fun hh => ?_) (fun hh => ?_)))
      · exact evEq (h1 _) (by rw [h]; rfl)
      · exact evEq (h1 _) (by rw [hh]; rfl)
      · refine evEq (h1 _) ?_
        rw [beq_eq_false_iff_ne.mpr h, beq_eq_false_iff_ne.mpr hh]
        cases hf : f == 0
        · rw [bne, hf]; rfl
        · rw [bne, hf]; rfl
    · exact evPos rfl (evR _)
  unfold sV
  refine evB (sop o) ?_
  cases inV o 1 44
  · exact evNeg (by decide) (h0 true)
  refine evPos rfl (evB (inV_eq _ _ _) ?_)
  cases inV n 0 15
  · exact evNeg (by decide) (h0 true)
  refine evPos rfl (evB rfl (evEq (h0 _) ?_))
  simp
/-- What the program asks of REX. -/
def iRex (o z f k1 r1 b1 i1 k2 r2 b2 i2 : Int) : Bool := !(highV k1 r1 || highV k2 r2) || !((z == 8 && !fixV o) || (rexV k1 r1 b1 i1 z || rexV k2 r2 b2 i2 (srcV o z f)))
def foundV (Z : List Int) (z : Int) : Bool := Z.any fun y => y == z
def iV (Z : List Int) (F : ByteArray) (o z c f k1 r1 b1 i1 s1 d1 m1 k2 r2 b2 i2 s2 d2 m2 n : Int) : Bool :=
  inV o 1 44 && (inV n 0 15 && (inV c 0 15 && ((c == 0 || cdV o) && (foundV Z z && (fromV o z f && (conV F k1 k2 && ((sizeV (mx 1 z) && opdV k1 r1 b1 i1 s1 d1 m1 (mx 1 z)) && ((sizeV (srcV o z f) && opdV k2 r2 b2 i2 s2 d2 m2 (srcV o z f)) && (!(k2 == 3 && !numV o z k1 m2) && (!(inV o 20 24 && (k2 == 1 && r2 != 1)) && iRex o z f k1 r1 b1 i1 k2 r2 b2 i2))))))))))
theorem iOK_ev (Z : List Int) (F : ByteArray) (o z c f k1 r1 b1 i1 s1 d1 m1 k2 r2 b2 i2 s2 d2 m2 n : Int) (hF : Ev (fun k => impl_formsOf.f k o) (Z, F)) (hZ : ∀ y ∈ Z, y = 0 ∨ y = 1 ∨ y = 2 ∨ y = 4 ∨ y = 8) (hl : Z.length ≤ 4) (hs : F.size ≤ 20) (hd1 : I64 d1) (hd2 : I64 d2) (hm2 : I64 m2) : Ev (fun k => impl_InstrOK.f k o z c f k1 r1 b1 i1 s1 d1 m1 k2 r2 b2 i2 s2 d2 m2 n) (iV Z F o z c f k1 r1 b1 i1 s1 d1 m1 k2 r2 b2 i2 s2 d2 m2 n) := by
  have h5 : ∀ x : Bool, Ev (fun k => impl_InstrOK.j5 k x o z c f k1 r1 b1 i1 s1 d1 m1 k2 r2 b2 i2 s2 d2 m2 n) (!x && iRex o z f k1 r1 b1 i1 k2 r2 b2 i2) := by
    intro x
    refine Ev.step (fun k => by simp only [impl_InstrOK.j5]; exact rfl) ?_
    unfold iRex
    cases x
    · refine evNeg (by decide) (evB (ihas _ _ _ _ _ _ _) ?_)
      cases highV k1 r1
      · refine evNeg (by decide) (evB (ihas _ _ _ _ _ _ _) ?_)
        cases highV k2 r2
        · exact evNeg (by decide) (evR _)
        · exact evPos rfl (Ev.bind (ineeds o z c f k1 r1 b1 i1 s1 d1 m1 k2 r2 b2 i2 s2 d2 m2 n) (evR _))
      · refine evPos rfl (Ev.bind (ineeds o z c f k1 r1 b1 i1 s1 d1 m1 k2 r2 b2 i2 s2 d2 m2 n) (evEq (evR _) ?_))
        simp
    · exact evPos rfl (evR _)
  have h4 : ∀ x : Bool, Ev (fun k => impl_InstrOK.j4 k x o z c f k1 r1 b1 i1 s1 d1 m1 k2 r2 b2 i2 s2 d2 m2 n) (!x && (!(inV o 20 24 && (k2 == 1 && r2 != 1)) && iRex o z f k1 r1 b1 i1 k2 r2 b2 i2)) := by
    intro x
    refine Ev.step (fun k => by simp only [impl_InstrOK.j4]; exact rfl) ?_
    cases x
    · refine evNeg (by decide) (evB (ishift o) ?_)
      cases inV o 20 24
      · exact evNeg (by decide) (h5 false)
      · refine evPos rfl (evIte (fun h => evEq (h5 _) ?_) (fun h => evEq (h5 _) ?_))
        · rw [h]; simp
        · rw [beq_eq_false_iff_ne.mpr h]; simp
    · exact evPos rfl (evR _)
  have h3 : (z = 0 ∨ z = 1 ∨ z = 2 ∨ z = 4 ∨ z = 8) → ∀ x : Bool, Ev (fun k => impl_InstrOK.j3 k x o z c f k1 r1 b1 i1 s1 d1 m1 k2 r2 b2 i2 s2 d2 m2 n) (!x && (!(k2 == 3 && !numV o z k1 m2) && (!(inV o 20 24 && (k2 == 1 && r2 != 1)) && iRex o z f k1 r1 b1 i1 k2 r2 b2 i2))) := by
    intro hz x
    refine Ev.step (fun k => by simp only [impl_InstrOK.j3]; exact rfl) ?_
    cases x
    · refine evNeg (by decide) (evIte (fun h => ?_) (fun h => ?_))
      · refine Ev.bind (inum o z c f k1 r1 b1 i1 s1 d1 m1 k2 r2 b2 i2 s2 d2 m2 n hm2 hz) (evEq (h4 _) ?_)
        rw [h]; simp
      · refine evEq (h4 _) ?_
        rw [beq_eq_false_iff_ne.mpr h]; simp
    · exact evPos rfl (evR _)
  have h2 : (z = 0 ∨ z = 1 ∨ z = 2 ∨ z = 4 ∨ z = 8) → ∀ x : Bool, Ev (fun k => impl_InstrOK.j2 k x o z c f k1 r1 b1 i1 s1 d1 m1 k2 r2 b2 i2 s2 d2 m2 n) (!x && ((sizeV (mx 1 z) && opdV k1 r1 b1 i1 s1 d1 m1 (mx 1 z)) && ((sizeV (srcV o z f) && opdV k2 r2 b2 i2 s2 d2 m2 (srcV o z f)) && (!(k2 == 3 && !numV o z k1 m2) && (!(inV o 20 24 && (k2 == 1 && r2 != 1)) && iRex o z f k1 r1 b1 i1 k2 r2 b2 i2))))) := by
    intro hz x
    refine Ev.step (fun k => by simp only [impl_InstrOK.j2]; exact rfl) ?_
    cases x
    · refine evNeg (by decide) (evB (iopd _ _ _ _ _ _ _ _ hd1) ?_)
      cases (sizeV (mx 1 z) && opdV k1 r1 b1 i1 s1 d1 m1 (mx 1 z))
      · exact evNeg (by decide) (h3 hz true)
      · refine evPos rfl (evB (isrc o z c f k1 r1 b1 i1 s1 d1 m1 k2 r2 b2 i2 s2 d2 m2 n) (evB (iopd _ _ _ _ _ _ _ _ hd2) (evEq (h3 hz _) ?_)))
        simp
    · exact evPos rfl (evR _)
  have h2n : Ev (fun k => impl_InstrOK.j2 k true o z c f k1 r1 b1 i1 s1 d1 m1 k2 r2 b2 i2 s2 d2 m2 n) false := Ev.step (fun k => by simp only [impl_InstrOK.j2]; exact rfl) (evPos (c := true = true) rfl (evR _))
  have hend : ∀ x : Bool, (x = true → (z = 0 ∨ z = 1 ∨ z = 2 ∨ z = 4 ∨ z = 8)) → ∀ i : Int, ¬ i < (Z.length : Int) → Ev (fun k => impl_InstrOK.l0 k F x Z (Z.length : Int) i o z c f k1 r1 b1 i1 s1 d1 m1 k2 r2 b2 i2 s2 d2 m2 n) (x && (fromV o z f && (conV F k1 k2 && ((sizeV (mx 1 z) && opdV k1 r1 b1 i1 s1 d1 m1 (mx 1 z)) && ((sizeV (srcV o z f) && opdV k2 r2 b2 i2 s2 d2 m2 (srcV o z f)) && (!(k2 == 3 && !numV o z k1 m2) && (!(inV o 20 24 && (k2 == 1 && r2 != 1)) && iRex o z f k1 r1 b1 i1 k2 r2 b2 i2))))))) := by
    intro x hx i hi
    have z1 := letV_size k1
    have z2 := letV_size k2
    have e1 : (⟨#[32]⟩ : ByteArray).size = 1 := rfl
    refine Ev.step (fun k => by simp only [impl_InstrOK.l0]; exact rfl) (evNeg hi (evB (ilet _ _ _ _ _ _ _) (evB (ilet _ _ _ _ _ _ _) (evPos (c := (letV k1).size + (letV k2).size ≤ 9223372036854775807) (by omega) ?_))))
    cases x
    · exact evNeg (by decide) h2n
    refine evPos rfl (evB (ifrom o z c f k1 r1 b1 i1 s1 d1 m1 k2 r2 b2 i2 s2 d2 m2 n) ?_)
    cases fromV o z f
    · exact evNeg (by decide) h2n
    refine evPos rfl (evPos (by omega) (evPos (by rw [ByteArray.size_append]; omega) (evPos (by rw [ByteArray.size_append]; omega) (evPos (by rw [ByteArray.size_append, ByteArray.size_append]; omega) ?_))))
    refine evB (a := conV F k1 k2) ?_ (evEq (h2 (hx rfl) _) ?_)
    · unfold strings_Contains.f conV
      rw [if_pos (by rw [ByteArray.size_append, ByteArray.size_append]; omega)]
    · simp
  have hloop : ∀ d i : Nat, i + d = Z.length → ∀ x : Bool, (x = true → (z = 0 ∨ z = 1 ∨ z = 2 ∨ z = 4 ∨ z = 8)) → Ev (fun k => impl_InstrOK.l0 k F x Z (Z.length : Int) (i : Int) o z c f k1 r1 b1 i1 s1 d1 m1 k2 r2 b2 i2 s2 d2 m2 n) ((x || foundV (Z.drop i) z) && (fromV o z f && (conV F k1 k2 && ((sizeV (mx 1 z) && opdV k1 r1 b1 i1 s1 d1 m1 (mx 1 z)) && ((sizeV (srcV o z f) && opdV k2 r2 b2 i2 s2 d2 m2 (srcV o z f)) && (!(k2 == 3 && !numV o z k1 m2) && (!(inV o 20 24 && (k2 == 1 && r2 != 1)) && iRex o z f k1 r1 b1 i1 k2 r2 b2 i2))))))) := by
    intro d
    induction d with
    | zero =>
      intro i hi x hx
      refine evEq (hend x hx i (by omega)) ?_
      rw [List.drop_eq_nil_of_le (by omega)]
      unfold foundV
      rw [List.any_nil, Bool.or_false]
    | succ d ih =>
      intro i hi x hx
      have hlt : i < Z.length := by omega
      have e : rd Z (i : Int) = Z[i] := by
        unfold rd
        rw [Int.toNat_natCast, List.getD_eq_getElem?_getD, List.getElem?_eq_getElem hlt]
        rfl
      refine Ev.step (fun k => by simp only [impl_InstrOK.l0]; exact rfl) (evPos (by omega) (evPos (by omega) (evPos (by omega) ?_)))
      rw [show wrap64 ((i : Int) + 1) = ((i + 1 : Nat) : Int) by unfold wrap64; omega, e, List.drop_eq_getElem_cons hlt]
      unfold foundV at ih ⊢
      rw [List.any_cons]
      cases x
      · refine evNeg (by decide) (evEq (ih (i + 1) (by omega) _ (fun h => ?_)) ?_)
        · have := hZ _ (List.getElem_mem hlt)
          rw [← beq_iff_eq.mp h]; exact this
        · simp
      · refine evPos rfl (evEq (ih (i + 1) (by omega) true hx) ?_)
        simp
  have h0 : ∀ x : Bool, Ev (fun k => impl_InstrOK.j0 k x o z c f k1 r1 b1 i1 s1 d1 m1 k2 r2 b2 i2 s2 d2 m2 n) (!x && (foundV Z z && (fromV o z f && (conV F k1 k2 && ((sizeV (mx 1 z) && opdV k1 r1 b1 i1 s1 d1 m1 (mx 1 z)) && ((sizeV (srcV o z f) && opdV k2 r2 b2 i2 s2 d2 m2 (srcV o z f)) && (!(k2 == 3 && !numV o z k1 m2) && (!(inV o 20 24 && (k2 == 1 && r2 != 1)) && iRex o z f k1 r1 b1 i1 k2 r2 b2 i2)))))))) := by
    intro x
    refine Ev.step (fun k => by simp only [impl_InstrOK.j0]; exact rfl) ?_
    cases x
    · refine evNeg (by decide) (Ev.bind hF (evEq (hloop Z.length 0 (by omega) false (fun h => by cases h)) ?_))
      rw [List.drop_zero]; rfl
    · exact evPos rfl (evR _)
  unfold iV
  refine evB (iop o) ?_
  cases inV o 1 44
  · exact evNeg (by decide) (h0 true)
  refine evPos rfl (evB (iin _ _ _) ?_)
  cases inV n 0 15
  · exact evNeg (by decide) (h0 true)
  refine evPos rfl (evB (iin _ _ _) ?_)
  cases inV c 0 15
  · exact evNeg (by decide) (h0 true)
  refine evPos rfl (evIte (fun h => ?_) (fun h => ?_))
  · refine evEq (h0 false) ?_
    rw [h]; rfl
  · refine evB (icond o) (evEq (h0 _) ?_)
    rw [beq_eq_false_iff_ne.mpr h]
    unfold cdV
    simp

theorem kind4 (P : Int → Prop) (k : Int) (h0 : P 0) (h1 : P 1) (h2 : P 2) (h3 : P 3) (ho : k ≠ 0 → k ≠ 1 → k ≠ 2 → k ≠ 3 → P k) : P k := by
  by_cases c0 : k = 0
  · rw [c0]; exact h0
  by_cases c1 : k = 1
  · rw [c1]; exact h1
  by_cases c2 : k = 2
  · rw [c2]; exact h2
  by_cases c3 : k = 3
  · rw [c3]; exact h3
  exact ho c0 c1 c2 c3
theorem opd_kind {k r b i s d m z : Int} (h : opdV k r b i s d m z = true) : k = 0 ∨ k = 1 ∨ k = 2 ∨ k = 3 := by
  unfold opdV at h
  by_cases c1 : k = 1
  · exact .inr (.inl c1)
  by_cases c2 : k = 2
  · exact .inr (.inr (.inl c2))
  by_cases c3 : k = 3
  · exact .inr (.inr (.inr c3))
  rw [if_neg c1, if_neg c2, if_neg c3] at h
  simp only [Bool.and_eq_true, beq_iff_eq] at h
  exact .inl h.1
theorem con0 (a b : Int) (ha : a = 0 ∨ a = 1 ∨ a = 2 ∨ a = 3) (hb : b = 0 ∨ b = 1 ∨ b = 2 ∨ b = 3) : conV (⟨#[114, 114, 32, 109, 114, 32, 114, 109, 32, 114, 105, 32, 109, 105]⟩ : ByteArray) a b = twoV a b [(⟨#[114, 114]⟩ : ByteArray), (⟨#[109, 114]⟩ : ByteArray), (⟨#[114, 109]⟩ : ByteArray), (⟨#[114, 105]⟩ : ByteArray), (⟨#[109, 105]⟩ : ByteArray)] := by
  rcases ha with rfl | rfl | rfl | rfl <;> rcases hb with rfl | rfl | rfl | rfl <;> decide +kernel
theorem con1 (a b : Int) (ha : a = 0 ∨ a = 1 ∨ a = 2 ∨ a = 3) (hb : b = 0 ∨ b = 1 ∨ b = 2 ∨ b = 3) : conV (⟨#[114, 114, 32, 109, 114, 32, 114, 105, 32, 109, 105]⟩ : ByteArray) a b = twoV a b [(⟨#[114, 114]⟩ : ByteArray), (⟨#[109, 114]⟩ : ByteArray), (⟨#[114, 105]⟩ : ByteArray), (⟨#[109, 105]⟩ : ByteArray)] := by
  rcases ha with rfl | rfl | rfl | rfl <;> rcases hb with rfl | rfl | rfl | rfl <;> decide +kernel
theorem con2 (a b : Int) (ha : a = 0 ∨ a = 1 ∨ a = 2 ∨ a = 3) (hb : b = 0 ∨ b = 1 ∨ b = 2 ∨ b = 3) : conV (⟨#[114, 45, 32, 109, 45]⟩ : ByteArray) a b = twoV a b [(⟨#[114, 48]⟩ : ByteArray), (⟨#[109, 48]⟩ : ByteArray)] := by
  rcases ha with rfl | rfl | rfl | rfl <;> rcases hb with rfl | rfl | rfl | rfl <;> decide +kernel
theorem con3 (a b : Int) (ha : a = 0 ∨ a = 1 ∨ a = 2 ∨ a = 3) (hb : b = 0 ∨ b = 1 ∨ b = 2 ∨ b = 3) : conV (⟨#[45, 114, 32, 45, 109]⟩ : ByteArray) a b = twoV a b [(⟨#[48, 114]⟩ : ByteArray), (⟨#[48, 109]⟩ : ByteArray)] := by
  rcases ha with rfl | rfl | rfl | rfl <;> rcases hb with rfl | rfl | rfl | rfl <;> decide +kernel
theorem con4 (a b : Int) (ha : a = 0 ∨ a = 1 ∨ a = 2 ∨ a = 3) (hb : b = 0 ∨ b = 1 ∨ b = 2 ∨ b = 3) : conV (⟨#[114, 114, 32, 114, 109]⟩ : ByteArray) a b = twoV a b [(⟨#[114, 114]⟩ : ByteArray), (⟨#[114, 109]⟩ : ByteArray)] := by
  rcases ha with rfl | rfl | rfl | rfl <;> rcases hb with rfl | rfl | rfl | rfl <;> decide +kernel
theorem con5 (a b : Int) (ha : a = 0 ∨ a = 1 ∨ a = 2 ∨ a = 3) (hb : b = 0 ∨ b = 1 ∨ b = 2 ∨ b = 3) : conV (⟨#[114, 109]⟩ : ByteArray) a b = twoV a b [(⟨#[114, 109]⟩ : ByteArray)] := by
  rcases ha with rfl | rfl | rfl | rfl <;> rcases hb with rfl | rfl | rfl | rfl <;> decide +kernel
theorem con6 (a b : Int) (ha : a = 0 ∨ a = 1 ∨ a = 2 ∨ a = 3) (hb : b = 0 ∨ b = 1 ∨ b = 2 ∨ b = 3) : conV (⟨#[114, 114, 32, 109, 114]⟩ : ByteArray) a b = twoV a b [(⟨#[114, 114]⟩ : ByteArray), (⟨#[109, 114]⟩ : ByteArray)] := by
  rcases ha with rfl | rfl | rfl | rfl <;> rcases hb with rfl | rfl | rfl | rfl <;> decide +kernel
theorem con7 (a b : Int) (ha : a = 0 ∨ a = 1 ∨ a = 2 ∨ a = 3) (hb : b = 0 ∨ b = 1 ∨ b = 2 ∨ b = 3) : conV (⟨#[45, 114, 32, 45, 109, 32, 45, 105]⟩ : ByteArray) a b = twoV a b [(⟨#[48, 114]⟩ : ByteArray), (⟨#[48, 109]⟩ : ByteArray), (⟨#[48, 105]⟩ : ByteArray)] := by
  rcases ha with rfl | rfl | rfl | rfl <;> rcases hb with rfl | rfl | rfl | rfl <;> decide +kernel
theorem con8 (a b : Int) (ha : a = 0 ∨ a = 1 ∨ a = 2 ∨ a = 3) (hb : b = 0 ∨ b = 1 ∨ b = 2 ∨ b = 3) : conV (⟨#[45, 105]⟩ : ByteArray) a b = twoV a b [(⟨#[48, 105]⟩ : ByteArray)] := by
  rcases ha with rfl | rfl | rfl | rfl <;> rcases hb with rfl | rfl | rfl | rfl <;> decide +kernel
theorem con9 (a b : Int) (ha : a = 0 ∨ a = 1 ∨ a = 2 ∨ a = 3) (hb : b = 0 ∨ b = 1 ∨ b = 2 ∨ b = 3) : conV (⟨#[45, 45]⟩ : ByteArray) a b = twoV a b [(⟨#[48, 48]⟩ : ByteArray)] := by
  rcases ha with rfl | rfl | rfl | rfl <;> rcases hb with rfl | rfl | rfl | rfl <;> decide +kernel
theorem form1 : Ev (fun k => impl_formsOf.f k 1) (([1, 2, 4, 8] : List Int), (⟨#[114, 114, 32, 109, 114, 32, 114, 109, 32, 114, 105, 32, 109, 105]⟩ : ByteArray)) := evAt 9 (fun m => rfl)
theorem form2 : Ev (fun k => impl_formsOf.f k 2) (([1, 2, 4, 8] : List Int), (⟨#[114, 114, 32, 109, 114, 32, 114, 109, 32, 114, 105, 32, 109, 105]⟩ : ByteArray)) := evAt 9 (fun m => rfl)
theorem form3 : Ev (fun k => impl_formsOf.f k 3) (([1, 2, 4, 8] : List Int), (⟨#[114, 114, 32, 109, 114, 32, 114, 109, 32, 114, 105, 32, 109, 105]⟩ : ByteArray)) := evAt 9 (fun m => rfl)
theorem form4 : Ev (fun k => impl_formsOf.f k 4) (([1, 2, 4, 8] : List Int), (⟨#[114, 114, 32, 109, 114, 32, 114, 109, 32, 114, 105, 32, 109, 105]⟩ : ByteArray)) := evAt 9 (fun m => rfl)
theorem form5 : Ev (fun k => impl_formsOf.f k 5) (([1, 2, 4, 8] : List Int), (⟨#[114, 114, 32, 109, 114, 32, 114, 109, 32, 114, 105, 32, 109, 105]⟩ : ByteArray)) := evAt 9 (fun m => rfl)
theorem form6 : Ev (fun k => impl_formsOf.f k 6) (([1, 2, 4, 8] : List Int), (⟨#[114, 114, 32, 109, 114, 32, 114, 109, 32, 114, 105, 32, 109, 105]⟩ : ByteArray)) := evAt 9 (fun m => rfl)
theorem form7 : Ev (fun k => impl_formsOf.f k 7) (([1, 2, 4, 8] : List Int), (⟨#[114, 114, 32, 109, 114, 32, 114, 109, 32, 114, 105, 32, 109, 105]⟩ : ByteArray)) := evAt 9 (fun m => rfl)
theorem form8 : Ev (fun k => impl_formsOf.f k 8) (([1, 2, 4, 8] : List Int), (⟨#[114, 114, 32, 109, 114, 32, 114, 109, 32, 114, 105, 32, 109, 105]⟩ : ByteArray)) := evAt 9 (fun m => rfl)
theorem form9 : Ev (fun k => impl_formsOf.f k 9) (([1, 2, 4, 8] : List Int), (⟨#[114, 114, 32, 109, 114, 32, 114, 109, 32, 114, 105, 32, 109, 105]⟩ : ByteArray)) := evAt 9 (fun m => rfl)
theorem form10 : Ev (fun k => impl_formsOf.f k 10) (([1, 2, 4, 8] : List Int), (⟨#[114, 114, 32, 109, 114, 32, 114, 105, 32, 109, 105]⟩ : ByteArray)) := evAt 9 (fun m => rfl)
theorem form11 : Ev (fun k => impl_formsOf.f k 11) (([1, 2, 4, 8] : List Int), (⟨#[114, 45, 32, 109, 45]⟩ : ByteArray)) := evAt 9 (fun m => rfl)
theorem form12 : Ev (fun k => impl_formsOf.f k 12) (([1, 2, 4, 8] : List Int), (⟨#[114, 45, 32, 109, 45]⟩ : ByteArray)) := evAt 9 (fun m => rfl)
theorem form13 : Ev (fun k => impl_formsOf.f k 13) (([1, 2, 4, 8] : List Int), (⟨#[45, 114, 32, 45, 109]⟩ : ByteArray)) := evAt 9 (fun m => rfl)
theorem form14 : Ev (fun k => impl_formsOf.f k 14) (([1, 2, 4, 8] : List Int), (⟨#[45, 114, 32, 45, 109]⟩ : ByteArray)) := evAt 9 (fun m => rfl)
theorem form15 : Ev (fun k => impl_formsOf.f k 15) (([1, 2, 4, 8] : List Int), (⟨#[45, 114, 32, 45, 109]⟩ : ByteArray)) := evAt 9 (fun m => rfl)
theorem form16 : Ev (fun k => impl_formsOf.f k 16) (([1, 2, 4, 8] : List Int), (⟨#[45, 114, 32, 45, 109]⟩ : ByteArray)) := evAt 9 (fun m => rfl)
theorem form17 : Ev (fun k => impl_formsOf.f k 17) (([2, 4, 8] : List Int), (⟨#[114, 114, 32, 114, 109]⟩ : ByteArray)) := evAt 9 (fun m => rfl)
theorem form18 : Ev (fun k => impl_formsOf.f k 18) (([1, 2, 4, 8] : List Int), (⟨#[114, 45, 32, 109, 45]⟩ : ByteArray)) := evAt 9 (fun m => rfl)
theorem form19 : Ev (fun k => impl_formsOf.f k 19) (([1, 2, 4, 8] : List Int), (⟨#[114, 45, 32, 109, 45]⟩ : ByteArray)) := evAt 9 (fun m => rfl)
theorem form20 : Ev (fun k => impl_formsOf.f k 20) (([1, 2, 4, 8] : List Int), (⟨#[114, 114, 32, 109, 114, 32, 114, 105, 32, 109, 105]⟩ : ByteArray)) := evAt 9 (fun m => rfl)
theorem form21 : Ev (fun k => impl_formsOf.f k 21) (([1, 2, 4, 8] : List Int), (⟨#[114, 114, 32, 109, 114, 32, 114, 105, 32, 109, 105]⟩ : ByteArray)) := evAt 9 (fun m => rfl)
theorem form22 : Ev (fun k => impl_formsOf.f k 22) (([1, 2, 4, 8] : List Int), (⟨#[114, 114, 32, 109, 114, 32, 114, 105, 32, 109, 105]⟩ : ByteArray)) := evAt 9 (fun m => rfl)
theorem form23 : Ev (fun k => impl_formsOf.f k 23) (([1, 2, 4, 8] : List Int), (⟨#[114, 114, 32, 109, 114, 32, 114, 105, 32, 109, 105]⟩ : ByteArray)) := evAt 9 (fun m => rfl)
theorem form24 : Ev (fun k => impl_formsOf.f k 24) (([1, 2, 4, 8] : List Int), (⟨#[114, 114, 32, 109, 114, 32, 114, 105, 32, 109, 105]⟩ : ByteArray)) := evAt 9 (fun m => rfl)
theorem form25 : Ev (fun k => impl_formsOf.f k 25) (([2, 4, 8] : List Int), (⟨#[114, 109]⟩ : ByteArray)) := evAt 9 (fun m => rfl)
theorem form26 : Ev (fun k => impl_formsOf.f k 26) (([2, 4, 8] : List Int), (⟨#[114, 114, 32, 114, 109]⟩ : ByteArray)) := evAt 9 (fun m => rfl)
theorem form27 : Ev (fun k => impl_formsOf.f k 27) (([2, 4, 8] : List Int), (⟨#[114, 114, 32, 114, 109]⟩ : ByteArray)) := evAt 9 (fun m => rfl)
theorem form28 : Ev (fun k => impl_formsOf.f k 28) (([1, 2, 4, 8] : List Int), (⟨#[114, 114, 32, 109, 114]⟩ : ByteArray)) := evAt 9 (fun m => rfl)
theorem form29 : Ev (fun k => impl_formsOf.f k 29) (([8] : List Int), (⟨#[45, 114, 32, 45, 109, 32, 45, 105]⟩ : ByteArray)) := evAt 9 (fun m => rfl)
theorem form30 : Ev (fun k => impl_formsOf.f k 30) (([8] : List Int), (⟨#[114, 45, 32, 109, 45]⟩ : ByteArray)) := evAt 9 (fun m => rfl)
theorem form31 : Ev (fun k => impl_formsOf.f k 31) (([8] : List Int), (⟨#[45, 114, 32, 45, 109, 32, 45, 105]⟩ : ByteArray)) := evAt 9 (fun m => rfl)
theorem form32 : Ev (fun k => impl_formsOf.f k 32) (([8] : List Int), (⟨#[45, 114, 32, 45, 109, 32, 45, 105]⟩ : ByteArray)) := evAt 9 (fun m => rfl)
theorem form33 : Ev (fun k => impl_formsOf.f k 33) (([0] : List Int), (⟨#[45, 105]⟩ : ByteArray)) := evAt 9 (fun m => rfl)
theorem form34 : Ev (fun k => impl_formsOf.f k 34) (([0] : List Int), (⟨#[45, 45]⟩ : ByteArray)) := evAt 9 (fun m => rfl)
theorem form35 : Ev (fun k => impl_formsOf.f k 35) (([1] : List Int), (⟨#[114, 45, 32, 109, 45]⟩ : ByteArray)) := evAt 9 (fun m => rfl)
theorem form36 : Ev (fun k => impl_formsOf.f k 36) (([2, 4, 8] : List Int), (⟨#[114, 114, 32, 114, 109]⟩ : ByteArray)) := evAt 9 (fun m => rfl)
theorem form37 : Ev (fun k => impl_formsOf.f k 37) (([0] : List Int), (⟨#[45, 45]⟩ : ByteArray)) := evAt 9 (fun m => rfl)
theorem form38 : Ev (fun k => impl_formsOf.f k 38) (([0] : List Int), (⟨#[45, 45]⟩ : ByteArray)) := evAt 9 (fun m => rfl)
theorem form39 : Ev (fun k => impl_formsOf.f k 39) (([2, 4, 8] : List Int), (⟨#[45, 45]⟩ : ByteArray)) := evAt 9 (fun m => rfl)
theorem form40 : Ev (fun k => impl_formsOf.f k 40) (([2, 4, 8] : List Int), (⟨#[45, 45]⟩ : ByteArray)) := evAt 9 (fun m => rfl)
theorem form41 : Ev (fun k => impl_formsOf.f k 41) (([1] : List Int), (⟨#[45, 45]⟩ : ByteArray)) := evAt 9 (fun m => rfl)
theorem form42 : Ev (fun k => impl_formsOf.f k 42) (([1] : List Int), (⟨#[45, 45]⟩ : ByteArray)) := evAt 9 (fun m => rfl)
theorem form43 : Ev (fun k => impl_formsOf.f k 43) (([0] : List Int), (⟨#[45, 45]⟩ : ByteArray)) := evAt 9 (fun m => rfl)
theorem form44 : Ev (fun k => impl_formsOf.f k 44) (([0] : List Int), (⟨#[45, 105]⟩ : ByteArray)) := evAt 9 (fun m => rfl)

theorem opd_free (k r b i s d m z z' : Int) (h : k ≠ 1) : opdV k r b i s d m z = opdV k r b i s d m z' := by
  unfold opdV
  rw [if_neg h, if_neg h]
theorem glue (T C D D' S S' N nI sI Rs Ri X1 X2 : Bool) (hT : D' = true → S' = true → C = T) (hD : T = true → D = D') (hS : T = true → S = S') (hN : T = true → D = true → S = true → N = (nI && sI)) (hR : D = true → S = true → Rs = Ri) :
    ((T && N) && (X1 && (X2 && (D && (S && Rs))))) = (X2 && (X1 && (C && (D' && (S' && (nI && (sI && Ri))))))) := by
  cases T
  · cases D'
    · simp
    cases S'
    · simp
    rw [hT rfl rfl]; simp
  · have e1 := hD rfl
    have e2 := hS rfl
    subst e1 e2
    cases D
    · simp
    cases S
    · simp
    rw [hT rfl rfl, hN rfl rfl rfl, hR rfl rfl]
    cases nI <;> cases sI <;> cases X1 <;> cases X2 <;> cases Ri <;> rfl
theorem opd_reg {r b i s d m z : Int} (h : opdV 1 r b i s d m z = true) : 0 ≤ r ∧ r ≤ 19 := by
  unfold opdV at h
  rw [if_pos rfl] at h
  simp only [Bool.and_eq_true, Bool.or_eq_true, inV_true, beq_iff_eq] at h
  omega
theorem opd_mem {r b i s d m z : Int} (h : opdV 2 r b i s d m z = true) : i ≤ 15 ∧ m = 0 := by
  unfold opdV at h
  rw [if_neg (by decide), if_pos rfl] at h
  simp only [Bool.and_eq_true, inV_true, beq_iff_eq] at h
  omega
theorem opd_m {k r b i s d m z : Int} (h : opdV k r b i s d m z = true) (h3 : k ≠ 3) : m = 0 := by
  rcases opd_kind h with rfl | rfl | rfl | rfl
  · unfold opdV at h
    rw [if_neg (by decide), if_neg (by decide), if_neg (by decide)] at h
    simp only [Bool.and_eq_true, beq_iff_eq] at h
    omega
  · unfold opdV at h
    rw [if_pos rfl] at h
    simp only [Bool.and_eq_true, beq_iff_eq] at h
    omega
  · exact (opd_mem h).2
  · exact absurd rfl h3
theorem rex1 (k r b i s d m z z' : Int) (h : opdV k r b i s d m z = true) (e : (z' == 1) = (z == 1)) : srexV k r b i z = rexV k r b i z' := by
  rcases opd_kind h with rfl | rfl | rfl | rfl
  · rfl
  · unfold srexV rexV upV lowV inV
    rw [if_pos rfl, if_pos rfl, e]
    simp
  · have := (opd_mem h).1
    unfold srexV rexV upV inV
    rw [if_neg (by decide), if_pos rfl, if_neg (by decide), if_pos rfl]
    congr 1
    rw [Bool.eq_iff_iff]
    simp only [Bool.and_eq_true, decide_eq_true_eq]
    omega
  · rfl
theorem high1 (k r b i s d m z : Int) (h : opdV k r b i s d m z = true) : (k == 1 && decide (r ≥ 16)) = highV k r := by
  unfold highV
  by_cases h1 : k = 1
  · subst h1
    have := opd_reg h
    rw [Bool.eq_iff_iff]
    simp only [beq_self_eq_true, Bool.true_and, inV_true, decide_eq_true_eq]
    omega
  · rw [beq_eq_false_iff_ne.mpr h1]; rfl
theorem rex_same (o z f k1 r1 b1 i1 s1 d1 m1 k2 r2 b2 i2 s2 d2 m2 : Int) (hw : (z == 8 && !fixV o) = (z == 8 && !wideV o)) (he : (srcV o z f == 1) = (s2V o z f == 1)) (hD : opdV k1 r1 b1 i1 s1 d1 m1 z = true) (hS : opdV k2 r2 b2 i2 s2 d2 m2 (s2V o z f) = true) : sRex o z f k1 r1 b1 i1 k2 r2 b2 i2 = iRex o z f k1 r1 b1 i1 k2 r2 b2 i2 := by
  unfold sRex iRex
  rw [high1 _ _ _ _ _ _ _ _ hD, high1 _ _ _ _ _ _ _ _ hS, rex1 _ _ _ _ _ _ _ _ z hD rfl, rex1 _ _ _ _ _ _ _ _ (srcV o z f) hS he, hw]
  cases (z == 8) <;> cases wideV o <;> cases rexV k1 r1 b1 i1 z <;> cases rexV k2 r2 b2 i2 (srcV o z f) <;> rfl
theorem fit0 (n : Int) (hn : n = 1 ∨ n = 2 ∨ n = 4 ∨ n = 8) : fitsV 0 n = true := by
  rw [sfit 0 n ⟨by decide, by decide⟩ hn]
  rcases hn with rfl | rfl | rfl | rfl <;> decide
/-- An instance: the operation, the size and what the source's size is are known. -/
theorem same_of (o z c f k1 r1 b1 i1 s1 d1 m1 k2 r2 b2 i2 s2 d2 m2 n : Int) (Z : List Int) (F : ByteArray) (L : List ByteArray) (N : Bool) (ho : inV o 1 44 = true) (hz : foundV Z z = true) (hs : shapeV o z c f k1 r1 b1 i1 s1 d1 m1 k2 r2 b2 i2 s2 d2 m2 n = (twoV k1 k2 L && N)) (hfr : ((o == 26 || o == 27) || f == 0) = true) (hfv : fromV o z f = true)
    (hcon : ∀ a b : Int, (a = 0 ∨ a = 1 ∨ a = 2 ∨ a = 3) → (b = 0 ∨ b = 1 ∨ b = 2 ∨ b = 3) → conV F a b = twoV a b L) (hz1 : sizeV (mx 1 z) = true) (hz2 : sizeV (srcV o z f) = true)
    (hD : twoV k1 k2 L = true → mx 1 z = z ∨ k1 ≠ 1) (hS : twoV k1 k2 L = true → srcV o z f = s2V o z f ∨ k2 ≠ 1)
    (hw : (z == 8 && !fixV o) = (z == 8 && !wideV o)) (he : (srcV o z f == 1) = (s2V o z f == 1))
    (hN : twoV k1 k2 L = true → (k2 ≠ 3 → m2 = 0) → N = (!(k2 == 3 && !numV o z k1 m2) && !(inV o 20 24 && (k2 == 1 && r2 != 1)))) : sV o z c f k1 r1 b1 i1 s1 d1 m1 k2 r2 b2 i2 s2 d2 m2 n = iV Z F o z c f k1 r1 b1 i1 s1 d1 m1 k2 r2 b2 i2 s2 d2 m2 n := by
  unfold sV iV
  simp only [ho, hz, hs, hfr, hfv, hz1, hz2, Bool.true_and]
  cases inV n 0 15
  · rfl
  simp only [Bool.true_and]
  rw [show (c == 0 || cdV o) = (cdV o || c == 0) from Bool.or_comm _ _]
  refine glue _ _ _ _ _ _ _ _ _ _ _ _ _ (fun h1 h2 => hcon _ _ (opd_kind h1) (opd_kind h2)) (fun hT => ?_) (fun hT => ?_) (fun hT h1 h2 => hN hT (fun h3 => opd_m h2 h3)) (fun h1 h2 => rex_same o z f _ _ _ _ _ _ _ _ _ _ _ _ _ _ hw he h1 h2)
  · rcases hD hT with h | h
    · rw [h]
    · exact opd_free _ _ _ _ _ _ _ _ _ h
  · rcases hS hT with h | h
    · rw [h]
    · exact opd_free _ _ _ _ _ _ _ _ _ h
theorem same_no (o z c f k1 r1 b1 i1 s1 d1 m1 k2 r2 b2 i2 s2 d2 m2 n : Int) (Z : List Int) (F : ByteArray) (h1 : shapeV o z c f k1 r1 b1 i1 s1 d1 m1 k2 r2 b2 i2 s2 d2 m2 n = false ∨ ((o == 26 || o == 27) || f == 0) = false) (h2 : foundV Z z = false ∨ fromV o z f = false) : sV o z c f k1 r1 b1 i1 s1 d1 m1 k2 r2 b2 i2 s2 d2 m2 n = iV Z F o z c f k1 r1 b1 i1 s1 d1 m1 k2 r2 b2 i2 s2 d2 m2 n := by
  have e1 : sV o z c f k1 r1 b1 i1 s1 d1 m1 k2 r2 b2 i2 s2 d2 m2 n = false := by
    unfold sV
    rcases h1 with h | h <;> rw [h] <;> simp
  have e2 : iV Z F o z c f k1 r1 b1 i1 s1 d1 m1 k2 r2 b2 i2 s2 d2 m2 n = false := by
    unfold iV
    rcases h2 with h | h <;> rw [h] <;> simp
  rw [e1, e2]
theorem tw0 (a b : Int) : twoV a b [(⟨#[114, 114]⟩ : ByteArray), (⟨#[109, 114]⟩ : ByteArray), (⟨#[114, 109]⟩ : ByteArray), (⟨#[114, 105]⟩ : ByteArray), (⟨#[109, 105]⟩ : ByteArray)] = (((kindV a 114 && kindV b 114) || ((kindV a 109 && kindV b 114) || ((kindV a 114 && kindV b 109) || ((kindV a 114 && kindV b 105) || ((kindV a 109 && kindV b 105) || false)))))) := rfl
theorem tw1 (a b : Int) : twoV a b [(⟨#[114, 114]⟩ : ByteArray), (⟨#[109, 114]⟩ : ByteArray), (⟨#[114, 105]⟩ : ByteArray), (⟨#[109, 105]⟩ : ByteArray)] = (((kindV a 114 && kindV b 114) || ((kindV a 109 && kindV b 114) || ((kindV a 114 && kindV b 105) || ((kindV a 109 && kindV b 105) || false))))) := rfl
theorem tw2 (a b : Int) : twoV a b [(⟨#[114, 48]⟩ : ByteArray), (⟨#[109, 48]⟩ : ByteArray)] = (((kindV a 114 && kindV b 48) || ((kindV a 109 && kindV b 48) || false))) := rfl
theorem tw3 (a b : Int) : twoV a b [(⟨#[48, 114]⟩ : ByteArray), (⟨#[48, 109]⟩ : ByteArray)] = (((kindV a 48 && kindV b 114) || ((kindV a 48 && kindV b 109) || false))) := rfl
theorem tw4 (a b : Int) : twoV a b [(⟨#[114, 114]⟩ : ByteArray), (⟨#[114, 109]⟩ : ByteArray)] = (((kindV a 114 && kindV b 114) || ((kindV a 114 && kindV b 109) || false))) := rfl
theorem tw5 (a b : Int) : twoV a b [(⟨#[114, 109]⟩ : ByteArray)] = (((kindV a 114 && kindV b 109) || false)) := rfl
theorem tw6 (a b : Int) : twoV a b [(⟨#[114, 114]⟩ : ByteArray), (⟨#[109, 114]⟩ : ByteArray)] = (((kindV a 114 && kindV b 114) || ((kindV a 109 && kindV b 114) || false))) := rfl
theorem tw7 (a b : Int) : twoV a b [(⟨#[48, 114]⟩ : ByteArray), (⟨#[48, 109]⟩ : ByteArray), (⟨#[48, 105]⟩ : ByteArray)] = (((kindV a 48 && kindV b 114) || ((kindV a 48 && kindV b 109) || ((kindV a 48 && kindV b 105) || false)))) := rfl
theorem tw8 (a b : Int) : twoV a b [(⟨#[48, 105]⟩ : ByteArray)] = (((kindV a 48 && kindV b 105) || false)) := rfl
theorem tw9 (a b : Int) : twoV a b [(⟨#[48, 48]⟩ : ByteArray)] = (((kindV a 48 && kindV b 48) || false)) := rfl
theorem vg0 (o z c f k1 r1 b1 i1 s1 d1 m1 k2 r2 b2 i2 s2 d2 m2 n : Int) (ho : o = 1 ∨ o = 2 ∨ o = 3 ∨ o = 4 ∨ o = 5 ∨ o = 6 ∨ o = 7 ∨ o = 8) (hm : I64 m2) : sV o z c f k1 r1 b1 i1 s1 d1 m1 k2 r2 b2 i2 s2 d2 m2 n = iV [1, 2, 4, 8] (⟨#[114, 114, 32, 109, 114, 32, 114, 109, 32, 114, 105, 32, 109, 105]⟩ : ByteArray) o z c f k1 r1 b1 i1 s1 d1 m1 k2 r2 b2 i2 s2 d2 m2 n := by
  have hsh : shapeV o z c f k1 r1 b1 i1 s1 d1 m1 k2 r2 b2 i2 s2 d2 m2 n = (sizeV z && (twoV k1 k2 [(⟨#[114, 114]⟩ : ByteArray), (⟨#[109, 114]⟩ : ByteArray), (⟨#[114, 109]⟩ : ByteArray), (⟨#[114, 105]⟩ : ByteArray), (⟨#[109, 105]⟩ : ByteArray)] && fitsV m2 z)) := by rcases ho with rfl | rfl | rfl | rfl | rfl | rfl | rfl | rfl <;> rfl
  rcases ho with rfl | rfl | rfl | rfl | rfl | rfl | rfl | rfl
  all_goals
    by_cases hz : z = 1 ∨ z = 2 ∨ z = 4 ∨ z = 8
    · by_cases hf : f = 0
      · subst hf
        rcases hz with rfl | rfl | rfl | rfl
        all_goals
          refine same_of _ _ _ _ _ _ _ _ _ _ _ _ _ _ _ _ _ _ _ _ _ [(⟨#[114, 114]⟩ : ByteArray), (⟨#[109, 114]⟩ : ByteArray), (⟨#[114, 109]⟩ : ByteArray), (⟨#[114, 105]⟩ : ByteArray), (⟨#[109, 105]⟩ : ByteArray)] (fitsV m2 _) rfl rfl (by rw [hsh]; rfl) rfl rfl con0 rfl rfl (fun _ => .inl rfl) (fun _ => .inl rfl) rfl rfl ?_
          · intro hT h3
            by_cases c3 : k2 = 3
            · subst c3
              unfold numV
              rw [sfit m2 _ hm (by omega)]
              first | (simp [inV, mn]; done) | (simp [inV, mn]; grind)
            · rw [h3 c3, fit0 _ (by omega)]
              simp [c3, inV]
      · refine same_no _ _ _ _ _ _ _ _ _ _ _ _ _ _ _ _ _ _ _ _ _ (.inr ?_) (.inr ?_) <;> (first | exact beq_eq_false_iff_ne.mpr hf | (show (f == 0) = false; exact beq_eq_false_iff_ne.mpr hf))
    · refine same_no _ _ _ _ _ _ _ _ _ _ _ _ _ _ _ _ _ _ _ _ _ (.inl ?_) (.inl ?_)
      · have : sizeV z = false := by
          rw [← Bool.not_eq_true]
          simp only [Bool.and_eq_true, sizeV_true, decide_eq_true_eq, beq_iff_eq]
          omega
        rw [hsh, this]; simp
      · unfold foundV
        simp only [List.any_cons, List.any_nil, Bool.or_false, Bool.or_eq_false_iff, beq_eq_false_iff_ne]
        omega
theorem vg1 (o z c f k1 r1 b1 i1 s1 d1 m1 k2 r2 b2 i2 s2 d2 m2 n : Int) (ho : o = 9) (hm : I64 m2) : sV o z c f k1 r1 b1 i1 s1 d1 m1 k2 r2 b2 i2 s2 d2 m2 n = iV [1, 2, 4, 8] (⟨#[114, 114, 32, 109, 114, 32, 114, 109, 32, 114, 105, 32, 109, 105]⟩ : ByteArray) o z c f k1 r1 b1 i1 s1 d1 m1 k2 r2 b2 i2 s2 d2 m2 n := by
  subst ho
  have hsh : shapeV 9 z c f k1 r1 b1 i1 s1 d1 m1 k2 r2 b2 i2 s2 d2 m2 n = (sizeV z && (twoV k1 k2 [(⟨#[114, 114]⟩ : ByteArray), (⟨#[109, 114]⟩ : ByteArray), (⟨#[114, 109]⟩ : ByteArray), (⟨#[114, 105]⟩ : ByteArray), (⟨#[109, 105]⟩ : ByteArray)] && (((z == 8) && (k1 == 1)) || fitsV m2 z))) := rfl
  by_cases hz : z = 1 ∨ z = 2 ∨ z = 4 ∨ z = 8
  · by_cases hf : f = 0
    · subst hf
      rcases hz with rfl | rfl | rfl | rfl
      all_goals
        refine same_of _ _ _ _ _ _ _ _ _ _ _ _ _ _ _ _ _ _ _ _ _ [(⟨#[114, 114]⟩ : ByteArray), (⟨#[109, 114]⟩ : ByteArray), (⟨#[114, 109]⟩ : ByteArray), (⟨#[114, 105]⟩ : ByteArray), (⟨#[109, 105]⟩ : ByteArray)] ((((_ : Int) == 8) && (k1 == 1)) || fitsV m2 _) rfl rfl (by rw [hsh]; rfl) rfl rfl con0 rfl rfl (fun _ => .inl rfl) (fun _ => .inl rfl) rfl rfl ?_
        · intro hT h3
          by_cases c3 : k2 = 3
          · subst c3
            unfold numV
            rw [sfit m2 _ hm (by omega)]
            first | (simp [inV, mn]; done) | (simp [inV, mn]; grind)
          · rw [h3 c3, fit0 _ (by omega)]
            simp [c3, inV]
    · refine same_no _ _ _ _ _ _ _ _ _ _ _ _ _ _ _ _ _ _ _ _ _ (.inr ?_) (.inr ?_) <;> (first | exact beq_eq_false_iff_ne.mpr hf | (show (f == 0) = false; exact beq_eq_false_iff_ne.mpr hf))
  · refine same_no _ _ _ _ _ _ _ _ _ _ _ _ _ _ _ _ _ _ _ _ _ (.inl ?_) (.inl ?_)
    · have : sizeV z = false := by
        rw [← Bool.not_eq_true]
        simp only [Bool.and_eq_true, sizeV_true, decide_eq_true_eq, beq_iff_eq]
        omega
      rw [hsh, this]; simp
    · unfold foundV
      simp only [List.any_cons, List.any_nil, Bool.or_false, Bool.or_eq_false_iff, beq_eq_false_iff_ne]
      omega
theorem vg2 (o z c f k1 r1 b1 i1 s1 d1 m1 k2 r2 b2 i2 s2 d2 m2 n : Int) (ho : o = 10) (hm : I64 m2) : sV o z c f k1 r1 b1 i1 s1 d1 m1 k2 r2 b2 i2 s2 d2 m2 n = iV [1, 2, 4, 8] (⟨#[114, 114, 32, 109, 114, 32, 114, 105, 32, 109, 105]⟩ : ByteArray) o z c f k1 r1 b1 i1 s1 d1 m1 k2 r2 b2 i2 s2 d2 m2 n := by
  subst ho
  have hsh : shapeV 10 z c f k1 r1 b1 i1 s1 d1 m1 k2 r2 b2 i2 s2 d2 m2 n = (sizeV z && (twoV k1 k2 [(⟨#[114, 114]⟩ : ByteArray), (⟨#[109, 114]⟩ : ByteArray), (⟨#[114, 105]⟩ : ByteArray), (⟨#[109, 105]⟩ : ByteArray)] && fitsV m2 z)) := rfl
  by_cases hz : z = 1 ∨ z = 2 ∨ z = 4 ∨ z = 8
  · by_cases hf : f = 0
    · subst hf
      rcases hz with rfl | rfl | rfl | rfl
      all_goals
        refine same_of _ _ _ _ _ _ _ _ _ _ _ _ _ _ _ _ _ _ _ _ _ [(⟨#[114, 114]⟩ : ByteArray), (⟨#[109, 114]⟩ : ByteArray), (⟨#[114, 105]⟩ : ByteArray), (⟨#[109, 105]⟩ : ByteArray)] (fitsV m2 _) rfl rfl (by rw [hsh]; rfl) rfl rfl con1 rfl rfl (fun _ => .inl rfl) (fun _ => .inl rfl) rfl rfl ?_
        · intro hT h3
          by_cases c3 : k2 = 3
          · subst c3
            unfold numV
            rw [sfit m2 _ hm (by omega)]
            first | (simp [inV, mn]; done) | (simp [inV, mn]; grind)
          · rw [h3 c3, fit0 _ (by omega)]
            simp [c3, inV]
    · refine same_no _ _ _ _ _ _ _ _ _ _ _ _ _ _ _ _ _ _ _ _ _ (.inr ?_) (.inr ?_) <;> (first | exact beq_eq_false_iff_ne.mpr hf | (show (f == 0) = false; exact beq_eq_false_iff_ne.mpr hf))
  · refine same_no _ _ _ _ _ _ _ _ _ _ _ _ _ _ _ _ _ _ _ _ _ (.inl ?_) (.inl ?_)
    · have : sizeV z = false := by
        rw [← Bool.not_eq_true]
        simp only [Bool.and_eq_true, sizeV_true, decide_eq_true_eq, beq_iff_eq]
        omega
      rw [hsh, this]; simp
    · unfold foundV
      simp only [List.any_cons, List.any_nil, Bool.or_false, Bool.or_eq_false_iff, beq_eq_false_iff_ne]
      omega
theorem vg3 (o z c f k1 r1 b1 i1 s1 d1 m1 k2 r2 b2 i2 s2 d2 m2 n : Int) (ho : o = 11 ∨ o = 12 ∨ o = 18 ∨ o = 19) (hm : I64 m2) : sV o z c f k1 r1 b1 i1 s1 d1 m1 k2 r2 b2 i2 s2 d2 m2 n = iV [1, 2, 4, 8] (⟨#[114, 45, 32, 109, 45]⟩ : ByteArray) o z c f k1 r1 b1 i1 s1 d1 m1 k2 r2 b2 i2 s2 d2 m2 n := by
  have hsh : shapeV o z c f k1 r1 b1 i1 s1 d1 m1 k2 r2 b2 i2 s2 d2 m2 n = (sizeV z && (twoV k1 k2 [(⟨#[114, 48]⟩ : ByteArray), (⟨#[109, 48]⟩ : ByteArray)])) := by rcases ho with rfl | rfl | rfl | rfl <;> rfl
  rcases ho with rfl | rfl | rfl | rfl
  all_goals
    by_cases hz : z = 1 ∨ z = 2 ∨ z = 4 ∨ z = 8
    · by_cases hf : f = 0
      · subst hf
        rcases hz with rfl | rfl | rfl | rfl
        all_goals
          refine same_of _ _ _ _ _ _ _ _ _ _ _ _ _ _ _ _ _ _ _ _ _ [(⟨#[114, 48]⟩ : ByteArray), (⟨#[109, 48]⟩ : ByteArray)] (true) rfl rfl (by rw [hsh]; cases (twoV k1 k2 [(⟨#[114, 48]⟩ : ByteArray), (⟨#[109, 48]⟩ : ByteArray)]) <;> rfl) rfl rfl con2 rfl rfl (fun _ => .inl rfl) (fun _ => .inl rfl) rfl rfl ?_
          · intro hT h3
            have c3 : k2 ≠ 3 := by
              rintro rfl
              rw [tw2] at hT
              simp [kindV] at hT
            simp [c3, inV]
      · refine same_no _ _ _ _ _ _ _ _ _ _ _ _ _ _ _ _ _ _ _ _ _ (.inr ?_) (.inr ?_) <;> (first | exact beq_eq_false_iff_ne.mpr hf | (show (f == 0) = false; exact beq_eq_false_iff_ne.mpr hf))
    · refine same_no _ _ _ _ _ _ _ _ _ _ _ _ _ _ _ _ _ _ _ _ _ (.inl ?_) (.inl ?_)
      · have : sizeV z = false := by
          rw [← Bool.not_eq_true]
          simp only [Bool.and_eq_true, sizeV_true, decide_eq_true_eq, beq_iff_eq]
          omega
        rw [hsh, this]; simp
      · unfold foundV
        simp only [List.any_cons, List.any_nil, Bool.or_false, Bool.or_eq_false_iff, beq_eq_false_iff_ne]
        omega
theorem vg4 (o z c f k1 r1 b1 i1 s1 d1 m1 k2 r2 b2 i2 s2 d2 m2 n : Int) (ho : o = 13 ∨ o = 14 ∨ o = 15 ∨ o = 16) (hm : I64 m2) : sV o z c f k1 r1 b1 i1 s1 d1 m1 k2 r2 b2 i2 s2 d2 m2 n = iV [1, 2, 4, 8] (⟨#[45, 114, 32, 45, 109]⟩ : ByteArray) o z c f k1 r1 b1 i1 s1 d1 m1 k2 r2 b2 i2 s2 d2 m2 n := by
  have hsh : shapeV o z c f k1 r1 b1 i1 s1 d1 m1 k2 r2 b2 i2 s2 d2 m2 n = (sizeV z && (twoV k1 k2 [(⟨#[48, 114]⟩ : ByteArray), (⟨#[48, 109]⟩ : ByteArray)])) := by rcases ho with rfl | rfl | rfl | rfl <;> rfl
  rcases ho with rfl | rfl | rfl | rfl
  all_goals
    by_cases hz : z = 1 ∨ z = 2 ∨ z = 4 ∨ z = 8
    · by_cases hf : f = 0
      · subst hf
        rcases hz with rfl | rfl | rfl | rfl
        all_goals
          refine same_of _ _ _ _ _ _ _ _ _ _ _ _ _ _ _ _ _ _ _ _ _ [(⟨#[48, 114]⟩ : ByteArray), (⟨#[48, 109]⟩ : ByteArray)] (true) rfl rfl (by rw [hsh]; cases (twoV k1 k2 [(⟨#[48, 114]⟩ : ByteArray), (⟨#[48, 109]⟩ : ByteArray)]) <;> rfl) rfl rfl con3 rfl rfl (fun _ => .inl rfl) (fun _ => .inl rfl) rfl rfl ?_
          · intro hT h3
            have c3 : k2 ≠ 3 := by
              rintro rfl
              rw [tw3] at hT
              simp [kindV] at hT
            simp [c3, inV]
      · refine same_no _ _ _ _ _ _ _ _ _ _ _ _ _ _ _ _ _ _ _ _ _ (.inr ?_) (.inr ?_) <;> (first | exact beq_eq_false_iff_ne.mpr hf | (show (f == 0) = false; exact beq_eq_false_iff_ne.mpr hf))
    · refine same_no _ _ _ _ _ _ _ _ _ _ _ _ _ _ _ _ _ _ _ _ _ (.inl ?_) (.inl ?_)
      · have : sizeV z = false := by
          rw [← Bool.not_eq_true]
          simp only [Bool.and_eq_true, sizeV_true, decide_eq_true_eq, beq_iff_eq]
          omega
        rw [hsh, this]; simp
      · unfold foundV
        simp only [List.any_cons, List.any_nil, Bool.or_false, Bool.or_eq_false_iff, beq_eq_false_iff_ne]
        omega
theorem vg5 (o z c f k1 r1 b1 i1 s1 d1 m1 k2 r2 b2 i2 s2 d2 m2 n : Int) (ho : o = 17 ∨ o = 36) (hm : I64 m2) : sV o z c f k1 r1 b1 i1 s1 d1 m1 k2 r2 b2 i2 s2 d2 m2 n = iV [2, 4, 8] (⟨#[114, 114, 32, 114, 109]⟩ : ByteArray) o z c f k1 r1 b1 i1 s1 d1 m1 k2 r2 b2 i2 s2 d2 m2 n := by
  have hsh : shapeV o z c f k1 r1 b1 i1 s1 d1 m1 k2 r2 b2 i2 s2 d2 m2 n = ((sizeV z && decide (z > 1)) && (twoV k1 k2 [(⟨#[114, 114]⟩ : ByteArray), (⟨#[114, 109]⟩ : ByteArray)])) := by rcases ho with rfl | rfl <;> rfl
  rcases ho with rfl | rfl
  all_goals
    by_cases hz : z = 2 ∨ z = 4 ∨ z = 8
    · by_cases hf : f = 0
      · subst hf
        rcases hz with rfl | rfl | rfl
        all_goals
          refine same_of _ _ _ _ _ _ _ _ _ _ _ _ _ _ _ _ _ _ _ _ _ [(⟨#[114, 114]⟩ : ByteArray), (⟨#[114, 109]⟩ : ByteArray)] (true) rfl rfl (by rw [hsh]; cases (twoV k1 k2 [(⟨#[114, 114]⟩ : ByteArray), (⟨#[114, 109]⟩ : ByteArray)]) <;> rfl) rfl rfl con4 rfl rfl (fun _ => .inl rfl) (fun _ => .inl rfl) rfl rfl ?_
          · intro hT h3
            have c3 : k2 ≠ 3 := by
              rintro rfl
              rw [tw4] at hT
              simp [kindV] at hT
            simp [c3, inV]
      · refine same_no _ _ _ _ _ _ _ _ _ _ _ _ _ _ _ _ _ _ _ _ _ (.inr ?_) (.inr ?_) <;> (first | exact beq_eq_false_iff_ne.mpr hf | (show (f == 0) = false; exact beq_eq_false_iff_ne.mpr hf))
    · refine same_no _ _ _ _ _ _ _ _ _ _ _ _ _ _ _ _ _ _ _ _ _ (.inl ?_) (.inl ?_)
      · have : (sizeV z && decide (z > 1)) = false := by
          rw [← Bool.not_eq_true]
          simp only [Bool.and_eq_true, sizeV_true, decide_eq_true_eq, beq_iff_eq]
          omega
        rw [hsh, this]; simp
      · unfold foundV
        simp only [List.any_cons, List.any_nil, Bool.or_false, Bool.or_eq_false_iff, beq_eq_false_iff_ne]
        omega
theorem vg6 (o z c f k1 r1 b1 i1 s1 d1 m1 k2 r2 b2 i2 s2 d2 m2 n : Int) (ho : o = 20 ∨ o = 21 ∨ o = 22 ∨ o = 23 ∨ o = 24) (hm : I64 m2) : sV o z c f k1 r1 b1 i1 s1 d1 m1 k2 r2 b2 i2 s2 d2 m2 n = iV [1, 2, 4, 8] (⟨#[114, 114, 32, 109, 114, 32, 114, 105, 32, 109, 105]⟩ : ByteArray) o z c f k1 r1 b1 i1 s1 d1 m1 k2 r2 b2 i2 s2 d2 m2 n := by
  have hsh : shapeV o z c f k1 r1 b1 i1 s1 d1 m1 k2 r2 b2 i2 s2 d2 m2 n = (!((k2 == 1) && (r2 != 1)) && (sizeV z && (twoV k1 k2 [(⟨#[114, 114]⟩ : ByteArray), (⟨#[109, 114]⟩ : ByteArray), (⟨#[114, 105]⟩ : ByteArray), (⟨#[109, 105]⟩ : ByteArray)] && inV m2 0 255))) := by rcases ho with rfl | rfl | rfl | rfl | rfl <;> rfl
  rcases ho with rfl | rfl | rfl | rfl | rfl
  all_goals
    by_cases hz : z = 1 ∨ z = 2 ∨ z = 4 ∨ z = 8
    · by_cases hf : f = 0
      · subst hf
        rcases hz with rfl | rfl | rfl | rfl
        all_goals
          refine same_of _ _ _ _ _ _ _ _ _ _ _ _ _ _ _ _ _ _ _ _ _ [(⟨#[114, 114]⟩ : ByteArray), (⟨#[109, 114]⟩ : ByteArray), (⟨#[114, 105]⟩ : ByteArray), (⟨#[109, 105]⟩ : ByteArray)] (!((k2 == 1) && (r2 != 1)) && inV m2 0 255) rfl rfl (by rw [hsh]; cases (!((k2 == 1) && (r2 != 1))) <;> cases (twoV k1 k2 [(⟨#[114, 114]⟩ : ByteArray), (⟨#[109, 114]⟩ : ByteArray), (⟨#[114, 105]⟩ : ByteArray), (⟨#[109, 105]⟩ : ByteArray)]) <;> rfl) rfl rfl con1 rfl rfl (fun _ => .inl rfl) (fun _ => .inl rfl) rfl rfl ?_
          · intro hT h3
            by_cases c3 : k2 = 3
            · subst c3
              unfold numV
              simp [inV]
            · rw [h3 c3]
              simp [c3, inV]
      · refine same_no _ _ _ _ _ _ _ _ _ _ _ _ _ _ _ _ _ _ _ _ _ (.inr ?_) (.inr ?_) <;> (first | exact beq_eq_false_iff_ne.mpr hf | (show (f == 0) = false; exact beq_eq_false_iff_ne.mpr hf))
    · refine same_no _ _ _ _ _ _ _ _ _ _ _ _ _ _ _ _ _ _ _ _ _ (.inl ?_) (.inl ?_)
      · have : sizeV z = false := by
          rw [← Bool.not_eq_true]
          simp only [Bool.and_eq_true, sizeV_true, decide_eq_true_eq, beq_iff_eq]
          omega
        rw [hsh, this]; simp
      · unfold foundV
        simp only [List.any_cons, List.any_nil, Bool.or_false, Bool.or_eq_false_iff, beq_eq_false_iff_ne]
        omega
theorem vg7 (o z c f k1 r1 b1 i1 s1 d1 m1 k2 r2 b2 i2 s2 d2 m2 n : Int) (ho : o = 25) (hm : I64 m2) : sV o z c f k1 r1 b1 i1 s1 d1 m1 k2 r2 b2 i2 s2 d2 m2 n = iV [2, 4, 8] (⟨#[114, 109]⟩ : ByteArray) o z c f k1 r1 b1 i1 s1 d1 m1 k2 r2 b2 i2 s2 d2 m2 n := by
  subst ho
  have hsh : shapeV 25 z c f k1 r1 b1 i1 s1 d1 m1 k2 r2 b2 i2 s2 d2 m2 n = ((sizeV z && decide (z > 1)) && (twoV k1 k2 [(⟨#[114, 109]⟩ : ByteArray)])) := rfl
  by_cases hz : z = 2 ∨ z = 4 ∨ z = 8
  · by_cases hf : f = 0
    · subst hf
      rcases hz with rfl | rfl | rfl
      all_goals
        refine same_of _ _ _ _ _ _ _ _ _ _ _ _ _ _ _ _ _ _ _ _ _ [(⟨#[114, 109]⟩ : ByteArray)] (true) rfl rfl (by rw [hsh]; cases (twoV k1 k2 [(⟨#[114, 109]⟩ : ByteArray)]) <;> rfl) rfl rfl con5 rfl rfl (fun _ => .inl rfl) (fun _ => .inl rfl) rfl rfl ?_
        · intro hT h3
          have c3 : k2 ≠ 3 := by
            rintro rfl
            rw [tw5] at hT
            simp [kindV] at hT
          simp [c3, inV]
    · refine same_no _ _ _ _ _ _ _ _ _ _ _ _ _ _ _ _ _ _ _ _ _ (.inr ?_) (.inr ?_) <;> (first | exact beq_eq_false_iff_ne.mpr hf | (show (f == 0) = false; exact beq_eq_false_iff_ne.mpr hf))
  · refine same_no _ _ _ _ _ _ _ _ _ _ _ _ _ _ _ _ _ _ _ _ _ (.inl ?_) (.inl ?_)
    · have : (sizeV z && decide (z > 1)) = false := by
        rw [← Bool.not_eq_true]
        simp only [Bool.and_eq_true, sizeV_true, decide_eq_true_eq, beq_iff_eq]
        omega
      rw [hsh, this]; simp
    · unfold foundV
      simp only [List.any_cons, List.any_nil, Bool.or_false, Bool.or_eq_false_iff, beq_eq_false_iff_ne]
      omega
theorem vg8 (o z c f k1 r1 b1 i1 s1 d1 m1 k2 r2 b2 i2 s2 d2 m2 n : Int) (ho : o = 26) (hm : I64 m2) : sV o z c f k1 r1 b1 i1 s1 d1 m1 k2 r2 b2 i2 s2 d2 m2 n = iV [2, 4, 8] (⟨#[114, 114, 32, 114, 109]⟩ : ByteArray) o z c f k1 r1 b1 i1 s1 d1 m1 k2 r2 b2 i2 s2 d2 m2 n := by
  subst ho
  have hsh : shapeV 26 z c f k1 r1 b1 i1 s1 d1 m1 k2 r2 b2 i2 s2 d2 m2 n = (((twoV k1 k2 [(⟨#[114, 114]⟩ : ByteArray), (⟨#[114, 109]⟩ : ByteArray)]) && (sizeV z && decide (z > 1))) && ((f == 1) || (((f == 2) && decide (z > 2)) || ((f == 4) && ((z == 8) && ((26 : Int) == 27)))))) := rfl
  by_cases hz : z = 2 ∨ z = 4 ∨ z = 8
  · rcases hz with rfl | rfl | rfl
    · by_cases hf : f = 1
      · subst hf
        · refine same_of _ _ _ _ _ _ _ _ _ _ _ _ _ _ _ _ _ _ _ _ _ [(⟨#[114, 114]⟩ : ByteArray), (⟨#[114, 109]⟩ : ByteArray)] (true) rfl rfl (by rw [hsh]; cases (twoV k1 k2 [(⟨#[114, 114]⟩ : ByteArray), (⟨#[114, 109]⟩ : ByteArray)]) <;> rfl) rfl rfl con4 rfl rfl (fun _ => .inl rfl) (fun _ => .inl rfl) rfl rfl ?_
          · intro hT h3
            have c3 : k2 ≠ 3 := by
              rintro rfl
              rw [tw4] at hT
              simp [kindV] at hT
            simp [c3, inV]
      · have hfv : fromV 26 2 f = false := by
          unfold fromV
          rw [← Bool.not_eq_true]
          simp only [if_true, if_neg (by decide : ¬ (27 : Int) = 26), Bool.or_eq_true, Bool.and_eq_true, beq_iff_eq, decide_eq_true_eq]
          omega
        refine same_no _ _ _ _ _ _ _ _ _ _ _ _ _ _ _ _ _ _ _ _ _ (.inl ?_) (.inr hfv)
        rw [hsh]
        have : ((f == 1) || (((f == 2) && decide ((2 : Int) > 2)) || ((f == 4) && (((2 : Int) == 8) && ((26 : Int) == 27))))) = false := by
          rw [← Bool.not_eq_true]
          simp only [Bool.or_eq_true, Bool.and_eq_true, beq_iff_eq, decide_eq_true_eq]
          omega
        rw [this]; simp
    · by_cases hf : f = 1 ∨ f = 2
      · rcases hf with rfl | rfl
        · refine same_of _ _ _ _ _ _ _ _ _ _ _ _ _ _ _ _ _ _ _ _ _ [(⟨#[114, 114]⟩ : ByteArray), (⟨#[114, 109]⟩ : ByteArray)] (true) rfl rfl (by rw [hsh]; cases (twoV k1 k2 [(⟨#[114, 114]⟩ : ByteArray), (⟨#[114, 109]⟩ : ByteArray)]) <;> rfl) rfl rfl con4 rfl rfl (fun _ => .inl rfl) (fun _ => .inl rfl) rfl rfl ?_
          · intro hT h3
            have c3 : k2 ≠ 3 := by
              rintro rfl
              rw [tw4] at hT
              simp [kindV] at hT
            simp [c3, inV]
        · refine same_of _ _ _ _ _ _ _ _ _ _ _ _ _ _ _ _ _ _ _ _ _ [(⟨#[114, 114]⟩ : ByteArray), (⟨#[114, 109]⟩ : ByteArray)] (true) rfl rfl (by rw [hsh]; cases (twoV k1 k2 [(⟨#[114, 114]⟩ : ByteArray), (⟨#[114, 109]⟩ : ByteArray)]) <;> rfl) rfl rfl con4 rfl rfl (fun _ => .inl rfl) (fun _ => .inl rfl) rfl rfl ?_
          · intro hT h3
            have c3 : k2 ≠ 3 := by
              rintro rfl
              rw [tw4] at hT
              simp [kindV] at hT
            simp [c3, inV]
      · have hfv : fromV 26 4 f = false := by
          unfold fromV
          rw [← Bool.not_eq_true]
          simp only [if_true, if_neg (by decide : ¬ (27 : Int) = 26), Bool.or_eq_true, Bool.and_eq_true, beq_iff_eq, decide_eq_true_eq]
          omega
        refine same_no _ _ _ _ _ _ _ _ _ _ _ _ _ _ _ _ _ _ _ _ _ (.inl ?_) (.inr hfv)
        rw [hsh]
        have : ((f == 1) || (((f == 2) && decide ((4 : Int) > 2)) || ((f == 4) && (((4 : Int) == 8) && ((26 : Int) == 27))))) = false := by
          rw [← Bool.not_eq_true]
          simp only [Bool.or_eq_true, Bool.and_eq_true, beq_iff_eq, decide_eq_true_eq]
          omega
        rw [this]; simp
    · by_cases hf : f = 1 ∨ f = 2
      · rcases hf with rfl | rfl
        · refine same_of _ _ _ _ _ _ _ _ _ _ _ _ _ _ _ _ _ _ _ _ _ [(⟨#[114, 114]⟩ : ByteArray), (⟨#[114, 109]⟩ : ByteArray)] (true) rfl rfl (by rw [hsh]; cases (twoV k1 k2 [(⟨#[114, 114]⟩ : ByteArray), (⟨#[114, 109]⟩ : ByteArray)]) <;> rfl) rfl rfl con4 rfl rfl (fun _ => .inl rfl) (fun _ => .inl rfl) rfl rfl ?_
          · intro hT h3
            have c3 : k2 ≠ 3 := by
              rintro rfl
              rw [tw4] at hT
              simp [kindV] at hT
            simp [c3, inV]
        · refine same_of _ _ _ _ _ _ _ _ _ _ _ _ _ _ _ _ _ _ _ _ _ [(⟨#[114, 114]⟩ : ByteArray), (⟨#[114, 109]⟩ : ByteArray)] (true) rfl rfl (by rw [hsh]; cases (twoV k1 k2 [(⟨#[114, 114]⟩ : ByteArray), (⟨#[114, 109]⟩ : ByteArray)]) <;> rfl) rfl rfl con4 rfl rfl (fun _ => .inl rfl) (fun _ => .inl rfl) rfl rfl ?_
          · intro hT h3
            have c3 : k2 ≠ 3 := by
              rintro rfl
              rw [tw4] at hT
              simp [kindV] at hT
            simp [c3, inV]
      · have hfv : fromV 26 8 f = false := by
          unfold fromV
          rw [← Bool.not_eq_true]
          simp only [if_true, if_neg (by decide : ¬ (27 : Int) = 26), Bool.or_eq_true, Bool.and_eq_true, beq_iff_eq, decide_eq_true_eq]
          omega
        refine same_no _ _ _ _ _ _ _ _ _ _ _ _ _ _ _ _ _ _ _ _ _ (.inl ?_) (.inr hfv)
        rw [hsh]
        have : ((f == 1) || (((f == 2) && decide ((8 : Int) > 2)) || ((f == 4) && (((8 : Int) == 8) && ((26 : Int) == 27))))) = false := by
          rw [← Bool.not_eq_true]
          simp only [Bool.or_eq_true, Bool.and_eq_true, beq_iff_eq, decide_eq_true_eq]
          omega
        rw [this]; simp
  · refine same_no _ _ _ _ _ _ _ _ _ _ _ _ _ _ _ _ _ _ _ _ _ (.inl ?_) (.inl ?_)
    · have : (sizeV z && decide (z > 1)) = false := by
        rw [← Bool.not_eq_true]
        simp only [Bool.and_eq_true, sizeV_true, decide_eq_true_eq, beq_iff_eq]
        omega
      rw [hsh, this]; simp
    · unfold foundV
      simp only [List.any_cons, List.any_nil, Bool.or_false, Bool.or_eq_false_iff, beq_eq_false_iff_ne]
      omega
theorem vg9 (o z c f k1 r1 b1 i1 s1 d1 m1 k2 r2 b2 i2 s2 d2 m2 n : Int) (ho : o = 27) (hm : I64 m2) : sV o z c f k1 r1 b1 i1 s1 d1 m1 k2 r2 b2 i2 s2 d2 m2 n = iV [2, 4, 8] (⟨#[114, 114, 32, 114, 109]⟩ : ByteArray) o z c f k1 r1 b1 i1 s1 d1 m1 k2 r2 b2 i2 s2 d2 m2 n := by
  subst ho
  have hsh : shapeV 27 z c f k1 r1 b1 i1 s1 d1 m1 k2 r2 b2 i2 s2 d2 m2 n = (((twoV k1 k2 [(⟨#[114, 114]⟩ : ByteArray), (⟨#[114, 109]⟩ : ByteArray)]) && (sizeV z && decide (z > 1))) && ((f == 1) || (((f == 2) && decide (z > 2)) || ((f == 4) && ((z == 8) && ((27 : Int) == 27)))))) := rfl
  by_cases hz : z = 2 ∨ z = 4 ∨ z = 8
  · rcases hz with rfl | rfl | rfl
    · by_cases hf : f = 1
      · subst hf
        · refine same_of _ _ _ _ _ _ _ _ _ _ _ _ _ _ _ _ _ _ _ _ _ [(⟨#[114, 114]⟩ : ByteArray), (⟨#[114, 109]⟩ : ByteArray)] (true) rfl rfl (by rw [hsh]; cases (twoV k1 k2 [(⟨#[114, 114]⟩ : ByteArray), (⟨#[114, 109]⟩ : ByteArray)]) <;> rfl) rfl rfl con4 rfl rfl (fun _ => .inl rfl) (fun _ => .inl rfl) rfl rfl ?_
          · intro hT h3
            have c3 : k2 ≠ 3 := by
              rintro rfl
              rw [tw4] at hT
              simp [kindV] at hT
            simp [c3, inV]
      · have hfv : fromV 27 2 f = false := by
          unfold fromV
          rw [← Bool.not_eq_true]
          simp only [if_true, if_neg (by decide : ¬ (27 : Int) = 26), Bool.or_eq_true, Bool.and_eq_true, beq_iff_eq, decide_eq_true_eq]
          omega
        refine same_no _ _ _ _ _ _ _ _ _ _ _ _ _ _ _ _ _ _ _ _ _ (.inl ?_) (.inr hfv)
        rw [hsh]
        have : ((f == 1) || (((f == 2) && decide ((2 : Int) > 2)) || ((f == 4) && (((2 : Int) == 8) && ((27 : Int) == 27))))) = false := by
          rw [← Bool.not_eq_true]
          simp only [Bool.or_eq_true, Bool.and_eq_true, beq_iff_eq, decide_eq_true_eq]
          omega
        rw [this]; simp
    · by_cases hf : f = 1 ∨ f = 2
      · rcases hf with rfl | rfl
        · refine same_of _ _ _ _ _ _ _ _ _ _ _ _ _ _ _ _ _ _ _ _ _ [(⟨#[114, 114]⟩ : ByteArray), (⟨#[114, 109]⟩ : ByteArray)] (true) rfl rfl (by rw [hsh]; cases (twoV k1 k2 [(⟨#[114, 114]⟩ : ByteArray), (⟨#[114, 109]⟩ : ByteArray)]) <;> rfl) rfl rfl con4 rfl rfl (fun _ => .inl rfl) (fun _ => .inl rfl) rfl rfl ?_
          · intro hT h3
            have c3 : k2 ≠ 3 := by
              rintro rfl
              rw [tw4] at hT
              simp [kindV] at hT
            simp [c3, inV]
        · refine same_of _ _ _ _ _ _ _ _ _ _ _ _ _ _ _ _ _ _ _ _ _ [(⟨#[114, 114]⟩ : ByteArray), (⟨#[114, 109]⟩ : ByteArray)] (true) rfl rfl (by rw [hsh]; cases (twoV k1 k2 [(⟨#[114, 114]⟩ : ByteArray), (⟨#[114, 109]⟩ : ByteArray)]) <;> rfl) rfl rfl con4 rfl rfl (fun _ => .inl rfl) (fun _ => .inl rfl) rfl rfl ?_
          · intro hT h3
            have c3 : k2 ≠ 3 := by
              rintro rfl
              rw [tw4] at hT
              simp [kindV] at hT
            simp [c3, inV]
      · have hfv : fromV 27 4 f = false := by
          unfold fromV
          rw [← Bool.not_eq_true]
          simp only [if_true, if_neg (by decide : ¬ (27 : Int) = 26), Bool.or_eq_true, Bool.and_eq_true, beq_iff_eq, decide_eq_true_eq]
          omega
        refine same_no _ _ _ _ _ _ _ _ _ _ _ _ _ _ _ _ _ _ _ _ _ (.inl ?_) (.inr hfv)
        rw [hsh]
        have : ((f == 1) || (((f == 2) && decide ((4 : Int) > 2)) || ((f == 4) && (((4 : Int) == 8) && ((27 : Int) == 27))))) = false := by
          rw [← Bool.not_eq_true]
          simp only [Bool.or_eq_true, Bool.and_eq_true, beq_iff_eq, decide_eq_true_eq]
          omega
        rw [this]; simp
    · by_cases hf : f = 1 ∨ f = 2 ∨ f = 4
      · rcases hf with rfl | rfl | rfl
        · refine same_of _ _ _ _ _ _ _ _ _ _ _ _ _ _ _ _ _ _ _ _ _ [(⟨#[114, 114]⟩ : ByteArray), (⟨#[114, 109]⟩ : ByteArray)] (true) rfl rfl (by rw [hsh]; cases (twoV k1 k2 [(⟨#[114, 114]⟩ : ByteArray), (⟨#[114, 109]⟩ : ByteArray)]) <;> rfl) rfl rfl con4 rfl rfl (fun _ => .inl rfl) (fun _ => .inl rfl) rfl rfl ?_
          · intro hT h3
            have c3 : k2 ≠ 3 := by
              rintro rfl
              rw [tw4] at hT
              simp [kindV] at hT
            simp [c3, inV]
        · refine same_of _ _ _ _ _ _ _ _ _ _ _ _ _ _ _ _ _ _ _ _ _ [(⟨#[114, 114]⟩ : ByteArray), (⟨#[114, 109]⟩ : ByteArray)] (true) rfl rfl (by rw [hsh]; cases (twoV k1 k2 [(⟨#[114, 114]⟩ : ByteArray), (⟨#[114, 109]⟩ : ByteArray)]) <;> rfl) rfl rfl con4 rfl rfl (fun _ => .inl rfl) (fun _ => .inl rfl) rfl rfl ?_
          · intro hT h3
            have c3 : k2 ≠ 3 := by
              rintro rfl
              rw [tw4] at hT
              simp [kindV] at hT
            simp [c3, inV]
        · refine same_of _ _ _ _ _ _ _ _ _ _ _ _ _ _ _ _ _ _ _ _ _ [(⟨#[114, 114]⟩ : ByteArray), (⟨#[114, 109]⟩ : ByteArray)] (true) rfl rfl (by rw [hsh]; cases (twoV k1 k2 [(⟨#[114, 114]⟩ : ByteArray), (⟨#[114, 109]⟩ : ByteArray)]) <;> rfl) rfl rfl con4 rfl rfl (fun _ => .inl rfl) (fun _ => .inl rfl) rfl rfl ?_
          · intro hT h3
            have c3 : k2 ≠ 3 := by
              rintro rfl
              rw [tw4] at hT
              simp [kindV] at hT
            simp [c3, inV]
      · have hfv : fromV 27 8 f = false := by
          unfold fromV
          rw [← Bool.not_eq_true]
          simp only [if_true, if_neg (by decide : ¬ (27 : Int) = 26), Bool.or_eq_true, Bool.and_eq_true, beq_iff_eq, decide_eq_true_eq]
          omega
        refine same_no _ _ _ _ _ _ _ _ _ _ _ _ _ _ _ _ _ _ _ _ _ (.inl ?_) (.inr hfv)
        rw [hsh]
        have : ((f == 1) || (((f == 2) && decide ((8 : Int) > 2)) || ((f == 4) && (((8 : Int) == 8) && ((27 : Int) == 27))))) = false := by
          rw [← Bool.not_eq_true]
          simp only [Bool.or_eq_true, Bool.and_eq_true, beq_iff_eq, decide_eq_true_eq]
          omega
        rw [this]; simp
  · refine same_no _ _ _ _ _ _ _ _ _ _ _ _ _ _ _ _ _ _ _ _ _ (.inl ?_) (.inl ?_)
    · have : (sizeV z && decide (z > 1)) = false := by
        rw [← Bool.not_eq_true]
        simp only [Bool.and_eq_true, sizeV_true, decide_eq_true_eq, beq_iff_eq]
        omega
      rw [hsh, this]; simp
    · unfold foundV
      simp only [List.any_cons, List.any_nil, Bool.or_false, Bool.or_eq_false_iff, beq_eq_false_iff_ne]
      omega
theorem vg10 (o z c f k1 r1 b1 i1 s1 d1 m1 k2 r2 b2 i2 s2 d2 m2 n : Int) (ho : o = 28) (hm : I64 m2) : sV o z c f k1 r1 b1 i1 s1 d1 m1 k2 r2 b2 i2 s2 d2 m2 n = iV [1, 2, 4, 8] (⟨#[114, 114, 32, 109, 114]⟩ : ByteArray) o z c f k1 r1 b1 i1 s1 d1 m1 k2 r2 b2 i2 s2 d2 m2 n := by
  subst ho
  have hsh : shapeV 28 z c f k1 r1 b1 i1 s1 d1 m1 k2 r2 b2 i2 s2 d2 m2 n = (sizeV z && (twoV k1 k2 [(⟨#[114, 114]⟩ : ByteArray), (⟨#[109, 114]⟩ : ByteArray)])) := rfl
  by_cases hz : z = 1 ∨ z = 2 ∨ z = 4 ∨ z = 8
  · by_cases hf : f = 0
    · subst hf
      rcases hz with rfl | rfl | rfl | rfl
      all_goals
        refine same_of _ _ _ _ _ _ _ _ _ _ _ _ _ _ _ _ _ _ _ _ _ [(⟨#[114, 114]⟩ : ByteArray), (⟨#[109, 114]⟩ : ByteArray)] (true) rfl rfl (by rw [hsh]; cases (twoV k1 k2 [(⟨#[114, 114]⟩ : ByteArray), (⟨#[109, 114]⟩ : ByteArray)]) <;> rfl) rfl rfl con6 rfl rfl (fun _ => .inl rfl) (fun _ => .inl rfl) rfl rfl ?_
        · intro hT h3
          have c3 : k2 ≠ 3 := by
            rintro rfl
            rw [tw6] at hT
            simp [kindV] at hT
          simp [c3, inV]
    · refine same_no _ _ _ _ _ _ _ _ _ _ _ _ _ _ _ _ _ _ _ _ _ (.inr ?_) (.inr ?_) <;> (first | exact beq_eq_false_iff_ne.mpr hf | (show (f == 0) = false; exact beq_eq_false_iff_ne.mpr hf))
  · refine same_no _ _ _ _ _ _ _ _ _ _ _ _ _ _ _ _ _ _ _ _ _ (.inl ?_) (.inl ?_)
    · have : sizeV z = false := by
        rw [← Bool.not_eq_true]
        simp only [Bool.and_eq_true, sizeV_true, decide_eq_true_eq, beq_iff_eq]
        omega
      rw [hsh, this]; simp
    · unfold foundV
      simp only [List.any_cons, List.any_nil, Bool.or_false, Bool.or_eq_false_iff, beq_eq_false_iff_ne]
      omega
theorem vg11 (o z c f k1 r1 b1 i1 s1 d1 m1 k2 r2 b2 i2 s2 d2 m2 n : Int) (ho : o = 29 ∨ o = 31 ∨ o = 32) (hm : I64 m2) : sV o z c f k1 r1 b1 i1 s1 d1 m1 k2 r2 b2 i2 s2 d2 m2 n = iV [8] (⟨#[45, 114, 32, 45, 109, 32, 45, 105]⟩ : ByteArray) o z c f k1 r1 b1 i1 s1 d1 m1 k2 r2 b2 i2 s2 d2 m2 n := by
  have hsh : shapeV o z c f k1 r1 b1 i1 s1 d1 m1 k2 r2 b2 i2 s2 d2 m2 n = ((z == 8) && (twoV k1 k2 [(⟨#[48, 114]⟩ : ByteArray), (⟨#[48, 109]⟩ : ByteArray), (⟨#[48, 105]⟩ : ByteArray)] && fitsV m2 4)) := by rcases ho with rfl | rfl | rfl <;> rfl
  rcases ho with rfl | rfl | rfl
  all_goals
    by_cases hz : z = 8
    · by_cases hf : f = 0
      · subst hf
        subst hz
        · refine same_of _ _ _ _ _ _ _ _ _ _ _ _ _ _ _ _ _ _ _ _ _ [(⟨#[48, 114]⟩ : ByteArray), (⟨#[48, 109]⟩ : ByteArray), (⟨#[48, 105]⟩ : ByteArray)] (fitsV m2 4) rfl rfl (by rw [hsh]; rfl) rfl rfl con7 rfl rfl (fun _ => .inl rfl) (fun _ => .inl rfl) rfl rfl ?_
          · intro hT h3
            by_cases c3 : k2 = 3
            · subst c3
              unfold numV
              rw [sfit m2 4 hm (by omega)]
              first | (simp [inV, mn]; done) | (simp [inV, mn]; grind)
            · rw [h3 c3, fit0 4 (by omega)]
              simp [c3, inV]
      · refine same_no _ _ _ _ _ _ _ _ _ _ _ _ _ _ _ _ _ _ _ _ _ (.inr ?_) (.inr ?_) <;> (first | exact beq_eq_false_iff_ne.mpr hf | (show (f == 0) = false; exact beq_eq_false_iff_ne.mpr hf))
    · refine same_no _ _ _ _ _ _ _ _ _ _ _ _ _ _ _ _ _ _ _ _ _ (.inl ?_) (.inl ?_)
      · have : (z == 8) = false := by
          rw [← Bool.not_eq_true]
          simp only [Bool.and_eq_true, sizeV_true, decide_eq_true_eq, beq_iff_eq]
          omega
        rw [hsh, this]; simp
      · unfold foundV
        simp only [List.any_cons, List.any_nil, Bool.or_false, Bool.or_eq_false_iff, beq_eq_false_iff_ne]
        omega
theorem vg12 (o z c f k1 r1 b1 i1 s1 d1 m1 k2 r2 b2 i2 s2 d2 m2 n : Int) (ho : o = 30) (hm : I64 m2) : sV o z c f k1 r1 b1 i1 s1 d1 m1 k2 r2 b2 i2 s2 d2 m2 n = iV [8] (⟨#[114, 45, 32, 109, 45]⟩ : ByteArray) o z c f k1 r1 b1 i1 s1 d1 m1 k2 r2 b2 i2 s2 d2 m2 n := by
  subst ho
  have hsh : shapeV 30 z c f k1 r1 b1 i1 s1 d1 m1 k2 r2 b2 i2 s2 d2 m2 n = ((z == 8) && (twoV k1 k2 [(⟨#[114, 48]⟩ : ByteArray), (⟨#[109, 48]⟩ : ByteArray)])) := rfl
  by_cases hz : z = 8
  · by_cases hf : f = 0
    · subst hf
      subst hz
      · refine same_of _ _ _ _ _ _ _ _ _ _ _ _ _ _ _ _ _ _ _ _ _ [(⟨#[114, 48]⟩ : ByteArray), (⟨#[109, 48]⟩ : ByteArray)] (true) rfl rfl (by rw [hsh]; cases (twoV k1 k2 [(⟨#[114, 48]⟩ : ByteArray), (⟨#[109, 48]⟩ : ByteArray)]) <;> rfl) rfl rfl con2 rfl rfl (fun _ => .inl rfl) (fun _ => .inl rfl) rfl rfl ?_
        · intro hT h3
          have c3 : k2 ≠ 3 := by
            rintro rfl
            rw [tw2] at hT
            simp [kindV] at hT
          simp [c3, inV]
    · refine same_no _ _ _ _ _ _ _ _ _ _ _ _ _ _ _ _ _ _ _ _ _ (.inr ?_) (.inr ?_) <;> (first | exact beq_eq_false_iff_ne.mpr hf | (show (f == 0) = false; exact beq_eq_false_iff_ne.mpr hf))
  · refine same_no _ _ _ _ _ _ _ _ _ _ _ _ _ _ _ _ _ _ _ _ _ (.inl ?_) (.inl ?_)
    · have : (z == 8) = false := by
        rw [← Bool.not_eq_true]
        simp only [Bool.and_eq_true, sizeV_true, decide_eq_true_eq, beq_iff_eq]
        omega
      rw [hsh, this]; simp
    · unfold foundV
      simp only [List.any_cons, List.any_nil, Bool.or_false, Bool.or_eq_false_iff, beq_eq_false_iff_ne]
      omega
theorem vg13 (o z c f k1 r1 b1 i1 s1 d1 m1 k2 r2 b2 i2 s2 d2 m2 n : Int) (ho : o = 33) (hm : I64 m2) : sV o z c f k1 r1 b1 i1 s1 d1 m1 k2 r2 b2 i2 s2 d2 m2 n = iV [0] (⟨#[45, 105]⟩ : ByteArray) o z c f k1 r1 b1 i1 s1 d1 m1 k2 r2 b2 i2 s2 d2 m2 n := by
  subst ho
  have hsh : shapeV 33 z c f k1 r1 b1 i1 s1 d1 m1 k2 r2 b2 i2 s2 d2 m2 n = ((z == 0) && (twoV k1 k2 [(⟨#[48, 105]⟩ : ByteArray)] && fitsV m2 4)) := rfl
  by_cases hz : z = 0
  · by_cases hf : f = 0
    · subst hf
      subst hz
      · refine same_of _ _ _ _ _ _ _ _ _ _ _ _ _ _ _ _ _ _ _ _ _ [(⟨#[48, 105]⟩ : ByteArray)] (fitsV m2 4) rfl rfl (by rw [hsh]; rfl) rfl rfl con8 rfl rfl (fun hT => .inr (by rintro rfl; rw [tw8] at hT; simp [kindV] at hT)) (fun hT => .inr (by rintro rfl; rw [tw8] at hT; simp [kindV] at hT)) rfl rfl ?_
        · intro hT h3
          by_cases c3 : k2 = 3
          · subst c3
            unfold numV
            rw [sfit m2 4 hm (by omega)]
            first | (simp [inV, mn]; done) | (simp [inV, mn]; grind)
          · rw [h3 c3, fit0 4 (by omega)]
            simp [c3, inV]
    · refine same_no _ _ _ _ _ _ _ _ _ _ _ _ _ _ _ _ _ _ _ _ _ (.inr ?_) (.inr ?_) <;> (first | exact beq_eq_false_iff_ne.mpr hf | (show (f == 0) = false; exact beq_eq_false_iff_ne.mpr hf))
  · refine same_no _ _ _ _ _ _ _ _ _ _ _ _ _ _ _ _ _ _ _ _ _ (.inl ?_) (.inl ?_)
    · have : (z == 0) = false := by
        rw [← Bool.not_eq_true]
        simp only [Bool.and_eq_true, sizeV_true, decide_eq_true_eq, beq_iff_eq]
        omega
      rw [hsh, this]; simp
    · unfold foundV
      simp only [List.any_cons, List.any_nil, Bool.or_false, Bool.or_eq_false_iff, beq_eq_false_iff_ne]
      omega
theorem vg14 (o z c f k1 r1 b1 i1 s1 d1 m1 k2 r2 b2 i2 s2 d2 m2 n : Int) (ho : o = 34 ∨ o = 37 ∨ o = 38 ∨ o = 43) (hm : I64 m2) : sV o z c f k1 r1 b1 i1 s1 d1 m1 k2 r2 b2 i2 s2 d2 m2 n = iV [0] (⟨#[45, 45]⟩ : ByteArray) o z c f k1 r1 b1 i1 s1 d1 m1 k2 r2 b2 i2 s2 d2 m2 n := by
  have hsh : shapeV o z c f k1 r1 b1 i1 s1 d1 m1 k2 r2 b2 i2 s2 d2 m2 n = ((z == 0) && (twoV k1 k2 [(⟨#[48, 48]⟩ : ByteArray)])) := by rcases ho with rfl | rfl | rfl | rfl <;> rfl
  rcases ho with rfl | rfl | rfl | rfl
  all_goals
    by_cases hz : z = 0
    · by_cases hf : f = 0
      · subst hf
        subst hz
        · refine same_of _ _ _ _ _ _ _ _ _ _ _ _ _ _ _ _ _ _ _ _ _ [(⟨#[48, 48]⟩ : ByteArray)] (true) rfl rfl (by rw [hsh]; cases (twoV k1 k2 [(⟨#[48, 48]⟩ : ByteArray)]) <;> rfl) rfl rfl con9 rfl rfl (fun hT => .inr (by rintro rfl; rw [tw9] at hT; simp [kindV] at hT)) (fun hT => .inr (by rintro rfl; rw [tw9] at hT; simp [kindV] at hT)) rfl rfl ?_
          · intro hT h3
            have c3 : k2 ≠ 3 := by
              rintro rfl
              rw [tw9] at hT
              simp [kindV] at hT
            simp [c3, inV]
      · refine same_no _ _ _ _ _ _ _ _ _ _ _ _ _ _ _ _ _ _ _ _ _ (.inr ?_) (.inr ?_) <;> (first | exact beq_eq_false_iff_ne.mpr hf | (show (f == 0) = false; exact beq_eq_false_iff_ne.mpr hf))
    · refine same_no _ _ _ _ _ _ _ _ _ _ _ _ _ _ _ _ _ _ _ _ _ (.inl ?_) (.inl ?_)
      · have : (z == 0) = false := by
          rw [← Bool.not_eq_true]
          simp only [Bool.and_eq_true, sizeV_true, decide_eq_true_eq, beq_iff_eq]
          omega
        rw [hsh, this]; simp
      · unfold foundV
        simp only [List.any_cons, List.any_nil, Bool.or_false, Bool.or_eq_false_iff, beq_eq_false_iff_ne]
        omega
theorem vg15 (o z c f k1 r1 b1 i1 s1 d1 m1 k2 r2 b2 i2 s2 d2 m2 n : Int) (ho : o = 35) (hm : I64 m2) : sV o z c f k1 r1 b1 i1 s1 d1 m1 k2 r2 b2 i2 s2 d2 m2 n = iV [1] (⟨#[114, 45, 32, 109, 45]⟩ : ByteArray) o z c f k1 r1 b1 i1 s1 d1 m1 k2 r2 b2 i2 s2 d2 m2 n := by
  subst ho
  have hsh : shapeV 35 z c f k1 r1 b1 i1 s1 d1 m1 k2 r2 b2 i2 s2 d2 m2 n = ((z == 1) && (twoV k1 k2 [(⟨#[114, 48]⟩ : ByteArray), (⟨#[109, 48]⟩ : ByteArray)])) := rfl
  by_cases hz : z = 1
  · by_cases hf : f = 0
    · subst hf
      subst hz
      · refine same_of _ _ _ _ _ _ _ _ _ _ _ _ _ _ _ _ _ _ _ _ _ [(⟨#[114, 48]⟩ : ByteArray), (⟨#[109, 48]⟩ : ByteArray)] (true) rfl rfl (by rw [hsh]; cases (twoV k1 k2 [(⟨#[114, 48]⟩ : ByteArray), (⟨#[109, 48]⟩ : ByteArray)]) <;> rfl) rfl rfl con2 rfl rfl (fun _ => .inl rfl) (fun _ => .inl rfl) rfl rfl ?_
        · intro hT h3
          have c3 : k2 ≠ 3 := by
            rintro rfl
            rw [tw2] at hT
            simp [kindV] at hT
          simp [c3, inV]
    · refine same_no _ _ _ _ _ _ _ _ _ _ _ _ _ _ _ _ _ _ _ _ _ (.inr ?_) (.inr ?_) <;> (first | exact beq_eq_false_iff_ne.mpr hf | (show (f == 0) = false; exact beq_eq_false_iff_ne.mpr hf))
  · refine same_no _ _ _ _ _ _ _ _ _ _ _ _ _ _ _ _ _ _ _ _ _ (.inl ?_) (.inl ?_)
    · have : (z == 1) = false := by
        rw [← Bool.not_eq_true]
        simp only [Bool.and_eq_true, sizeV_true, decide_eq_true_eq, beq_iff_eq]
        omega
      rw [hsh, this]; simp
    · unfold foundV
      simp only [List.any_cons, List.any_nil, Bool.or_false, Bool.or_eq_false_iff, beq_eq_false_iff_ne]
      omega
theorem vg16 (o z c f k1 r1 b1 i1 s1 d1 m1 k2 r2 b2 i2 s2 d2 m2 n : Int) (ho : o = 39 ∨ o = 40) (hm : I64 m2) : sV o z c f k1 r1 b1 i1 s1 d1 m1 k2 r2 b2 i2 s2 d2 m2 n = iV [2, 4, 8] (⟨#[45, 45]⟩ : ByteArray) o z c f k1 r1 b1 i1 s1 d1 m1 k2 r2 b2 i2 s2 d2 m2 n := by
  have hsh : shapeV o z c f k1 r1 b1 i1 s1 d1 m1 k2 r2 b2 i2 s2 d2 m2 n = ((sizeV z && decide (z > 1)) && (twoV k1 k2 [(⟨#[48, 48]⟩ : ByteArray)])) := by rcases ho with rfl | rfl <;> rfl
  rcases ho with rfl | rfl
  all_goals
    by_cases hz : z = 2 ∨ z = 4 ∨ z = 8
    · by_cases hf : f = 0
      · subst hf
        rcases hz with rfl | rfl | rfl
        all_goals
          refine same_of _ _ _ _ _ _ _ _ _ _ _ _ _ _ _ _ _ _ _ _ _ [(⟨#[48, 48]⟩ : ByteArray)] (true) rfl rfl (by rw [hsh]; cases (twoV k1 k2 [(⟨#[48, 48]⟩ : ByteArray)]) <;> rfl) rfl rfl con9 rfl rfl (fun _ => .inl rfl) (fun _ => .inl rfl) rfl rfl ?_
          · intro hT h3
            have c3 : k2 ≠ 3 := by
              rintro rfl
              rw [tw9] at hT
              simp [kindV] at hT
            simp [c3, inV]
      · refine same_no _ _ _ _ _ _ _ _ _ _ _ _ _ _ _ _ _ _ _ _ _ (.inr ?_) (.inr ?_) <;> (first | exact beq_eq_false_iff_ne.mpr hf | (show (f == 0) = false; exact beq_eq_false_iff_ne.mpr hf))
    · refine same_no _ _ _ _ _ _ _ _ _ _ _ _ _ _ _ _ _ _ _ _ _ (.inl ?_) (.inl ?_)
      · have : (sizeV z && decide (z > 1)) = false := by
          rw [← Bool.not_eq_true]
          simp only [Bool.and_eq_true, sizeV_true, decide_eq_true_eq, beq_iff_eq]
          omega
        rw [hsh, this]; simp
      · unfold foundV
        simp only [List.any_cons, List.any_nil, Bool.or_false, Bool.or_eq_false_iff, beq_eq_false_iff_ne]
        omega
theorem vg17 (o z c f k1 r1 b1 i1 s1 d1 m1 k2 r2 b2 i2 s2 d2 m2 n : Int) (ho : o = 41 ∨ o = 42) (hm : I64 m2) : sV o z c f k1 r1 b1 i1 s1 d1 m1 k2 r2 b2 i2 s2 d2 m2 n = iV [1] (⟨#[45, 45]⟩ : ByteArray) o z c f k1 r1 b1 i1 s1 d1 m1 k2 r2 b2 i2 s2 d2 m2 n := by
  have hsh : shapeV o z c f k1 r1 b1 i1 s1 d1 m1 k2 r2 b2 i2 s2 d2 m2 n = ((z == 1) && (twoV k1 k2 [(⟨#[48, 48]⟩ : ByteArray)])) := by rcases ho with rfl | rfl <;> rfl
  rcases ho with rfl | rfl
  all_goals
    by_cases hz : z = 1
    · by_cases hf : f = 0
      · subst hf
        subst hz
        · refine same_of _ _ _ _ _ _ _ _ _ _ _ _ _ _ _ _ _ _ _ _ _ [(⟨#[48, 48]⟩ : ByteArray)] (true) rfl rfl (by rw [hsh]; cases (twoV k1 k2 [(⟨#[48, 48]⟩ : ByteArray)]) <;> rfl) rfl rfl con9 rfl rfl (fun _ => .inl rfl) (fun _ => .inl rfl) rfl rfl ?_
          · intro hT h3
            have c3 : k2 ≠ 3 := by
              rintro rfl
              rw [tw9] at hT
              simp [kindV] at hT
            simp [c3, inV]
      · refine same_no _ _ _ _ _ _ _ _ _ _ _ _ _ _ _ _ _ _ _ _ _ (.inr ?_) (.inr ?_) <;> (first | exact beq_eq_false_iff_ne.mpr hf | (show (f == 0) = false; exact beq_eq_false_iff_ne.mpr hf))
    · refine same_no _ _ _ _ _ _ _ _ _ _ _ _ _ _ _ _ _ _ _ _ _ (.inl ?_) (.inl ?_)
      · have : (z == 1) = false := by
          rw [← Bool.not_eq_true]
          simp only [Bool.and_eq_true, sizeV_true, decide_eq_true_eq, beq_iff_eq]
          omega
        rw [hsh, this]; simp
      · unfold foundV
        simp only [List.any_cons, List.any_nil, Bool.or_false, Bool.or_eq_false_iff, beq_eq_false_iff_ne]
        omega
theorem vg18 (o z c f k1 r1 b1 i1 s1 d1 m1 k2 r2 b2 i2 s2 d2 m2 n : Int) (ho : o = 44) (hm : I64 m2) : sV o z c f k1 r1 b1 i1 s1 d1 m1 k2 r2 b2 i2 s2 d2 m2 n = iV [0] (⟨#[45, 105]⟩ : ByteArray) o z c f k1 r1 b1 i1 s1 d1 m1 k2 r2 b2 i2 s2 d2 m2 n := by
  subst ho
  have hsh : shapeV 44 z c f k1 r1 b1 i1 s1 d1 m1 k2 r2 b2 i2 s2 d2 m2 n = ((z == 0) && (twoV k1 k2 [(⟨#[48, 105]⟩ : ByteArray)] && inV m2 0 255)) := rfl
  by_cases hz : z = 0
  · by_cases hf : f = 0
    · subst hf
      subst hz
      · refine same_of _ _ _ _ _ _ _ _ _ _ _ _ _ _ _ _ _ _ _ _ _ [(⟨#[48, 105]⟩ : ByteArray)] (inV m2 0 255) rfl rfl (by rw [hsh]; rfl) rfl rfl con8 rfl rfl (fun hT => .inr (by rintro rfl; rw [tw8] at hT; simp [kindV] at hT)) (fun hT => .inr (by rintro rfl; rw [tw8] at hT; simp [kindV] at hT)) rfl rfl ?_
        · intro hT h3
          by_cases c3 : k2 = 3
          · subst c3
            unfold numV
            simp [inV]
          · rw [h3 c3]
            simp [c3, inV]
    · refine same_no _ _ _ _ _ _ _ _ _ _ _ _ _ _ _ _ _ _ _ _ _ (.inr ?_) (.inr ?_) <;> (first | exact beq_eq_false_iff_ne.mpr hf | (show (f == 0) = false; exact beq_eq_false_iff_ne.mpr hf))
  · refine same_no _ _ _ _ _ _ _ _ _ _ _ _ _ _ _ _ _ _ _ _ _ (.inl ?_) (.inl ?_)
    · have : (z == 0) = false := by
        rw [← Bool.not_eq_true]
        simp only [Bool.and_eq_true, sizeV_true, decide_eq_true_eq, beq_iff_eq]
        omega
      rw [hsh, this]; simp
    · unfold foundV
      simp only [List.any_cons, List.any_nil, Bool.or_false, Bool.or_eq_false_iff, beq_eq_false_iff_ne]
      omega
theorem InstrOK_same (o z c f k1 r1 b1 i1 s1 d1 m1 k2 r2 b2 i2 s2 d2 m2 n : Int) (hd1 : I64 d1) (hd2 : I64 d2) (hm : I64 m2) : Ev (fun k => spec_l05OK.f k o z c f k1 r1 b1 i1 s1 d1 m1 k2 r2 b2 i2 s2 d2 m2 n) (sV o z c f k1 r1 b1 i1 s1 d1 m1 k2 r2 b2 i2 s2 d2 m2 n) ∧ Ev (fun k => impl_InstrOK.f k o z c f k1 r1 b1 i1 s1 d1 m1 k2 r2 b2 i2 s2 d2 m2 n) (sV o z c f k1 r1 b1 i1 s1 d1 m1 k2 r2 b2 i2 s2 d2 m2 n) := by
  refine ⟨sOK_ev o z c f k1 r1 b1 i1 s1 d1 m1 k2 r2 b2 i2 s2 d2 m2 n, ?_⟩
  by_cases ho : 1 ≤ o ∧ o ≤ 44
  · have : o = 1 ∨ o = 2 ∨ o = 3 ∨ o = 4 ∨ o = 5 ∨ o = 6 ∨ o = 7 ∨ o = 8 ∨ o = 9 ∨ o = 10 ∨ o = 11 ∨ o = 12 ∨ o = 13 ∨ o = 14 ∨ o = 15 ∨ o = 16 ∨ o = 17 ∨ o = 18 ∨ o = 19 ∨ o = 20 ∨ o = 21 ∨ o = 22 ∨ o = 23 ∨ o = 24 ∨ o = 25 ∨ o = 26 ∨ o = 27 ∨ o = 28 ∨ o = 29 ∨ o = 30 ∨ o = 31 ∨ o = 32 ∨ o = 33 ∨ o = 34 ∨ o = 35 ∨ o = 36 ∨ o = 37 ∨ o = 38 ∨ o = 39 ∨ o = 40 ∨ o = 41 ∨ o = 42 ∨ o = 43 ∨ o = 44 := by omega
    rcases this with rfl | rfl | rfl | rfl | rfl | rfl | rfl | rfl | rfl | rfl | rfl | rfl | rfl | rfl | rfl | rfl | rfl | rfl | rfl | rfl | rfl | rfl | rfl | rfl | rfl | rfl | rfl | rfl | rfl | rfl | rfl | rfl | rfl | rfl | rfl | rfl | rfl | rfl | rfl | rfl | rfl | rfl | rfl | rfl
    · rw [vg0 _ _ _ _ _ _ _ _ _ _ _ _ _ _ _ _ _ _ _ (by decide) hm]; exact iOK_ev _ _ 1 z c f k1 r1 b1 i1 s1 d1 m1 k2 r2 b2 i2 s2 d2 m2 n form1 (by decide) (by decide) (by decide) hd1 hd2 hm
    · rw [vg0 _ _ _ _ _ _ _ _ _ _ _ _ _ _ _ _ _ _ _ (by decide) hm]; exact iOK_ev _ _ 2 z c f k1 r1 b1 i1 s1 d1 m1 k2 r2 b2 i2 s2 d2 m2 n form2 (by decide) (by decide) (by decide) hd1 hd2 hm
    · rw [vg0 _ _ _ _ _ _ _ _ _ _ _ _ _ _ _ _ _ _ _ (by decide) hm]; exact iOK_ev _ _ 3 z c f k1 r1 b1 i1 s1 d1 m1 k2 r2 b2 i2 s2 d2 m2 n form3 (by decide) (by decide) (by decide) hd1 hd2 hm
    · rw [vg0 _ _ _ _ _ _ _ _ _ _ _ _ _ _ _ _ _ _ _ (by decide) hm]; exact iOK_ev _ _ 4 z c f k1 r1 b1 i1 s1 d1 m1 k2 r2 b2 i2 s2 d2 m2 n form4 (by decide) (by decide) (by decide) hd1 hd2 hm
    · rw [vg0 _ _ _ _ _ _ _ _ _ _ _ _ _ _ _ _ _ _ _ (by decide) hm]; exact iOK_ev _ _ 5 z c f k1 r1 b1 i1 s1 d1 m1 k2 r2 b2 i2 s2 d2 m2 n form5 (by decide) (by decide) (by decide) hd1 hd2 hm
    · rw [vg0 _ _ _ _ _ _ _ _ _ _ _ _ _ _ _ _ _ _ _ (by decide) hm]; exact iOK_ev _ _ 6 z c f k1 r1 b1 i1 s1 d1 m1 k2 r2 b2 i2 s2 d2 m2 n form6 (by decide) (by decide) (by decide) hd1 hd2 hm
    · rw [vg0 _ _ _ _ _ _ _ _ _ _ _ _ _ _ _ _ _ _ _ (by decide) hm]; exact iOK_ev _ _ 7 z c f k1 r1 b1 i1 s1 d1 m1 k2 r2 b2 i2 s2 d2 m2 n form7 (by decide) (by decide) (by decide) hd1 hd2 hm
    · rw [vg0 _ _ _ _ _ _ _ _ _ _ _ _ _ _ _ _ _ _ _ (by decide) hm]; exact iOK_ev _ _ 8 z c f k1 r1 b1 i1 s1 d1 m1 k2 r2 b2 i2 s2 d2 m2 n form8 (by decide) (by decide) (by decide) hd1 hd2 hm
    · rw [vg1 _ _ _ _ _ _ _ _ _ _ _ _ _ _ _ _ _ _ _ (by decide) hm]; exact iOK_ev _ _ 9 z c f k1 r1 b1 i1 s1 d1 m1 k2 r2 b2 i2 s2 d2 m2 n form9 (by decide) (by decide) (by decide) hd1 hd2 hm
    · rw [vg2 _ _ _ _ _ _ _ _ _ _ _ _ _ _ _ _ _ _ _ (by decide) hm]; exact iOK_ev _ _ 10 z c f k1 r1 b1 i1 s1 d1 m1 k2 r2 b2 i2 s2 d2 m2 n form10 (by decide) (by decide) (by decide) hd1 hd2 hm
    · rw [vg3 _ _ _ _ _ _ _ _ _ _ _ _ _ _ _ _ _ _ _ (by decide) hm]; exact iOK_ev _ _ 11 z c f k1 r1 b1 i1 s1 d1 m1 k2 r2 b2 i2 s2 d2 m2 n form11 (by decide) (by decide) (by decide) hd1 hd2 hm
    · rw [vg3 _ _ _ _ _ _ _ _ _ _ _ _ _ _ _ _ _ _ _ (by decide) hm]; exact iOK_ev _ _ 12 z c f k1 r1 b1 i1 s1 d1 m1 k2 r2 b2 i2 s2 d2 m2 n form12 (by decide) (by decide) (by decide) hd1 hd2 hm
    · rw [vg4 _ _ _ _ _ _ _ _ _ _ _ _ _ _ _ _ _ _ _ (by decide) hm]; exact iOK_ev _ _ 13 z c f k1 r1 b1 i1 s1 d1 m1 k2 r2 b2 i2 s2 d2 m2 n form13 (by decide) (by decide) (by decide) hd1 hd2 hm
    · rw [vg4 _ _ _ _ _ _ _ _ _ _ _ _ _ _ _ _ _ _ _ (by decide) hm]; exact iOK_ev _ _ 14 z c f k1 r1 b1 i1 s1 d1 m1 k2 r2 b2 i2 s2 d2 m2 n form14 (by decide) (by decide) (by decide) hd1 hd2 hm
    · rw [vg4 _ _ _ _ _ _ _ _ _ _ _ _ _ _ _ _ _ _ _ (by decide) hm]; exact iOK_ev _ _ 15 z c f k1 r1 b1 i1 s1 d1 m1 k2 r2 b2 i2 s2 d2 m2 n form15 (by decide) (by decide) (by decide) hd1 hd2 hm
    · rw [vg4 _ _ _ _ _ _ _ _ _ _ _ _ _ _ _ _ _ _ _ (by decide) hm]; exact iOK_ev _ _ 16 z c f k1 r1 b1 i1 s1 d1 m1 k2 r2 b2 i2 s2 d2 m2 n form16 (by decide) (by decide) (by decide) hd1 hd2 hm
    · rw [vg5 _ _ _ _ _ _ _ _ _ _ _ _ _ _ _ _ _ _ _ (by decide) hm]; exact iOK_ev _ _ 17 z c f k1 r1 b1 i1 s1 d1 m1 k2 r2 b2 i2 s2 d2 m2 n form17 (by decide) (by decide) (by decide) hd1 hd2 hm
    · rw [vg3 _ _ _ _ _ _ _ _ _ _ _ _ _ _ _ _ _ _ _ (by decide) hm]; exact iOK_ev _ _ 18 z c f k1 r1 b1 i1 s1 d1 m1 k2 r2 b2 i2 s2 d2 m2 n form18 (by decide) (by decide) (by decide) hd1 hd2 hm
    · rw [vg3 _ _ _ _ _ _ _ _ _ _ _ _ _ _ _ _ _ _ _ (by decide) hm]; exact iOK_ev _ _ 19 z c f k1 r1 b1 i1 s1 d1 m1 k2 r2 b2 i2 s2 d2 m2 n form19 (by decide) (by decide) (by decide) hd1 hd2 hm
    · rw [vg6 _ _ _ _ _ _ _ _ _ _ _ _ _ _ _ _ _ _ _ (by decide) hm]; exact iOK_ev _ _ 20 z c f k1 r1 b1 i1 s1 d1 m1 k2 r2 b2 i2 s2 d2 m2 n form20 (by decide) (by decide) (by decide) hd1 hd2 hm
    · rw [vg6 _ _ _ _ _ _ _ _ _ _ _ _ _ _ _ _ _ _ _ (by decide) hm]; exact iOK_ev _ _ 21 z c f k1 r1 b1 i1 s1 d1 m1 k2 r2 b2 i2 s2 d2 m2 n form21 (by decide) (by decide) (by decide) hd1 hd2 hm
    · rw [vg6 _ _ _ _ _ _ _ _ _ _ _ _ _ _ _ _ _ _ _ (by decide) hm]; exact iOK_ev _ _ 22 z c f k1 r1 b1 i1 s1 d1 m1 k2 r2 b2 i2 s2 d2 m2 n form22 (by decide) (by decide) (by decide) hd1 hd2 hm
    · rw [vg6 _ _ _ _ _ _ _ _ _ _ _ _ _ _ _ _ _ _ _ (by decide) hm]; exact iOK_ev _ _ 23 z c f k1 r1 b1 i1 s1 d1 m1 k2 r2 b2 i2 s2 d2 m2 n form23 (by decide) (by decide) (by decide) hd1 hd2 hm
    · rw [vg6 _ _ _ _ _ _ _ _ _ _ _ _ _ _ _ _ _ _ _ (by decide) hm]; exact iOK_ev _ _ 24 z c f k1 r1 b1 i1 s1 d1 m1 k2 r2 b2 i2 s2 d2 m2 n form24 (by decide) (by decide) (by decide) hd1 hd2 hm
    · rw [vg7 _ _ _ _ _ _ _ _ _ _ _ _ _ _ _ _ _ _ _ (by decide) hm]; exact iOK_ev _ _ 25 z c f k1 r1 b1 i1 s1 d1 m1 k2 r2 b2 i2 s2 d2 m2 n form25 (by decide) (by decide) (by decide) hd1 hd2 hm
    · rw [vg8 _ _ _ _ _ _ _ _ _ _ _ _ _ _ _ _ _ _ _ (by decide) hm]; exact iOK_ev _ _ 26 z c f k1 r1 b1 i1 s1 d1 m1 k2 r2 b2 i2 s2 d2 m2 n form26 (by decide) (by decide) (by decide) hd1 hd2 hm
    · rw [vg9 _ _ _ _ _ _ _ _ _ _ _ _ _ _ _ _ _ _ _ (by decide) hm]; exact iOK_ev _ _ 27 z c f k1 r1 b1 i1 s1 d1 m1 k2 r2 b2 i2 s2 d2 m2 n form27 (by decide) (by decide) (by decide) hd1 hd2 hm
    · rw [vg10 _ _ _ _ _ _ _ _ _ _ _ _ _ _ _ _ _ _ _ (by decide) hm]; exact iOK_ev _ _ 28 z c f k1 r1 b1 i1 s1 d1 m1 k2 r2 b2 i2 s2 d2 m2 n form28 (by decide) (by decide) (by decide) hd1 hd2 hm
    · rw [vg11 _ _ _ _ _ _ _ _ _ _ _ _ _ _ _ _ _ _ _ (by decide) hm]; exact iOK_ev _ _ 29 z c f k1 r1 b1 i1 s1 d1 m1 k2 r2 b2 i2 s2 d2 m2 n form29 (by decide) (by decide) (by decide) hd1 hd2 hm
    · rw [vg12 _ _ _ _ _ _ _ _ _ _ _ _ _ _ _ _ _ _ _ (by decide) hm]; exact iOK_ev _ _ 30 z c f k1 r1 b1 i1 s1 d1 m1 k2 r2 b2 i2 s2 d2 m2 n form30 (by decide) (by decide) (by decide) hd1 hd2 hm
    · rw [vg11 _ _ _ _ _ _ _ _ _ _ _ _ _ _ _ _ _ _ _ (by decide) hm]; exact iOK_ev _ _ 31 z c f k1 r1 b1 i1 s1 d1 m1 k2 r2 b2 i2 s2 d2 m2 n form31 (by decide) (by decide) (by decide) hd1 hd2 hm
    · rw [vg11 _ _ _ _ _ _ _ _ _ _ _ _ _ _ _ _ _ _ _ (by decide) hm]; exact iOK_ev _ _ 32 z c f k1 r1 b1 i1 s1 d1 m1 k2 r2 b2 i2 s2 d2 m2 n form32 (by decide) (by decide) (by decide) hd1 hd2 hm
    · rw [vg13 _ _ _ _ _ _ _ _ _ _ _ _ _ _ _ _ _ _ _ (by decide) hm]; exact iOK_ev _ _ 33 z c f k1 r1 b1 i1 s1 d1 m1 k2 r2 b2 i2 s2 d2 m2 n form33 (by decide) (by decide) (by decide) hd1 hd2 hm
    · rw [vg14 _ _ _ _ _ _ _ _ _ _ _ _ _ _ _ _ _ _ _ (by decide) hm]; exact iOK_ev _ _ 34 z c f k1 r1 b1 i1 s1 d1 m1 k2 r2 b2 i2 s2 d2 m2 n form34 (by decide) (by decide) (by decide) hd1 hd2 hm
    · rw [vg15 _ _ _ _ _ _ _ _ _ _ _ _ _ _ _ _ _ _ _ (by decide) hm]; exact iOK_ev _ _ 35 z c f k1 r1 b1 i1 s1 d1 m1 k2 r2 b2 i2 s2 d2 m2 n form35 (by decide) (by decide) (by decide) hd1 hd2 hm
    · rw [vg5 _ _ _ _ _ _ _ _ _ _ _ _ _ _ _ _ _ _ _ (by decide) hm]; exact iOK_ev _ _ 36 z c f k1 r1 b1 i1 s1 d1 m1 k2 r2 b2 i2 s2 d2 m2 n form36 (by decide) (by decide) (by decide) hd1 hd2 hm
    · rw [vg14 _ _ _ _ _ _ _ _ _ _ _ _ _ _ _ _ _ _ _ (by decide) hm]; exact iOK_ev _ _ 37 z c f k1 r1 b1 i1 s1 d1 m1 k2 r2 b2 i2 s2 d2 m2 n form37 (by decide) (by decide) (by decide) hd1 hd2 hm
    · rw [vg14 _ _ _ _ _ _ _ _ _ _ _ _ _ _ _ _ _ _ _ (by decide) hm]; exact iOK_ev _ _ 38 z c f k1 r1 b1 i1 s1 d1 m1 k2 r2 b2 i2 s2 d2 m2 n form38 (by decide) (by decide) (by decide) hd1 hd2 hm
    · rw [vg16 _ _ _ _ _ _ _ _ _ _ _ _ _ _ _ _ _ _ _ (by decide) hm]; exact iOK_ev _ _ 39 z c f k1 r1 b1 i1 s1 d1 m1 k2 r2 b2 i2 s2 d2 m2 n form39 (by decide) (by decide) (by decide) hd1 hd2 hm
    · rw [vg16 _ _ _ _ _ _ _ _ _ _ _ _ _ _ _ _ _ _ _ (by decide) hm]; exact iOK_ev _ _ 40 z c f k1 r1 b1 i1 s1 d1 m1 k2 r2 b2 i2 s2 d2 m2 n form40 (by decide) (by decide) (by decide) hd1 hd2 hm
    · rw [vg17 _ _ _ _ _ _ _ _ _ _ _ _ _ _ _ _ _ _ _ (by decide) hm]; exact iOK_ev _ _ 41 z c f k1 r1 b1 i1 s1 d1 m1 k2 r2 b2 i2 s2 d2 m2 n form41 (by decide) (by decide) (by decide) hd1 hd2 hm
    · rw [vg17 _ _ _ _ _ _ _ _ _ _ _ _ _ _ _ _ _ _ _ (by decide) hm]; exact iOK_ev _ _ 42 z c f k1 r1 b1 i1 s1 d1 m1 k2 r2 b2 i2 s2 d2 m2 n form42 (by decide) (by decide) (by decide) hd1 hd2 hm
    · rw [vg14 _ _ _ _ _ _ _ _ _ _ _ _ _ _ _ _ _ _ _ (by decide) hm]; exact iOK_ev _ _ 43 z c f k1 r1 b1 i1 s1 d1 m1 k2 r2 b2 i2 s2 d2 m2 n form43 (by decide) (by decide) (by decide) hd1 hd2 hm
    · rw [vg18 _ _ _ _ _ _ _ _ _ _ _ _ _ _ _ _ _ _ _ (by decide) hm]; exact iOK_ev _ _ 44 z c f k1 r1 b1 i1 s1 d1 m1 k2 r2 b2 i2 s2 d2 m2 n form44 (by decide) (by decide) (by decide) hd1 hd2 hm
  · have e : inV o 1 44 = false := by rw [← Bool.not_eq_true, inV_true]; omega
    have e2 : sV o z c f k1 r1 b1 i1 s1 d1 m1 k2 r2 b2 i2 s2 d2 m2 n = false := by
      unfold sV
      rw [e]; rfl
    rw [e2]
    refine evB (iop o) ?_
    rw [e]
    exact evNeg (by decide) (Ev.step (fun k => by simp only [impl_InstrOK.j0]; exact rfl) (evPos (c := true = true) rfl (evR _)))

theorem sV_parts (o z c f k1 r1 b1 i1 s1 d1 m1 k2 r2 b2 i2 s2 d2 m2 n : Int) (h : sV o z c f k1 r1 b1 i1 s1 d1 m1 k2 r2 b2 i2 s2 d2 m2 n = true) : (1 ≤ o ∧ o ≤ 44) ∧ shapeV o z c f k1 r1 b1 i1 s1 d1 m1 k2 r2 b2 i2 s2 d2 m2 n = true ∧ opdV k2 r2 b2 i2 s2 d2 m2 (s2V o z f) = true := by
  unfold sV at h
  simp only [Bool.and_eq_true] at h
  exact ⟨inV_true.1 h.1, h.2.2.1, h.2.2.2.2.2.2.2.1⟩
theorem eqOp (a b c d e f g : Int) : laws_eqOperand.f a b c d e f g a b c d e f g = some true := by unfold laws_eqOperand.f; simp
theorem aux (o z c f k1 r1 b1 i1 s1 d1 m1 k2 r2 b2 i2 s2 d2 m2 n : Int) : ∃ q q', spec_l08Memory.f o z c f k1 r1 b1 i1 s1 d1 m1 k2 r2 b2 i2 s2 d2 m2 n = some q ∧ impl_memoryOf.f o z c f k1 r1 b1 i1 s1 d1 m1 k2 r2 b2 i2 s2 d2 m2 n = some q' ∧ ((q.2.2.2.2.2.2.2 = true ∧ q' = q) ∨ (q.2.2.2.2.2.2.2 = false ∧ q' = (0, 0, 0, 0, 0, 0, 0, false))) := by
  unfold spec_l08Memory.f impl_memoryOf.f
  by_cases c1 : o = 25
  · exact ⟨_, _, by rw [if_pos c1], by rw [if_pos c1], .inr ⟨rfl, rfl⟩⟩
  by_cases c2 : k1 = 2
  · exact ⟨_, _, by rw [if_neg c1, if_pos c2], by rw [if_neg c1, if_pos c2], .inl ⟨rfl, rfl⟩⟩
  by_cases c3 : k2 = 2
  · subst c3
    exact ⟨_, _, by rw [if_neg c1, if_neg c2], by rw [if_neg c1, if_neg c2, if_pos rfl]; rfl, .inl ⟨rfl, rfl⟩⟩
  · exact ⟨_, _, by rw [if_neg c1, if_neg c2], by rw [if_neg c1, if_neg c2, if_neg c3], .inr ⟨by simpa using c3, rfl⟩⟩
theorem FnExactMemoryOf : laws_FnExactMemoryOf.Pure := by
  intro x ok
  obtain ⟨hd1, hd2, hm⟩ : I64 x.f4.f5 ∧ I64 x.f5.f5 ∧ I64 x.f5.f6 := by
    obtain ⟨_, _, _, _, h4, h5, _⟩ := ok
    exact ⟨wf64 h4.2.2.2.2.2.1, wf64 h5.2.2.2.2.2.1, wf64 h5.2.2.2.2.2.2⟩
  refine Ev.rounds (g := fun k => laws_FnExactMemoryOf.f k x.f0 x.f1 x.f2 x.f3 x.f4.f0 x.f4.f1 x.f4.f2 x.f4.f3 x.f4.f4 x.f4.f5 x.f4.f6 x.f5.f0 x.f5.f1 x.f5.f2 x.f5.f3 x.f5.f4 x.f5.f5 x.f5.f6 x.f6) ?_
  obtain ⟨hs, hi⟩ := InstrOK_same x.f0 x.f1 x.f2 x.f3 x.f4.f0 x.f4.f1 x.f4.f2 x.f4.f3 x.f4.f4 x.f4.f5 x.f4.f6 x.f5.f0 x.f5.f1 x.f5.f2 x.f5.f3 x.f5.f4 x.f5.f5 x.f5.f6 x.f6 hd1 hd2 hm
  have hp := sV_parts x.f0 x.f1 x.f2 x.f3 x.f4.f0 x.f4.f1 x.f4.f2 x.f4.f3 x.f4.f4 x.f4.f5 x.f4.f6 x.f5.f0 x.f5.f1 x.f5.f2 x.f5.f3 x.f5.f4 x.f5.f5 x.f5.f6 x.f6
  generalize sV x.f0 x.f1 x.f2 x.f3 x.f4.f0 x.f4.f1 x.f4.f2 x.f4.f3 x.f4.f4 x.f4.f5 x.f4.f6 x.f5.f0 x.f5.f1 x.f5.f2 x.f5.f3 x.f5.f4 x.f5.f5 x.f5.f6 x.f6 = r at hs hi hp
  refine evB rfl ?_
  cases r
  · refine Ev.bind (a := (0, 0, 0, 0, 0, 0, 0, false, 1)) (Ev.bind hs (evNeg (by decide) (evR _))) (evB rfl (Ev.bind (a := (0, 0, 0, 0, 0, 0, 0, false, 1)) (Ev.bind hi (evNeg (by decide) (evR _))) (evB (eqOp _ _ _ _ _ _ _) (evPos rfl (evNeg (by decide) ?_)))))
    first | exact evPos rfl (evR _) | exact evR _
  · obtain ⟨q, q', hq1, hq2, hq⟩ := aux x.f0 x.f1 x.f2 x.f3 x.f4.f0 x.f4.f1 x.f4.f2 x.f4.f3 x.f4.f4 x.f4.f5 x.f4.f6 x.f5.f0 x.f5.f1 x.f5.f2 x.f5.f3 x.f5.f4 x.f5.f5 x.f5.f6 x.f6
    rcases hq with ⟨hb, rfl⟩ | ⟨hb, rfl⟩
    · refine Ev.bind (a := (q'.1, q'.2.1, q'.2.2.1, q'.2.2.2.1, q'.2.2.2.2.1, q'.2.2.2.2.2.1, q'.2.2.2.2.2.2.1, true, 0)) (Ev.bind hs (evPos rfl (evB hq1 (evPos hb (evR _))))) (evB rfl (Ev.bind (a := (q'.1, q'.2.1, q'.2.2.1, q'.2.2.2.1, q'.2.2.2.2.1, q'.2.2.2.2.2.1, q'.2.2.2.2.2.2.1, true, 0)) (Ev.bind hi (evPos rfl (evB hq2 (evEq (evR _) (by rw [hb]))))) (evB (eqOp _ _ _ _ _ _ _) (evPos rfl (evNeg (by simp) ?_)))))
      first | exact evPos rfl (evR _) | exact evR _
    · refine Ev.bind (a := (0, 0, 0, 0, 0, 0, 0, false, 0)) (Ev.bind hs (evPos rfl (evB hq1 (evNeg (by rw [hb]; decide) (evR _))))) (evB rfl (Ev.bind (a := (0, 0, 0, 0, 0, 0, 0, false, 0)) (Ev.bind hi (evPos rfl (evB hq2 (evR _)))) (evB (eqOp _ _ _ _ _ _ _) (evPos rfl (evNeg (by decide) ?_)))))
      first | exact evPos rfl (evR _) | exact evR _

end Go.Proofs.Ytonogadabgilfaa.Pure

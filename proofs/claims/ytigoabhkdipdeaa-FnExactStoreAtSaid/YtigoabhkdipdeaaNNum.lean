/- Plain facts on Go's int as a whole number: its bounds, its wrap, its bits. No condition. -/
import Derived.WalkKit
import Derived.Laws.BitsLemmas
import Derived.Laws.Entries
import Derived.RowKit
namespace Go.Proofs.Ytigoabhkdipdeaa.Num
open Go Go.RowKit


theorem wf64 {a : Int} (h : (Lit.int .i64 a).wf = true) : -9223372036854775808 ≤ a ∧ a ≤ 9223372036854775807 := by
  simp only [Lit.wf, IntKind.min, IntKind.max, IntKind.signed, IntKind.bits, Bool.and_eq_true, decide_eq_true_eq, if_true] at h
  omega
theorem wf_of64 {a : Int} (h0 : -9223372036854775808 ≤ a) (h1 : a ≤ 9223372036854775807) : (Lit.int .i64 a).wf = true := by
  simp only [Lit.wf, IntKind.min, IntKind.max, IntKind.signed, IntKind.bits, Bool.and_eq_true, decide_eq_true_eq, if_true]
  omega
theorem w64 {n : Int} (h0 : -9223372036854775808 ≤ n) (h1 : n ≤ 9223372036854775807) : wrap64 n = n := by unfold wrap64; omega
theorem u64 (n : Int) : IntKind.u64.wrap n = n % 18446744073709551616 := by simp [IntKind.wrap, IntKind.bits, IntKind.signed]
theorem wrap64_bv (n : Int) : wrap64 n = (BitVec.ofInt 64 n).toInt := by
  rw [BitVec.toInt_ofInt]; unfold wrap64; simp only [Int.bmod]
  have e : ((2 ^ 64 : Nat) : Int) = 18446744073709551616 := by decide
  rw [e]; split <;> omega
theorem i64_wrap (n : Int) : IntKind.i64.wrap n = wrap64 n := by rw [IntKind.wrap_i64, wrap64]
theorem toNat_wrap (v : BitVec 64) : wrap64 (v.toNat : Int) = v.toInt := by
  rw [wrap64_bv, BitVec.ofInt_natCast, BitVec.ofNat_toNat, BitVec.setWidth_eq]
theorem and64 (x y : Int) : bits .and .i64 x y = (BitVec.ofInt 64 x &&& BitVec.ofInt 64 y).toInt := by
  unfold bits; rw [i64_wrap]; exact toNat_wrap _
theorem or64 (x y : Int) : bits .or .i64 x y = (BitVec.ofInt 64 x ||| BitVec.ofInt 64 y).toInt := by
  unfold bits; rw [i64_wrap]; exact toNat_wrap _
theorem xor64 (x y : Int) : bits .xor .i64 x y = (BitVec.ofInt 64 x ^^^ BitVec.ofInt 64 y).toInt := by
  unfold bits; rw [i64_wrap]; exact toNat_wrap _
theorem andnot64 (x y : Int) : bits .andNot .i64 x y = (BitVec.ofInt 64 x &&& ~~~ BitVec.ofInt 64 y).toInt := by
  unfold bits; rw [i64_wrap]; exact toNat_wrap _
theorem ofInt_nat (x : Int) : ((BitVec.ofInt 64 x).toNat : Int) = x % 18446744073709551616 := by
  rw [BitVec.toNat_ofInt]
  have e : ((2 ^ 64 : Nat) : Int) = 18446744073709551616 := by decide
  rw [e]; omega
/-- and with a low mask: the remainder -/
theorem and_mask (x : Int) (k : Nat) (hk : k < 63) : bits .and .i64 x (2 ^ k - 1) = x % 2 ^ k := by
  rw [and64]
  have e : BitVec.ofInt 64 ((2:Int) ^ k - 1) = BitVec.ofNat 64 (2 ^ k - 1) := by
    have : ((2:Int) ^ k - 1) = ((2 ^ k - 1 : Nat) : Int) := by
      rw [Int.natCast_sub (Nat.two_pow_pos k)]; simp
    rw [this, BitVec.ofInt_natCast]
  have hp : 2 ^ k ≤ 2 ^ 62 := Nat.pow_le_pow_right (by decide) (by omega)
  have hpos := Nat.two_pow_pos k
  have n1 : (BitVec.ofInt 64 x &&& BitVec.ofInt 64 ((2:Int) ^ k - 1)).toNat = (BitVec.ofInt 64 x).toNat % 2 ^ k := by
    rw [e, BitVec.toNat_and, BitVec.toNat_ofNat, Nat.mod_eq_of_lt (by omega : 2 ^ k - 1 < 2 ^ 64), Nat.and_two_pow_sub_one_eq_mod]
  have hlt : (BitVec.ofInt 64 x).toNat % 2 ^ k < 2 ^ k := Nat.mod_lt _ hpos
  rw [BitVec.toInt_eq_toNat_of_lt (by rw [n1]; omega), n1, Int.natCast_emod, ofInt_nat, Int.natCast_pow]
  refine Int.emod_emod_of_dvd _ ⟨2 ^ (64 - k), ?_⟩
  show (18446744073709551616 : Int) = 2 ^ k * 2 ^ (64 - k)
  rw [← Int.pow_add, show k + (64 - k) = 64 by omega]; rfl

end Go.Proofs.Ytigoabhkdipdeaa.Num

/- A part of the plain reading of Go's code: what a function's code comes to, by a plain function. No condition. -/
import Derived.Test.YtnjmkkgmlkhjeaaZB0
import Derived.Test.YtnjmkkgmlkhjeaaZA3
/- Small tests, the bytes of numbers: what the plain functions come to. -/
namespace Go.Proofs.Ytnjmkkgmlkhjeaa
open Go Go.Proofs.Ytnjmkkgmlkhjeaa.AM
set_option linter.all false

def IN (a b c : Int) : Bool := decide (b ≤ a) && decide (a ≤ c)
theorem IN_true {a b c : Int} : IN a b c = true ↔ b ≤ a ∧ a ≤ c := by unfold IN; simp
theorem IN_false {a b c : Int} : IN a b c = false ↔ ¬ (b ≤ a ∧ a ≤ c) := by rw [← IN_true]; simp
theorem s_l01In_val (n : Nat) (a b c : Int) : s_l01In n a b c = some (IN a b c) := by
  unfold s_l01In IN
  by_cases h : a ≥ b <;> simp [h]
theorem i_within_val (n : Nat) (a b c : Int) : i_within n a b c = some (IN a b c) := by
  unfold i_within IN
  by_cases h : a ≥ b <;> simp [h]

/-! the sign of the lowest bytes -/
theorem s_l01Bit_val (n : Nat) (a i : Int) (h0 : 0 ≤ i) (h1 : i ≤ 63) : s_l01Bit n a i = some ((a % 18446744073709551616) / 2 ^ i.toNat % 2) := by
  have hi : IntKind.u64.wrap i = i := by rw [wU_def]; omega
  unfold s_l01Bit
  rw [hi, wU_def]
  have hn : min i.toNat IntKind.u64.bits = i.toNat := by have : IntKind.u64.bits = 64 := rfl; omega
  rw [hn]
  have hp : (0 : Int) < 2 ^ i.toNat := Int.pow_pos (by decide)
  rw [Int.fdiv_eq_ediv_of_nonneg _ (by omega)]
  have hnn : 0 ≤ (a % 18446744073709551616) / 2 ^ i.toNat := Int.ediv_nonneg (by omega) (by omega)
  rw [Int.tmod_eq_emod_of_nonneg hnn, decide_eq_false (by omega), cond_false]
  by_cases h : a % 18446744073709551616 / 2 ^ i.toNat % 2 = 1
  · rw [h]; rfl
  · rw [show a % 18446744073709551616 / 2 ^ i.toNat % 2 = 0 by omega]; rfl
theorem mod_step (u : Int) (n : Nat) : u % 2 ^ (n + 1) = u / 2 ^ n % 2 * 2 ^ n + u % 2 ^ n := by
  have hp : (0 : Int) < 2 ^ n := Int.pow_pos (by decide)
  have h1 := Int.emod_add_mul_ediv u (2 ^ n)
  have h2 := Int.emod_add_mul_ediv (u / 2 ^ n) 2
  have h3 := Int.emod_add_mul_ediv u (2 ^ (n + 1))
  have e : u / 2 ^ (n + 1) = u / 2 ^ n / 2 := by
    rw [Int.pow_succ, Int.ediv_ediv_of_nonneg (by omega)]
  rw [e] at h3
  have : (2 : Int) ^ (n + 1) * (u / 2 ^ n / 2) = 2 ^ n * (2 * (u / 2 ^ n / 2)) := by rw [Int.pow_succ, Int.mul_assoc]
  have h4 : 2 ^ n * (u / 2 ^ n) = 2 ^ n * (u / 2 ^ n % 2) + 2 ^ n * (2 * (u / 2 ^ n / 2)) := by rw [← Int.mul_add, h2]
  have h5 : u / 2 ^ n % 2 * 2 ^ n = 2 ^ n * (u / 2 ^ n % 2) := Int.mul_comm _ _
  omega
theorem mn_eq (a b : Int) : (if true = true then min a b else max a b) = min a b := if_pos rfl
theorem sign_low (a x1 : Int) (m : Nat) (hx : IntKind.i64.wrap (IntKind.i64.wrap (8 * x1) - 1) = (m : Int) - 1) (n : Nat) : ∀ acc : Int, 0 ≤ acc → n ≤ m → m ≤ 64 → acc * 2 ^ n + 2 ^ n ≤ 18446744073709551616 →
    Ev (fun k => s_l01Sign_ls k a x1 acc ((n : Int) - 1)) (IntKind.i64.wrap (acc * 2 ^ n + (a % 18446744073709551616) % 2 ^ n)) := by
  induction n with
  | zero =>
    intro acc h0 h1 h1' h2
    refine Ev.step (g := fun n => s_l01Sign_r0 (s_l01Sign_ls n) n a x1 acc _) (fun n => rfl) ?_
    unfold s_l01Sign_r0
    refine Ev.df (by omega) ?_
    simp only [Int.pow_zero, Int.mul_one, Int.emod_one, Int.add_zero]
    exact Ev.now _
  | succ n ih =>
    intro acc h0 h1 h1' h2
    have hp : (0 : Int) < 2 ^ n := Int.pow_pos (by decide)
    have hs : (2 : Int) ^ (n + 1) = 2 * 2 ^ n := by rw [Int.pow_succ, Int.mul_comm]
    rw [hs] at h2
    have hacc : acc * (2 * 2 ^ n) = (2 * acc) * 2 ^ n := by rw [Int.mul_comm 2, ← Int.mul_assoc, Int.mul_comm (acc * _), ← Int.mul_assoc]
    refine Ev.step (g := fun n' => s_l01Sign_r0 (s_l01Sign_ls n') n' a x1 acc _) (fun n => rfl) ?_
    unfold s_l01Sign_r0
    refine Ev.dt (by omega) ?_
    rw [mn_eq, hx]
    have hmn : min ((↑(n + 1) : Int) - 1) ((m : Int) - 1) = (n : Int) := by omega
    rw [hmn]
    refine Ev.bind (Ev.all fun k => s_l01Bit_val k a n (by omega) (by omega)) ?_
    have ht : ((n : Int)).toNat = n := by omega
    rw [ht]
    generalize hb : (a % 18446744073709551616) / 2 ^ n % 2 = b
    have hb0 : 0 ≤ b ∧ b ≤ 1 := by omega
    have hlt : 2 * acc + 2 ≤ 18446744073709551616 := by
      have h6 : (2 * acc + 2) * 1 ≤ (2 * acc + 2) * 2 ^ n := Int.mul_le_mul_of_nonneg_left (by omega) (by omega)
      have h7 : (2 * acc + 2) * 2 ^ n = (2 * acc) * 2 ^ n + 2 * 2 ^ n := Int.add_mul _ _ _
      omega
    have e1 : IntKind.u64.wrap (IntKind.u64.wrap (2 * acc) + IntKind.u64.wrap b) = 2 * acc + b := by rw [wU_def, wU_def, wU_def]; omega
    have e2 : IntKind.i64.wrap ((↑(n + 1) : Int) - 1 - 1) = (n : Int) - 1 := by rw [wI (by omega) (by omega)]; omega
    rw [e1, e2]
    have hbm : b * 2 ^ n ≤ 1 * 2 ^ n := Int.mul_le_mul_of_nonneg_right hb0.2 (by omega)
    have h8 : (2 * acc + b) * 2 ^ n = (2 * acc) * 2 ^ n + b * 2 ^ n := Int.add_mul _ _ _
    refine Ev.eq (ih (2 * acc + b) (by omega) (by omega) (by omega) (by omega)) ?_
    rw [mod_step (a % 18446744073709551616) n, hb, hs, hacc, h8]
    congr 1
    omega
theorem sign_high (a x1 : Int) (m : Nat) (hm : 0 < m) (hx : IntKind.i64.wrap (IntKind.i64.wrap (8 * x1) - 1) = (m : Int) - 1) (b : Int) (hb : (a % 18446744073709551616) / 2 ^ (m - 1) % 2 = b) (d : Nat) : ∀ acc : Int, 0 ≤ acc → m + d ≤ 64 → acc * 2 ^ (m + d) + 2 ^ (m + d) ≤ 18446744073709551616 →
    Ev (fun k => s_l01Sign_ls k a x1 acc (((m + d : Nat) : Int) - 1)) (IntKind.i64.wrap (acc * 2 ^ (m + d) + (b * (2 ^ (m + d) - 2 ^ m) + (a % 18446744073709551616) % 2 ^ m))) := by
  induction d with
  | zero =>
    intro acc h0 h1 h2
    have := sign_low a x1 m hx m acc h0 (Nat.le_refl _) (by omega) h2
    simp only [Nat.add_zero, Int.sub_self, Int.mul_zero, Int.zero_add]
    exact this
  | succ d ih =>
    intro acc h0 h1 h2
    have hp : (0 : Int) < 2 ^ (m + d) := Int.pow_pos (by decide)
    have hs : (2 : Int) ^ (m + (d + 1)) = 2 * 2 ^ (m + d) := by rw [← Nat.add_assoc, Int.pow_succ, Int.mul_comm]
    rw [hs] at h2
    have hacc : acc * (2 * 2 ^ (m + d)) = (2 * acc) * 2 ^ (m + d) := by rw [Int.mul_comm 2, ← Int.mul_assoc, Int.mul_comm (acc * _), ← Int.mul_assoc]
    refine Ev.step (g := fun n' => s_l01Sign_r0 (s_l01Sign_ls n') n' a x1 acc _) (fun n => rfl) ?_
    unfold s_l01Sign_r0
    refine Ev.dt (by omega) ?_
    rw [mn_eq, hx]
    have hmn : min ((↑(m + (d + 1)) : Int) - 1) ((m : Int) - 1) = ((m - 1 : Nat) : Int) := by omega
    rw [hmn]
    refine Ev.bind (Ev.all fun k => s_l01Bit_val k a _ (by omega) (by omega)) ?_
    have ht : (((m - 1 : Nat) : Int)).toNat = m - 1 := by omega
    rw [ht, hb]
    have hb0 : 0 ≤ b ∧ b ≤ 1 := by omega
    have hlt : 2 * acc + 2 ≤ 18446744073709551616 := by
      have h6 : (2 * acc + 2) * 1 ≤ (2 * acc + 2) * 2 ^ (m + d) := Int.mul_le_mul_of_nonneg_left (by omega) (by omega)
      have h7 : (2 * acc + 2) * 2 ^ (m + d) = (2 * acc) * 2 ^ (m + d) + 2 * 2 ^ (m + d) := Int.add_mul _ _ _
      omega
    have e1 : IntKind.u64.wrap (IntKind.u64.wrap (2 * acc) + IntKind.u64.wrap b) = 2 * acc + b := by rw [wU_def, wU_def, wU_def]; omega
    have e2 : IntKind.i64.wrap ((↑(m + (d + 1)) : Int) - 1 - 1) = ((m + d : Nat) : Int) - 1 := by rw [wI (by omega) (by omega)]; omega
    rw [e1, e2]
    have hbm : b * 2 ^ (m + d) ≤ 1 * 2 ^ (m + d) := Int.mul_le_mul_of_nonneg_right hb0.2 (by omega)
    have h8 : (2 * acc + b) * 2 ^ (m + d) = (2 * acc) * 2 ^ (m + d) + b * 2 ^ (m + d) := Int.add_mul _ _ _
    refine Ev.eq (ih (2 * acc + b) (by omega) (by omega) (by omega)) ?_
    rw [hs, hacc, h8, Int.mul_sub, Int.mul_sub, show b * (2 * 2 ^ (m + d)) = 2 * (b * 2 ^ (m + d)) by rw [← Int.mul_assoc, Int.mul_comm b 2, Int.mul_assoc]]
    congr 1
    omega
/-- The lowest n bytes as a number with a sign. -/
def sg (a n : Int) : Int := if n = 1 then (a + 128) % 256 - 128 else if n = 2 then (a + 32768) % 65536 - 32768 else if n = 4 then (a + 2147483648) % 4294967296 - 2147483648 else a
theorem s_l01Sign_ev (a n : Int) (hn : n = 1 ∨ n = 2 ∨ n = 4 ∨ n = 8) (h0 : -9223372036854775808 ≤ a) (h1 : a ≤ 9223372036854775807) : Ev (fun k => s_l01Sign k a n) (sg a n) := by
  have key : ∀ m d : Nat, 0 < m → m + d = 64 → IntKind.i64.wrap (IntKind.i64.wrap (8 * n) - 1) = (m : Int) - 1 → Ev (fun k => s_l01Sign k a n) (IntKind.i64.wrap ((a % 18446744073709551616) / 2 ^ (m - 1) % 2 * (18446744073709551616 - 2 ^ m) + (a % 18446744073709551616) % 2 ^ m)) := by
    intro m d hm hd hx
    have h3 : (2 : Int) ^ 64 = 18446744073709551616 := by decide
    have := sign_high a n m hm hx _ rfl d 0 (by omega) (by omega) (by rw [hd]; omega)
    rw [hd, Int.zero_mul, Int.zero_add, h3] at this
    exact this
  have hu : a % 18446744073709551616 = a ∨ a % 18446744073709551616 = a + 18446744073709551616 := by omega
  rcases hn with rfl | rfl | rfl | rfl
  · refine Ev.eq (key 8 56 (by omega) (by omega) (by rw [wI_def, wI_def]; omega)) ?_
    simp only [sg, if_true]
    rw [show (2 : Int) ^ (8 - 1) = 128 by decide, show (2 : Int) ^ 8 = 256 by decide]
    have e1 : a % 18446744073709551616 % 256 = a % 256 := by omega
    have e2 : a % 18446744073709551616 / 128 % 2 = a % 256 / 128 := by omega
    rw [e1, e2]
    by_cases c : a % 256 < 128
    · rw [show a % 256 / 128 = 0 by omega, wI_def]; omega
    · rw [show a % 256 / 128 = 1 by omega, wI_def]; omega
  · refine Ev.eq (key 16 48 (by omega) (by omega) (by rw [wI_def, wI_def]; omega)) ?_
    simp only [sg, if_true]
    rw [if_neg (by decide), show (2 : Int) ^ (16 - 1) = 32768 by decide, show (2 : Int) ^ 16 = 65536 by decide]
    have e1 : a % 18446744073709551616 % 65536 = a % 65536 := by omega
    have e2 : a % 18446744073709551616 / 32768 % 2 = a % 65536 / 32768 := by omega
    rw [e1, e2]
    by_cases c : a % 65536 < 32768
    · rw [show a % 65536 / 32768 = 0 by omega, wI_def]; omega
    · rw [show a % 65536 / 32768 = 1 by omega, wI_def]; omega
  · refine Ev.eq (key 32 32 (by omega) (by omega) (by rw [wI_def, wI_def]; omega)) ?_
    simp only [sg, if_true]
    rw [if_neg (by decide), if_neg (by decide), show (2 : Int) ^ (32 - 1) = 2147483648 by decide, show (2 : Int) ^ 32 = 4294967296 by decide]
    have e1 : a % 18446744073709551616 % 4294967296 = a % 4294967296 := by omega
    have e2 : a % 18446744073709551616 / 2147483648 % 2 = a % 4294967296 / 2147483648 := by omega
    rw [e1, e2]
    by_cases c : a % 4294967296 < 2147483648
    · rw [show a % 4294967296 / 2147483648 = 0 by omega, wI_def]; omega
    · rw [show a % 4294967296 / 2147483648 = 1 by omega, wI_def]; omega
  · refine Ev.eq (key 64 0 (by omega) (by omega) (by rw [wI_def, wI_def]; omega)) ?_
    simp only [sg]
    rw [if_neg (by decide), if_neg (by decide), if_neg (by decide), show (2 : Int) ^ 64 = 18446744073709551616 by decide, wI_def]
    omega
theorem i_sign_val (k : Nat) (a n : Int) (hn : n = 1 ∨ n = 2 ∨ n = 4 ∨ n = 8) (h0 : -9223372036854775808 ≤ a) (h1 : a ≤ 9223372036854775807) : i_sign k a n = some (sg a n) := by
  have hb : IntKind.i64.bits = 64 := rfl
  unfold i_sign
  have hd : ∀ m : Nat, (0 : Int) ≤ 2 ^ m := fun m => Int.le_of_lt (Int.pow_pos (by decide))
  simp only [Int.fdiv_eq_ediv_of_nonneg _ (hd _), hb]
  rcases hn with rfl | rfl | rfl | rfl
  · rw [show IntKind.i64.wrap (64 - IntKind.i64.wrap (8 * 1)) = 56 by rw [wI_def, wI_def]; omega]
    rw [show (2 : Int) ^ min (56 : Int).toNat 64 = 72057594037927936 by decide, wI_def]
    simp only [sg, if_true]
    show some _ = _
    congr 1; omega
  · rw [show IntKind.i64.wrap (64 - IntKind.i64.wrap (8 * 2)) = 48 by rw [wI_def, wI_def]; omega]
    rw [show (2 : Int) ^ min (48 : Int).toNat 64 = 281474976710656 by decide, wI_def]
    simp only [sg, if_true]
    rw [if_neg (by decide)]
    show some _ = _
    congr 1; omega
  · rw [show IntKind.i64.wrap (64 - IntKind.i64.wrap (8 * 4)) = 32 by rw [wI_def, wI_def]; omega]
    rw [show (2 : Int) ^ min (32 : Int).toNat 64 = 4294967296 by decide, wI_def]
    simp only [sg, if_true]
    rw [if_neg (by decide), if_neg (by decide)]
    show some _ = _
    congr 1; omega
  · rw [show IntKind.i64.wrap (64 - IntKind.i64.wrap (8 * 8)) = 0 by rw [wI_def, wI_def]; omega]
    rw [show (2 : Int) ^ min (0 : Int).toNat 64 = 1 by decide, wI_def]
    simp only [sg]
    rw [if_neg (by decide), if_neg (by decide), if_neg (by decide)]
    show some _ = _
    congr 1; omega
end Go.Proofs.Ytnjmkkgmlkhjeaa
/- Marks in instructions; instructions compared with themselves. -/
namespace Go.Proofs.Ytnjmkkgmlkhjeaa
open Go Go.Proofs.Ytnjmkkgmlkhjeaa.AM
set_option linter.all false
noncomputable def mkI (e : Int) : S_Instr := ⟨e, e + 1, e + 2, e + 3, e + 4, e + 5, e + 6, e + 7, e + 8, e + 9, e + 10, e + 11, e + 12, e + 13, e + 14, e + 15, e + 16, e + 17, e + 18⟩
noncomputable def mkIs (e : Int) (L : Nat) : List S_Instr := (List.range L).map fun j : Nat => mkI (e + 19 * (j : Int))
theorem rd_mkIs (e : Int) (L j : Nat) (h : j < L) : rd z_Instr (mkIs e L) j = mkI (e + 19 * (j : Int)) := by
  unfold mkIs
  rw [rd_lt (by simpa using h)]
  simp
theorem rd_setI {b : List S_Instr} {i : Nat} (h : i < b.length) (x : S_Instr) : rd z_Instr (b.set i x) i = x := by rw [rd_set h, if_pos rfl]
theorem mark_j81 (l0 : Int → Int → List S_Instr → Option (Int × List S_Instr)) (n i : Nat) (b : List S_Instr) (h : i < b.length) (X : S_Instr) (e : Int) (he : 0 ≤ e) (he' : e ≤ 100000000) : w_markInstrS_j81 l0 n e (i : Int) (b.set i X) = l0 (e + 1) (IntKind.i64.wrap ((i : Int) + 1)) (b.set i ⟨X.f0, X.f1, X.f2, X.f3, X.f4, X.f5, X.f6, X.f7, X.f8, X.f9, X.f10, X.f11, X.f12, X.f13, X.f14, X.f15, X.f16, X.f17, e⟩) := by
  have hti : ((i : Int)).toNat = i := by omega
  unfold w_markInstrS_j81
  rw [decide_eq_true (by omega : (0 : Int) ≤ (i : Int)), decide_eq_true (by simp only [Int.ofNat_eq_natCast, List.length_set]; omega : (i : Int) < Int.ofNat (b.set i X).length), wI (n := e + 1) (by omega) (by omega), hti]
  simp only [cond_true, List.set_set, rd_setI h]
theorem mark_j77 (l0 : Int → Int → List S_Instr → Option (Int × List S_Instr)) (n i : Nat) (b : List S_Instr) (h : i < b.length) (X : S_Instr) (e : Int) (he : 0 ≤ e) (he' : e ≤ 99999999) : w_markInstrS_j77 l0 n e (i : Int) (b.set i X) = l0 (e + 2) (IntKind.i64.wrap ((i : Int) + 1)) (b.set i ⟨X.f0, X.f1, X.f2, X.f3, X.f4, X.f5, X.f6, X.f7, X.f8, X.f9, X.f10, X.f11, X.f12, X.f13, X.f14, X.f15, X.f16, e, e + 1⟩) := by
  have hti : ((i : Int)).toNat = i := by omega
  unfold w_markInstrS_j77
  rw [decide_eq_true (by omega : (0 : Int) ≤ (i : Int)), decide_eq_true (by simp only [Int.ofNat_eq_natCast, List.length_set]; omega : (i : Int) < Int.ofNat (b.set i X).length), wI (n := e + 1) (by omega) (by omega), hti]
  simp only [cond_true, List.set_set, rd_setI h]
  rw [mark_j81 l0 n i b h _ (e + 1) (by omega) (by omega)]
  simp only [show e + 1 + 1 = e + 2 by omega]
theorem mark_j73 (l0 : Int → Int → List S_Instr → Option (Int × List S_Instr)) (n i : Nat) (b : List S_Instr) (h : i < b.length) (X : S_Instr) (e : Int) (he : 0 ≤ e) (he' : e ≤ 99999998) : w_markInstrS_j73 l0 n e (i : Int) (b.set i X) = l0 (e + 3) (IntKind.i64.wrap ((i : Int) + 1)) (b.set i ⟨X.f0, X.f1, X.f2, X.f3, X.f4, X.f5, X.f6, X.f7, X.f8, X.f9, X.f10, X.f11, X.f12, X.f13, X.f14, X.f15, e, e + 1, e + 2⟩) := by
  have hti : ((i : Int)).toNat = i := by omega
  unfold w_markInstrS_j73
  rw [decide_eq_true (by omega : (0 : Int) ≤ (i : Int)), decide_eq_true (by simp only [Int.ofNat_eq_natCast, List.length_set]; omega : (i : Int) < Int.ofNat (b.set i X).length), wI (n := e + 1) (by omega) (by omega), hti]
  simp only [cond_true, List.set_set, rd_setI h]
  rw [mark_j77 l0 n i b h _ (e + 1) (by omega) (by omega)]
  simp only [show e + 1 + 2 = e + 3 by omega, show e + 1 + 1 = e + 2 by omega]
theorem mark_j69 (l0 : Int → Int → List S_Instr → Option (Int × List S_Instr)) (n i : Nat) (b : List S_Instr) (h : i < b.length) (X : S_Instr) (e : Int) (he : 0 ≤ e) (he' : e ≤ 99999997) : w_markInstrS_j69 l0 n e (i : Int) (b.set i X) = l0 (e + 4) (IntKind.i64.wrap ((i : Int) + 1)) (b.set i ⟨X.f0, X.f1, X.f2, X.f3, X.f4, X.f5, X.f6, X.f7, X.f8, X.f9, X.f10, X.f11, X.f12, X.f13, X.f14, e, e + 1, e + 2, e + 3⟩) := by
  have hti : ((i : Int)).toNat = i := by omega
  unfold w_markInstrS_j69
  rw [decide_eq_true (by omega : (0 : Int) ≤ (i : Int)), decide_eq_true (by simp only [Int.ofNat_eq_natCast, List.length_set]; omega : (i : Int) < Int.ofNat (b.set i X).length), wI (n := e + 1) (by omega) (by omega), hti]
  simp only [cond_true, List.set_set, rd_setI h]
  rw [mark_j73 l0 n i b h _ (e + 1) (by omega) (by omega)]
  simp only [show e + 1 + 3 = e + 4 by omega, show e + 1 + 1 = e + 2 by omega, show e + 1 + 2 = e + 3 by omega]
theorem mark_j65 (l0 : Int → Int → List S_Instr → Option (Int × List S_Instr)) (n i : Nat) (b : List S_Instr) (h : i < b.length) (X : S_Instr) (e : Int) (he : 0 ≤ e) (he' : e ≤ 99999996) : w_markInstrS_j65 l0 n e (i : Int) (b.set i X) = l0 (e + 5) (IntKind.i64.wrap ((i : Int) + 1)) (b.set i ⟨X.f0, X.f1, X.f2, X.f3, X.f4, X.f5, X.f6, X.f7, X.f8, X.f9, X.f10, X.f11, X.f12, X.f13, e, e + 1, e + 2, e + 3, e + 4⟩) := by
  have hti : ((i : Int)).toNat = i := by omega
  unfold w_markInstrS_j65
  rw [decide_eq_true (by omega : (0 : Int) ≤ (i : Int)), decide_eq_true (by simp only [Int.ofNat_eq_natCast, List.length_set]; omega : (i : Int) < Int.ofNat (b.set i X).length), wI (n := e + 1) (by omega) (by omega), hti]
  simp only [cond_true, List.set_set, rd_setI h]
  rw [mark_j69 l0 n i b h _ (e + 1) (by omega) (by omega)]
  simp only [show e + 1 + 4 = e + 5 by omega, show e + 1 + 1 = e + 2 by omega, show e + 1 + 2 = e + 3 by omega, show e + 1 + 3 = e + 4 by omega]
theorem mark_j61 (l0 : Int → Int → List S_Instr → Option (Int × List S_Instr)) (n i : Nat) (b : List S_Instr) (h : i < b.length) (X : S_Instr) (e : Int) (he : 0 ≤ e) (he' : e ≤ 99999995) : w_markInstrS_j61 l0 n e (i : Int) (b.set i X) = l0 (e + 6) (IntKind.i64.wrap ((i : Int) + 1)) (b.set i ⟨X.f0, X.f1, X.f2, X.f3, X.f4, X.f5, X.f6, X.f7, X.f8, X.f9, X.f10, X.f11, X.f12, e, e + 1, e + 2, e + 3, e + 4, e + 5⟩) := by
  have hti : ((i : Int)).toNat = i := by omega
  unfold w_markInstrS_j61
  rw [decide_eq_true (by omega : (0 : Int) ≤ (i : Int)), decide_eq_true (by simp only [Int.ofNat_eq_natCast, List.length_set]; omega : (i : Int) < Int.ofNat (b.set i X).length), wI (n := e + 1) (by omega) (by omega), hti]
  simp only [cond_true, List.set_set, rd_setI h]
  rw [mark_j65 l0 n i b h _ (e + 1) (by omega) (by omega)]
  simp only [show e + 1 + 5 = e + 6 by omega, show e + 1 + 1 = e + 2 by omega, show e + 1 + 2 = e + 3 by omega, show e + 1 + 3 = e + 4 by omega, show e + 1 + 4 = e + 5 by omega]
theorem mark_j57 (l0 : Int → Int → List S_Instr → Option (Int × List S_Instr)) (n i : Nat) (b : List S_Instr) (h : i < b.length) (X : S_Instr) (e : Int) (he : 0 ≤ e) (he' : e ≤ 99999994) : w_markInstrS_j57 l0 n e (i : Int) (b.set i X) = l0 (e + 7) (IntKind.i64.wrap ((i : Int) + 1)) (b.set i ⟨X.f0, X.f1, X.f2, X.f3, X.f4, X.f5, X.f6, X.f7, X.f8, X.f9, X.f10, X.f11, e, e + 1, e + 2, e + 3, e + 4, e + 5, e + 6⟩) := by
  have hti : ((i : Int)).toNat = i := by omega
  unfold w_markInstrS_j57
  rw [decide_eq_true (by omega : (0 : Int) ≤ (i : Int)), decide_eq_true (by simp only [Int.ofNat_eq_natCast, List.length_set]; omega : (i : Int) < Int.ofNat (b.set i X).length), wI (n := e + 1) (by omega) (by omega), hti]
  simp only [cond_true, List.set_set, rd_setI h]
  rw [mark_j61 l0 n i b h _ (e + 1) (by omega) (by omega)]
  simp only [show e + 1 + 6 = e + 7 by omega, show e + 1 + 1 = e + 2 by omega, show e + 1 + 2 = e + 3 by omega, show e + 1 + 3 = e + 4 by omega, show e + 1 + 4 = e + 5 by omega, show e + 1 + 5 = e + 6 by omega]
theorem mark_j53 (l0 : Int → Int → List S_Instr → Option (Int × List S_Instr)) (n i : Nat) (b : List S_Instr) (h : i < b.length) (X : S_Instr) (e : Int) (he : 0 ≤ e) (he' : e ≤ 99999993) : w_markInstrS_j53 l0 n e (i : Int) (b.set i X) = l0 (e + 8) (IntKind.i64.wrap ((i : Int) + 1)) (b.set i ⟨X.f0, X.f1, X.f2, X.f3, X.f4, X.f5, X.f6, X.f7, X.f8, X.f9, X.f10, e, e + 1, e + 2, e + 3, e + 4, e + 5, e + 6, e + 7⟩) := by
  have hti : ((i : Int)).toNat = i := by omega
  unfold w_markInstrS_j53
  rw [decide_eq_true (by omega : (0 : Int) ≤ (i : Int)), decide_eq_true (by simp only [Int.ofNat_eq_natCast, List.length_set]; omega : (i : Int) < Int.ofNat (b.set i X).length), wI (n := e + 1) (by omega) (by omega), hti]
  simp only [cond_true, List.set_set, rd_setI h]
  rw [mark_j57 l0 n i b h _ (e + 1) (by omega) (by omega)]
  simp only [show e + 1 + 7 = e + 8 by omega, show e + 1 + 1 = e + 2 by omega, show e + 1 + 2 = e + 3 by omega, show e + 1 + 3 = e + 4 by omega, show e + 1 + 4 = e + 5 by omega, show e + 1 + 5 = e + 6 by omega, show e + 1 + 6 = e + 7 by omega]
theorem mark_j49 (l0 : Int → Int → List S_Instr → Option (Int × List S_Instr)) (n i : Nat) (b : List S_Instr) (h : i < b.length) (X : S_Instr) (e : Int) (he : 0 ≤ e) (he' : e ≤ 99999992) : w_markInstrS_j49 l0 n e (i : Int) (b.set i X) = l0 (e + 9) (IntKind.i64.wrap ((i : Int) + 1)) (b.set i ⟨X.f0, X.f1, X.f2, X.f3, X.f4, X.f5, X.f6, X.f7, X.f8, X.f9, e, e + 1, e + 2, e + 3, e + 4, e + 5, e + 6, e + 7, e + 8⟩) := by
  have hti : ((i : Int)).toNat = i := by omega
  unfold w_markInstrS_j49
  rw [decide_eq_true (by omega : (0 : Int) ≤ (i : Int)), decide_eq_true (by simp only [Int.ofNat_eq_natCast, List.length_set]; omega : (i : Int) < Int.ofNat (b.set i X).length), wI (n := e + 1) (by omega) (by omega), hti]
  simp only [cond_true, List.set_set, rd_setI h]
  rw [mark_j53 l0 n i b h _ (e + 1) (by omega) (by omega)]
  simp only [show e + 1 + 8 = e + 9 by omega, show e + 1 + 1 = e + 2 by omega, show e + 1 + 2 = e + 3 by omega, show e + 1 + 3 = e + 4 by omega, show e + 1 + 4 = e + 5 by omega, show e + 1 + 5 = e + 6 by omega, show e + 1 + 6 = e + 7 by omega, show e + 1 + 7 = e + 8 by omega]
theorem mark_j45 (l0 : Int → Int → List S_Instr → Option (Int × List S_Instr)) (n i : Nat) (b : List S_Instr) (h : i < b.length) (X : S_Instr) (e : Int) (he : 0 ≤ e) (he' : e ≤ 99999991) : w_markInstrS_j45 l0 n e (i : Int) (b.set i X) = l0 (e + 10) (IntKind.i64.wrap ((i : Int) + 1)) (b.set i ⟨X.f0, X.f1, X.f2, X.f3, X.f4, X.f5, X.f6, X.f7, X.f8, e, e + 1, e + 2, e + 3, e + 4, e + 5, e + 6, e + 7, e + 8, e + 9⟩) := by
  have hti : ((i : Int)).toNat = i := by omega
  unfold w_markInstrS_j45
  rw [decide_eq_true (by omega : (0 : Int) ≤ (i : Int)), decide_eq_true (by simp only [Int.ofNat_eq_natCast, List.length_set]; omega : (i : Int) < Int.ofNat (b.set i X).length), wI (n := e + 1) (by omega) (by omega), hti]
  simp only [cond_true, List.set_set, rd_setI h]
  rw [mark_j49 l0 n i b h _ (e + 1) (by omega) (by omega)]
  simp only [show e + 1 + 9 = e + 10 by omega, show e + 1 + 1 = e + 2 by omega, show e + 1 + 2 = e + 3 by omega, show e + 1 + 3 = e + 4 by omega, show e + 1 + 4 = e + 5 by omega, show e + 1 + 5 = e + 6 by omega, show e + 1 + 6 = e + 7 by omega, show e + 1 + 7 = e + 8 by omega, show e + 1 + 8 = e + 9 by omega]
theorem mark_j41 (l0 : Int → Int → List S_Instr → Option (Int × List S_Instr)) (n i : Nat) (b : List S_Instr) (h : i < b.length) (X : S_Instr) (e : Int) (he : 0 ≤ e) (he' : e ≤ 99999990) : w_markInstrS_j41 l0 n e (i : Int) (b.set i X) = l0 (e + 11) (IntKind.i64.wrap ((i : Int) + 1)) (b.set i ⟨X.f0, X.f1, X.f2, X.f3, X.f4, X.f5, X.f6, X.f7, e, e + 1, e + 2, e + 3, e + 4, e + 5, e + 6, e + 7, e + 8, e + 9, e + 10⟩) := by
  have hti : ((i : Int)).toNat = i := by omega
  unfold w_markInstrS_j41
  rw [decide_eq_true (by omega : (0 : Int) ≤ (i : Int)), decide_eq_true (by simp only [Int.ofNat_eq_natCast, List.length_set]; omega : (i : Int) < Int.ofNat (b.set i X).length), wI (n := e + 1) (by omega) (by omega), hti]
  simp only [cond_true, List.set_set, rd_setI h]
  rw [mark_j45 l0 n i b h _ (e + 1) (by omega) (by omega)]
  simp only [show e + 1 + 10 = e + 11 by omega, show e + 1 + 1 = e + 2 by omega, show e + 1 + 2 = e + 3 by omega, show e + 1 + 3 = e + 4 by omega, show e + 1 + 4 = e + 5 by omega, show e + 1 + 5 = e + 6 by omega, show e + 1 + 6 = e + 7 by omega, show e + 1 + 7 = e + 8 by omega, show e + 1 + 8 = e + 9 by omega, show e + 1 + 9 = e + 10 by omega]
theorem mark_j37 (l0 : Int → Int → List S_Instr → Option (Int × List S_Instr)) (n i : Nat) (b : List S_Instr) (h : i < b.length) (X : S_Instr) (e : Int) (he : 0 ≤ e) (he' : e ≤ 99999989) : w_markInstrS_j37 l0 n e (i : Int) (b.set i X) = l0 (e + 12) (IntKind.i64.wrap ((i : Int) + 1)) (b.set i ⟨X.f0, X.f1, X.f2, X.f3, X.f4, X.f5, X.f6, e, e + 1, e + 2, e + 3, e + 4, e + 5, e + 6, e + 7, e + 8, e + 9, e + 10, e + 11⟩) := by
  have hti : ((i : Int)).toNat = i := by omega
  unfold w_markInstrS_j37
  rw [decide_eq_true (by omega : (0 : Int) ≤ (i : Int)), decide_eq_true (by simp only [Int.ofNat_eq_natCast, List.length_set]; omega : (i : Int) < Int.ofNat (b.set i X).length), wI (n := e + 1) (by omega) (by omega), hti]
  simp only [cond_true, List.set_set, rd_setI h]
  rw [mark_j41 l0 n i b h _ (e + 1) (by omega) (by omega)]
  simp only [show e + 1 + 11 = e + 12 by omega, show e + 1 + 1 = e + 2 by omega, show e + 1 + 2 = e + 3 by omega, show e + 1 + 3 = e + 4 by omega, show e + 1 + 4 = e + 5 by omega, show e + 1 + 5 = e + 6 by omega, show e + 1 + 6 = e + 7 by omega, show e + 1 + 7 = e + 8 by omega, show e + 1 + 8 = e + 9 by omega, show e + 1 + 9 = e + 10 by omega, show e + 1 + 10 = e + 11 by omega]
theorem mark_j33 (l0 : Int → Int → List S_Instr → Option (Int × List S_Instr)) (n i : Nat) (b : List S_Instr) (h : i < b.length) (X : S_Instr) (e : Int) (he : 0 ≤ e) (he' : e ≤ 99999988) : w_markInstrS_j33 l0 n e (i : Int) (b.set i X) = l0 (e + 13) (IntKind.i64.wrap ((i : Int) + 1)) (b.set i ⟨X.f0, X.f1, X.f2, X.f3, X.f4, X.f5, e, e + 1, e + 2, e + 3, e + 4, e + 5, e + 6, e + 7, e + 8, e + 9, e + 10, e + 11, e + 12⟩) := by
  have hti : ((i : Int)).toNat = i := by omega
  unfold w_markInstrS_j33
  rw [decide_eq_true (by omega : (0 : Int) ≤ (i : Int)), decide_eq_true (by simp only [Int.ofNat_eq_natCast, List.length_set]; omega : (i : Int) < Int.ofNat (b.set i X).length), wI (n := e + 1) (by omega) (by omega), hti]
  simp only [cond_true, List.set_set, rd_setI h]
  rw [mark_j37 l0 n i b h _ (e + 1) (by omega) (by omega)]
  simp only [show e + 1 + 12 = e + 13 by omega, show e + 1 + 1 = e + 2 by omega, show e + 1 + 2 = e + 3 by omega, show e + 1 + 3 = e + 4 by omega, show e + 1 + 4 = e + 5 by omega, show e + 1 + 5 = e + 6 by omega, show e + 1 + 6 = e + 7 by omega, show e + 1 + 7 = e + 8 by omega, show e + 1 + 8 = e + 9 by omega, show e + 1 + 9 = e + 10 by omega, show e + 1 + 10 = e + 11 by omega, show e + 1 + 11 = e + 12 by omega]
theorem mark_j29 (l0 : Int → Int → List S_Instr → Option (Int × List S_Instr)) (n i : Nat) (b : List S_Instr) (h : i < b.length) (X : S_Instr) (e : Int) (he : 0 ≤ e) (he' : e ≤ 99999987) : w_markInstrS_j29 l0 n e (i : Int) (b.set i X) = l0 (e + 14) (IntKind.i64.wrap ((i : Int) + 1)) (b.set i ⟨X.f0, X.f1, X.f2, X.f3, X.f4, e, e + 1, e + 2, e + 3, e + 4, e + 5, e + 6, e + 7, e + 8, e + 9, e + 10, e + 11, e + 12, e + 13⟩) := by
  have hti : ((i : Int)).toNat = i := by omega
  unfold w_markInstrS_j29
  rw [decide_eq_true (by omega : (0 : Int) ≤ (i : Int)), decide_eq_true (by simp only [Int.ofNat_eq_natCast, List.length_set]; omega : (i : Int) < Int.ofNat (b.set i X).length), wI (n := e + 1) (by omega) (by omega), hti]
  simp only [cond_true, List.set_set, rd_setI h]
  rw [mark_j33 l0 n i b h _ (e + 1) (by omega) (by omega)]
  simp only [show e + 1 + 13 = e + 14 by omega, show e + 1 + 1 = e + 2 by omega, show e + 1 + 2 = e + 3 by omega, show e + 1 + 3 = e + 4 by omega, show e + 1 + 4 = e + 5 by omega, show e + 1 + 5 = e + 6 by omega, show e + 1 + 6 = e + 7 by omega, show e + 1 + 7 = e + 8 by omega, show e + 1 + 8 = e + 9 by omega, show e + 1 + 9 = e + 10 by omega, show e + 1 + 10 = e + 11 by omega, show e + 1 + 11 = e + 12 by omega, show e + 1 + 12 = e + 13 by omega]
theorem mark_j25 (l0 : Int → Int → List S_Instr → Option (Int × List S_Instr)) (n i : Nat) (b : List S_Instr) (h : i < b.length) (X : S_Instr) (e : Int) (he : 0 ≤ e) (he' : e ≤ 99999986) : w_markInstrS_j25 l0 n e (i : Int) (b.set i X) = l0 (e + 15) (IntKind.i64.wrap ((i : Int) + 1)) (b.set i ⟨X.f0, X.f1, X.f2, X.f3, e, e + 1, e + 2, e + 3, e + 4, e + 5, e + 6, e + 7, e + 8, e + 9, e + 10, e + 11, e + 12, e + 13, e + 14⟩) := by
  have hti : ((i : Int)).toNat = i := by omega
  unfold w_markInstrS_j25
  rw [decide_eq_true (by omega : (0 : Int) ≤ (i : Int)), decide_eq_true (by simp only [Int.ofNat_eq_natCast, List.length_set]; omega : (i : Int) < Int.ofNat (b.set i X).length), wI (n := e + 1) (by omega) (by omega), hti]
  simp only [cond_true, List.set_set, rd_setI h]
  rw [mark_j29 l0 n i b h _ (e + 1) (by omega) (by omega)]
  simp only [show e + 1 + 14 = e + 15 by omega, show e + 1 + 1 = e + 2 by omega, show e + 1 + 2 = e + 3 by omega, show e + 1 + 3 = e + 4 by omega, show e + 1 + 4 = e + 5 by omega, show e + 1 + 5 = e + 6 by omega, show e + 1 + 6 = e + 7 by omega, show e + 1 + 7 = e + 8 by omega, show e + 1 + 8 = e + 9 by omega, show e + 1 + 9 = e + 10 by omega, show e + 1 + 10 = e + 11 by omega, show e + 1 + 11 = e + 12 by omega, show e + 1 + 12 = e + 13 by omega, show e + 1 + 13 = e + 14 by omega]
theorem mark_j21 (l0 : Int → Int → List S_Instr → Option (Int × List S_Instr)) (n i : Nat) (b : List S_Instr) (h : i < b.length) (X : S_Instr) (e : Int) (he : 0 ≤ e) (he' : e ≤ 99999985) : w_markInstrS_j21 l0 n e (i : Int) (b.set i X) = l0 (e + 16) (IntKind.i64.wrap ((i : Int) + 1)) (b.set i ⟨X.f0, X.f1, X.f2, e, e + 1, e + 2, e + 3, e + 4, e + 5, e + 6, e + 7, e + 8, e + 9, e + 10, e + 11, e + 12, e + 13, e + 14, e + 15⟩) := by
  have hti : ((i : Int)).toNat = i := by omega
  unfold w_markInstrS_j21
  rw [decide_eq_true (by omega : (0 : Int) ≤ (i : Int)), decide_eq_true (by simp only [Int.ofNat_eq_natCast, List.length_set]; omega : (i : Int) < Int.ofNat (b.set i X).length), wI (n := e + 1) (by omega) (by omega), hti]
  simp only [cond_true, List.set_set, rd_setI h]
  rw [mark_j25 l0 n i b h _ (e + 1) (by omega) (by omega)]
  simp only [show e + 1 + 15 = e + 16 by omega, show e + 1 + 1 = e + 2 by omega, show e + 1 + 2 = e + 3 by omega, show e + 1 + 3 = e + 4 by omega, show e + 1 + 4 = e + 5 by omega, show e + 1 + 5 = e + 6 by omega, show e + 1 + 6 = e + 7 by omega, show e + 1 + 7 = e + 8 by omega, show e + 1 + 8 = e + 9 by omega, show e + 1 + 9 = e + 10 by omega, show e + 1 + 10 = e + 11 by omega, show e + 1 + 11 = e + 12 by omega, show e + 1 + 12 = e + 13 by omega, show e + 1 + 13 = e + 14 by omega, show e + 1 + 14 = e + 15 by omega]
theorem mark_j17 (l0 : Int → Int → List S_Instr → Option (Int × List S_Instr)) (n i : Nat) (b : List S_Instr) (h : i < b.length) (X : S_Instr) (e : Int) (he : 0 ≤ e) (he' : e ≤ 99999984) : w_markInstrS_j17 l0 n e (i : Int) (b.set i X) = l0 (e + 17) (IntKind.i64.wrap ((i : Int) + 1)) (b.set i ⟨X.f0, X.f1, e, e + 1, e + 2, e + 3, e + 4, e + 5, e + 6, e + 7, e + 8, e + 9, e + 10, e + 11, e + 12, e + 13, e + 14, e + 15, e + 16⟩) := by
  have hti : ((i : Int)).toNat = i := by omega
  unfold w_markInstrS_j17
  rw [decide_eq_true (by omega : (0 : Int) ≤ (i : Int)), decide_eq_true (by simp only [Int.ofNat_eq_natCast, List.length_set]; omega : (i : Int) < Int.ofNat (b.set i X).length), wI (n := e + 1) (by omega) (by omega), hti]
  simp only [cond_true, List.set_set, rd_setI h]
  rw [mark_j21 l0 n i b h _ (e + 1) (by omega) (by omega)]
  simp only [show e + 1 + 16 = e + 17 by omega, show e + 1 + 1 = e + 2 by omega, show e + 1 + 2 = e + 3 by omega, show e + 1 + 3 = e + 4 by omega, show e + 1 + 4 = e + 5 by omega, show e + 1 + 5 = e + 6 by omega, show e + 1 + 6 = e + 7 by omega, show e + 1 + 7 = e + 8 by omega, show e + 1 + 8 = e + 9 by omega, show e + 1 + 9 = e + 10 by omega, show e + 1 + 10 = e + 11 by omega, show e + 1 + 11 = e + 12 by omega, show e + 1 + 12 = e + 13 by omega, show e + 1 + 13 = e + 14 by omega, show e + 1 + 14 = e + 15 by omega, show e + 1 + 15 = e + 16 by omega]
theorem mark_j13 (l0 : Int → Int → List S_Instr → Option (Int × List S_Instr)) (n i : Nat) (b : List S_Instr) (h : i < b.length) (X : S_Instr) (e : Int) (he : 0 ≤ e) (he' : e ≤ 99999983) : w_markInstrS_j13 l0 n e (i : Int) (b.set i X) = l0 (e + 18) (IntKind.i64.wrap ((i : Int) + 1)) (b.set i ⟨X.f0, e, e + 1, e + 2, e + 3, e + 4, e + 5, e + 6, e + 7, e + 8, e + 9, e + 10, e + 11, e + 12, e + 13, e + 14, e + 15, e + 16, e + 17⟩) := by
  have hti : ((i : Int)).toNat = i := by omega
  unfold w_markInstrS_j13
  rw [decide_eq_true (by omega : (0 : Int) ≤ (i : Int)), decide_eq_true (by simp only [Int.ofNat_eq_natCast, List.length_set]; omega : (i : Int) < Int.ofNat (b.set i X).length), wI (n := e + 1) (by omega) (by omega), hti]
  simp only [cond_true, List.set_set, rd_setI h]
  rw [mark_j17 l0 n i b h _ (e + 1) (by omega) (by omega)]
  simp only [show e + 1 + 17 = e + 18 by omega, show e + 1 + 1 = e + 2 by omega, show e + 1 + 2 = e + 3 by omega, show e + 1 + 3 = e + 4 by omega, show e + 1 + 4 = e + 5 by omega, show e + 1 + 5 = e + 6 by omega, show e + 1 + 6 = e + 7 by omega, show e + 1 + 7 = e + 8 by omega, show e + 1 + 8 = e + 9 by omega, show e + 1 + 9 = e + 10 by omega, show e + 1 + 10 = e + 11 by omega, show e + 1 + 11 = e + 12 by omega, show e + 1 + 12 = e + 13 by omega, show e + 1 + 13 = e + 14 by omega, show e + 1 + 14 = e + 15 by omega, show e + 1 + 15 = e + 16 by omega, show e + 1 + 16 = e + 17 by omega]
theorem mark_r0 (l0 : Int → Int → List S_Instr → Option (Int × List S_Instr)) (n i : Nat) (b : List S_Instr) (h : i < b.length) (e : Int) (he : 0 ≤ e) (he' : e ≤ 90000000) : w_markInstrS_r0 l0 n e (i : Int) b = l0 (e + 19) (IntKind.i64.wrap ((i : Int) + 1)) (b.set i (mkI e)) := by
  have hti : ((i : Int)).toNat = i := by omega
  unfold w_markInstrS_r0
  rw [decide_eq_true (by omega : (0 : Int) ≤ (i : Int)), decide_eq_true (by simp only [Int.ofNat_eq_natCast]; omega : (i : Int) < Int.ofNat b.length), wI (n := e + 1) (by omega) (by omega), hti]
  simp only [cond_true]
  rw [mark_j13 l0 n i b h _ (e + 1) (by omega) (by omega)]
  unfold mkI
  simp only [show e + 1 + 18 = e + 19 by omega, show e + 1 + 1 = e + 2 by omega, show e + 1 + 2 = e + 3 by omega, show e + 1 + 3 = e + 4 by omega, show e + 1 + 4 = e + 5 by omega, show e + 1 + 5 = e + 6 by omega, show e + 1 + 6 = e + 7 by omega, show e + 1 + 7 = e + 8 by omega, show e + 1 + 8 = e + 9 by omega, show e + 1 + 9 = e + 10 by omega, show e + 1 + 10 = e + 11 by omega, show e + 1 + 11 = e + 12 by omega, show e + 1 + 12 = e + 13 by omega, show e + 1 + 13 = e + 14 by omega, show e + 1 + 14 = e + 15 by omega, show e + 1 + 15 = e + 16 by omega, show e + 1 + 16 = e + 17 by omega, show e + 1 + 17 = e + 18 by omega]
theorem markInstrS_loop (e : Int) (L : Nat) (he : 0 ≤ e) (hL : e + 19 * (L : Int) + 19 ≤ 90000000) : ∀ (d i : Nat) (b : List S_Instr), i + d = L → b.length = L → (∀ j, j < i → rd z_Instr b j = mkI (e + 19 * (j : Int))) →
    Ev (fun n => w_markInstrS_ls n (e + 19 * (i : Int)) (i : Int) b) (e + 19 * (L : Int), mkIs e L) := by
  intro d
  induction d with
  | zero =>
    intro i b hi hb hj
    have e1 : b = mkIs e L := rd_ext (d := z_Instr) (by unfold mkIs; simpa using hb) fun j h => by rw [rd_mkIs e L j (by omega)]; exact hj j (by omega)
    refine Ev.step (g := fun n => w_markInstrS_r0 (w_markInstrS_ls n) n (e + 19 * (i : Int)) i b) (fun n => rfl) ?_
    unfold w_markInstrS_r0
    refine Ev.df (by simp only [Int.ofNat_eq_natCast]; omega) ?_
    rw [e1, show i = L by omega]
    exact Ev.now _
  | succ d ih =>
    intro i b hi hb hj
    have hib : i < b.length := by omega
    refine Ev.step (g := fun n => w_markInstrS_r0 (w_markInstrS_ls n) n (e + 19 * (i : Int)) i b) (fun n => rfl) ?_
    refine Ev.congr (fun n => mark_r0 _ n i b hib _ (by omega) (by omega)) ?_
    rw [wI (n := (i : Int) + 1) (by omega) (by omega)]
    have := ih (i + 1) (b.set i (mkI (e + 19 * (i : Int)))) (by omega) (by simp [hb]) (fun j hj' => by
      rw [rd_set hib]
      split
      · rename_i h; rw [h]
      · exact hj j (by omega))
    rw [show e + 19 * ((i + 1 : Nat) : Int) = e + 19 * (i : Int) + 19 by omega, show ((i + 1 : Nat) : Int) = (i : Int) + 1 by omega] at this
    exact this
theorem w_markInstrS_ev (l : List S_Instr) (h : l.length ≤ 1048576) : Ev (fun n => w_markInstrS n l 1) (1 + 19 * (l.length : Int), mkIs 1 l.length) := by
  unfold w_markInstrS w_markInstrS_m
  have := markInstrS_loop 1 l.length (by omega) (by omega) l.length 0 l (by omega) rfl (fun j h => by omega)
  rw [show (1 : Int) + 19 * ((0 : Nat) : Int) = 1 by omega] at this
  exact this
theorem w_eqOperand_refl (n : Nat) (x) : w_eqOperand n x x = some true := by
  unfold w_eqOperand
  simp only [bne_self_eq_false, cond_false]
theorem w_eqInstr_refl (n : Nat) (x) : w_eqInstr n x x = some true := by
  unfold w_eqInstr
  simp only [bne_self_eq_false, cond_false, w_eqOperand_refl, Option.bind_some, Bool.not_true]
theorem eqInstrS_loop (l : List S_Instr) (hl : l.length ≤ 9223372036854775807) : ∀ (d i : Nat), i + d = l.length → Ev (fun n => w_eqInstrS_ls n l l (i : Int)) true := by
  intro d
  induction d with
  | zero =>
    intro i hi
    refine Ev.step (g := fun n => w_eqInstrS_r0 (w_eqInstrS_ls n) n l l i) (fun n => rfl) ?_
    unfold w_eqInstrS_r0
    exact Ev.df (by simp only [Int.ofNat_eq_natCast]; omega) (Ev.now _)
  | succ d ih =>
    intro i hi
    refine Ev.step (g := fun n => w_eqInstrS_r0 (w_eqInstrS_ls n) n l l i) (fun n => rfl) ?_
    unfold w_eqInstrS_r0
    have h1 : (i : Int) < Int.ofNat l.length := by simp only [Int.ofNat_eq_natCast]; omega
    refine Ev.dt h1 (Ev.dt (by omega) (Ev.dt h1 (Ev.dt (by omega) (Ev.dt h1 (Ev.bind (Ev.all fun n => w_eqInstr_refl n _) (Ev.f rfl ?_))))))
    rw [wI (by omega) (by omega)]
    exact ih (i + 1) (by omega)
theorem w_eqInstrS_refl (l : List S_Instr) (hl : l.length ≤ 9223372036854775807) : Ev (fun n => w_eqInstrS n l l) true := by
  unfold w_eqInstrS w_eqInstrS_m
  exact Ev.f (by simp) (eqInstrS_loop l hl l.length 0 (by omega))
theorem bne_f {a b : Int} (h : a = b) : (a != b) = false := by rw [h]; simp
theorem held_r0 (l0 : List S_Instr → Int → Int → Option Int) (n i : Nat) (b : List S_Instr) (h : i < b.length) (e : Int) (he : 0 ≤ e) (he' : e ≤ 90000000) (hb : rd z_Instr b i = mkI e) : w_heldInstrS_r0 l0 n b e (i : Int) = l0 b (e + 19) (IntKind.i64.wrap ((i : Int) + 1)) := by
  have hti : ((i : Int)).toNat = i := by omega
  have w : ∀ k : Int, 0 ≤ k → k ≤ 20 → IntKind.i64.wrap (e + k + 1) = e + (k + 1) := fun k h1 h2 => by rw [wI (by omega) (by omega)]; omega
  unfold w_heldInstrS_r0
  rw [decide_eq_true (by omega : (0 : Int) ≤ (i : Int)), decide_eq_true (by simp only [Int.ofNat_eq_natCast]; omega : (i : Int) < Int.ofNat b.length), hti, hb, wI (n := e + 1) (by omega) (by omega)]
  simp only [cond_true, (by rw [wI (by omega) (by omega)]; omega : IntKind.i64.wrap (e + 1 + 1) = e + 2), (by rw [wI (by omega) (by omega)]; omega : IntKind.i64.wrap (e + 2 + 1) = e + 3), (by rw [wI (by omega) (by omega)]; omega : IntKind.i64.wrap (e + 3 + 1) = e + 4), (by rw [wI (by omega) (by omega)]; omega : IntKind.i64.wrap (e + 4 + 1) = e + 5), (by rw [wI (by omega) (by omega)]; omega : IntKind.i64.wrap (e + 5 + 1) = e + 6), (by rw [wI (by omega) (by omega)]; omega : IntKind.i64.wrap (e + 6 + 1) = e + 7), (by rw [wI (by omega) (by omega)]; omega : IntKind.i64.wrap (e + 7 + 1) = e + 8), (by rw [wI (by omega) (by omega)]; omega : IntKind.i64.wrap (e + 8 + 1) = e + 9), (by rw [wI (by omega) (by omega)]; omega : IntKind.i64.wrap (e + 9 + 1) = e + 10), (by rw [wI (by omega) (by omega)]; omega : IntKind.i64.wrap (e + 10 + 1) = e + 11), (by rw [wI (by omega) (by omega)]; omega : IntKind.i64.wrap (e + 11 + 1) = e + 12), (by rw [wI (by omega) (by omega)]; omega : IntKind.i64.wrap (e + 12 + 1) = e + 13), (by rw [wI (by omega) (by omega)]; omega : IntKind.i64.wrap (e + 13 + 1) = e + 14), (by rw [wI (by omega) (by omega)]; omega : IntKind.i64.wrap (e + 14 + 1) = e + 15), (by rw [wI (by omega) (by omega)]; omega : IntKind.i64.wrap (e + 15 + 1) = e + 16), (by rw [wI (by omega) (by omega)]; omega : IntKind.i64.wrap (e + 16 + 1) = e + 17), (by rw [wI (by omega) (by omega)]; omega : IntKind.i64.wrap (e + 17 + 1) = e + 18), (by rw [wI (by omega) (by omega)]; omega : IntKind.i64.wrap (e + 18 + 1) = e + 19)]
  unfold mkI
  simp only [bne_self_eq_false, cond_false]
theorem heldInstrS_loop (e : Int) (L : Nat) (he : 0 ≤ e) (hL : e + 19 * (L : Int) + 19 ≤ 90000000) : ∀ (d i : Nat), i + d = L → Ev (fun n => w_heldInstrS_ls n (mkIs e L) (e + 19 * (i : Int)) (i : Int)) (e + 19 * (L : Int)) := by
  have hlen : (mkIs e L).length = L := by unfold mkIs; simp
  intro d
  induction d with
  | zero =>
    intro i hi
    refine Ev.step (g := fun n => w_heldInstrS_r0 (w_heldInstrS_ls n) n (mkIs e L) (e + 19 * (i : Int)) i) (fun n => rfl) ?_
    unfold w_heldInstrS_r0
    refine Ev.df (by simp only [Int.ofNat_eq_natCast]; omega) ?_
    rw [show i = L by omega]
    exact Ev.now _
  | succ d ih =>
    intro i hi
    refine Ev.step (g := fun n => w_heldInstrS_r0 (w_heldInstrS_ls n) n (mkIs e L) (e + 19 * (i : Int)) i) (fun n => rfl) ?_
    refine Ev.congr (fun n => held_r0 _ n i _ (by omega) _ (by omega) (by omega) (rd_mkIs e L i (by omega))) ?_
    rw [wI (n := (i : Int) + 1) (by omega) (by omega)]
    have := ih (i + 1) (by omega)
    rw [show e + 19 * ((i + 1 : Nat) : Int) = e + 19 * (i : Int) + 19 by omega, show ((i + 1 : Nat) : Int) = (i : Int) + 1 by omega] at this
    exact this
theorem w_heldInstrS_ev (L : Nat) (h : L ≤ 1048576) : Ev (fun n => w_heldInstrS n (mkIs 1 L) 1) (1 + 19 * (L : Int)) := by
  unfold w_heldInstrS w_heldInstrS_m
  have := heldInstrS_loop 1 L (by omega) (by omega) L 0 (by omega)
  rw [show (1 : Int) + 19 * ((0 : Nat) : Int) = 1 by omega] at this
  exact this
end Go.Proofs.Ytnjmkkgmlkhjeaa
/- StmtCode: both sides give the same instructions, and these are the caller's own. -/
namespace Go.Proofs.Ytnjmkkgmlkhjeaa
open Go Go.Proofs.Ytnjmkkgmlkhjeaa.AM
set_option linter.all false
abbrev StT : Type := Int × Int × Int × Int × Unit
def RG (a : Int) : Bool := IN a 0 14 && (!(a == 4) && (!(a == 5) && !(a == 11)))
theorem s_l14Reg_val (n : Nat) (a : Int) : s_l14Reg n a = some (RG a) := by
  unfold s_l14Reg RG
  rw [s_l01In_val, Option.bind_some]
  cases IN a 0 14 <;> cases h4 : a == (4 : Int) <;> cases h5 : a == (5 : Int) <;> simp [bne, h4, h5]
theorem i_isOwnReg_val (n : Nat) (a : Int) : i_isOwnReg n a = some (RG a) := by
  unfold i_isOwnReg RG
  rw [i_within_val, Option.bind_some]
  unfold i_isStackReg
  cases IN a 0 14 <;> cases h4 : a == (4 : Int) <;> cases h5 : a == (5 : Int) <;> simp [bne, h4, h5]
theorem s_l14Label_val (n : Nat) (a : Int) : s_l14Label n a = some (IN a 0 31) := by unfold s_l14Label; rw [s_l01In_val]; rfl
theorem i_isLabel_val (n : Nat) (a : Int) : i_isLabel n a = some (IN a 0 31) := by unfold i_isLabel; rw [i_within_val]; rfl
theorem s_l14Disp_val (n : Nat) (a : Int) : s_l14Disp n a = some (IN a (-2048) 2047) := by unfold s_l14Disp; rw [s_l01In_val]; rfl
def FT (a : Int) : Bool := sg a 4 == a
theorem s_l05Fits_ev (a : Int) (h0 : -9223372036854775808 ≤ a) (h1 : a ≤ 9223372036854775807) : Ev (fun n => s_l05Fits n a 4) (FT a) := by
  unfold s_l05Fits
  rw [mn_eq, show min (4 : Int) 4 = 4 by decide]
  exact Ev.bind (s_l01Sign_ev a 4 (by simp) h0 h1) (Ev.now _)
theorem i_fits_val (n : Nat) (a : Int) (h0 : -9223372036854775808 ≤ a) (h1 : a ≤ 9223372036854775807) : i_fits n a 4 = some (FT a) := by
  unfold i_fits
  rw [i_sign_val n a 4 (by simp) h0 h1]
  rfl
theorem kinds (k : Int) : k = 1 ∨ k = 2 ∨ k = 3 ∨ k = 4 ∨ k = 5 ∨ k = 6 ∨ k = 7 ∨ k = 8 ∨ k = 9 ∨ k = 10 ∨ k = 11 ∨ k = 12 ∨ k = 13 ∨ k = 14 ∨ k = 15 ∨ k = 16 ∨ k = 17 ∨
    ((k == 1) = false ∧ (k == 2) = false ∧ (k == 3) = false ∧ (k == 4) = false ∧ (k == 5) = false ∧ (k == 6) = false ∧ (k == 7) = false ∧ (k == 8) = false ∧ (k == 9) = false ∧ (k == 10) = false ∧ (k == 11) = false ∧ (k == 12) = false ∧ (k == 13) = false ∧ (k == 14) = false ∧ (k == 15) = false ∧ (k == 16) = false ∧ (k == 17) = false) := by
  simp only [beq_eq_false_iff_ne]
  omega
theorem same_of {L R : Option Bool} (h : L.isSome = true ∧ L = R) : ∃ z, L = some z ∧ R = some z := by
  obtain ⟨h1, rfl⟩ := h
  exact ⟨L.get h1, by simp, by simp⟩
theorem stmtOK_same (n : Nat) (k A B C : Int) (hf : s_l05Fits n B 4 = some (FT B)) (h0 : -9223372036854775808 ≤ B) (h1 : B ≤ 9223372036854775807) : ∃ z, s_StmtOK n (k, A, B, C, ()) = some z ∧ i_StmtOK n (k, A, B, C, ()) = some z := by
  have hi := i_fits_val n B h0 h1
  rcases kinds k with rfl | rfl | rfl | rfl | rfl | rfl | rfl | rfl | rfl | rfl | rfl | rfl | rfl | rfl | rfl | rfl | rfl | ⟨e1, e2, e3, e4, e5, e6, e7, e8, e9, e10, e11, e12, e13, e14, e15, e16, e17⟩
  case inr.inr.inr.inr.inr.inr.inr.inr.inr.inr.inr.inr.inr.inr.inr.inr.inr =>
    refine ⟨false, ?_, ?_⟩
    · unfold s_StmtOK
      simp only [e1, e2, e3, e4, e5, e6, e7, e8, e9, e10, e11, e12, e13, e14, e15, e16, e17, cond_false]
      cases C == (0 : Int) <;> rfl
    · unfold i_StmtOK
      simp only [e1, e2, e3, e4, e5, e6, e7, e8, e9, e10, e11, e12, e13, e14, e15, e16, e17, cond_false]
      rfl
  all_goals
    unfold s_StmtOK i_StmtOK
    simp only [s_l14Reg_val, i_isOwnReg_val, s_l14Label_val, i_isLabel_val, s_l14Disp_val, s_l01In_val, i_within_val, hf, hi, Option.bind_some, Int.reduceBEq, cond_true, cond_false]
    refine same_of ?_
    (try generalize RG A = ra); (try generalize RG B = rb); (try generalize RG C = rc); (try generalize FT B = fb); (try generalize IN A 0 31 = ia); (try generalize IN B 0 31 = ib); (try generalize IN A 1 8 = ic); (try generalize IN C (-2048) 2047 = id'); (try generalize IN A (-256) 256 = ie); (try generalize IN A 0 15 = ig); (try generalize IN A 0 7 = ih); (try generalize (B == (0 : Int)) = b0); (try generalize (C == (0 : Int)) = c0); (try generalize (A == (0 : Int)) = a0); (try generalize (Int.tmod A 8 == (0 : Int)) = a8)
    clear hf hi h0 h1
    decide +revert
end Go.Proofs.Ytnjmkkgmlkhjeaa
/- StmtCode: the law. -/
namespace Go.Proofs.Ytnjmkkgmlkhjeaa
open Go Go.Proofs.Ytnjmkkgmlkhjeaa.AM
set_option linter.all false
theorem code_same (n : Nat) (k A B C : Int) : ∃ l : List S_Instr, s_l14Code n (k, A, B, C, ()) = some l ∧ i_stmtCode n (k, A, B, C, ()) 0 = some l ∧ l.length ≤ 4 := by
  rcases kinds k with rfl | rfl | rfl | rfl | rfl | rfl | rfl | rfl | rfl | rfl | rfl | rfl | rfl | rfl | rfl | rfl | rfl | ⟨e1, e2, e3, e4, e5, e6, e7, e8, e9, e10, e11, e12, e13, e14, e15, e16, e17⟩
  case inr.inr.inr.inr.inr.inr.inr.inr.inr.inr.inr.inr.inr.inr.inr.inr.inr =>
    refine ⟨[], ?_, ?_, by decide⟩
    · unfold s_l14Code
      simp only [e1, e2, e3, e4, e5, e6, e7, e8, e9, e10, e11, e12, e13, e14, e15, e16, e17, cond_false]
      rfl
    · unfold i_stmtCode
      simp only [e1, e2, e3, e4, e5, e6, e7, e8, e9, e10, e11, e12, e13, e14, e15, e16, e17, cond_false]
      rfl
  all_goals exact ⟨_, rfl, rfl, Nat.le_of_ble_eq_true rfl⟩
theorem i_StmtOK_fuel (n m : Nat) (a : StT) : i_StmtOK n a = i_StmtOK m a := rfl
theorem s_code_fuel (n m : Nat) (a : StT) : s_l14Code n a = s_l14Code m a := rfl
theorem i_code_fuel (n m : Nat) (a : StT) (b : Int) : i_stmtCode n a b = i_stmtCode m a b := rfl
theorem StmtCode_same (k A B C : Int) (h0 : -9223372036854775808 ≤ B) (h1 : B ≤ 9223372036854775807) : ∃ (l : List S_Instr) (c : Int), Ev (fun n => s_StmtCode n (k, A, B, C, ())) (l, c) ∧ Ev (fun n => i_StmtCode n (k, A, B, C, ())) (l, c) ∧ l.length ≤ 4 := by
  obtain ⟨N, hN⟩ := s_l05Fits_ev B h0 h1
  have same := fun n hn => stmtOK_same n k A B C (hN n hn) h0 h1
  obtain ⟨z, hz⟩ : ∃ z, ∀ n, N ≤ n → s_StmtOK n (k, A, B, C, ()) = some z := by
    obtain ⟨z, h2, h3⟩ := same N (Nat.le_refl _)
    refine ⟨z, fun n hn => ?_⟩
    obtain ⟨z', h4, h5⟩ := same n hn
    rw [h4, ← h3, ← h5]
    exact i_StmtOK_fuel n N _
  have hz' : ∀ n, N ≤ n → i_StmtOK n (k, A, B, C, ()) = some z := fun n hn => by
    obtain ⟨z', h4, h5⟩ := same n hn
    rw [h5, ← h4, hz n hn]
  cases z with
  | false =>
    refine ⟨[], 1, ?_, ?_, by decide⟩
    · unfold s_StmtCode
      exact Ev.bind ⟨N, hz⟩ (Ev.now _)
    · unfold i_StmtCode
      exact Ev.bind ⟨N, hz'⟩ (Ev.now _)
  | true =>
    obtain ⟨l, h2, h3, h4⟩ := code_same 0 k A B C
    refine ⟨l, 0, ?_, ?_, h4⟩
    · unfold s_StmtCode
      exact Ev.bind ⟨N, hz⟩ (Ev.f rfl (Ev.bind (Ev.all fun n => (s_code_fuel n 0 _).trans h2) (Ev.now _)))
    · unfold i_StmtCode
      exact Ev.bind ⟨N, hz'⟩ (Ev.f rfl (Ev.bind (Ev.all fun n => (i_code_fuel n 0 _ _).trans h3) (Ev.now _)))
theorem FnExactStmtCode_ev (x : StT) (h : R64 x.2.2.1) : Ev (fun n => w_FnExactStmtCode n x) true := by
  obtain ⟨k, A, B, C, ⟨⟩⟩ := x
  obtain ⟨l, c, hs, hi, hl⟩ := StmtCode_same k A B C h.1 h.2
  have he := w_eqInstrS_refl l (by omega)
  have hm := w_markInstrS_ev l (by omega)
  have hh := w_heldInstrS_ev l.length (by omega)
  have hlt : ¬ (1 + 19 * (l.length : Int) < 0) := by omega
  unfold w_FnExactStmtCode
  refine Ev.bind (a := (k, A, B, C, ())) (Ev.now _) (Ev.bind hs (Ev.bind (a := (k, A, B, C, ())) (Ev.now _) (Ev.bind hi (Ev.bind he (Ev.f rfl (Ev.f (by simp) (Ev.bind hm (Ev.bind hh (Ev.df hlt (Ev.f (by simp) ?_))))))))))
  exact Ev.bind (a := (k, A, B, C, ())) (Ev.now _) (Ev.bind hi (Ev.bind he (Ev.f rfl (Ev.f (by simp) (Ev.bind hh (Ev.df hlt (Ev.f (by simp) (Ev.now _))))))))
end Go.Proofs.Ytnjmkkgmlkhjeaa

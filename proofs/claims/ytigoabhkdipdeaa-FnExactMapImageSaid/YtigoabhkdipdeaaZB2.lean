/- A part of the plain reading of Go's code: what a function's code comes to, by a plain function. No condition. -/
import Derived.Test.YtigoabhkdipdeaaZB1
import Derived.Test.YtigoabhkdipdeaaZA3
/- Small tests, the bytes of numbers: what the plain functions come to. -/
namespace Go.Proofs.Ytigoabhkdipdeaa
open Go Go.Proofs.Ytigoabhkdipdeaa.AM
set_option linter.all false

def IN (a b c : Int) : Bool := decide (b ≤ a) && decide (a ≤ c)
theorem IN_true {a b c : Int} : IN a b c = true ↔ b ≤ a ∧ a ≤ c := by unfold IN; simp
theorem IN_false {a b c : Int} : IN a b c = false ↔ ¬ (b ≤ a ∧ a ≤ c) := by rw [← IN_true]; simp
theorem s_l01In_val (n : Nat) (a b c : Int) : s_l01In n a b c = some (IN a b c) := by
  unfold s_l01In IN
  by_cases h : a ≥ b <;> simp [h]
theorem i_within_val (n : Nat) (a b c : Int) : i_within n a b c = some (IN a b c) := by
  unfold i_within IN
  by_cases h : a ≥ b <;> simp [h]

/-! the sign of the lowest bytes -/
theorem s_l01Bit_val (n : Nat) (a i : Int) (h0 : 0 ≤ i) (h1 : i ≤ 63) : s_l01Bit n a i = some ((a % 18446744073709551616) / 2 ^ i.toNat % 2) := by
  have hi : IntKind.u64.wrap i = i := by rw [wU_def]; omega
  unfold s_l01Bit
  rw [hi, wU_def]
  have hn : min i.toNat IntKind.u64.bits = i.toNat := by have : IntKind.u64.bits = 64 := rfl; omega
  rw [hn]
  have hp : (0 : Int) < 2 ^ i.toNat := Int.pow_pos (by decide)
  rw [Int.fdiv_eq_ediv_of_nonneg _ (by omega)]
  have hnn : 0 ≤ (a % 18446744073709551616) / 2 ^ i.toNat := Int.ediv_nonneg (by omega) (by omega)
  rw [Int.tmod_eq_emod_of_nonneg hnn, decide_eq_false (by omega), cond_false]
  by_cases h : a % 18446744073709551616 / 2 ^ i.toNat % 2 = 1
  · rw [h]; rfl
  · rw [show a % 18446744073709551616 / 2 ^ i.toNat % 2 = 0 by omega]; rfl
theorem mod_step (u : Int) (n : Nat) : u % 2 ^ (n + 1) = u / 2 ^ n % 2 * 2 ^ n + u % 2 ^ n := by
  have hp : (0 : Int) < 2 ^ n := Int.pow_pos (by decide)
  have h1 := Int.emod_add_mul_ediv u (2 ^ n)
  have h2 := Int.emod_add_mul_ediv (u / 2 ^ n) 2
  have h3 := Int.emod_add_mul_ediv u (2 ^ (n + 1))
  have e : u / 2 ^ (n + 1) = u / 2 ^ n / 2 := by
    rw [Int.pow_succ, Int.ediv_ediv_of_nonneg (by omega)]
  rw [e] at h3
  have : (2 : Int) ^ (n + 1) * (u / 2 ^ n / 2) = 2 ^ n * (2 * (u / 2 ^ n / 2)) := by rw [Int.pow_succ, Int.mul_assoc]
  have h4 : 2 ^ n * (u / 2 ^ n) = 2 ^ n * (u / 2 ^ n % 2) + 2 ^ n * (2 * (u / 2 ^ n / 2)) := by rw [← Int.mul_add, h2]
  have h5 : u / 2 ^ n % 2 * 2 ^ n = 2 ^ n * (u / 2 ^ n % 2) := Int.mul_comm _ _
  omega
theorem mn_eq (a b : Int) : (if true = true then min a b else max a b) = min a b := if_pos rfl
theorem sign_low (a x1 : Int) (m : Nat) (hx : IntKind.i64.wrap (IntKind.i64.wrap (8 * x1) - 1) = (m : Int) - 1) (n : Nat) : ∀ acc : Int, 0 ≤ acc → n ≤ m → m ≤ 64 → acc * 2 ^ n + 2 ^ n ≤ 18446744073709551616 →
    Ev (fun k => s_l01Sign_ls k a x1 acc ((n : Int) - 1)) (IntKind.i64.wrap (acc * 2 ^ n + (a % 18446744073709551616) % 2 ^ n)) := by
  induction n with
  | zero =>
    intro acc h0 h1 h1' h2
    refine Ev.step (g := fun n => s_l01Sign_r0 (s_l01Sign_ls n) n a x1 acc _) (fun n => rfl) ?_
    unfold s_l01Sign_r0
    refine Ev.df (by omega) ?_
    simp only [Int.pow_zero, Int.mul_one, Int.emod_one, Int.add_zero]
    exact Ev.now _
  | succ n ih =>
    intro acc h0 h1 h1' h2
    have hp : (0 : Int) < 2 ^ n := Int.pow_pos (by decide)
    have hs : (2 : Int) ^ (n + 1) = 2 * 2 ^ n := by rw [Int.pow_succ, Int.mul_comm]
    rw [hs] at h2
    have hacc : acc * (2 * 2 ^ n) = (2 * acc) * 2 ^ n := by rw [Int.mul_comm 2, ← Int.mul_assoc, Int.mul_comm (acc * _), ← Int.mul_assoc]
    refine Ev.step (g := fun n' => s_l01Sign_r0 (s_l01Sign_ls n') n' a x1 acc _) (fun n => rfl) ?_
    unfold s_l01Sign_r0
    refine Ev.dt (by omega) ?_
    rw [mn_eq, hx]
    have hmn : min ((↑(n + 1) : Int) - 1) ((m : Int) - 1) = (n : Int) := by omega
    rw [hmn]
    refine Ev.bind (Ev.all fun k => s_l01Bit_val k a n (by omega) (by omega)) ?_
    have ht : ((n : Int)).toNat = n := by omega
    rw [ht]
    generalize hb : (a % 18446744073709551616) / 2 ^ n % 2 = b
    have hb0 : 0 ≤ b ∧ b ≤ 1 := by omega
    have hlt : 2 * acc + 2 ≤ 18446744073709551616 := by
      have h6 : (2 * acc + 2) * 1 ≤ (2 * acc + 2) * 2 ^ n := Int.mul_le_mul_of_nonneg_left (by omega) (by omega)
      have h7 : (2 * acc + 2) * 2 ^ n = (2 * acc) * 2 ^ n + 2 * 2 ^ n := Int.add_mul _ _ _
      omega
    have e1 : IntKind.u64.wrap (IntKind.u64.wrap (2 * acc) + IntKind.u64.wrap b) = 2 * acc + b := by rw [wU_def, wU_def, wU_def]; omega
    have e2 : IntKind.i64.wrap ((↑(n + 1) : Int) - 1 - 1) = (n : Int) - 1 := by rw [wI (by omega) (by omega)]; omega
    rw [e1, e2]
    have hbm : b * 2 ^ n ≤ 1 * 2 ^ n := Int.mul_le_mul_of_nonneg_right hb0.2 (by omega)
    have h8 : (2 * acc + b) * 2 ^ n = (2 * acc) * 2 ^ n + b * 2 ^ n := Int.add_mul _ _ _
    refine Ev.eq (ih (2 * acc + b) (by omega) (by omega) (by omega) (by omega)) ?_
    rw [mod_step (a % 18446744073709551616) n, hb, hs, hacc, h8]
    congr 1
    omega
theorem sign_high (a x1 : Int) (m : Nat) (hm : 0 < m) (hx : IntKind.i64.wrap (IntKind.i64.wrap (8 * x1) - 1) = (m : Int) - 1) (b : Int) (hb : (a % 18446744073709551616) / 2 ^ (m - 1) % 2 = b) (d : Nat) : ∀ acc : Int, 0 ≤ acc → m + d ≤ 64 → acc * 2 ^ (m + d) + 2 ^ (m + d) ≤ 18446744073709551616 →
    Ev (fun k => s_l01Sign_ls k a x1 acc (((m + d : Nat) : Int) - 1)) (IntKind.i64.wrap (acc * 2 ^ (m + d) + (b * (2 ^ (m + d) - 2 ^ m) + (a % 18446744073709551616) % 2 ^ m))) := by
  induction d with
  | zero =>
    intro acc h0 h1 h2
    have := sign_low a x1 m hx m acc h0 (Nat.le_refl _) (by omega) h2
    simp only [Nat.add_zero, Int.sub_self, Int.mul_zero, Int.zero_add]
    exact this
  | succ d ih =>
    intro acc h0 h1 h2
    have hp : (0 : Int) < 2 ^ (m + d) := Int.pow_pos (by decide)
    have hs : (2 : Int) ^ (m + (d + 1)) = 2 * 2 ^ (m + d) := by rw [← Nat.add_assoc, Int.pow_succ, Int.mul_comm]
    rw [hs] at h2
    have hacc : acc * (2 * 2 ^ (m + d)) = (2 * acc) * 2 ^ (m + d) := by rw [Int.mul_comm 2, ← Int.mul_assoc, Int.mul_comm (acc * _), ← Int.mul_assoc]
    refine Ev.step (g := fun n' => s_l01Sign_r0 (s_l01Sign_ls n') n' a x1 acc _) (fun n => rfl) ?_
    unfold s_l01Sign_r0
    refine Ev.dt (by omega) ?_
    rw [mn_eq, hx]
    have hmn : min ((↑(m + (d + 1)) : Int) - 1) ((m : Int) - 1) = ((m - 1 : Nat) : Int) := by omega
    rw [hmn]
    refine Ev.bind (Ev.all fun k => s_l01Bit_val k a _ (by omega) (by omega)) ?_
    have ht : (((m - 1 : Nat) : Int)).toNat = m - 1 := by omega
    rw [ht, hb]
    have hb0 : 0 ≤ b ∧ b ≤ 1 := by omega
    have hlt : 2 * acc + 2 ≤ 18446744073709551616 := by
      have h6 : (2 * acc + 2) * 1 ≤ (2 * acc + 2) * 2 ^ (m + d) := Int.mul_le_mul_of_nonneg_left (by omega) (by omega)
      have h7 : (2 * acc + 2) * 2 ^ (m + d) = (2 * acc) * 2 ^ (m + d) + 2 * 2 ^ (m + d) := Int.add_mul _ _ _
      omega
    have e1 : IntKind.u64.wrap (IntKind.u64.wrap (2 * acc) + IntKind.u64.wrap b) = 2 * acc + b := by rw [wU_def, wU_def, wU_def]; omega
    have e2 : IntKind.i64.wrap ((↑(m + (d + 1)) : Int) - 1 - 1) = ((m + d : Nat) : Int) - 1 := by rw [wI (by omega) (by omega)]; omega
    rw [e1, e2]
    have hbm : b * 2 ^ (m + d) ≤ 1 * 2 ^ (m + d) := Int.mul_le_mul_of_nonneg_right hb0.2 (by omega)
    have h8 : (2 * acc + b) * 2 ^ (m + d) = (2 * acc) * 2 ^ (m + d) + b * 2 ^ (m + d) := Int.add_mul _ _ _
    refine Ev.eq (ih (2 * acc + b) (by omega) (by omega) (by omega)) ?_
    rw [hs, hacc, h8, Int.mul_sub, Int.mul_sub, show b * (2 * 2 ^ (m + d)) = 2 * (b * 2 ^ (m + d)) by rw [← Int.mul_assoc, Int.mul_comm b 2, Int.mul_assoc]]
    congr 1
    omega
/-- The lowest n bytes as a number with a sign. -/
def sg (a n : Int) : Int := if n = 1 then (a + 128) % 256 - 128 else if n = 2 then (a + 32768) % 65536 - 32768 else if n = 4 then (a + 2147483648) % 4294967296 - 2147483648 else a
theorem s_l01Sign_ev (a n : Int) (hn : n = 1 ∨ n = 2 ∨ n = 4 ∨ n = 8) (h0 : -9223372036854775808 ≤ a) (h1 : a ≤ 9223372036854775807) : Ev (fun k => s_l01Sign k a n) (sg a n) := by
  have key : ∀ m d : Nat, 0 < m → m + d = 64 → IntKind.i64.wrap (IntKind.i64.wrap (8 * n) - 1) = (m : Int) - 1 → Ev (fun k => s_l01Sign k a n) (IntKind.i64.wrap ((a % 18446744073709551616) / 2 ^ (m - 1) % 2 * (18446744073709551616 - 2 ^ m) + (a % 18446744073709551616) % 2 ^ m)) := by
    intro m d hm hd hx
    have h3 : (2 : Int) ^ 64 = 18446744073709551616 := by decide
    have := sign_high a n m hm hx _ rfl d 0 (by omega) (by omega) (by rw [hd]; omega)
    rw [hd, Int.zero_mul, Int.zero_add, h3] at this
    exact this
  have hu : a % 18446744073709551616 = a ∨ a % 18446744073709551616 = a + 18446744073709551616 := by omega
  rcases hn with rfl | rfl | rfl | rfl
  · refine Ev.eq (key 8 56 (by omega) (by omega) (by rw [wI_def, wI_def]; omega)) ?_
    simp only [sg, if_true]
    rw [show (2 : Int) ^ (8 - 1) = 128 by decide, show (2 : Int) ^ 8 = 256 by decide]
    have e1 : a % 18446744073709551616 % 256 = a % 256 := by omega
    have e2 : a % 18446744073709551616 / 128 % 2 = a % 256 / 128 := by omega
    rw [e1, e2]
    by_cases c : a % 256 < 128
    · rw [show a % 256 / 128 = 0 by omega, wI_def]; omega
    · rw [show a % 256 / 128 = 1 by omega, wI_def]; omega
  · refine Ev.eq (key 16 48 (by omega) (by omega) (by rw [wI_def, wI_def]; omega)) ?_
    simp only [sg, if_true]
    rw [if_neg (by decide), show (2 : Int) ^ (16 - 1) = 32768 by decide, show (2 : Int) ^ 16 = 65536 by decide]
    have e1 : a % 18446744073709551616 % 65536 = a % 65536 := by omega
    have e2 : a % 18446744073709551616 / 32768 % 2 = a % 65536 / 32768 := by omega
    rw [e1, e2]
    by_cases c : a % 65536 < 32768
    · rw [show a % 65536 / 32768 = 0 by omega, wI_def]; omega
    · rw [show a % 65536 / 32768 = 1 by omega, wI_def]; omega
  · refine Ev.eq (key 32 32 (by omega) (by omega) (by rw [wI_def, wI_def]; omega)) ?_
    simp only [sg, if_true]
    rw [if_neg (by decide), if_neg (by decide), show (2 : Int) ^ (32 - 1) = 2147483648 by decide, show (2 : Int) ^ 32 = 4294967296 by decide]
    have e1 : a % 18446744073709551616 % 4294967296 = a % 4294967296 := by omega
    have e2 : a % 18446744073709551616 / 2147483648 % 2 = a % 4294967296 / 2147483648 := by omega
    rw [e1, e2]
    by_cases c : a % 4294967296 < 2147483648
    · rw [show a % 4294967296 / 2147483648 = 0 by omega, wI_def]; omega
    · rw [show a % 4294967296 / 2147483648 = 1 by omega, wI_def]; omega
  · refine Ev.eq (key 64 0 (by omega) (by omega) (by rw [wI_def, wI_def]; omega)) ?_
    simp only [sg]
    rw [if_neg (by decide), if_neg (by decide), if_neg (by decide), show (2 : Int) ^ 64 = 18446744073709551616 by decide, wI_def]
    omega
theorem i_sign_val (k : Nat) (a n : Int) (hn : n = 1 ∨ n = 2 ∨ n = 4 ∨ n = 8) (h0 : -9223372036854775808 ≤ a) (h1 : a ≤ 9223372036854775807) : i_sign k a n = some (sg a n) := by
  have hb : IntKind.i64.bits = 64 := rfl
  unfold i_sign
  have hd : ∀ m : Nat, (0 : Int) ≤ 2 ^ m := fun m => Int.le_of_lt (Int.pow_pos (by decide))
  simp only [Int.fdiv_eq_ediv_of_nonneg _ (hd _), hb]
  rcases hn with rfl | rfl | rfl | rfl
  · rw [show IntKind.i64.wrap (64 - IntKind.i64.wrap (8 * 1)) = 56 by rw [wI_def, wI_def]; omega]
    rw [show (2 : Int) ^ min (56 : Int).toNat 64 = 72057594037927936 by decide, wI_def]
    simp only [sg, if_true]
    show some _ = _
    congr 1; omega
  · rw [show IntKind.i64.wrap (64 - IntKind.i64.wrap (8 * 2)) = 48 by rw [wI_def, wI_def]; omega]
    rw [show (2 : Int) ^ min (48 : Int).toNat 64 = 281474976710656 by decide, wI_def]
    simp only [sg, if_true]
    rw [if_neg (by decide)]
    show some _ = _
    congr 1; omega
  · rw [show IntKind.i64.wrap (64 - IntKind.i64.wrap (8 * 4)) = 32 by rw [wI_def, wI_def]; omega]
    rw [show (2 : Int) ^ min (32 : Int).toNat 64 = 4294967296 by decide, wI_def]
    simp only [sg, if_true]
    rw [if_neg (by decide), if_neg (by decide)]
    show some _ = _
    congr 1; omega
  · rw [show IntKind.i64.wrap (64 - IntKind.i64.wrap (8 * 8)) = 0 by rw [wI_def, wI_def]; omega]
    rw [show (2 : Int) ^ min (0 : Int).toNat 64 = 1 by decide, wI_def]
    simp only [sg]
    rw [if_neg (by decide), if_neg (by decide), if_neg (by decide)]
    show some _ = _
    congr 1; omega
end Go.Proofs.Ytigoabhkdipdeaa
/- Memory: its pages are right, copied, compared, told. -/
namespace Go.Proofs.Ytigoabhkdipdeaa
open Go Go.Proofs.Ytigoabhkdipdeaa.AM
set_option linter.all false

theorem w_szPage_val (n : Nat) (p : Int × Int × ByteArray × Unit) (s : Int) (hs : 0 ≤ s ∧ s ≤ 1048576) (hp : p.2.2.1.size ≤ 9223372036854775807) :
    w_szPage n p s = some (if s - p.2.2.1.size < 0 then -1 else s - p.2.2.1.size) := by
  unfold w_szPage
  rw [wI (by simp only [Int.ofNat_eq_natCast]; omega) (by simp only [Int.ofNat_eq_natCast]; omega)]
  simp only [Int.ofNat_eq_natCast]
  by_cases h : s - (p.2.2.1.size : Int) < 0
  · simp [h]
  · simp [h]
theorem szPageS_loop (l : List S_Page) (hl : l.length ≤ 9223372036854775807) (hy : ∀ y ∈ l, y.f2.size ≤ 9223372036854775807) : ∀ (d i : Nat) (s : Int), i + d = l.length → 0 ≤ s → s ≤ 1048576 → ∃ t, t ≤ s ∧ Ev (fun n => w_szPageS_ls n l s i) t := by
  intro d
  induction d with
  | zero =>
    intro i s hi h0 h1
    refine ⟨s, Int.le_refl _, Ev.step (g := fun n => w_szPageS_r0 (w_szPageS_ls n) n l s i) (fun n => rfl) ?_⟩
    unfold w_szPageS_r0
    exact Ev.df (by simp only [Int.ofNat_eq_natCast]; omega) (Ev.now _)
  | succ d ih =>
    intro i s hi h0 h1
    have hz := hy _ (rd_mem (d := z_Page) (show i < l.length by omega))
    have hv := fun n => w_szPage_val n ((rd z_Page l i).f0, (rd z_Page l i).f1, (rd z_Page l i).f2, ()) s ⟨h0, h1⟩ hz
    have st : ∀ t, Ev (fun n => bif decide ((if s - (rd z_Page l i).f2.size < 0 then -1 else s - (rd z_Page l i).f2.size) < (0 : Int)) then some (-1) else w_szPageS_ls n l (if s - (rd z_Page l i).f2.size < 0 then -1 else s - (rd z_Page l i).f2.size) ((i + 1 : Nat) : Int)) t → Ev (fun n => w_szPageS_ls n l s i) t := by
      intro t ht
      refine Ev.step (g := fun n => w_szPageS_r0 (w_szPageS_ls n) n l s i) (fun n => rfl) ?_
      unfold w_szPageS_r0
      refine Ev.dt (by simp only [Int.ofNat_eq_natCast]; omega) (Ev.dt (by omega) (Ev.dt (by simp only [Int.ofNat_eq_natCast]; omega) ?_))
      refine Ev.bind (Ev.all hv) ?_
      rw [wI (by omega) (by omega)]
      exact ht
    by_cases c : s - (rd z_Page l i).f2.size < 0
    · refine ⟨-1, by omega, st _ ?_⟩
      simp only [if_pos c]
      exact Ev.dt (by decide) (Ev.now _)
    · obtain ⟨t, ht, hn⟩ := ih (i + 1) (s - (rd z_Page l i).f2.size) (by omega) (by omega) (by omega)
      refine ⟨t, by omega, st _ ?_⟩
      simp only [if_neg c]
      exact Ev.df c hn
/-- How much a memory holds: too much is told by a number below zero. -/
theorem w_szMemory_ev (l : List S_Page) (s : Int) (hs : 0 ≤ s ∧ s ≤ 1048576) (hl : l.length ≤ 9223372036854775807) (hy : ∀ y ∈ l, y.f2.size ≤ 9223372036854775807) : ∃ t, t ≤ s ∧ (0 ≤ t → l.length ≤ s) ∧ Ev (fun n => w_szMemory n (l, ()) s) t := by
  have hw : IntKind.i64.wrap (s - Int.ofNat l.length) = s - l.length := by rw [wI (by simp only [Int.ofNat_eq_natCast]; omega) (by simp only [Int.ofNat_eq_natCast]; omega)]; rfl
  have h1 : ∃ t, t ≤ s ∧ (0 ≤ t → l.length ≤ s) ∧ Ev (fun n => w_szPageS n l s) t := by
    unfold w_szPageS w_szPageS_m
    rw [hw]
    by_cases c : s - (l.length : Int) < 0
    · exact ⟨-1, by omega, by omega, Ev.dt c (Ev.now _)⟩
    · obtain ⟨t, ht, hn⟩ := szPageS_loop l hl hy l.length 0 (s - l.length) (by omega) (by omega) (by omega)
      exact ⟨t, by omega, by omega, Ev.df c hn⟩
  obtain ⟨t, ht, hl', hn⟩ := h1
  by_cases c : t < 0
  · refine ⟨-1, by omega, by omega, ?_⟩
    unfold w_szMemory
    exact Ev.bind hn (Ev.dt c (Ev.now _))
  · refine ⟨t, ht, hl', ?_⟩
    unfold w_szMemory
    exact Ev.bind hn (Ev.df c (Ev.now _))

theorem toPageS_loop (l : List S_Page) (hl : l.length ≤ 9223372036854775807) : ∀ (d i : Nat) (b : List S_Page), i + d = l.length → b.length = l.length → (∀ j, j < i → rd z_Page b j = rd z_Page l j) → Ev (fun n => w_toPageS_ls n l (i : Int) b) l := by
  intro d
  induction d with
  | zero =>
    intro i b hi hb hj
    have e : b = l := rd_ext (d := z_Page) hb fun j h => hj j (by omega)
    subst e
    refine Ev.step (g := fun n => w_toPageS_r0 (w_toPageS_ls n) n b i b) (fun n => rfl) ?_
    unfold w_toPageS_r0
    exact Ev.df (by simp only [Int.ofNat_eq_natCast]; omega) (Ev.now _)
  | succ d ih =>
    intro i b hi hb hj
    refine Ev.step (g := fun n => w_toPageS_r0 (w_toPageS_ls n) n l i b) (fun n => rfl) ?_
    unfold w_toPageS_r0
    refine Ev.dt (by simp only [Int.ofNat_eq_natCast]; omega) (Ev.dt (by omega) (Ev.dt (by simp only [Int.ofNat_eq_natCast]; omega) ?_))
    refine Ev.bind (Ev.all fun n => by unfold w_toPage; rfl) (Ev.dt (by omega) (Ev.dt (by simp only [Int.ofNat_eq_natCast]; omega) ?_))
    rw [wI (by omega) (by omega)]
    exact ih (i + 1) _ (by omega) (by simp [hb]) (set_prefix (by omega) hb hj)
theorem w_toPageS_ev (l : List S_Page) (hl : l.length ≤ 1048576) : Ev (fun n => w_toPageS n l) l := by
  unfold w_toPageS w_toPageS_m
  refine Ev.dt (Int.le_refl _) (Ev.dt (by simp only [Int.ofNat_eq_natCast]; omega) ?_)
  exact toPageS_loop l (by omega) l.length 0 _ (by omega) (by simp) (fun j hj => by omega)
theorem w_toMemory_ev (l : List S_Page) (hl : l.length ≤ 1048576) : Ev (fun n => w_toMemory n (l, ())) (l, ()) := by
  unfold w_toMemory
  exact Ev.bind (w_toPageS_ev l hl) (Ev.now _)

theorem w_eqPage_refl (n : Nat) (x : Int × Int × ByteArray × Unit) : w_eqPage n x x = some true := by
  unfold w_eqPage
  simp
theorem eqPageS_loop (l : List S_Page) (hl : l.length ≤ 9223372036854775807) : ∀ (d i : Nat), i + d = l.length → Ev (fun n => w_eqPageS_ls n l l (i : Int)) true := by
  intro d
  induction d with
  | zero =>
    intro i hi
    refine Ev.step (g := fun n => w_eqPageS_r0 (w_eqPageS_ls n) n l l i) (fun n => rfl) ?_
    unfold w_eqPageS_r0
    exact Ev.df (by simp only [Int.ofNat_eq_natCast]; omega) (Ev.now _)
  | succ d ih =>
    intro i hi
    have c : (i : Int) < Int.ofNat l.length := by simp only [Int.ofNat_eq_natCast]; omega
    refine Ev.step (g := fun n => w_eqPageS_r0 (w_eqPageS_ls n) n l l i) (fun n => rfl) ?_
    unfold w_eqPageS_r0
    refine Ev.dt c (Ev.dt (by omega) (Ev.dt c (Ev.dt (by omega) (Ev.dt c ?_))))
    refine Ev.bind (Ev.all fun n => w_eqPage_refl n _) (Ev.f rfl ?_)
    rw [wI (by omega) (by omega)]
    exact ih (i + 1) (by omega)
theorem w_eqMemory_refl (l : List S_Page) (hl : l.length ≤ 9223372036854775807) : Ev (fun n => w_eqMemory n (l, ()) (l, ())) true := by
  unfold w_eqMemory w_eqPageS w_eqPageS_m
  refine Ev.bind (a := true) ?_ (Ev.f rfl (Ev.now _))
  exact Ev.f (by simp) (eqPageS_loop l hl l.length 0 (by omega))

/-! what is right -/
theorem s_l02Base_val (n : Nat) (a : Int) : s_l02Base n a = some (decide (0 ≤ a ∧ a ≤ 65535 ∧ a % 256 = 0)) := by
  unfold s_l02Base
  rw [s_l01In_val, Option.bind_some]
  by_cases h : 0 ≤ a ∧ a ≤ 65535
  · rw [IN_true.2 h, cond_true, Int.tmod_eq_emod_of_nonneg h.1]
    congr 1
    rw [Bool.eq_iff_iff]; simp [h.1, h.2]
  · rw [IN_false.2 h, cond_false, decide_eq_false (by omega)]
theorem i_isBase_val (n : Nat) (a : Int) : i_isBase n a = some (decide (0 ≤ a ∧ a ≤ 65535 ∧ a % 256 = 0)) := by
  unfold i_isBase
  rw [i_within_val, Option.bind_some]
  by_cases h : 0 ≤ a ∧ a ≤ 65535
  · rw [IN_true.2 h, cond_true, Int.tmod_eq_emod_of_nonneg h.1]
    congr 1
    rw [Bool.eq_iff_iff]; simp [h.1, h.2]
  · rw [IN_false.2 h, cond_false, decide_eq_false (by omega)]
theorem s_l02Perm_val (n : Nat) (a : Int) : s_l02Perm n a = some (IN a 0 7) := by unfold s_l02Perm; rw [s_l01In_val]; rfl
theorem i_isPerm_val (n : Nat) (a : Int) : i_isPerm n a = some (IN a 0 7) := by unfold i_isPerm; rw [i_within_val]; rfl
/-- What is asked of page i. -/
def PgOK (l : List S_Page) (i : Nat) : Bool := decide (0 ≤ (rd z_Page l i).f0 ∧ (rd z_Page l i).f0 ≤ 65535 ∧ (rd z_Page l i).f0 % 256 = 0) && IN (rd z_Page l i).f1 0 7 && decide ((rd z_Page l i).f2.size = 256) && (decide (i = 0) || decide ((rd z_Page l (i - 1)).f0 < (rd z_Page l i).f0))
def PgsOK (l : List S_Page) : Nat → Nat → Bool
  | 0, _ => true
  | d + 1, i => PgOK l i && PgsOK l d (i + 1)
def MOK (l : List S_Page) : Bool := decide (l.length ≤ 32) && PgsOK l l.length 0
theorem memS_loop (l : List S_Page) (hl : l.length ≤ 9223372036854775807) : ∀ (d i : Nat), i + d = l.length → Ev (fun n => s_MemoryOK_ls n (i : Int) l) (PgsOK l d i) := by
  intro d
  induction d with
  | zero =>
    intro i hi
    refine Ev.step (g := fun n => s_MemoryOK_r0 (s_MemoryOK_ls n) n i l) (fun n => rfl) ?_
    unfold s_MemoryOK_r0
    exact Ev.df (by simp only [Int.ofNat_eq_natCast]; omega) (Ev.now _)
  | succ d ih =>
    intro i hi
    have c : (i : Int) < Int.ofNat l.length := by simp only [Int.ofNat_eq_natCast]; omega
    refine Ev.step (g := fun n => s_MemoryOK_r0 (s_MemoryOK_ls n) n i l) (fun n => rfl) ?_
    unfold s_MemoryOK_r0
    rw [show PgsOK l (d + 1) i = (PgOK l i && PgsOK l d (i + 1)) from rfl]
    unfold PgOK
    refine Ev.dt c (Ev.dt (by omega) (Ev.dt c ?_))
    rw [wI (n := (i : Int) + 1) (by omega) (by omega)]
    simp only [Int.toNat_natCast, s_l02Base_val, s_l02Perm_val, Option.bind_some]
    refine Ev.cases (fun h => ?_) (fun h => ?_)
    · rw [Bool.not_eq_true'] at h; rw [h]; exact Ev.now _
    rw [Bool.not_eq_false'] at h; rw [h]
    refine Ev.cases (fun h => ?_) (fun h => ?_)
    · rw [Bool.not_eq_true'] at h; rw [h]; exact Ev.now _
    rw [Bool.not_eq_false'] at h; rw [h]
    refine Ev.cases (fun h => ?_) (fun h => ?_)
    · rw [decide_eq_false (p := (rd z_Page l i).f2.size = 256) (by intro e; rw [e] at h; exact absurd h (by decide))]; exact Ev.now _
    have hz : (rd z_Page l i).f2.size = 256 := by simp only [bne_eq_false_iff_eq, Int.ofNat_eq_natCast] at h; omega
    rw [decide_eq_true hz]
    refine Ev.dcases (fun h => ?_) (fun h => ?_)
    · rw [wI (by omega) (by omega), show (i : Int) - 1 = ((i - 1 : Nat) : Int) by omega, Int.toNat_natCast]
      refine Ev.dt (by omega) (Ev.dt (by simp only [Int.ofNat_eq_natCast]; omega) (Ev.dcases (fun h' => ?_) (fun h' => ?_)))
      · rw [decide_eq_false (p := i = 0) (by omega), decide_eq_false (by omega)]; exact Ev.now _
      · rw [decide_eq_true (show (rd z_Page l (i - 1)).f0 < (rd z_Page l i).f0 by omega), Bool.or_true]
        exact Ev.eq (ih (i + 1) (by omega)) (by simp)
    · rw [decide_eq_true (show i = 0 by omega), Bool.true_or]
      exact Ev.eq (ih (i + 1) (by omega)) (by simp)
theorem s_MemoryOK_ev (l : List S_Page) (hl : l.length ≤ 9223372036854775807) : Ev (fun n => s_MemoryOK n (l, ())) (MOK l) := by
  unfold s_MemoryOK s_MemoryOK_m MOK
  refine Ev.dcases (fun h => ?_) (fun h => ?_)
  · rw [decide_eq_false (by simp only [Int.ofNat_eq_natCast] at h; omega)]; exact Ev.now _
  · rw [decide_eq_true (by simp only [Int.ofNat_eq_natCast] at h; omega)]; exact memS_loop l hl l.length 0 (by omega)
theorem memI_loop (l : List S_Page) (hl : l.length ≤ 9223372036854775807) : ∀ (d i : Nat), i + d = l.length → Ev (fun n => i_MemoryOK_ls n l l.length (i : Int) l) (PgsOK l d i && decide (l.length ≤ 32)) := by
  intro d
  induction d with
  | zero =>
    intro i hi
    refine Ev.step (g := fun n => i_MemoryOK_r0 (i_MemoryOK_ls n) n l l.length i l) (fun n => rfl) ?_
    unfold i_MemoryOK_r0
    refine Ev.df (by omega) (Ev.eq (Ev.now _) ?_)
    simp only [PgsOK, Bool.true_and, Int.ofNat_eq_natCast]
    rw [Bool.eq_iff_iff]; simp only [decide_eq_true_eq]; omega
  | succ d ih =>
    intro i hi
    have c : (i : Int) < Int.ofNat l.length := by simp only [Int.ofNat_eq_natCast]; omega
    refine Ev.step (g := fun n => i_MemoryOK_r0 (i_MemoryOK_ls n) n l l.length i l) (fun n => rfl) ?_
    unfold i_MemoryOK_r0
    rw [show PgsOK l (d + 1) i = (PgOK l i && PgsOK l d (i + 1)) from rfl]
    unfold PgOK
    refine Ev.dt (by omega) (Ev.dt (by omega) (Ev.dt c ?_))
    rw [wI (n := (i : Int) + 1) (by omega) (by omega)]
    simp only [Int.toNat_natCast, i_isBase_val, i_isPerm_val, Option.bind_some]
    refine Ev.cases (fun h => ?_) (fun h => ?_)
    · rw [Bool.not_eq_true'] at h; rw [h]; exact Ev.now _
    rw [Bool.not_eq_false'] at h; rw [h]
    refine Ev.cases (fun h => ?_) (fun h => ?_)
    · rw [Bool.not_eq_true'] at h; rw [h]; exact Ev.now _
    rw [Bool.not_eq_false'] at h; rw [h]
    refine Ev.cases (fun h => ?_) (fun h => ?_)
    · rw [decide_eq_false (p := (rd z_Page l i).f2.size = 256) (by intro e; rw [e] at h; exact absurd h (by decide))]; exact Ev.now _
    have hz : (rd z_Page l i).f2.size = 256 := by simp only [bne_eq_false_iff_eq, Int.ofNat_eq_natCast] at h; omega
    rw [decide_eq_true hz]
    refine Ev.dcases (fun h => ?_) (fun h => ?_)
    · rw [wI (by omega) (by omega), show (i : Int) - 1 = ((i - 1 : Nat) : Int) by omega, Int.toNat_natCast]
      refine Ev.dt (by omega) (Ev.dt (by simp only [Int.ofNat_eq_natCast]; omega) (Ev.dcases (fun h' => ?_) (fun h' => ?_)))
      · rw [decide_eq_false (p := i = 0) (by omega), decide_eq_false (by omega)]; exact Ev.now _
      · rw [decide_eq_true (show (rd z_Page l (i - 1)).f0 < (rd z_Page l i).f0 by omega), Bool.or_true]
        exact Ev.eq (ih (i + 1) (by omega)) (by simp)
    · rw [decide_eq_true (show i = 0 by omega), Bool.true_or]
      exact Ev.eq (ih (i + 1) (by omega)) (by simp)
theorem i_MemoryOK_ev (l : List S_Page) (hl : l.length ≤ 9223372036854775807) : Ev (fun n => i_MemoryOK n (l, ())) (MOK l) := by
  unfold i_MemoryOK i_MemoryOK_m MOK
  exact Ev.eq (memI_loop l hl l.length 0 (by omega)) (Bool.and_comm _ _)
end Go.Proofs.Ytigoabhkdipdeaa
/- A box: it is right, copied, compared, told. -/
namespace Go.Proofs.Ytigoabhkdipdeaa
open Go Go.Proofs.Ytigoabhkdipdeaa.AM
set_option linter.all false

abbrev CpuT : Type := List Int × Int × Int × Unit
abbrev BoxT : Type := List Int × Int × Int × List S_Page × Int × Int × ByteArray × Int × ByteArray × Int × Int × Int × Int × Int × Int × Unit
theorem toA16_loop (l b1 : List Int) (hl : l.length = 16) : ∀ (d i : Nat) (b : List Int), i + d = 16 → b.length = 16 → (∀ j, j < i → rd 0 b j = rd 0 l j) → Ev (fun n => w_toIntA16_ls n (i : Int) l b1 b) (l, ()) := by
  intro d
  induction d with
  | zero =>
    intro i b hi hb hj
    have e : b = l := rd_ext (d := 0) (by omega) fun j h => hj j (by omega)
    subst e
    refine Ev.step (g := fun n => w_toIntA16_r0 (w_toIntA16_ls n) n i b b1 b) (fun n => rfl) ?_
    unfold w_toIntA16_r0
    exact Ev.df (by omega) (Ev.now _)
  | succ d ih =>
    intro i b hi hb hj
    have c : (i : Int) < 16 := by omega
    refine Ev.step (g := fun n => w_toIntA16_r0 (w_toIntA16_ls n) n i l b1 b) (fun n => rfl) ?_
    unfold w_toIntA16_r0
    refine Ev.dt c (Ev.dt (by omega) (Ev.dt c (Ev.dt (by omega) (Ev.dt c ?_))))
    rw [wI (by omega) (by omega)]
    exact ih (i + 1) _ (by omega) (by simp [hb]) (fun j h => set_prefix (d := 0) (by omega) (by omega) hj j h)
theorem w_toCpu_ev (x : CpuT) (h : x.1.length = 16) : Ev (fun n => w_toCpu n x) x := by
  unfold w_toCpu w_toIntA16 w_toIntA16_m
  exact Ev.bind (toA16_loop x.1 _ h 16 0 _ (by omega) (by simp) (fun j hj => by omega)) (Ev.now _)
theorem w_toBox_ev (x : BoxT) (h : x.1.length = 16) (hl : x.2.2.2.1.length ≤ 1048576) : Ev (fun n => w_toBox n x) x := by
  unfold w_toBox
  exact Ev.bind (w_toCpu_ev _ h) (Ev.bind (w_toMemory_ev _ hl) (Ev.now _))
theorem eqA16_loop (l : List Int) : ∀ (d i : Nat), i + d = 16 → Ev (fun n => w_eqIntA16_ls n (i : Int) l l) true := by
  intro d
  induction d with
  | zero =>
    intro i hi
    refine Ev.step (g := fun n => w_eqIntA16_r0 (w_eqIntA16_ls n) n i l l) (fun n => rfl) ?_
    unfold w_eqIntA16_r0
    exact Ev.df (by omega) (Ev.now _)
  | succ d ih =>
    intro i hi
    have c : (i : Int) < 16 := by omega
    refine Ev.step (g := fun n => w_eqIntA16_r0 (w_eqIntA16_ls n) n i l l) (fun n => rfl) ?_
    unfold w_eqIntA16_r0
    refine Ev.dt c (Ev.dt (by omega) (Ev.dt c (Ev.dt (by omega) (Ev.dt c (Ev.f (by simp) ?_)))))
    rw [wI (by omega) (by omega)]
    exact ih (i + 1) (by omega)
theorem w_eqCpu_refl (x : CpuT) : Ev (fun n => w_eqCpu n x x) true := by
  unfold w_eqCpu w_eqIntA16 w_eqIntA16_m
  refine Ev.bind (eqA16_loop x.1 16 0 (by omega)) (Ev.f rfl (Ev.f (by simp) (Ev.f (by simp) (Ev.now _))))
theorem w_eqBox_refl (x : BoxT) (hl : x.2.2.2.1.length ≤ 9223372036854775807) : Ev (fun n => w_eqBox n x x) true := by
  unfold w_eqBox
  refine Ev.bind (w_eqCpu_refl _) (Ev.f rfl (Ev.bind (w_eqMemory_refl _ hl) (Ev.f rfl ?_)))
  simp only [bne_self_eq_false, beq_self_eq_true, Bool.not_true, cond_false]
  exact Ev.now _
/-- How much a box holds. -/
theorem w_szBox_ev (x : BoxT) (s : Int) (hs : 0 ≤ s ∧ s ≤ 1048576) (hl : x.2.2.2.1.length ≤ 9223372036854775807) (hy : ∀ y ∈ x.2.2.2.1, y.f2.size ≤ 9223372036854775807) (h6 : x.2.2.2.2.2.2.1.size ≤ 9223372036854775807) (h8 : x.2.2.2.2.2.2.2.2.1.size ≤ 9223372036854775807) :
    ∃ t, t ≤ s ∧ (0 ≤ t → x.2.2.2.1.length ≤ s) ∧ Ev (fun n => w_szBox n x s) t := by
  obtain ⟨t, h1, h2, h3⟩ := w_szMemory_ev x.2.2.2.1 s hs hl hy
  unfold w_szBox
  by_cases c : t < 0
  · exact ⟨-1, by omega, by omega, Ev.bind h3 (Ev.dt c (Ev.now _))⟩
  · have e1 : IntKind.i64.wrap (t - Int.ofNat x.2.2.2.2.2.2.1.size) = t - (x.2.2.2.2.2.2.1.size : Int) := wI (by simp only [Int.ofNat_eq_natCast]; omega) (by simp only [Int.ofNat_eq_natCast]; omega)
    by_cases c1 : t - (x.2.2.2.2.2.2.1.size : Int) < 0
    · exact ⟨-1, by omega, by omega, Ev.bind h3 (Ev.df c (by rw [e1]; exact Ev.dt c1 (Ev.now _)))⟩
    · have e2 : IntKind.i64.wrap (t - (x.2.2.2.2.2.2.1.size : Int) - Int.ofNat x.2.2.2.2.2.2.2.2.1.size) = t - (x.2.2.2.2.2.2.1.size : Int) - (x.2.2.2.2.2.2.2.2.1.size : Int) := wI (by simp only [Int.ofNat_eq_natCast]; omega) (by simp only [Int.ofNat_eq_natCast]; omega)
      by_cases c2 : t - (x.2.2.2.2.2.2.1.size : Int) - (x.2.2.2.2.2.2.2.2.1.size : Int) < 0
      · exact ⟨-1, by omega, by omega, Ev.bind h3 (Ev.df c (by rw [e1]; exact Ev.df c1 (by rw [e2]; exact Ev.dt c2 (Ev.now _))))⟩
      · exact ⟨t - (x.2.2.2.2.2.2.1.size : Int) - (x.2.2.2.2.2.2.2.2.1.size : Int), by omega, by omega, Ev.bind h3 (Ev.df c (by rw [e1]; exact Ev.df c1 (by rw [e2]; exact Ev.df c2 (Ev.now _))))⟩

/-- What is asked of a box. -/
def flOK (f : Int) : Bool := decide (f ≥ 0) && (ibits .and .i64 f 2245 == f)
theorem flOK_eq (f : Int) (h : R64 f) : (ibits .andNot .i64 f 2245 == 0) = flOK f := by
  unfold flOK ibits
  simp only []
  have hb : IntKind.i64.bits = 64 := rfl
  rw [hb]
  have hf : f = (BitVec.ofInt 64 f).toInt := by
    rw [BitVec.toInt_ofInt]
    unfold R64 at h
    have : ((2 ^ 64 : Nat) : Int) = 18446744073709551616 := by decide
    simp only [Int.bmod, this]
    split <;> omega
  have hw : ∀ v : BitVec 64, IntKind.i64.wrap (v.toNat : Int) = v.toInt := by
    intro v
    rw [wI_def, BitVec.toInt_eq_toNat_cond]
    have := v.isLt
    split <;> omega
  rw [hw, hw]
  generalize hv : BitVec.ofInt 64 f = v at *
  rw [hf]
  have m : BitVec.ofInt 64 2245 = 2245#64 := by decide
  rw [m]
  have k1 : ((v &&& ~~~ 2245#64).toInt == 0) = decide (v &&& ~~~ 2245#64 = 0#64) := by
    rw [Bool.eq_iff_iff]
    simp only [beq_iff_eq, decide_eq_true_eq]
    rw [show (0 : Int) = (0#64).toInt by decide, BitVec.toInt_inj]
  have k2 : ((v &&& 2245#64).toInt == v.toInt) = decide (v &&& 2245#64 = v) := by
    rw [Bool.eq_iff_iff]
    simp only [beq_iff_eq, decide_eq_true_eq]
    rw [BitVec.toInt_inj]
  rw [k1, k2]
  have k3 : (v &&& ~~~ 2245#64 = 0#64) ↔ (v &&& 2245#64 = v) := by
    constructor
    · intro h
      have e : v = (v &&& 2245#64) ||| (v &&& ~~~ 2245#64) := by
        ext i hi
        simp only [BitVec.getElem_or, BitVec.getElem_and, BitVec.getElem_not]
        cases v[i] <;> cases (2245#64)[i] <;> rfl
      rw [h, BitVec.or_zero] at e
      exact e.symm
    · intro h
      rw [← h]
      ext i hi
      simp only [BitVec.getElem_and, BitVec.getElem_not, BitVec.getElem_zero]
      cases v[i] <;> cases (2245#64)[i] <;> rfl
  by_cases h1 : v &&& 2245#64 = v
  · rw [decide_eq_true h1, decide_eq_true (k3.2 h1)]
    have : 0 ≤ v.toInt := by
      rw [← h1]
      have hm : (v &&& 2245#64).toNat ≤ 2245 := by rw [BitVec.toNat_and]; exact Nat.and_le_right
      rw [BitVec.toInt_eq_toNat_cond]
      split <;> omega
    simp [this]
  · rw [decide_eq_false h1, decide_eq_false (fun h => h1 (k3.1 h))]
    simp
def BOK (x : BoxT) : Bool :=
  flOK x.2.2.1 && MOK x.2.2.2.1 && IN x.2.2.2.2.1 512 3584 && IN x.2.2.2.2.2.1 x.2.2.2.2.1 3584 && decide (x.2.2.2.2.2.2.1.size ≤ 1024) && IN x.2.2.2.2.2.2.2.1 0 x.2.2.2.2.2.2.1.size &&
  decide (x.2.2.2.2.2.2.2.2.1.size ≤ 512) && IN x.2.2.2.2.2.2.2.2.2.1 0 1000000 && IN x.2.2.2.2.2.2.2.2.2.2.1 0 2147483647 &&
  (if x.2.2.2.2.2.2.2.2.2.2.2.1 = 1 then x.2.2.2.2.2.2.2.2.2.2.2.2.1 == 0 && x.2.2.2.2.2.2.2.2.2.2.2.2.2.1 == 0 && x.2.2.2.2.2.2.2.2.2.2.2.2.2.2.1 == 0
   else if x.2.2.2.2.2.2.2.2.2.2.2.1 = 2 then sg x.2.2.2.2.2.2.2.2.2.2.2.2.1 4 == x.2.2.2.2.2.2.2.2.2.2.2.2.1 && x.2.2.2.2.2.2.2.2.2.2.2.2.2.1 == 0 && x.2.2.2.2.2.2.2.2.2.2.2.2.2.2.1 == 0
   else if x.2.2.2.2.2.2.2.2.2.2.2.1 = 3 then x.2.2.2.2.2.2.2.2.2.2.2.2.1 == 0 && IN x.2.2.2.2.2.2.2.2.2.2.2.2.2.1 1 35 else false)
theorem i_BoxOK_ev (x : BoxT) (hf : R64 x.2.2.1) (hl : x.2.2.2.1.length ≤ 9223372036854775807) (hc : R64 x.2.2.2.2.2.2.2.2.2.2.2.2.1) : Ev (fun n => i_BoxOK n x) (BOK x) := by
  have key : Ev (fun n => i_Box_isEnd n x) (if x.2.2.2.2.2.2.2.2.2.2.2.1 = 1 then x.2.2.2.2.2.2.2.2.2.2.2.2.1 == 0 && x.2.2.2.2.2.2.2.2.2.2.2.2.2.1 == 0 && x.2.2.2.2.2.2.2.2.2.2.2.2.2.2.1 == 0
   else if x.2.2.2.2.2.2.2.2.2.2.2.1 = 2 then sg x.2.2.2.2.2.2.2.2.2.2.2.2.1 4 == x.2.2.2.2.2.2.2.2.2.2.2.2.1 && x.2.2.2.2.2.2.2.2.2.2.2.2.2.1 == 0 && x.2.2.2.2.2.2.2.2.2.2.2.2.2.2.1 == 0
   else if x.2.2.2.2.2.2.2.2.2.2.2.1 = 3 then x.2.2.2.2.2.2.2.2.2.2.2.2.1 == 0 && IN x.2.2.2.2.2.2.2.2.2.2.2.2.2.1 1 35 else false) := by
    refine Ev.all fun n => ?_
    unfold i_Box_isEnd i_fits
    rw [i_sign_val n _ 4 (by omega) hc.1 hc.2, i_within_val]
    simp only [Option.bind_some]
    by_cases c1 : x.2.2.2.2.2.2.2.2.2.2.2.1 = 1
    · simp only [c1, beq_self_eq_true, cond_true, if_true]
      cases (x.2.2.2.2.2.2.2.2.2.2.2.2.1 == 0) <;> cases (x.2.2.2.2.2.2.2.2.2.2.2.2.2.1 == 0) <;> rfl
    · rw [if_neg c1, beq_eq_false_iff_ne.2 c1, cond_false]
      by_cases c2 : x.2.2.2.2.2.2.2.2.2.2.2.1 = 2
      · simp only [c2, beq_self_eq_true, cond_true, if_true]
        cases (sg x.2.2.2.2.2.2.2.2.2.2.2.2.1 4 == x.2.2.2.2.2.2.2.2.2.2.2.2.1) <;> cases (x.2.2.2.2.2.2.2.2.2.2.2.2.2.1 == 0) <;> rfl
      · rw [if_neg c2, beq_eq_false_iff_ne.2 c2, cond_false]
        by_cases c3 : x.2.2.2.2.2.2.2.2.2.2.2.1 = 3
        · simp only [c3, beq_self_eq_true, cond_true, if_true]
          cases (x.2.2.2.2.2.2.2.2.2.2.2.2.1 == 0) <;> rfl
        · rw [if_neg c3, beq_eq_false_iff_ne.2 c3, cond_false]
  unfold i_BoxOK i_CpuOK i_areFlags i_isHeap i_isSeed BOK
  simp only [i_within_val, Option.bind_some]
  rw [flOK_eq _ hf]
  cases h1 : flOK x.2.2.1
  · exact Ev.now _
  refine Ev.t rfl (Ev.bind (i_MemoryOK_ev _ hl) ?_)
  cases h2 : MOK x.2.2.2.1
  · exact Ev.now _
  cases h3 : IN x.2.2.2.2.1 512 3584
  · exact Ev.now _
  cases h4 : IN x.2.2.2.2.2.1 x.2.2.2.2.1 3584
  · exact Ev.now _
  by_cases h5 : x.2.2.2.2.2.2.1.size ≤ 1024
  · have h5' : decide (Int.ofNat x.2.2.2.2.2.2.1.size ≤ 1024) = true := decide_eq_true (by simp only [Int.ofNat_eq_natCast]; omega)
    rw [decide_eq_true h5, h5']
    cases h6 : IN x.2.2.2.2.2.2.2.1 0 x.2.2.2.2.2.2.1.size
    · simp only [cond_true, Int.ofNat_eq_natCast, h6, cond_false]; exact Ev.now _
    simp only [cond_true, Int.ofNat_eq_natCast, h6]
    by_cases h7 : x.2.2.2.2.2.2.2.2.1.size ≤ 512
    · have h7' : decide ((x.2.2.2.2.2.2.2.2.1.size : Int) ≤ 512) = true := decide_eq_true (by omega)
      rw [decide_eq_true h7, h7']
      cases h8 : IN x.2.2.2.2.2.2.2.2.2.1 0 1000000
      · exact Ev.now _
      cases h9 : IN x.2.2.2.2.2.2.2.2.2.2.1 0 2147483647
      · exact Ev.now _
      exact Ev.bind key (Ev.eq (Ev.now _) (by simp))
    · rw [decide_eq_false h7, decide_eq_false (by omega)]; exact Ev.now _
  · have h5' : decide (Int.ofNat x.2.2.2.2.2.2.1.size ≤ 1024) = false := decide_eq_false (by simp only [Int.ofNat_eq_natCast]; omega)
    rw [decide_eq_false h5, h5']; exact Ev.now _
theorem s_BoxOK_ev (x : BoxT) (hl : x.2.2.2.1.length ≤ 9223372036854775807) (hc : R64 x.2.2.2.2.2.2.2.2.2.2.2.2.1) : Ev (fun n => s_BoxOK n x) (BOK x) := by
  have hs := s_l01Sign_ev x.2.2.2.2.2.2.2.2.2.2.2.2.1 4 (by omega) hc.1 hc.2
  unfold s_BoxOK s_CpuOK s_l06Flags BOK
  simp only [s_l01In_val, Option.bind_some]
  have hfl : (bif decide (x.2.2.1 ≥ 0) then some (ibits BinOp.and IntKind.i64 x.2.2.1 2245 == x.2.2.1) else some false) = some (flOK x.2.2.1) := by
    unfold flOK
    cases decide (x.2.2.1 ≥ 0) <;> rfl
  rw [hfl]
  simp only [Option.bind_some]
  cases h1 : flOK x.2.2.1
  · exact Ev.now _
  refine Ev.f rfl (Ev.bind (s_MemoryOK_ev _ hl) ?_)
  cases h2 : MOK x.2.2.2.1
  · exact Ev.now _
  cases h3 : IN x.2.2.2.2.1 512 3584
  · exact Ev.now _
  cases h4 : IN x.2.2.2.2.2.1 x.2.2.2.2.1 3584
  · exact Ev.now _
  by_cases h5 : x.2.2.2.2.2.2.1.size ≤ 1024
  · have h5' : decide (Int.ofNat x.2.2.2.2.2.2.1.size > 1024) = false := decide_eq_false (by simp only [Int.ofNat_eq_natCast]; omega)
    rw [decide_eq_true h5, h5']
    cases h6 : IN x.2.2.2.2.2.2.2.1 0 x.2.2.2.2.2.2.1.size
    · simp only [cond_true, Int.ofNat_eq_natCast, h6, cond_false, Bool.not_true, Bool.not_false]; exact Ev.now _
    simp only [cond_false, Int.ofNat_eq_natCast, h6, Bool.not_true]
    by_cases h7 : x.2.2.2.2.2.2.2.2.1.size ≤ 512
    · have h7' : decide ((x.2.2.2.2.2.2.2.2.1.size : Int) > 512) = false := decide_eq_false (by omega)
      rw [decide_eq_true h7, h7']
      cases h8 : IN x.2.2.2.2.2.2.2.2.2.1 0 1000000
      · exact Ev.now _
      cases h9 : IN x.2.2.2.2.2.2.2.2.2.2.1 0 2147483647
      · exact Ev.now _
      simp only [cond_false, Bool.not_true]
      generalize hst : x.2.2.2.2.2.2.2.2.2.2.2.1 = st
      generalize hcd : x.2.2.2.2.2.2.2.2.2.2.2.2.1 = cd at *
      generalize hft : x.2.2.2.2.2.2.2.2.2.2.2.2.2.1 = ft
      generalize hwh : x.2.2.2.2.2.2.2.2.2.2.2.2.2.2.1 = wh
      have z4 : sg 0 4 = 0 := by decide
      by_cases c1 : st = 1
      · subst c1
        rw [show IN 1 1 3 = true by decide]
        refine Ev.f rfl (Ev.t (by decide) ?_)
        by_cases d1 : cd = 0
        · subst d1
          refine Ev.f (by decide) (Ev.bind hs (Ev.f (by rw [z4]; decide) (Ev.t (by decide) ?_)))
          by_cases d2 : ft = 0
          · subst d2; exact Ev.t (by decide) (Ev.eq (Ev.now _) (by simp))
          · exact Ev.f (by simpa using d2) (Ev.eq (Ev.now _) (by simp [d2]))
        · exact Ev.t (by simpa using d1) (Ev.eq (Ev.now _) (by simp [d1]))
      · by_cases c2 : st = 2
        · subst c2
          rw [show IN 2 1 3 = true by decide]
          refine Ev.f rfl (Ev.f (by decide) (Ev.bind hs ?_))
          by_cases d1 : sg cd 4 = cd
          · refine Ev.f (by simpa using d1) (Ev.t (by decide) ?_)
            by_cases d2 : ft = 0
            · subst d2; exact Ev.t (by decide) (Ev.eq (Ev.now _) (by simp [d1]))
            · exact Ev.f (by simpa using d2) (Ev.eq (Ev.now _) (by simp [d2]))
          · exact Ev.t (by simpa using d1) (Ev.eq (Ev.now _) (by simp [d1]))
        · by_cases c3 : st = 3
          · subst c3
            rw [show IN 3 1 3 = true by decide]
            refine Ev.f rfl (Ev.t (by decide) ?_)
            by_cases d1 : cd = 0
            · subst d1
              refine Ev.f (by decide) (Ev.bind hs (Ev.f (by rw [z4]; decide) (Ev.f (by decide) ?_)))
              exact Ev.eq (Ev.now _) (by simp)
            · exact Ev.t (by simpa using d1) (Ev.eq (Ev.now _) (by simp [d1]))
          · rw [IN_false.2 (by omega)]
            exact Ev.t rfl (Ev.eq (Ev.now _) (by simp [c1, c2, c3]))
    · rw [decide_eq_false h7, decide_eq_true (by omega)]; exact Ev.now _
  · have h5' : decide (Int.ofNat x.2.2.2.2.2.2.1.size > 1024) = true := decide_eq_true (by simp only [Int.ofNat_eq_natCast]; omega)
    rw [decide_eq_false h5, h5']; exact Ev.now _
theorem FnExactBoxOK_ev (x : BoxT) (h16 : x.1.length = 16) (hf : R64 x.2.2.1) (hl : x.2.2.2.1.length ≤ 9223372036854775807) (hy : ∀ y ∈ x.2.2.2.1, y.f2.size ≤ 9223372036854775807) (h6 : x.2.2.2.2.2.2.1.size ≤ 9223372036854775807) (h8 : x.2.2.2.2.2.2.2.2.1.size ≤ 9223372036854775807)
    (hc : R64 x.2.2.2.2.2.2.2.2.2.2.2.2.1) : Ev (fun n => w_FnExactBoxOK n x) true := by
  obtain ⟨t, h1, h2, h3⟩ := w_szBox_ev x 1048576 (by omega) hl hy h6 h8
  unfold w_FnExactBoxOK
  refine Ev.bind h3 (Ev.dcases (fun _ => Ev.now _) fun c => ?_)
  have hx := w_toBox_ev x h16 (by omega)
  refine Ev.bind hx (Ev.bind (s_BoxOK_ev x hl hc) (Ev.bind hx (Ev.bind (i_BoxOK_ev x hf hl hc) (Ev.f (by simp) (Ev.bind hx (Ev.bind (w_eqBox_refl x hl) (Ev.f rfl (Ev.now _))))))))
end Go.Proofs.Ytigoabhkdipdeaa
/- Marks: what the laws write into what they were handed, and find again. -/
namespace Go.Proofs.Ytigoabhkdipdeaa
open Go Go.Proofs.Ytigoabhkdipdeaa.AM
set_option linter.all false

theorem markText_loop : ∀ (k : Nat) (e : Int) (acc : ByteArray), e ≤ k → (acc.size : Int) + k ≤ 1000000000000 → ∃ t, Ev (fun n => w_markText_ls n e acc) t := by
  intro k
  induction k with
  | zero =>
    intro e acc he hs
    refine ⟨ByteArray.mk #[(109 : UInt8)] ++ acc, Ev.step (g := fun n => w_markText_r0 (w_markText_ls n) n e acc) (fun n => rfl) ?_⟩
    unfold w_markText_r0
    exact Ev.df (by omega) (Ev.df (by rw [show (ByteArray.mk #[(109 : UInt8)]).size = 1 from rfl, show IntKind.i64.max = 9223372036854775807 from rfl]; simp only [Int.ofNat_eq_natCast]; omega) (Ev.now _))
  | succ k ih =>
    intro e acc he hs
    by_cases h0 : e > 0
    · have h1 : ∀ v : Int, (ByteArray.mk (List.map (fun y => AM.byteOf [Value.int IntKind.u8 y]) ((List.replicate (1 : Nat) (0 : Int)).set (0 : Nat) v)).toArray).size = 1 := fun v => rfl
      have hd : e.tdiv 10 = e / 10 := Int.tdiv_eq_ediv_of_nonneg (by omega)
      obtain ⟨t, ht⟩ := ih (e / 10) (ByteArray.mk (List.map (fun y => AM.byteOf [Value.int IntKind.u8 y]) ((List.replicate (1 : Nat) (0 : Int)).set (0 : Nat) (IntKind.u8.wrap (IntKind.i64.wrap ((48 : Int) + e.tmod (10 : Int)))))).toArray ++ acc) (by omega) (by rw [ByteArray.size_append, h1]; omega)
      refine ⟨t, Ev.step (g := fun n => w_markText_r0 (w_markText_ls n) n e acc) (fun n => rfl) ?_⟩
      unfold w_markText_r0
      refine Ev.dt h0 (Ev.df (by rw [h1, show IntKind.i64.max = 9223372036854775807 from rfl]; simp only [Int.ofNat_eq_natCast]; omega) ?_)
      rw [hd, wI (by omega) (by omega)]
      exact ht
    · obtain ⟨t, ht⟩ := ih e acc (by omega) (by omega)
      exact ⟨t, ht⟩
theorem markText_ex (e : Int) (he : e ≤ 100000000) : ∃ t, Ev (fun n => w_markText n e) t := by
  by_cases h : e ≤ 0
  · exact ⟨_, by unfold w_markText w_markText_m; exact Ev.dt h (Ev.now _)⟩
  · obtain ⟨t, ht⟩ := markText_loop 100000000 e (ByteArray.mk #[]) (by omega) (by rw [show (ByteArray.mk #[]).size = 0 from rfl]; omega)
    exact ⟨t, by unfold w_markText w_markText_m; exact Ev.df h ht⟩
open Classical in
noncomputable def mT (e : Int) : ByteArray := if h : ∃ t, Ev (fun n => w_markText n e) t then Classical.choose h else ⟨#[]⟩
theorem w_markText_ev (e : Int) (he : e ≤ 100000000) : Ev (fun n => w_markText n e) (mT e) := by
  unfold mT
  rw [dif_pos (markText_ex e he)]
  exact Classical.choose_spec (markText_ex e he)

noncomputable def mkP (e : Int) : S_Page := ⟨e, e + 1, mT (e + 2)⟩
noncomputable def mkPs (e : Int) (L : Nat) : List S_Page := (List.range L).map fun j : Nat => mkP (e + 3 * (j : Int))
theorem rd_mkPs (e : Int) (L j : Nat) (h : j < L) : rd z_Page (mkPs e L) j = mkP (e + 3 * (j : Int)) := by
  unfold mkPs
  rw [rd_lt (by simpa using h)]
  simp
theorem markPageS_loop (e : Int) (L : Nat) (he : 0 ≤ e) (hL : e + 3 * (L : Int) + 3 ≤ 100000000) : ∀ (d i : Nat) (b : List S_Page), i + d = L → b.length = L → (∀ j, j < i → rd z_Page b j = mkP (e + 3 * (j : Int))) →
    Ev (fun n => w_markPageS_ls n (e + 3 * (i : Int)) (i : Int) b) (e + 3 * (L : Int), mkPs e L) := by
  intro d
  induction d with
  | zero =>
    intro i b hi hb hj
    have e1 : b = mkPs e L := rd_ext (d := z_Page) (by unfold mkPs; simpa using hb) fun j h => by rw [rd_mkPs e L j (by omega)]; exact hj j (by omega)
    refine Ev.step (g := fun n => w_markPageS_r0 (w_markPageS_ls n) n (e + 3 * (i : Int)) i b) (fun n => rfl) ?_
    unfold w_markPageS_r0
    refine Ev.df (by simp only [Int.ofNat_eq_natCast]; omega) ?_
    rw [e1, show i = L by omega]
    exact Ev.now _
  | succ d ih =>
    intro i b hi hb hj
    have hib : i < b.length := by omega
    refine Ev.step (g := fun n => w_markPageS_r0 (w_markPageS_ls n) n (e + 3 * (i : Int)) i b) (fun n => rfl) ?_
    unfold w_markPageS_r0
    refine Ev.dt (by simp only [Int.ofNat_eq_natCast]; omega) (Ev.dt (by omega) (Ev.dt (by simp only [Int.ofNat_eq_natCast]; omega) (Ev.dt (by omega) (Ev.dt (by simp only [Int.ofNat_eq_natCast, List.length_set]; omega) ?_))))
    rw [wI (n := e + 3 * (i : Int) + 1) (by omega) (by omega), wI (n := e + 3 * (i : Int) + 1 + 1) (by omega) (by omega), wI (n := e + 3 * (i : Int) + 1 + 1 + 1) (by omega) (by omega)]
    refine Ev.bind (w_markText_ev _ (by omega)) (Ev.dt (by omega) (Ev.dt (by simp only [Int.ofNat_eq_natCast, List.length_set]; omega) ?_))
    rw [wI (n := (i : Int) + 1) (by omega) (by omega)]
    have hti : ((i : Int)).toNat = i := by omega
    have key : ∀ (q : List S_Page), q = b.set i (mkP (e + 3 * (i : Int))) → Ev (fun n => w_markPageS_ls n (e + 3 * (i : Int) + 1 + 1 + 1) ((i : Int) + 1) q) (e + 3 * (L : Int), mkPs e L) := by
      rintro q rfl
      have := ih (i + 1) (b.set i (mkP (e + 3 * (i : Int)))) (by omega) (by simp [hb]) (fun j hj' => by
        rw [rd_set hib]
        split
        · rename_i h; rw [h]
        · exact hj j (by omega))
      rw [show e + 3 * ((i + 1 : Nat) : Int) = e + 3 * (i : Int) + 1 + 1 + 1 by omega, show ((i + 1 : Nat) : Int) = (i : Int) + 1 by omega] at this
      exact this
    refine key _ ?_
    rw [hti]
    have s1 : ∀ x : S_Page, rd z_Page (b.set i x) i = x := fun x => by rw [rd_set hib, if_pos rfl]
    simp only [List.set_set, s1]
    unfold mkP
    rw [show e + 3 * (i : Int) + 1 + 1 = e + 3 * (i : Int) + 2 by omega]
theorem heldPageS_loop (e : Int) (L : Nat) (he : 0 ≤ e) (hL : e + 3 * (L : Int) + 3 ≤ 100000000) : ∀ (d i : Nat), i + d = L → Ev (fun n => w_heldPageS_ls n (mkPs e L) (e + 3 * (i : Int)) (i : Int)) (e + 3 * (L : Int)) := by
  have hlen : (mkPs e L).length = L := by unfold mkPs; simp
  intro d
  induction d with
  | zero =>
    intro i hi
    refine Ev.step (g := fun n => w_heldPageS_r0 (w_heldPageS_ls n) n (mkPs e L) (e + 3 * (i : Int)) i) (fun n => rfl) ?_
    unfold w_heldPageS_r0
    refine Ev.df (by simp only [Int.ofNat_eq_natCast]; omega) ?_
    rw [show i = L by omega]
    exact Ev.now _
  | succ d ih =>
    intro i hi
    refine Ev.step (g := fun n => w_heldPageS_r0 (w_heldPageS_ls n) n (mkPs e L) (e + 3 * (i : Int)) i) (fun n => rfl) ?_
    unfold w_heldPageS_r0
    have hti : ((i : Int)).toNat = i := by omega
    rw [hti, rd_mkPs e L i (by omega), wI (n := e + 3 * (i : Int) + 1) (by omega) (by omega), wI (n := e + 3 * (i : Int) + 1 + 1) (by omega) (by omega), wI (n := e + 3 * (i : Int) + 1 + 1 + 1) (by omega) (by omega), wI (n := (i : Int) + 1) (by omega) (by omega)]
    have hlt : (i : Int) < Int.ofNat (mkPs e L).length := by simp only [Int.ofNat_eq_natCast]; omega
    have h0 : (0 : Int) ≤ (i : Int) := by omega
    refine Ev.dt hlt (Ev.dt h0 (Ev.dt hlt (Ev.f (by unfold mkP; simp) (Ev.dt h0 (Ev.dt hlt (Ev.f (by unfold mkP; simp) (Ev.dt h0 (Ev.dt hlt (Ev.bind (w_markText_ev _ (by omega)) (Ev.f (by unfold mkP; rw [show e + 3 * (i : Int) + 1 + 1 = e + 3 * (i : Int) + 2 by omega]; simp) ?_))))))))))
    have := ih (i + 1) (by omega)
    rw [show e + 3 * ((i + 1 : Nat) : Int) = e + 3 * (i : Int) + 1 + 1 + 1 by omega, show ((i + 1 : Nat) : Int) = (i : Int) + 1 by omega] at this
    exact this
theorem w_markPageS_ev (l : List S_Page) (e : Int) (he : 0 ≤ e) (hL : e + 3 * (l.length : Int) + 3 ≤ 100000000) : Ev (fun n => w_markPageS n l e) (e + 3 * (l.length : Int), mkPs e l.length) := by
  have := markPageS_loop e l.length he hL l.length 0 l (by omega) rfl (fun j h => by omega)
  rw [show e + 3 * ((0 : Nat) : Int) = e by omega] at this
  exact this
theorem w_heldPageS_ev (L : Nat) (e : Int) (he : 0 ≤ e) (hL : e + 3 * (L : Int) + 3 ≤ 100000000) : Ev (fun n => w_heldPageS n (mkPs e L) e) (e + 3 * (L : Int)) := by
  have := heldPageS_loop e L he hL L 0 (by omega)
  rw [show e + 3 * ((0 : Nat) : Int) = e by omega] at this
  exact this
theorem markIntS_loop : ∀ (d i : Nat) (e : Int) (b : List Int), i + d = b.length → b.length ≤ 100000000 → 0 ≤ e → e + d ≤ 100000000 → ∃ m, Ev (fun n => w_markIntS_ls n e (i : Int) b) (e + d, m) := by
  intro d
  induction d with
  | zero =>
    intro i e b hi hb he hs
    refine ⟨b, Ev.step (g := fun n => w_markIntS_r0 (w_markIntS_ls n) n e i b) (fun n => rfl) ?_⟩
    unfold w_markIntS_r0
    refine Ev.df (by simp only [Int.ofNat_eq_natCast]; omega) ?_
    rw [show e + ((0 : Nat) : Int) = e by omega]
    exact Ev.now _
  | succ d ih =>
    intro i e b hi hb he hs
    obtain ⟨m, hm⟩ := ih (i + 1) (e + 1) (b.set i e) (by simp; omega) (by simpa using hb) (by omega) (by omega)
    refine ⟨m, Ev.step (g := fun n => w_markIntS_r0 (w_markIntS_ls n) n e i b) (fun n => rfl) ?_⟩
    unfold w_markIntS_r0
    refine Ev.dt (by simp only [Int.ofNat_eq_natCast]; omega) (Ev.dt (by omega) (Ev.dt (by simp only [Int.ofNat_eq_natCast]; omega) ?_))
    rw [wI (by omega) (by omega), wI (by omega) (by omega), show ((i : Int)).toNat = i by omega]
    rw [show e + 1 + ((d : Nat) : Int) = e + ((d + 1 : Nat) : Int) by omega, show ((i + 1 : Nat) : Int) = (i : Int) + 1 by omega] at hm
    exact hm
theorem w_markIntS_ev (b : List Int) (e : Int) (he : 0 ≤ e) (hs : e + b.length ≤ 100000000) : ∃ m, Ev (fun n => w_markIntS n b e) (e + b.length, m) := markIntS_loop b.length 0 e b (by omega) (by omega) he hs
end Go.Proofs.Ytigoabhkdipdeaa
/- NewBox. -/
namespace Go.Proofs.Ytigoabhkdipdeaa
open Go Go.Proofs.Ytigoabhkdipdeaa.AM
set_option linter.all false
abbrev RepT : Type := List Int × List Int × List Int × Int × Unit
abbrev LdT : Type := List S_Page × Int × Int × Int × Int × List Int × List Int × List Int × Int × Unit

theorem szIntS_ex (l : List Int) (s : Int) (hs : 0 ≤ s ∧ s ≤ 1048576) (hl : l.length ≤ 9223372036854775807) : ∃ t, t ≤ s ∧ (0 ≤ t → l.length ≤ s) ∧ Ev (fun n => w_szIntS n l s) t := by
  have hw : IntKind.i64.wrap (s - Int.ofNat l.length) = s - l.length := by rw [wI (by simp only [Int.ofNat_eq_natCast]; omega) (by simp only [Int.ofNat_eq_natCast]; omega)]; rfl
  unfold w_szIntS
  rw [hw]
  by_cases c : s - (l.length : Int) < 0
  · exact ⟨-1, by omega, by omega, Ev.dt c (Ev.now _)⟩
  · exact ⟨s - l.length, by omega, by omega, Ev.df c (Ev.now _)⟩
structure RepD (y : RepT) : Prop where
  a : y.1.length ≤ 9223372036854775807
  b : y.2.1.length ≤ 9223372036854775807
  c : y.2.2.1.length ≤ 9223372036854775807
theorem w_szReport_ev (y : RepT) (hy : RepD y) (s : Int) (hs : 0 ≤ s ∧ s ≤ 1048576) : ∃ t, t ≤ s ∧ (0 ≤ t → y.1.length ≤ s ∧ y.2.1.length ≤ s ∧ y.2.2.1.length ≤ s) ∧ Ev (fun n => w_szReport n y s) t := by
  obtain ⟨t1, h1, h2, h3⟩ := szIntS_ex y.1 s hs hy.a
  unfold w_szReport
  by_cases c : t1 < 0
  · exact ⟨-1, by omega, by omega, Ev.bind h3 (Ev.dt c (Ev.now _))⟩
  · obtain ⟨t2, h4, h5, h6⟩ := szIntS_ex y.2.1 t1 (by omega) hy.b
    by_cases c2 : t2 < 0
    · exact ⟨-1, by omega, by omega, Ev.bind h3 (Ev.df c (Ev.bind h6 (Ev.dt c2 (Ev.now _))))⟩
    · obtain ⟨t3, h7, h8, h9⟩ := szIntS_ex y.2.2.1 t2 (by omega) hy.c
      by_cases c3 : t3 < 0
      · exact ⟨-1, by omega, by omega, Ev.bind h3 (Ev.df c (Ev.bind h6 (Ev.df c2 (Ev.bind h9 (Ev.dt c3 (Ev.now _))))))⟩
      · exact ⟨t3, by omega, by omega, Ev.bind h3 (Ev.df c (Ev.bind h6 (Ev.df c2 (Ev.bind h9 (Ev.df c3 (Ev.now _))))))⟩
theorem toIntS_loop (l : List Int) (hl : l.length ≤ 9223372036854775807) : ∀ (d i : Nat) (b : List Int), i + d = l.length → b.length = l.length → (∀ j, j < i → rd 0 b j = rd 0 l j) → Ev (fun n => w_toIntS_ls n l (i : Int) b) l := by
  intro d
  induction d with
  | zero =>
    intro i b hi hb hj
    have e : b = l := rd_ext (d := 0) hb fun j h => hj j (by omega)
    subst e
    refine Ev.step (g := fun n => w_toIntS_r0 (w_toIntS_ls n) n b i b) (fun n => rfl) ?_
    unfold w_toIntS_r0
    exact Ev.df (by simp only [Int.ofNat_eq_natCast]; omega) (Ev.now _)
  | succ d ih =>
    intro i b hi hb hj
    refine Ev.step (g := fun n => w_toIntS_r0 (w_toIntS_ls n) n l i b) (fun n => rfl) ?_
    unfold w_toIntS_r0
    refine Ev.dt (by simp only [Int.ofNat_eq_natCast]; omega) (Ev.dt (by omega) (Ev.dt (by simp only [Int.ofNat_eq_natCast]; omega) (Ev.dt (by omega) (Ev.dt (by simp only [Int.ofNat_eq_natCast]; omega) ?_))))
    rw [wI (by omega) (by omega)]
    exact ih (i + 1) _ (by omega) (by simp [hb]) (set_prefix (by omega) hb hj)
theorem w_toIntS_ev (l : List Int) (hl : l.length ≤ 1048576) : Ev (fun n => w_toIntS n l) l := by
  unfold w_toIntS w_toIntS_m
  refine Ev.dt (Int.le_refl _) (Ev.dt (by simp only [Int.ofNat_eq_natCast]; omega) ?_)
  exact toIntS_loop l (by omega) l.length 0 _ (by omega) (by simp) (fun j hj => by omega)
theorem eqIntS_loop (l : List Int) (hl : l.length ≤ 9223372036854775807) : ∀ (d i : Nat), i + d = l.length → Ev (fun n => w_eqIntS_ls n l l (i : Int)) true := by
  intro d
  induction d with
  | zero =>
    intro i hi
    refine Ev.step (g := fun n => w_eqIntS_r0 (w_eqIntS_ls n) n l l i) (fun n => rfl) ?_
    unfold w_eqIntS_r0
    exact Ev.df (by simp only [Int.ofNat_eq_natCast]; omega) (Ev.now _)
  | succ d ih =>
    intro i hi
    refine Ev.step (g := fun n => w_eqIntS_r0 (w_eqIntS_ls n) n l l i) (fun n => rfl) ?_
    unfold w_eqIntS_r0
    have h1 : (i : Int) < Int.ofNat l.length := by simp only [Int.ofNat_eq_natCast]; omega
    refine Ev.dt h1 (Ev.dt (by omega) (Ev.dt h1 (Ev.dt (by omega) (Ev.dt h1 (Ev.f (by simp) ?_)))))
    rw [wI (by omega) (by omega)]
    exact ih (i + 1) (by omega)
theorem w_eqIntS_refl (l : List Int) (hl : l.length ≤ 9223372036854775807) : Ev (fun n => w_eqIntS n l l) true := by
  unfold w_eqIntS w_eqIntS_m
  exact Ev.f (by simp) (eqIntS_loop l hl l.length 0 (by omega))
theorem w_toReport_ev (y : RepT) (h1 : y.1.length ≤ 1048576) (h2 : y.2.1.length ≤ 1048576) (h3 : y.2.2.1.length ≤ 1048576) : Ev (fun n => w_toReport n y) y := by
  unfold w_toReport
  exact Ev.bind (w_toIntS_ev _ h1) (Ev.bind (w_toIntS_ev _ h2) (Ev.bind (w_toIntS_ev _ h3) (Ev.now _)))
theorem w_eqReport_refl (y : RepT) (hy : RepD y) : Ev (fun n => w_eqReport n y y) true := by
  unfold w_eqReport
  exact Ev.bind (w_eqIntS_refl _ hy.a) (Ev.f rfl (Ev.bind (w_eqIntS_refl _ hy.b) (Ev.f rfl (Ev.bind (w_eqIntS_refl _ hy.c) (Ev.f rfl (Ev.f (by simp) (Ev.now _)))))))
structure LdD (x : LdT) : Prop where
  pages : x.1.length ≤ 9223372036854775807
  data : ∀ y ∈ x.1, y.f2.size ≤ 9223372036854775807
  rep : RepD x.2.2.2.2.2
theorem w_szLoaded_ev (x : LdT) (hx : LdD x) (s : Int) (hs : 0 ≤ s ∧ s ≤ 1048576) : ∃ t, t ≤ s ∧ (0 ≤ t → x.1.length ≤ s ∧ x.2.2.2.2.2.1.length ≤ s ∧ x.2.2.2.2.2.2.1.length ≤ s ∧ x.2.2.2.2.2.2.2.1.length ≤ s) ∧ Ev (fun n => w_szLoaded n x s) t := by
  obtain ⟨t1, h1, h2, h3⟩ := w_szMemory_ev x.1 s hs hx.pages hx.data
  unfold w_szLoaded
  by_cases c : t1 < 0
  · exact ⟨-1, by omega, by omega, Ev.bind h3 (Ev.dt c (Ev.now _))⟩
  · obtain ⟨t2, h4, h5, h6⟩ := w_szReport_ev x.2.2.2.2.2 hx.rep t1 (by omega)
    by_cases c2 : t2 < 0
    · exact ⟨-1, by omega, by omega, Ev.bind h3 (Ev.df c (Ev.bind h6 (Ev.dt c2 (Ev.now _))))⟩
    · exact ⟨t2, by omega, fun h => by have := h5 h; omega, Ev.bind h3 (Ev.df c (Ev.bind h6 (Ev.df c2 (Ev.now _))))⟩
theorem w_toLoaded_ev (x : LdT) (h0 : x.1.length ≤ 1048576) (h1 : x.2.2.2.2.2.1.length ≤ 1048576) (h2 : x.2.2.2.2.2.2.1.length ≤ 1048576) (h3 : x.2.2.2.2.2.2.2.1.length ≤ 1048576) : Ev (fun n => w_toLoaded n x) x := by
  unfold w_toLoaded
  exact Ev.bind (w_toMemory_ev x.1 h0) (Ev.bind (w_toReport_ev x.2.2.2.2.2 h1 h2 h3) (Ev.now _))
theorem w_eqLoaded_refl (x : LdT) (hx : LdD x) : Ev (fun n => w_eqLoaded n x x) true := by
  unfold w_eqLoaded
  exact Ev.bind (w_eqMemory_refl x.1 hx.pages) (Ev.f rfl (Ev.f (by simp) (Ev.f (by simp) (Ev.f (by simp) (Ev.f (by simp) (Ev.bind (w_eqReport_refl _ hx.rep) (Ev.f rfl (Ev.now _))))))))
theorem w_markLoaded_ex (x : LdT) (h0 : x.1.length ≤ 1048576) (h1 : x.2.2.2.2.2.1.length ≤ 1048576) (h2 : x.2.2.2.2.2.2.1.length ≤ 1048576) (h3 : x.2.2.2.2.2.2.2.1.length ≤ 1048576) : ∃ t, 0 ≤ t.1 ∧ Ev (fun n => w_markLoaded n x 1) t := by
  obtain ⟨m1, e1⟩ := w_markIntS_ev x.2.2.2.2.2.1 (1 + 3 * (x.1.length : Int)) (by omega) (by omega)
  obtain ⟨m2, e2⟩ := w_markIntS_ev x.2.2.2.2.2.2.1 (1 + 3 * (x.1.length : Int) + x.2.2.2.2.2.1.length) (by omega) (by omega)
  obtain ⟨m3, e3⟩ := w_markIntS_ev x.2.2.2.2.2.2.2.1 (1 + 3 * (x.1.length : Int) + x.2.2.2.2.2.1.length + x.2.2.2.2.2.2.1.length) (by omega) (by omega)
  unfold w_markLoaded w_markMemory w_markReport
  refine ⟨_, ?_, Ev.bind (Ev.bind (w_markPageS_ev x.1 1 (by omega) (by omega)) (Ev.now _)) (Ev.bind (Ev.bind e1 (Ev.bind e2 (Ev.bind e3 (Ev.now _)))) (Ev.now _))⟩
  simp only
  omega

def zB : BoxT := (List.replicate 16 0, 0, 0, [], 0, 0, ByteArray.mk #[], 0, ByteArray.mk #[], 0, 0, 0, 0, 0, 0, ())
def nB (x : LdT) (s : ByteArray) (k : Int) : BoxT := ([0, 0, 0, 0, 20480, 20480, 0, 0, 0, 0, 0, 0, 0, 0, 0, 16384], x.2.1, 0, x.1, x.2.2.1, x.2.2.1, s, 0, ByteArray.mk #[], 0, k, 1, 0, 0, 0, ())
theorem NewBox_ex (x : LdT) (s : ByteArray) (k : Int) (hl : x.1.length ≤ 9223372036854775807) : ∃ r : BoxT × Int, r.1.2.2.2.1.length ≤ 32 ∧ Ev (fun n => s_NewBox n x s k) r ∧ Ev (fun n => i_NewBox n x s k) r := by
  have hL : Ev (fun n => s_l12Loaded n x) (MOK x.1 && IN x.2.2.1 512 3584) := by
    unfold s_l12Loaded
    refine Ev.bind (s_MemoryOK_ev x.1 hl) ?_
    cases MOK x.1 with
    | false => exact Ev.f rfl (Ev.now _)
    | true => exact Ev.t rfl (Ev.bind (Ev.all fun n => s_l01In_val n _ _ _) (Ev.now _))
  have hH : Ev (fun n => i_isHeap n x.2.2.1) (IN x.2.2.1 512 3584) := by
    unfold i_isHeap
    exact Ev.bind (Ev.all fun n => i_within_val n _ _ _) (Ev.now _)
  have hS : Ev (fun n => i_isSeed n k) (IN k 0 2147483647) := by
    unfold i_isSeed
    exact Ev.bind (Ev.all fun n => i_within_val n _ _ _) (Ev.now _)
  have hM := i_MemoryOK_ev x.1 hl
  unfold s_NewBox i_NewBox
  by_cases c1 : Int.ofNat s.size > 65536
  · exact ⟨(zB, 2), by decide, Ev.dt c1 (Ev.now _), Ev.dt c1 (Ev.now _)⟩
  · cases hm : MOK x.1 with
    | false =>
      rw [hm] at hL hM
      exact ⟨(zB, 1), by decide, Ev.df c1 (Ev.bind hL (Ev.t rfl (Ev.now _))), Ev.df c1 (Ev.bind hM (Ev.t rfl (Ev.now _)))⟩
    | true =>
      rw [hm] at hL hM
      have h32 : x.1.length ≤ 32 := by
        unfold MOK at hm
        simp only [Bool.and_eq_true, decide_eq_true_eq] at hm
        exact hm.1
      cases hi : IN x.2.2.1 512 3584 with
      | false =>
        rw [hi] at hL hH
        exact ⟨(zB, 1), by decide, Ev.df c1 (Ev.bind hL (Ev.t rfl (Ev.now _))), Ev.df c1 (Ev.bind hM (Ev.f rfl (Ev.bind hH (Ev.t rfl (Ev.now _)))))⟩
      | true =>
        rw [hi] at hL hH
        by_cases c2 : Int.ofNat s.size > 1024
        · exact ⟨(zB, 8), by decide, Ev.df c1 (Ev.bind hL (Ev.f rfl (Ev.dt c2 (Ev.now _)))), Ev.df c1 (Ev.bind hM (Ev.f rfl (Ev.bind hH (Ev.f rfl (Ev.dt c2 (Ev.now _))))))⟩
        · cases hk : IN k 0 2147483647 with
          | false =>
            rw [hk] at hS
            exact ⟨(zB, 4), by decide, Ev.df c1 (Ev.bind hL (Ev.f rfl (Ev.df c2 (Ev.bind (Ev.all fun n => s_l01In_val n _ _ _) (Ev.t (by rw [hk]; rfl) (Ev.now _)))))), Ev.df c1 (Ev.bind hM (Ev.f rfl (Ev.bind hH (Ev.f rfl (Ev.df c2 (Ev.bind hS (Ev.t rfl (Ev.now _))))))))⟩
          | true =>
            rw [hk] at hS
            refine ⟨(nB x s k, 0), h32, ?_, ?_⟩
            · refine Ev.df c1 (Ev.bind hL (Ev.f rfl (Ev.df c2 (Ev.bind (Ev.all fun n => s_l01In_val n _ _ _) (Ev.f (by rw [hk]; rfl) ?_)))))
              refine Ev.bind (a := nB x s k) (Ev.all fun n => rfl) (Ev.bind (a := (x.1, ())) ?_ (Ev.now _))
              unfold s_l02Own
              exact Ev.dt (by show (0 + x.1.length) * 32 ≤ _; omega) (Ev.now _)
            · refine Ev.df c1 (Ev.bind hM (Ev.f rfl (Ev.bind hH (Ev.f rfl (Ev.df c2 (Ev.bind hS (Ev.f rfl ?_)))))))
              refine Ev.bind (a := nB x s k) ?_ (Ev.now _)
              unfold x108 x168 x230
              exact Ev.bind (Ev.bind (Ev.dt (by show (0 + x.1.length) * 32 ≤ _; omega) (Ev.now _)) (Ev.now _)) (Ev.now _)
theorem w_markBox_ev (x : BoxT) (h : x.2.2.2.1.length ≤ 1048576) : Ev (fun n => w_markBox n x 1) (1 + 3 * (x.2.2.2.1.length : Int), mkPs 1 x.2.2.2.1.length) := by
  unfold w_markBox w_markMemory
  exact Ev.bind (Ev.bind (w_markPageS_ev x.2.2.2.1 1 (by omega) (by omega)) (Ev.now _)) (Ev.now _)
theorem w_heldBox_ev (x : BoxT) (L : Nat) (h : L ≤ 1048576) : Ev (fun n => w_heldBox n (x.1, x.2.1, x.2.2.1, mkPs 1 L, x.2.2.2.2) 1) (1 + 3 * (L : Int)) := by
  unfold w_heldBox w_heldMemory
  refine Ev.bind (Ev.bind (w_heldPageS_ev L 1 (by omega) (by omega)) (Ev.df (by omega) (Ev.now _))) (Ev.df (by omega) (Ev.now _))
theorem FnExactNewBox_ev (x : LdT) (s : ByteArray) (k : Int) (hx : LdD x) : Ev (fun n => w_FnExactNewBox n x s k) true := by
  obtain ⟨t, h1, h2, h3⟩ := w_szLoaded_ev x hx 1048576 (by omega)
  obtain ⟨r, hr, hs, hi⟩ := NewBox_ex x s k hx.pages
  unfold w_FnExactNewBox
  refine Ev.dcases (fun _ => Ev.now _) fun _ => Ev.bind h3 (Ev.dcases (fun _ => Ev.now _) fun c => ?_)
  have h2' := h2 (by omega)
  have ex := w_toLoaded_ev x (by omega) (by omega) (by omega) (by omega)
  obtain ⟨m, hm0, hm⟩ := w_markLoaded_ex x (by omega) (by omega) (by omega) (by omega)
  have eq := w_eqBox_refl r.1 (by omega)
  have mk := w_markBox_ev r.1 (by omega)
  have hd := w_heldBox_ev r.1 r.1.2.2.2.1.length (by omega)
  refine Ev.bind ex (Ev.bind hs (Ev.bind ex (Ev.bind hi (Ev.bind eq (Ev.f rfl (Ev.f (by simp) ?_))))))
  refine Ev.bind ex (Ev.bind (w_eqLoaded_refl x hx) (Ev.f rfl (Ev.bind hm (Ev.df (by omega) (Ev.bind eq (Ev.f rfl (Ev.f (by simp) ?_)))))))
  refine Ev.bind mk (Ev.bind hd (Ev.df (by omega) (Ev.f (by simp) (Ev.bind ex (Ev.bind hi (Ev.bind eq (Ev.f rfl (Ev.f (by simp) ?_))))))))
  exact Ev.bind hd (Ev.df (by omega) (Ev.f (by simp) (Ev.now _)))
end Go.Proofs.Ytigoabhkdipdeaa
/- A page more: both sides put it ahead of the first page with a greater base. -/
namespace Go.Proofs.Ytigoabhkdipdeaa
open Go Go.Proofs.Ytigoabhkdipdeaa.AM
set_option linter.all false
def insP (p : S_Page) : List S_Page → List S_Page
  | [] => [p]
  | q :: l => if p.f0 < q.f0 then p :: q :: l else q :: insP p l
theorem insP_len (p : S_Page) : ∀ l : List S_Page, (insP p l).length = l.length + 1
  | [] => rfl
  | q :: l => by unfold insP; split <;> simp [insP_len p l]
theorem insP_none {p : S_Page} : ∀ {l : List S_Page}, (∀ q ∈ l, q.f0 ≤ p.f0) → insP p l = l ++ [p]
  | [], _ => rfl
  | q :: l, h => by
    unfold insP
    rw [if_neg (by have := h q (by simp); omega), insP_none fun r hr => h r (by simp [hr])]
    rfl
theorem insP_at {p : S_Page} : ∀ {l : List S_Page} {i : Nat}, i < l.length → (∀ j, j < i → (rd z_Page l j).f0 ≤ p.f0) → p.f0 < (rd z_Page l i).f0 → insP p l = l.take i ++ [p] ++ l.drop i
  | [], i, h, _, _ => by simp at h
  | q :: l, 0, _, _, h => by
    unfold insP
    rw [if_pos (show p.f0 < q.f0 from h)]
    rfl
  | q :: l, i + 1, hi, hj, h => by
    unfold insP
    rw [if_neg (by have := hj 0 (by omega); exact Int.not_lt.2 this), insP_at (l := l) (i := i) (by simpa using hi) (fun j hj' => hj (j + 1) (by omega)) h]
    rfl
theorem mem_insP {p q : S_Page} : ∀ {l : List S_Page}, q ∈ insP p l ↔ q = p ∨ q ∈ l
  | [] => by simp [insP]
  | r :: l => by
    unfold insP
    split
    · simp
    · simp only [List.mem_cons, mem_insP (l := l)]
      constructor
      · rintro (h | h | h)
        · exact .inr (.inl h)
        · exact .inl h
        · exact .inr (.inr h)
      · rintro (h | h | h)
        · exact .inr (.inl h)
        · exact .inl h
        · exact .inr (.inr h)
theorem rd_mem {l : List S_Page} {i : Nat} (h : i < l.length) : rd z_Page l i ∈ l := by rw [rd_lt h]; exact List.getElem_mem h
theorem with_find (l : List S_Page) (hl : l.length ≤ 1048576) (p : S_Page) : ∀ (d i : Nat), i + d = l.length → (∀ j, j < i → (rd z_Page l j).f0 ≤ p.f0) →
    ∃ k : Int, ((k = -1 ∧ ∀ q ∈ l, q.f0 ≤ p.f0) ∨ ∃ j : Nat, k = j ∧ j < l.length ∧ (∀ j', j' < j → (rd z_Page l j').f0 ≤ p.f0) ∧ p.f0 < (rd z_Page l j).f0) ∧
      Ev (fun n => slices_IndexFunc_i_Page_i_Page_i_Memory_with_1_ls n l (l.length : Int) (i : Int) p.f0 p.f1 p.f2) (k, p.f0, p.f1, p.f2, ()) := by
  intro d
  induction d with
  | zero =>
    intro i hi hj
    refine ⟨-1, .inl ⟨rfl, fun q hq => ?_⟩, ?_⟩
    · obtain ⟨j, hj1, rfl⟩ := List.getElem_of_mem hq
      have := hj j (by omega)
      rwa [rd_lt hj1] at this
    · refine Ev.step (g := fun n => slices_IndexFunc_i_Page_i_Page_i_Memory_with_1_r0 (slices_IndexFunc_i_Page_i_Page_i_Memory_with_1_ls n) n l l.length i p.f0 p.f1 p.f2) (fun n => rfl) ?_
      unfold slices_IndexFunc_i_Page_i_Page_i_Memory_with_1_r0
      exact Ev.df (by omega) (Ev.now _)
  | succ d ih =>
    intro i hi hj
    by_cases c : (rd z_Page l i).f0 > p.f0
    · refine ⟨i, .inr ⟨i, rfl, by omega, hj, c⟩, ?_⟩
      refine Ev.step (g := fun n => slices_IndexFunc_i_Page_i_Page_i_Memory_with_1_r0 (slices_IndexFunc_i_Page_i_Page_i_Memory_with_1_ls n) n l l.length i p.f0 p.f1 p.f2) (fun n => rfl) ?_
      unfold slices_IndexFunc_i_Page_i_Page_i_Memory_with_1_r0
      rw [Int.toNat_natCast]
      refine Ev.dt (by omega) (Ev.dt (by omega) (Ev.dt (by simp only [Int.ofNat_eq_natCast]; omega) (Ev.bind (a := decide ((rd z_Page l i).f0 > p.f0)) (Ev.all fun n => rfl) (Ev.dt c (Ev.now _)))))
    · obtain ⟨k, hk, he⟩ := ih (i + 1) (by omega) fun j h => by
        by_cases e : j = i
        · rw [e]; omega
        · exact hj j (by omega)
      refine ⟨k, hk, ?_⟩
      refine Ev.step (g := fun n => slices_IndexFunc_i_Page_i_Page_i_Memory_with_1_r0 (slices_IndexFunc_i_Page_i_Page_i_Memory_with_1_ls n) n l l.length i p.f0 p.f1 p.f2) (fun n => rfl) ?_
      unfold slices_IndexFunc_i_Page_i_Page_i_Memory_with_1_r0
      rw [Int.toNat_natCast]
      refine Ev.dt (by omega) (Ev.dt (by omega) (Ev.dt (by simp only [Int.ofNat_eq_natCast]; omega) (Ev.bind (a := decide ((rd z_Page l i).f0 > p.f0)) (Ev.all fun n => rfl) (Ev.df c ?_))))
      rw [wI (by omega) (by omega)]
      exact he
theorem one_page (a b : Int) (s : ByteArray) : (List.replicate (1 : Nat) z_Page).set (0 : Nat) (S_Page.mk a b s) = [S_Page.mk a b s] := rfl
theorem withJ_ev (l : List S_Page) (hl : l.length ≤ 1048576) (p : S_Page) (i : Nat) (h : insP p l = l.take i ++ [p] ++ l.drop i) (hi : i ≤ l.length) (b : List S_Page) :
    Ev (fun n => i_Memory_with_j9 n (i : Int) l p.f0 p.f1 p.f2 b) (insP p l, ()) := by
  unfold i_Memory_with_j9
  refine Ev.bind (a := l) ?_ ?_
  · unfold x230
    exact Ev.dt (by omega) (Ev.now _)
  · rw [one_page]
    refine Ev.bind (a := insP p l) ?_ (Ev.now _)
    unfold x259
    by_cases c : i < l.length
    · refine Ev.t ?_ (Ev.eq (Ev.now _) h.symm)
      simp only [Bool.and_eq_true, decide_eq_true_eq, Int.toNat_natCast]
      exact ⟨⟨⟨by omega, c⟩, rfl⟩, by omega⟩
    · have e : i = l.length := by omega
      refine Ev.f ?_ ?_
      · simp only [Bool.and_eq_false_iff, decide_eq_false_iff_not, Int.toNat_natCast]
        exact .inl (.inl (.inr (by omega)))
      · unfold q259
        refine Ev.dt (Nat.le_refl _) (Ev.dt (by omega) (Ev.dt (by omega) (Ev.f rfl (Ev.t (by simp [e]) (Ev.dt (by simp; omega) (Ev.eq (Ev.now _) ?_))))))
        rw [h, e]
        simp
theorem i_with_ev (l : List S_Page) (hl : l.length ≤ 1048576) (p : S_Page) : Ev (fun n => i_Memory_with n (l, ()) (p.f0, p.f1, p.f2, ())) (insP p l, ()) := by
  obtain ⟨k, hk, he⟩ := with_find l hl p l.length 0 (by omega) fun j h => by omega
  unfold i_Memory_with
  refine Ev.bind (a := (k, p.f0, p.f1, p.f2, ())) he ?_
  rcases hk with ⟨rfl, h⟩ | ⟨j, rfl, h1, h2, h3⟩
  · exact Ev.dt (show (-1 : Int) < 0 by decide) (withJ_ev l hl p l.length (by rw [insP_none h]; simp) (Nat.le_refl _) [])
  · exact Ev.df (by omega) (withJ_ev l hl p j (insP_at h1 h2 h3) (by omega) [])
/-- The page of noughts. -/
def ZZ : ByteArray := ByteArray.mk (List.map (fun y => AM.byteOf [Value.int IntKind.u8 y]) (List.replicate (Int.toNat (256 : Int)) (0 : Int))).toArray
theorem add_loop (l : List S_Page) (hl : l.length ≤ 1048576) (p : S_Page) : ∀ (d i : Nat) (b : List S_Page), i + d = l.length → b.length ≤ i + 1 →
    Ev (fun n => s_l02Add_ls n p.f0 true (i : Int) l [] b p.f0 p.f1 p.f2) (b ++ l.drop i, ()) := by
  intro d
  induction d with
  | zero =>
    intro i b hi hb
    refine Ev.step (g := fun n => s_l02Add_r0 (s_l02Add_ls n) n p.f0 true i l [] b p.f0 p.f1 p.f2) (fun n => rfl) ?_
    unfold s_l02Add_r0
    exact Ev.df (by simp only [Int.ofNat_eq_natCast]; omega) (Ev.f rfl (Ev.eq (Ev.now _) (by rw [List.drop_eq_nil_of_le (by omega), List.append_nil])))
  | succ d ih =>
    intro i b hi hb
    refine Ev.step (g := fun n => s_l02Add_r0 (s_l02Add_ls n) n p.f0 true i l [] b p.f0 p.f1 p.f2) (fun n => rfl) ?_
    unfold s_l02Add_r0
    refine Ev.dt (by simp only [Int.ofNat_eq_natCast]; omega) (Ev.f rfl ?_)
    unfold s_l02Add_j21
    rw [Int.toNat_natCast, one_page]
    refine Ev.dt (by omega) (Ev.dt (by simp only [Int.ofNat_eq_natCast]; omega) (Ev.dt (by simp; omega) ?_))
    rw [wI (by omega) (by omega)]
    refine (ih (i + 1) (b ++ [rd z_Page l i]) (by omega) (by simp; omega)).eq ?_
    rw [rd_lt (by omega), List.drop_eq_getElem_cons (show i < l.length by omega)]
    simp
theorem add_loop0 (l : List S_Page) (hl : l.length ≤ 1048576) (p : S_Page) : ∀ (d i : Nat) (b : List S_Page), i + d = l.length → b.length ≤ i →
    Ev (fun n => s_l02Add_ls n p.f0 false (i : Int) l [] b p.f0 p.f1 p.f2) (b ++ insP p (l.drop i), ()) := by
  intro d
  induction d with
  | zero =>
    intro i b hi hb
    refine Ev.step (g := fun n => s_l02Add_r0 (s_l02Add_ls n) n p.f0 false i l [] b p.f0 p.f1 p.f2) (fun n => rfl) ?_
    unfold s_l02Add_r0
    rw [one_page]
    exact Ev.df (by simp only [Int.ofNat_eq_natCast]; omega) (Ev.t rfl (Ev.dt (by simp; omega) (Ev.eq (Ev.now _) (by rw [List.drop_eq_nil_of_le (by omega)]; rfl))))
  | succ d ih =>
    intro i b hi hb
    have hd : l.drop i = rd z_Page l i :: l.drop (i + 1) := by rw [rd_lt (by omega), List.drop_eq_getElem_cons (show i < l.length by omega)]
    refine Ev.step (g := fun n => s_l02Add_r0 (s_l02Add_ls n) n p.f0 false i l [] b p.f0 p.f1 p.f2) (fun n => rfl) ?_
    unfold s_l02Add_r0
    rw [Int.toNat_natCast, one_page]
    refine Ev.dt (by simp only [Int.ofNat_eq_natCast]; omega) (Ev.t rfl (Ev.dt (by omega) (Ev.dt (by simp only [Int.ofNat_eq_natCast]; omega) ?_)))
    by_cases c : (rd z_Page l i).f0 > p.f0
    · refine Ev.dt c (Ev.dt (by simp; omega) ?_)
      unfold s_l02Add_j21
      rw [Int.toNat_natCast, one_page]
      refine Ev.dt (by omega) (Ev.dt (by simp only [Int.ofNat_eq_natCast]; omega) (Ev.dt (by simp; omega) ?_))
      rw [wI (by omega) (by omega)]
      refine (add_loop l hl p d (i + 1) (b ++ [p] ++ [rd z_Page l i]) (by omega) (by simp; omega)).eq ?_
      rw [hd]
      unfold insP
      rw [if_pos c]
      simp
    · refine Ev.df c ?_
      unfold s_l02Add_j21
      rw [Int.toNat_natCast, one_page]
      refine Ev.dt (by omega) (Ev.dt (by simp only [Int.ofNat_eq_natCast]; omega) (Ev.dt (by simp; omega) ?_))
      rw [wI (by omega) (by omega)]
      refine (ih (i + 1) (b ++ [rd z_Page l i]) (by omega) (by simp; omega)).eq ?_
      rw [hd]
      show _ = (b ++ insP p (rd z_Page l i :: l.drop (i + 1)), ())
      rw [insP, if_neg (by omega)]
      simp
theorem s_l02Add_ev (l : List S_Page) (hl : l.length ≤ 1048576) (a b : Int) : Ev (fun n => s_l02Add n (l, ()) a b) (insP ⟨a, b, ZZ⟩ l, ()) := add_loop0 l hl ⟨a, b, ZZ⟩ l.length 0 [] (by omega) (by simp)
end Go.Proofs.Ytigoabhkdipdeaa
/- Pages laid one behind the other; bytes laid into them. -/
namespace Go.Proofs.Ytigoabhkdipdeaa
open Go Go.Proofs.Ytigoabhkdipdeaa.AM
set_option linter.all false
/-! bytes as lists -/
def bl (s : ByteArray) : List UInt8 := s.data.toList
theorem bl_inj {s t : ByteArray} (h : bl s = bl t) : s = t := Go.WideShapes.bytes_inj h
theorem bl_len (s : ByteArray) : (bl s).length = s.size := Array.length_toList
theorem bl_app (s t : ByteArray) : bl (s ++ t) = bl s ++ bl t := by simp [bl]
theorem bl_ext (s : ByteArray) (a b : Nat) : bl (s.extract a b) = ((bl s).take b).drop a := by
  simp [bl, ByteArray.data_extract, List.extract_eq_drop_take, List.drop_take]
/-! pages -/
def lay (a perm : Int) : List ByteArray → List S_Page → List S_Page
  | [], l => l
  | d :: ds, l => lay (a + 256) perm ds (insP ⟨a, perm, d⟩ l)
theorem lay_len (perm : Int) : ∀ (ds : List ByteArray) (a : Int) (l : List S_Page), (lay a perm ds l).length = l.length + ds.length
  | [], _, _ => rfl
  | d :: ds, a, l => by rw [lay, lay_len perm ds, insP_len, List.length_cons]; omega
theorem mem_lay {perm : Int} {q : S_Page} : ∀ {ds : List ByteArray} {a : Int} {l : List S_Page}, q ∈ lay a perm ds l → q ∈ l ∨ ∃ j : Nat, j < ds.length ∧ q.f0 = a + 256 * j ∧ q.f2 ∈ ds
  | [], _, _, h => .inl h
  | d :: ds, a, l, h => by
    rcases mem_lay (ds := ds) h with h | ⟨j, h1, h2, h3⟩
    · rcases mem_insP.1 h with rfl | h
      · exact .inr ⟨0, by simp, by simp, by simp⟩
      · exact .inl h
    · exact .inr ⟨j + 1, by simpa using h1, by rw [h2]; omega, by simp [h3]⟩
def setD (a : Int) (d : ByteArray) (l : List S_Page) : List S_Page := l.map fun q => if q.f0 = a then ⟨q.f0, q.f1, d⟩ else q
theorem setD_none {a : Int} {d : ByteArray} {l : List S_Page} (h : ∀ q ∈ l, q.f0 ≠ a) : setD a d l = l := by
  unfold setD
  refine (List.map_congr_left (g := id) fun q hq => ?_).trans (List.map_id l)
  exact if_neg (h q hq)
theorem setD_insP_ne {a : Int} {d : ByteArray} {p : S_Page} (hp : p.f0 ≠ a) : ∀ l : List S_Page, setD a d (insP p l) = insP p (setD a d l)
  | [] => by simp [setD, insP, hp]
  | q :: l => by
    have e : setD a d (q :: l) = (if q.f0 = a then ⟨q.f0, q.f1, d⟩ else q) :: setD a d l := rfl
    have e0 : (if q.f0 = a then (⟨q.f0, q.f1, d⟩ : S_Page) else q).f0 = q.f0 := by split <;> rfl
    rw [e, insP, insP, e0]
    split
    · show (if p.f0 = a then _ else p) :: setD a d (q :: l) = _
      rw [if_neg hp, e]
    · show _ :: setD a d (insP p l) = _
      rw [setD_insP_ne hp l]
theorem setD_insP_eq {a perm : Int} {d d' : ByteArray} : ∀ {l : List S_Page}, (∀ q ∈ l, q.f0 ≠ a) → setD a d (insP ⟨a, perm, d'⟩ l) = insP ⟨a, perm, d⟩ l
  | [], _ => by simp [setD, insP]
  | q :: l, h => by
    have hq : q.f0 ≠ a := h q (by simp)
    rw [insP, insP]
    split
    · show (if a = a then (⟨a, perm, d⟩ : S_Page) else _) :: setD a d (q :: l) = _
      rw [setD_none h, if_pos rfl]
    · show (if q.f0 = a then _ else q) :: setD a d (insP _ l) = _
      rw [setD_insP_eq fun r hr => h r (by simp [hr]), if_neg hq]
theorem setD_lay {a perm : Int} {d : ByteArray} : ∀ (ds : List ByteArray) (b : Int) (l : List S_Page), (∀ j : Nat, j < ds.length → a ≠ b + 256 * j) → setD a d (lay b perm ds l) = lay b perm ds (setD a d l)
  | [], _, _, _ => rfl
  | e :: ds, b, l, h => by
    rw [lay, setD_lay ds (b + 256) _ (fun j hj => by have := h (j + 1) (by simpa using hj); omega), setD_insP_ne (by have := h 0 (by simp); simp at this; exact Ne.symm this)]
    rfl
/-- Bases are multiples of a page's size, no two alike; a page is whole. -/
structure Al (l : List S_Page) : Prop where
  base : ∀ q ∈ l, q.f0 % 256 = 0 ∧ -100000 ≤ q.f0 ∧ q.f0 ≤ 100000 ∧ q.f2.size = 256
  nd : l.Pairwise fun p q => p.f0 ≠ q.f0
theorem insP_nd {p : S_Page} : ∀ {l : List S_Page}, l.Pairwise (fun p q => p.f0 ≠ q.f0) → (∀ q ∈ l, q.f0 ≠ p.f0) → (insP p l).Pairwise fun p q => p.f0 ≠ q.f0
  | [], _, _ => by simp [insP]
  | q :: l, h, hn => by
    rw [insP]
    split
    · exact List.pairwise_cons.2 ⟨fun r hr => Ne.symm (hn r hr), h⟩
    · refine List.pairwise_cons.2 ⟨fun r hr => ?_, insP_nd (List.pairwise_cons.1 h).2 fun r hr => hn r (by simp [hr])⟩
      rcases mem_insP.1 hr with rfl | hr
      · exact hn q (by simp)
      · exact (List.pairwise_cons.1 h).1 r hr
theorem Al.ins {l : List S_Page} (h : Al l) {p : S_Page} (hp : p.f0 % 256 = 0 ∧ -100000 ≤ p.f0 ∧ p.f0 ≤ 100000 ∧ p.f2.size = 256) (hn : ∀ q ∈ l, q.f0 ≠ p.f0) : Al (insP p l) :=
  ⟨fun q hq => (mem_insP.1 hq).elim (fun e => e ▸ hp) (h.base q), insP_nd h.nd hn⟩
theorem Al.lay {perm : Int} : ∀ {ds : List ByteArray} {a : Int} {l : List S_Page}, Al l → a % 256 = 0 → -100000 ≤ a → a + 256 * ds.length ≤ 100000 → (∀ d ∈ ds, d.size = 256) → (∀ q ∈ l, ∀ j : Nat, j < ds.length → q.f0 ≠ a + 256 * j) → Al (lay a perm ds l)
  | [], _, _, h, _, _, _, _, _ => h
  | d :: ds, a, l, h, h1, h2, h3, h4, h5 => by
    simp only [List.length_cons] at h3
    refine Al.lay (ds := ds) (h.ins (p := ⟨a, perm, d⟩) ⟨h1, h2, by simp only; omega, h4 d (by simp)⟩ fun q hq => by simpa using h5 q hq 0 (by simp)) (by omega) (by omega) (by omega) (fun e he => h4 e (by simp [he])) fun q hq j hj => ?_
    rcases mem_insP.1 hq with rfl | hq
    · simp only; omega
    · have := h5 q hq (j + 1) (by simpa using hj); omega
theorem set_uniq {a : Int} {d : ByteArray} : ∀ {l : List S_Page} {i : Nat}, l.Pairwise (fun p q => p.f0 ≠ q.f0) → i < l.length → (rd z_Page l i).f0 = a → l.set i ⟨(rd z_Page l i).f0, (rd z_Page l i).f1, d⟩ = setD a d l
  | [], i, _, h, _ => by simp at h
  | q :: l, 0, hn, _, h => by
    have hq : q.f0 = a := h
    show (⟨q.f0, q.f1, d⟩ : S_Page) :: l = (if q.f0 = a then ⟨q.f0, q.f1, d⟩ else q) :: setD a d l
    rw [if_pos hq, setD_none fun r hr => by have := (List.pairwise_cons.1 hn).1 r hr; omega]
  | q :: l, i + 1, hn, hi, h => by
    have hi' : i < l.length := by simpa using hi
    have hq : q.f0 ≠ a := by
      have := (List.pairwise_cons.1 hn).1 _ (rd_mem hi')
      have h' : (rd z_Page l i).f0 = a := h
      omega
    show q :: l.set i ⟨(rd z_Page l i).f0, (rd z_Page l i).f1, d⟩ = (if q.f0 = a then ⟨q.f0, q.f1, d⟩ else q) :: setD a d l
    rw [if_neg hq, set_uniq (List.pairwise_cons.1 hn).2 hi' h]
theorem find_loop (l : List S_Page) (hA : Al l) (hl : l.length ≤ 1048576) (a : Int) (ha : a % 256 = 0 ∧ -200000 ≤ a ∧ a ≤ 200000) (t : Nat) (ht : t < l.length) (hta : (rd z_Page l t).f0 = a) : ∀ (d i : Nat), i + d = t → (∀ j, j < i → (rd z_Page l j).f0 ≠ a) →
    Ev (fun n => s_l02Find_ls n a (i : Int) l) ((t : Nat) : Int) := by
  have nd : ∀ i j, i < j → j < l.length → (rd z_Page l i).f0 ≠ (rd z_Page l j).f0 := fun i j h1 h2 => by
    rw [rd_lt h2, rd_lt (by omega)]
    exact List.pairwise_iff_getElem.1 hA.nd i j (by omega) h2 h1
  intro d
  induction d with
  | zero =>
    intro i hi hj
    have e : i = t := by omega
    subst e
    refine Ev.step (g := fun n => s_l02Find_r0 (s_l02Find_ls n) n a i l) (fun n => rfl) ?_
    unfold s_l02Find_r0
    rw [Int.toNat_natCast, hta]
    have hlt : (i : Int) < Int.ofNat l.length := by simp only [Int.ofNat_eq_natCast]; omega
    refine Ev.dt hlt (Ev.dt (by omega) (Ev.dt hlt (Ev.dt (by omega) (Ev.dt (by omega) (Ev.dt hlt (Ev.dt ?_ (Ev.now _)))))))
    rw [Int.sub_self]; decide
  | succ d ih =>
    intro i hi hj
    have hb := hA.base _ (rd_mem (show i < l.length by omega))
    have hne : (rd z_Page l i).f0 ≠ a := fun e => nd i t (by omega) ht (e.trans hta.symm)
    refine Ev.step (g := fun n => s_l02Find_r0 (s_l02Find_ls n) n a i l) (fun n => rfl) ?_
    unfold s_l02Find_r0
    rw [Int.toNat_natCast]
    have hlt : (i : Int) < Int.ofNat l.length := by simp only [Int.ofNat_eq_natCast]; omega
    have next : Ev (fun n => s_l02Find_ls n a (IntKind.i64.wrap ((i : Int) + 1)) l) ((t : Nat) : Int) := by
      rw [wI (by omega) (by omega)]
      exact ih (i + 1) (by omega) fun j h => by
        by_cases e : j = i
        · rw [e]; exact hne
        · exact hj j (by omega)
    refine Ev.dt hlt (Ev.dt (by omega) (Ev.dt hlt (Ev.dcases (fun c => Ev.dt (by omega) (Ev.dt hlt (Ev.df ?_ next))) fun _ => next)))
    rw [wI (by omega) (by omega)]
    omega
theorem find_ev (l : List S_Page) (hA : Al l) (hl : l.length ≤ 1048576) (a : Int) (ha : a % 256 = 0 ∧ -200000 ≤ a ∧ a ≤ 200000) (t : Nat) (ht : t < l.length) (hta : (rd z_Page l t).f0 = a) : Ev (fun n => s_l02Find n (l, ()) a) ((t : Nat) : Int) :=
  find_loop l hA hl a ha t ht hta t 0 (by omega) fun j h => by omega
end Go.Proofs.Ytigoabhkdipdeaa
/- laid, l11Pages, l02Put as lists of pages. -/
namespace Go.Proofs.Ytigoabhkdipdeaa
open Go Go.Proofs.Ytigoabhkdipdeaa.AM
set_option linter.all false
theorem ext_size (s : ByteArray) (a b : Nat) (h : b ≤ s.size) : (s.extract a b).size = b - a := by
  rw [← bl_len, bl_ext, List.length_drop, List.length_take, bl_len]; omega
def chunks : Nat → ByteArray → List ByteArray
  | 0, _ => []
  | k + 1, t => t.extract 0 256 :: chunks k (t.extract 256 t.size)
theorem chunks_len : ∀ (k : Nat) (t : ByteArray), (chunks k t).length = k
  | 0, _ => rfl
  | k + 1, t => by rw [chunks, List.length_cons, chunks_len k]
theorem laid_loop (perm : Int) (b2 : List S_Page) : ∀ (k : Nat) (a : Int) (t : ByteArray) (l : List S_Page), t.size = 256 * k → l.length + k ≤ 1048576 → -200000 ≤ a → a + 256 * k ≤ 200000 →
    Ev (fun n => i_laid_ls n a perm t l b2) (lay a perm (chunks k t) l, ()) := by
  intro k
  induction k with
  | zero =>
    intro a t l ht hl h0 h1
    refine Ev.step (g := fun n => i_laid_r0 (i_laid_ls n) n a perm t l b2) (fun n => rfl) ?_
    unfold i_laid_r0
    exact Ev.df (by simp only [Int.ofNat_eq_natCast]; omega) (Ev.now _)
  | succ k ih =>
    intro a t l ht hl h0 h1
    refine Ev.step (g := fun n => i_laid_r0 (i_laid_ls n) n a perm t l b2) (fun n => rfl) ?_
    unfold i_laid_r0
    have h256 : Int.toNat (256 : Int) = 256 := rfl
    rw [h256]
    refine Ev.dt (by simp only [Int.ofNat_eq_natCast]; omega) (Ev.dt (by omega) (Ev.bind (i_with_ev l (by omega) ⟨a, perm, t.extract 0 256⟩) (Ev.dt (Nat.le_refl _) (Ev.dt (by omega) ?_))))
    rw [wI (by omega) (by omega)]
    exact ih (a + 256) (t.extract 256 t.size) (insP ⟨a, perm, t.extract 0 256⟩ l) (by rw [ext_size _ _ _ (Nat.le_refl _)]; omega) (by rw [insP_len]; omega) (by omega) (by omega)
theorem i_laid_ev (perm : Int) (k : Nat) (a : Int) (t : ByteArray) (l : List S_Page) (h1 : t.size = 256 * k) (h2 : l.length + k ≤ 1048576) (h3 : -200000 ≤ a) (h4 : a + 256 * k ≤ 200000) : Ev (fun n => i_laid n (l, ()) a perm t) (lay a perm (chunks k t) l, ()) :=
  laid_loop perm [] k a t l h1 h2 h3 h4
theorem pages_loop (a perm size : Int) (b1 : List S_Page) (h0 : -200000 ≤ a) (hs : size ≤ 200000) : ∀ (d j : Nat) (l : List S_Page), size ≤ 256 * ((j : Int) + d) → (d ≠ 0 → 256 * ((j : Int) + d - 1) < size) → a + 256 * (j + d) ≤ 200000 → l.length + d ≤ 1048576 →
    Ev (fun n => s_l11Pages_ls n a size perm (256 * (j : Int)) l b1) (lay (a + 256 * j) perm (List.replicate d ZZ) l, ()) := by
  intro d
  induction d with
  | zero =>
    intro j l h1 h2 h3 h4
    refine Ev.step (g := fun n => s_l11Pages_r0 (s_l11Pages_ls n) n a size perm (256 * (j : Int)) l b1) (fun n => rfl) ?_
    unfold s_l11Pages_r0
    exact Ev.df (by omega) (Ev.now _)
  | succ d ih =>
    intro j l h1 h2 h3 h4
    have h2' := h2 (by omega)
    refine Ev.step (g := fun n => s_l11Pages_r0 (s_l11Pages_ls n) n a size perm (256 * (j : Int)) l b1) (fun n => rfl) ?_
    unfold s_l11Pages_r0
    refine Ev.dt (by omega) ?_
    rw [wI (n := a + 256 * (j : Int)) (by omega) (by omega), wI (by omega) (by omega)]
    refine Ev.bind (s_l02Add_ev l (by omega) (a + 256 * j) perm) ?_
    have := ih (j + 1) (insP ⟨a + 256 * j, perm, ZZ⟩ l) (by omega) (fun _ => by omega) (by omega) (by rw [insP_len]; omega)
    rw [show (256 : Int) * ((j + 1 : Nat) : Int) = 256 * (j : Int) + 256 by omega] at this
    refine this.eq ?_
    rw [List.replicate_succ, lay]
    rw [show a + (256 * (j : Int) + 256) = a + 256 * (j : Int) + 256 by omega]
theorem s_l11Pages_ev (a perm size : Int) (k : Nat) (l : List S_Page) (h0 : -200000 ≤ a) (h1 : size ≤ 256 * k) (h2 : 256 * ((k : Int) - 1) < size) (h3 : a + 256 * k ≤ 200000) (h4 : l.length + k ≤ 1048576) (hk : 0 < size) (hz : size ≤ 200000) :
    Ev (fun n => s_l11Pages n (l, ()) a size perm) (lay a perm (List.replicate k ZZ) l, ()) := by
  have := pages_loop a perm size [] h0 hz k 0 l (by omega) (fun _ => by omega) (by omega) h4
  simp only [Int.natCast_zero, Int.mul_zero, Int.add_zero] at this
  exact this
/-! bytes laid into pages -/
def mixB (d t : ByteArray) : ByteArray := t.extract 0 (min t.size 256) ++ d.extract (min t.size 256) 256
theorem mixB_size {d t : ByteArray} (h : d.size = 256) : (mixB d t).size = 256 := by
  unfold mixB
  rw [ByteArray.size_append, ext_size _ _ _ (by omega), ext_size _ _ _ (by omega)]
  omega
theorem ext00 (s x : ByteArray) : s.extract 0 0 ++ x = x := by
  apply bl_inj
  rw [bl_app, bl_ext]
  rfl
theorem put_step (b1 : List S_Page) {a : Int} {t : ByteArray} {b : List S_Page} {i : Nat} {r : List S_Page × Unit} (hA : Al b) (hb : b.length ≤ 1048576) (ha : a % 256 = 0 ∧ -200000 ≤ a ∧ a ≤ 200000) (hi : i < b.length) (hia : (rd z_Page b i).f0 = a) (ht : 0 < t.size) (htz : t.size ≤ 1000000)
    (h : Ev (fun n => s_l02Put_ls n (a + (min t.size 256 : Nat)) (t.extract (min t.size 256) t.size) b1 (setD a (mixB (rd z_Page b i).f2 t) b)) r) : Ev (fun n => s_l02Put_ls n a t b1 b) r := by
  obtain ⟨m, hm⟩ : ∃ m : Nat, m = min t.size 256 := ⟨_, rfl⟩
  have hd := (hA.base _ (rd_mem hi)).2.2.2
  refine Ev.step (g := fun n => s_l02Put_r0 (s_l02Put_ls n) n a t b1 b) (fun n => rfl) ?_
  unfold s_l02Put_r0
  refine Ev.dt (by simp only [Int.ofNat_eq_natCast]; omega) (Ev.bind (find_ev b hA hb a ha i hi hia) ?_)
  have hlt : (i : Int) < Int.ofNat b.length := by simp only [Int.ofNat_eq_natCast]; omega
  have w0 : IntKind.i64.wrap (a - a) = 0 := by rw [Int.sub_self]; rfl
  have wm : (if True then min (Int.ofNat t.size) (IntKind.i64.wrap (256 - 0)) else max (Int.ofNat t.size) (IntKind.i64.wrap (256 - 0))) = (m : Int) := by
    rw [if_pos trivial, show IntKind.i64.wrap (256 - 0) = 256 from rfl, hm]
    simp only [Int.ofNat_eq_natCast]
    omega
  have wm0 : IntKind.i64.wrap (0 + (m : Int)) = m := by rw [Int.zero_add, wI (by omega) (by omega)]
  have wam : IntKind.i64.wrap (a + (m : Int)) = a + m := wI (by omega) (by omega)
  have t0 : Int.toNat (0 : Int) = 0 := rfl
  have small : ∀ x : Nat, x ≤ 3000000 → ¬ (Int.ofNat x > IntKind.i64.max) := fun x hx => by
    rw [show IntKind.i64.max = 9223372036854775807 from rfl]
    simp only [Int.ofNat_eq_natCast]
    omega
  simp only [Int.toNat_natCast, hia, w0, wm, wm0, wam, t0, hd]
  have s1 : ((rd z_Page b i).f2.extract 0 0).size = 0 := by rw [ext_size _ _ _ (by omega)]
  have s2 : (t.extract 0 m).size = m := by rw [ext_size _ _ _ (by omega)]; omega
  have s3 : ((rd z_Page b i).f2.extract m 256).size = 256 - m := by rw [ext_size _ _ _ (by omega)]
  refine Ev.dt (by omega) (Ev.dt hlt (Ev.dt (by omega) (Ev.dt hlt (Ev.dt (by omega) (Ev.dt (by omega) (Ev.dt (by omega) (Ev.dt (by omega) (Ev.df (small _ (by rw [s1, s2]; omega)) (Ev.dt (Nat.le_refl _) (Ev.dt (by omega) (Ev.dt (by omega) (Ev.df (small _ (by rw [ByteArray.size_append, s1, s2, s3]; omega)) ?_))))))))))))
  refine Ev.dt (by omega) (Ev.dt hlt (Ev.dt (Nat.le_refl _) (Ev.dt (by omega) (Ev.dt (by omega) ?_))))
  rw [ext00, ← hia, set_uniq hA.nd hi rfl, hia]
  rw [← hm] at h
  unfold mixB at h
  rw [← hm] at h
  exact h
theorem put_end (b1 : List S_Page) {a : Int} {t : ByteArray} {b : List S_Page} (ht : t.size = 0) : Ev (fun n => s_l02Put_ls n a t b1 b) (b, ()) := by
  refine Ev.step (g := fun n => s_l02Put_r0 (s_l02Put_ls n) n a t b1 b) (fun n => rfl) ?_
  unfold s_l02Put_r0
  exact Ev.df (by simp only [Int.ofNat_eq_natCast]; omega) (Ev.now _)
def mix : List ByteArray → ByteArray → List ByteArray
  | [], _ => []
  | d :: ds, t => if t.size = 0 then d :: ds else mixB d t :: mix ds (t.extract (min t.size 256) t.size)
theorem rd_of_mem {a : Int} {l : List S_Page} {q : S_Page} (h : q ∈ l) (hq : q.f0 = a) (nd : l.Pairwise fun p q => p.f0 ≠ q.f0) : ∃ i, i < l.length ∧ rd z_Page l i = q := by
  obtain ⟨i, hi, rfl⟩ := List.getElem_of_mem h
  exact ⟨i, hi, rd_lt hi⟩
theorem lay_mem {perm : Int} {q : S_Page} : ∀ {ds : List ByteArray} {a : Int} {l : List S_Page}, q ∈ l → q ∈ lay a perm ds l
  | [], _, _, h => h
  | _ :: ds, _, _, h => lay_mem (ds := ds) (mem_insP.2 (.inr h))
theorem put_lay (b1 : List S_Page) (perm : Int) : ∀ (ds : List ByteArray) (a : Int) (t : ByteArray) (l : List S_Page), Al l → a % 256 = 0 → -100000 ≤ a → a + 256 * ds.length ≤ 100000 → (∀ d ∈ ds, d.size = 256) → (∀ q ∈ l, ∀ j : Nat, j < ds.length → q.f0 ≠ a + 256 * j) → l.length + ds.length ≤ 1048576 →
    t.size ≤ 256 * ds.length → Ev (fun n => s_l02Put_ls n a t b1 (lay a perm ds l)) (lay a perm (mix ds t) l, ())
  | [], a, t, l, hA, h1, h2, h3, h4, h5, h6, ht => put_end b1 (by simpa using ht)
  | d :: ds, a, t, l, hA, h1, h2, h3, h4, h5, h6, ht => by
    rw [mix]
    by_cases c : t.size = 0
    · rw [if_pos c]
      exact put_end b1 c
    · rw [if_neg c]
      have hl : (d :: ds).length = ds.length + 1 := rfl
      rw [hl] at h3 h6 ht
      have hn0 : ∀ q ∈ l, q.f0 ≠ a := fun q hq => by simpa using h5 q hq 0 (by simp)
      have hAl : Al (lay a perm (d :: ds) l) := hA.lay h1 h2 (by rw [hl]; exact h3) h4 h5
      have hmem : (⟨a, perm, d⟩ : S_Page) ∈ lay a perm (d :: ds) l := lay_mem (ds := ds) (mem_insP.2 (.inl rfl))
      obtain ⟨i, hi, hri⟩ := rd_of_mem (a := a) hmem rfl hAl.nd
      have hlen := lay_len perm (d :: ds) a l
      rw [hl] at hlen
      refine put_step b1 hAl (by omega) ⟨h1, by omega, by omega⟩ hi (by rw [hri]) (by omega) (by omega) ?_
      rw [hri]
      have e : setD a (mixB d t) (lay a perm (d :: ds) l) = lay (a + 256) perm ds (insP ⟨a, perm, mixB d t⟩ l) := by
        rw [lay, setD_lay ds (a + 256) _ (fun j hj => by omega), setD_insP_eq hn0]
      show Ev (fun n => s_l02Put_ls n _ _ b1 (setD a (mixB d t) _)) _
      rw [e, lay]
      have hA' : Al (insP ⟨a, perm, mixB d t⟩ l) := hA.ins (p := ⟨a, perm, mixB d t⟩) ⟨h1, h2, by simp only; omega, mixB_size (h4 d (by simp))⟩ hn0
      have hfr : ∀ q ∈ insP ⟨a, perm, mixB d t⟩ l, ∀ j : Nat, j < ds.length → q.f0 ≠ a + 256 + 256 * j := fun q hq j hj => by
        rcases mem_insP.1 hq with rfl | hq
        · simp only; omega
        · have := h5 q hq (j + 1) (by simpa using hj); omega
      by_cases c2 : t.size ≤ 256
      · have e0 : (t.extract (min t.size 256) t.size).size = 0 := by rw [ext_size _ _ _ (Nat.le_refl _)]; omega
        have e1 : mix ds (t.extract (min t.size 256) t.size) = ds := by
          cases ds with
          | nil => rfl
          | cons x xs => rw [mix, if_pos e0]
        rw [e1]
        exact put_end b1 e0
      · have e0 : (t.extract (min t.size 256) t.size).size = t.size - 256 := by rw [ext_size _ _ _ (Nat.le_refl _)]; omega
        have := put_lay b1 perm ds (a + 256) (t.extract (min t.size 256) t.size) (insP ⟨a, perm, mixB d t⟩ l) hA' (by omega) (by omega) (by omega) (fun x hx => h4 x (by simp [hx])) hfr (by rw [insP_len]; omega) (by rw [e0]; omega)
        rw [show min t.size 256 = 256 by omega] at this ⊢
        exact this
theorem s_l02Put_ev (perm : Int) (ds : List ByteArray) (a : Int) (t : ByteArray) (l : List S_Page) (hA : Al l) (h1 : a % 256 = 0) (h2 : -100000 ≤ a) (h3 : a + 256 * ds.length ≤ 100000) (h4 : ∀ d ∈ ds, d.size = 256) (h5 : ∀ q ∈ l, ∀ j : Nat, j < ds.length → q.f0 ≠ a + 256 * j) (h6 : l.length + ds.length ≤ 1048576)
    (ht : t.size ≤ 256 * ds.length) : Ev (fun n => s_l02Put n (lay a perm ds l, ()) a t) (lay a perm (mix ds t) l, ()) := by
  unfold s_l02Put s_l02Put_m
  refine Ev.bind (a := (lay a perm ds l, ())) ?_ (put_lay [] perm ds a t l hA h1 h2 h3 h4 h5 h6 ht)
  unfold s_l02Own
  exact Ev.dt (by simp [lay_len]; omega) (Ev.now _)
end Go.Proofs.Ytigoabhkdipdeaa
/- Marks in segments; images compared with themselves. -/
namespace Go.Proofs.Ytigoabhkdipdeaa
open Go Go.Proofs.Ytigoabhkdipdeaa.AM
set_option linter.all false
abbrev ImgT : Type := Int × List S_Segment × Unit
noncomputable def mkS (e : Int) : S_Segment := ⟨e, e + 1, e + 2, mT (e + 3)⟩
noncomputable def mkSs (e : Int) (L : Nat) : List S_Segment := (List.range L).map fun j : Nat => mkS (e + 4 * (j : Int))
theorem rd_mkSs (e : Int) (L j : Nat) (h : j < L) : rd z_Segment (mkSs e L) j = mkS (e + 4 * (j : Int)) := by
  unfold mkSs
  rw [rd_lt (by simpa using h)]
  simp
theorem markSegmentS_loop (e : Int) (L : Nat) (he : 0 ≤ e) (hL : e + 4 * (L : Int) + 4 ≤ 100000000) : ∀ (d i : Nat) (b : List S_Segment), i + d = L → b.length = L → (∀ j, j < i → rd z_Segment b j = mkS (e + 4 * (j : Int))) →
    Ev (fun n => w_markSegmentS_ls n (e + 4 * (i : Int)) (i : Int) b) (e + 4 * (L : Int), mkSs e L) := by
  intro d
  induction d with
  | zero =>
    intro i b hi hb hj
    have e1 : b = mkSs e L := rd_ext (d := z_Segment) (by unfold mkSs; simpa using hb) fun j h => by rw [rd_mkSs e L j (by omega)]; exact hj j (by omega)
    refine Ev.step (g := fun n => w_markSegmentS_r0 (w_markSegmentS_ls n) n (e + 4 * (i : Int)) i b) (fun n => rfl) ?_
    unfold w_markSegmentS_r0
    refine Ev.df (by simp only [Int.ofNat_eq_natCast]; omega) ?_
    rw [e1, show i = L by omega]
    exact Ev.now _
  | succ d ih =>
    intro i b hi hb hj
    have hib : i < b.length := by omega
    refine Ev.step (g := fun n => w_markSegmentS_r0 (w_markSegmentS_ls n) n (e + 4 * (i : Int)) i b) (fun n => rfl) ?_
    unfold w_markSegmentS_r0
    refine Ev.dt (by simp only [Int.ofNat_eq_natCast]; omega) (Ev.dt (by omega) (Ev.dt (by simp only [Int.ofNat_eq_natCast]; omega) (Ev.dt (by omega) (Ev.dt (by simp only [Int.ofNat_eq_natCast, List.length_set]; omega) (Ev.dt (by omega) (Ev.dt (by simp only [Int.ofNat_eq_natCast, List.length_set]; omega) ?_))))))
    rw [wI (n := e + 4 * (i : Int) + 1) (by omega) (by omega), wI (n := e + 4 * (i : Int) + 1 + 1) (by omega) (by omega), wI (n := e + 4 * (i : Int) + 1 + 1 + 1) (by omega) (by omega), wI (n := e + 4 * (i : Int) + 1 + 1 + 1 + 1) (by omega) (by omega)]
    refine Ev.bind (w_markText_ev _ (by omega)) (Ev.dt (by omega) (Ev.dt (by simp only [Int.ofNat_eq_natCast, List.length_set]; omega) ?_))
    rw [wI (n := (i : Int) + 1) (by omega) (by omega)]
    have hti : ((i : Int)).toNat = i := by omega
    have key : ∀ (q : List S_Segment), q = b.set i (mkS (e + 4 * (i : Int))) → Ev (fun n => w_markSegmentS_ls n (e + 4 * (i : Int) + 1 + 1 + 1 + 1) ((i : Int) + 1) q) (e + 4 * (L : Int), mkSs e L) := by
      rintro q rfl
      have := ih (i + 1) (b.set i (mkS (e + 4 * (i : Int)))) (by omega) (by simp [hb]) (fun j hj' => by
        rw [rd_set hib]
        split
        · rename_i h; rw [h]
        · exact hj j (by omega))
      rw [show e + 4 * ((i + 1 : Nat) : Int) = e + 4 * (i : Int) + 1 + 1 + 1 + 1 by omega, show ((i + 1 : Nat) : Int) = (i : Int) + 1 by omega] at this
      exact this
    refine key _ ?_
    rw [hti]
    have s1 : ∀ x : S_Segment, rd z_Segment (b.set i x) i = x := fun x => by rw [rd_set hib, if_pos rfl]
    simp only [List.set_set, s1]
    unfold mkS
    rw [show e + 4 * (i : Int) + 1 + 1 + 1 = e + 4 * (i : Int) + 3 by omega, show e + 4 * (i : Int) + 1 + 1 = e + 4 * (i : Int) + 2 by omega]
theorem w_markImage_ev (x : ImgT) (h : x.2.1.length ≤ 1048576) : Ev (fun n => w_markImage n x 1) (1 + 4 * (x.2.1.length : Int), mkSs 1 x.2.1.length) := by
  unfold w_markImage
  refine Ev.bind ?_ (Ev.now _)
  have := markSegmentS_loop 1 x.2.1.length (by omega) (by omega) x.2.1.length 0 x.2.1 (by omega) rfl (fun j h => by omega)
  rw [show (1 : Int) + 4 * ((0 : Nat) : Int) = 1 by omega] at this
  exact this
theorem w_eqSegment_refl (n : Nat) (x : Int × Int × Int × ByteArray × Unit) : w_eqSegment n x x = some true := by
  unfold w_eqSegment
  simp
theorem eqSegmentS_loop (l : List S_Segment) (hl : l.length ≤ 9223372036854775807) : ∀ (d i : Nat), i + d = l.length → Ev (fun n => w_eqSegmentS_ls n l l (i : Int)) true := by
  intro d
  induction d with
  | zero =>
    intro i hi
    refine Ev.step (g := fun n => w_eqSegmentS_r0 (w_eqSegmentS_ls n) n l l i) (fun n => rfl) ?_
    unfold w_eqSegmentS_r0
    exact Ev.df (by simp only [Int.ofNat_eq_natCast]; omega) (Ev.now _)
  | succ d ih =>
    intro i hi
    refine Ev.step (g := fun n => w_eqSegmentS_r0 (w_eqSegmentS_ls n) n l l i) (fun n => rfl) ?_
    unfold w_eqSegmentS_r0
    have h1 : (i : Int) < Int.ofNat l.length := by simp only [Int.ofNat_eq_natCast]; omega
    refine Ev.dt h1 (Ev.dt (by omega) (Ev.dt h1 (Ev.dt (by omega) (Ev.dt h1 (Ev.bind (Ev.all fun n => w_eqSegment_refl n _) (Ev.f rfl ?_))))))
    rw [wI (by omega) (by omega)]
    exact ih (i + 1) (by omega)
theorem w_eqImage_refl (x : ImgT) (hl : x.2.1.length ≤ 9223372036854775807) : Ev (fun n => w_eqImage n x x) true := by
  unfold w_eqImage
  refine Ev.f (by simp) (Ev.bind (a := true) ?_ (Ev.f rfl (Ev.now _)))
  unfold w_eqSegmentS w_eqSegmentS_m
  exact Ev.f (by simp) (eqSegmentS_loop x.2.1 hl x.2.1.length 0 (by omega))
theorem heldSegmentS_loop (e : Int) (L : Nat) (he : 0 ≤ e) (hL : e + 4 * (L : Int) + 4 ≤ 100000000) : ∀ (d i : Nat), i + d = L → Ev (fun n => w_heldSegmentS_ls n (mkSs e L) (e + 4 * (i : Int)) (i : Int)) (e + 4 * (L : Int)) := by
  have hlen : (mkSs e L).length = L := by unfold mkSs; simp
  intro d
  induction d with
  | zero =>
    intro i hi
    refine Ev.step (g := fun n => w_heldSegmentS_r0 (w_heldSegmentS_ls n) n (mkSs e L) (e + 4 * (i : Int)) i) (fun n => rfl) ?_
    unfold w_heldSegmentS_r0
    refine Ev.df (by simp only [Int.ofNat_eq_natCast]; omega) ?_
    rw [show i = L by omega]
    exact Ev.now _
  | succ d ih =>
    intro i hi
    refine Ev.step (g := fun n => w_heldSegmentS_r0 (w_heldSegmentS_ls n) n (mkSs e L) (e + 4 * (i : Int)) i) (fun n => rfl) ?_
    unfold w_heldSegmentS_r0
    have hti : ((i : Int)).toNat = i := by omega
    rw [hti, rd_mkSs e L i (by omega), wI (n := e + 4 * (i : Int) + 1) (by omega) (by omega), wI (n := e + 4 * (i : Int) + 1 + 1) (by omega) (by omega), wI (n := e + 4 * (i : Int) + 1 + 1 + 1) (by omega) (by omega), wI (n := e + 4 * (i : Int) + 1 + 1 + 1 + 1) (by omega) (by omega), wI (n := (i : Int) + 1) (by omega) (by omega)]
    have hlt : (i : Int) < Int.ofNat (mkSs e L).length := by simp only [Int.ofNat_eq_natCast]; omega
    have h0 : (0 : Int) ≤ (i : Int) := by omega
    refine Ev.dt hlt (Ev.dt h0 (Ev.dt hlt (Ev.f (by unfold mkS; simp) (Ev.dt h0 (Ev.dt hlt (Ev.f (by unfold mkS; simp) (Ev.dt h0 (Ev.dt hlt (Ev.f (by unfold mkS; simp; omega) (Ev.dt h0 (Ev.dt hlt (Ev.bind (w_markText_ev _ (by omega)) (Ev.f (by unfold mkS; rw [show e + 4 * (i : Int) + 1 + 1 + 1 = e + 4 * (i : Int) + 3 by omega]; simp) ?_)))))))))))))
    have := ih (i + 1) (by omega)
    rw [show e + 4 * ((i + 1 : Nat) : Int) = e + 4 * (i : Int) + 1 + 1 + 1 + 1 by omega, show ((i + 1 : Nat) : Int) = (i : Int) + 1 by omega] at this
    exact this
theorem w_heldImage_ev (a : Int) (L : Nat) (h : L ≤ 1048576) : Ev (fun n => w_heldImage n (a, mkSs 1 L, ()) 1) (1 + 4 * (L : Int)) := by
  unfold w_heldImage
  refine Ev.bind (a := 1 + 4 * (L : Int)) ?_ (Ev.df (by omega) (Ev.now _))
  have := heldSegmentS_loop 1 L (by omega) (by omega) L 0 (by omega)
  rw [show (1 : Int) + 4 * ((0 : Nat) : Int) = 1 by omega] at this
  exact this
end Go.Proofs.Ytigoabhkdipdeaa
/- An image is checked: impl's code of a segment. -/
namespace Go.Proofs.Ytigoabhkdipdeaa
open Go Go.Proofs.Ytigoabhkdipdeaa.AM
set_option linter.all false
/-- The code of a segment that stands behind others: where it may begin at first, and whether one that can be run stands ahead. -/
def sc (first : Int) (had : Bool) (s : S_Segment) : Int :=
  if s.f0 ≠ 4 ∧ s.f0 ≠ 5 ∧ s.f0 ≠ 6 then 14
  else if ¬ (Int.tmod s.f1 256 = 0 ∧ (first ≤ s.f1 ∧ s.f1 ≤ 3583) ∧ (1 ≤ s.f2 ∧ s.f2 ≤ 3584 - s.f1) ∧ (s.f3.size : Int) ≤ s.f2) then 31
  else if s.f0 = 5 ∧ (had = true ∨ (s.f3.size : Int) ≠ s.f2 ∨ Int.tmod s.f2 32 ≠ 0) then 28 else 0
def up (n : Int) : Int := (n + 255) / 256 * 256
def endOf (s : S_Segment) : Int := s.f1 + up s.f2
def isRun (s : S_Segment) : Bool := s.f0 == 5
def hadR (l : List S_Segment) (i : Nat) : Bool := (l.take i).any isRun
def fst_ (l : List S_Segment) (i : Nat) : Int := if i = 0 then 512 else endOf (rd z_Segment l (i - 1))
def firstR (l : List S_Segment) : Int := match l.findIdx? isRun with
  | some i => (i : Int)
  | none => -1
theorem firstR_any (l : List S_Segment) : (0 ≤ firstR l) ↔ l.any isRun = true := by
  unfold firstR
  cases h : l.findIdx? isRun with
  | none =>
    have := List.findIdx?_eq_none_iff.1 h
    constructor
    · intro h2; exact absurd h2 (by decide)
    · intro h2
      obtain ⟨x, hx, hp⟩ := List.any_eq_true.1 h2
      rw [this x hx] at hp; cases hp
  | some i =>
    obtain ⟨hi, hp, _⟩ := List.findIdx?_eq_some_iff_getElem.1 h
    constructor
    · intro _; exact List.any_eq_true.2 ⟨_, List.getElem_mem hi, hp⟩
    · intro _; exact Int.natCast_nonneg i
theorem i_pages_val (n : Int) (k : Nat) (h0 : 0 ≤ n) (h1 : n ≤ 4611686018427387904) : i_pages k n = some (up n) := by
  unfold i_pages up
  rw [wI (n := n + 256) (by omega) (by omega), wI (n := n + 256 - 1) (by omega) (by omega), Int.tdiv_eq_ediv_of_nonneg (by omega)]
  rw [wI (n := (n + 256 - 1) / 256) (by omega) (by omega), wI (by omega) (by omega)]
  congr 3
  omega
noncomputable def segTail (n : Nat) (e1 : List S_Segment) (e5 : Int) (b0_0 : Int) (b0_1 : Int) (b0_2 : Int) (b0_3 : ByteArray) : Option Int :=
  (bif b0_1.tmod (256 : Int) != (0 : Int) then (some ((31 : Int))) else ((i_within n (b0_1) (e5) ((3583 : Int))).bind fun t0 => (bif !t0 then (some ((31 : Int))) else ((i_within n (b0_2) ((1 : Int)) (IntKind.i64.wrap ((3584 : Int) - b0_1))).bind fun t1 => (bif !t1 then (some ((31 : Int))) else (bif decide (Int.ofNat b0_3.size > b0_2) then (some ((31 : Int))) else (bif b0_0 == (5 : Int) then ((i_runSegment n (e1)).bind fun t2 => (bif decide (t2 ≥ (0 : Int)) then (some ((28 : Int))) else (bif Int.ofNat b0_3.size != b0_2 then (some ((28 : Int))) else (bif b0_2.tmod (32 : Int) != (0 : Int) then (some ((28 : Int))) else (some ((0 : Int))))))) else (some ((0 : Int))))))))))
theorem segTail_ev (l : List S_Segment) (hR : Ev (fun n => i_runSegment n l) (firstR l)) (first : Int) (hf : 0 ≤ first) (s : S_Segment) (h : s.f0 = 4 ∨ s.f0 = 5 ∨ s.f0 = 6) : Ev (fun n => segTail n l first s.f0 s.f1 s.f2 s.f3) (sc first (l.any isRun) s) := by
  have h' : ¬ (s.f0 ≠ 4 ∧ s.f0 ≠ 5 ∧ s.f0 ≠ 6) := by omega
  unfold segTail
  by_cases c : (Int.tmod s.f1 256 = 0 ∧ (first ≤ s.f1 ∧ s.f1 ≤ 3583) ∧ (1 ≤ s.f2 ∧ s.f2 ≤ 3584 - s.f1) ∧ (s.f3.size : Int) ≤ s.f2)
  · have e : sc first (l.any isRun) s = if s.f0 = 5 ∧ (l.any isRun = true ∨ (s.f3.size : Int) ≠ s.f2 ∨ Int.tmod s.f2 32 ≠ 0) then 28 else 0 := by
      unfold sc
      rw [if_neg h', if_neg (Decidable.not_not.2 c)]
    rw [e]
    refine Ev.f (by simp [c.1]) (Ev.bind (Ev.all fun n => i_within_val n _ _ _) (Ev.f (by rw [IN_true.2 c.2.1]; rfl) (Ev.bind (Ev.all fun n => i_within_val n _ _ _) (Ev.f (by rw [wI (n := 3584 - s.f1) (by omega) (by omega), IN_true.2 c.2.2.1]; rfl) (Ev.df (by simp only [Int.ofNat_eq_natCast]; omega) ?_)))))
    by_cases h5 : s.f0 = 5
    · refine Ev.t (by simp [h5]) (Ev.bind hR ?_)
      by_cases hg : 0 ≤ firstR l
      · exact Ev.dt hg (Ev.eq (Ev.now _) (by rw [if_pos ⟨h5, .inl ((firstR_any l).1 hg)⟩]))
      · have hg' : l.any isRun = false := by
          cases hq : l.any isRun
          · rfl
          · exact absurd ((firstR_any l).2 hq) hg
        refine Ev.df hg ?_
        by_cases hz : (s.f3.size : Int) = s.f2
        · refine Ev.f (by simp [hz]) ?_
          by_cases hm : Int.tmod s.f2 32 = 0
          · refine Ev.f (by simp [hm]) (Ev.eq (Ev.now _) ?_)
            rw [if_neg]
            rintro ⟨_, h1 | h1 | h1⟩
            · rw [hg'] at h1; cases h1
            · exact h1 hz
            · exact h1 hm
          · exact Ev.t (by simp [hm]) (Ev.eq (Ev.now _) (by rw [if_pos ⟨h5, .inr (.inr hm)⟩]))
        · exact Ev.t (by simp [hz]) (Ev.eq (Ev.now _) (by rw [if_pos ⟨h5, .inr (.inl hz)⟩]))
    · exact Ev.f (by simp [h5]) (Ev.eq (Ev.now _) (by rw [if_neg (fun z => h5 z.1)]))
  · have e : sc first (l.any isRun) s = 31 := by
      unfold sc
      rw [if_neg h', if_pos c]
    rw [e]
    by_cases c1 : Int.tmod s.f1 256 = 0
    · refine Ev.f (by simp [c1]) (Ev.bind (Ev.all fun n => i_within_val n _ _ _) ?_)
      by_cases c2 : first ≤ s.f1 ∧ s.f1 ≤ 3583
      · refine Ev.f (by rw [IN_true.2 c2]; rfl) (Ev.bind (Ev.all fun n => i_within_val n _ _ _) ?_)
        rw [wI (n := 3584 - s.f1) (by omega) (by omega)]
        by_cases c3 : 1 ≤ s.f2 ∧ s.f2 ≤ 3584 - s.f1
        · refine Ev.f (by rw [IN_true.2 c3]; rfl) (Ev.dt ?_ (Ev.now _))
          have : ¬ (s.f3.size : Int) ≤ s.f2 := fun z => c ⟨c1, c2, c3, z⟩
          simp only [Int.ofNat_eq_natCast]
          omega
        · exact Ev.t (by rw [IN_false.2 c3]; rfl) (Ev.now _)
      · exact Ev.t (by rw [IN_false.2 c2]; rfl) (Ev.now _)
    · exact Ev.t (by simp [c1]) (Ev.now _)
theorem segJ_ev (l : List S_Segment) (hR : Ev (fun n => i_runSegment n l) (firstR l)) (first : Int) (hf : 0 ≤ first) (s : S_Segment) : Ev (fun n => i_segmentCode_j9 n l first s.f0 s.f1 s.f2 s.f3) (sc first (l.any isRun) s) := by
  unfold i_segmentCode_j9
  by_cases h4 : s.f0 = 4
  · exact Ev.f (by simp [h4]) (segTail_ev l hR first hf s (.inl h4))
  · refine Ev.t (by simp [h4]) ?_
    by_cases h5 : s.f0 = 5
    · exact Ev.f (by simp [h5]) (segTail_ev l hR first hf s (.inr (.inl h5)))
    · refine Ev.t (by simp [h5]) ?_
      by_cases h6 : s.f0 = 6
      · exact Ev.f (by simp [h6]) (segTail_ev l hR first hf s (.inr (.inr h6)))
      · refine Ev.t (by simp [h6]) (Ev.eq (Ev.now _) ?_)
        unfold sc
        rw [if_pos ⟨h4, h5, h6⟩]
end Go.Proofs.Ytigoabhkdipdeaa
/- An image is checked: impl's CheckImage. -/
namespace Go.Proofs.Ytigoabhkdipdeaa
open Go Go.Proofs.Ytigoabhkdipdeaa.AM
set_option linter.all false
theorem firstR_hit {l : List S_Segment} {i : Nat} (hi : i < l.length) (h : isRun (rd z_Segment l i) = true) (hj : ∀ j, j < i → isRun (rd z_Segment l j) = false) : firstR l = i := by
  have : l.findIdx? isRun = some i := List.findIdx?_eq_some_iff_getElem.2 ⟨hi, by rw [← rd_lt (d := z_Segment) hi]; exact h, fun j hlt => by rw [← rd_lt (d := z_Segment) (by omega : j < l.length), hj j hlt]; decide⟩
  unfold firstR
  rw [this]
theorem firstR_none {l : List S_Segment} (hj : ∀ j, j < l.length → isRun (rd z_Segment l j) = false) : firstR l = -1 := by
  have : l.findIdx? isRun = none := List.findIdx?_eq_none_iff.2 fun x hx => by
    obtain ⟨j, hlt, rfl⟩ := List.getElem_of_mem hx
    rw [← rd_lt (d := z_Segment) hlt]
    exact hj j hlt
  unfold firstR
  rw [this]
theorem firstR_lt (l : List S_Segment) : firstR l < l.length := by
  unfold firstR
  split
  · rename_i i h
    obtain ⟨hi, _⟩ := List.findIdx?_eq_some_iff_getElem.1 h
    omega
  · omega
theorem irun_loop (l : List S_Segment) (hl : l.length ≤ 1048576) : ∀ (d i : Nat), i + d = l.length → (∀ j, j < i → isRun (rd z_Segment l j) = false) → Ev (fun n => slices_IndexFunc_i_Segment_i_Segment_i_runSegment_1_ls n l (l.length : Int) (i : Int)) (firstR l) := by
  intro d
  induction d with
  | zero =>
    intro i hi hj
    refine Ev.step (g := fun n => slices_IndexFunc_i_Segment_i_Segment_i_runSegment_1_r0 (slices_IndexFunc_i_Segment_i_Segment_i_runSegment_1_ls n) n l l.length i) (fun n => rfl) ?_
    unfold slices_IndexFunc_i_Segment_i_Segment_i_runSegment_1_r0
    exact Ev.df (by omega) (Ev.eq (Ev.now _) (firstR_none fun j h => hj j (by omega)).symm)
  | succ d ih =>
    intro i hi hj
    refine Ev.step (g := fun n => slices_IndexFunc_i_Segment_i_Segment_i_runSegment_1_r0 (slices_IndexFunc_i_Segment_i_Segment_i_runSegment_1_ls n) n l l.length i) (fun n => rfl) ?_
    unfold slices_IndexFunc_i_Segment_i_Segment_i_runSegment_1_r0
    rw [Int.toNat_natCast]
    refine Ev.dt (by omega) (Ev.dt (by omega) (Ev.dt (by simp only [Int.ofNat_eq_natCast]; omega) (Ev.bind (a := isRun (rd z_Segment l i)) (Ev.all fun n => rfl) ?_)))
    cases hr : isRun (rd z_Segment l i) with
    | true => exact Ev.t rfl (Ev.eq (Ev.now _) (firstR_hit (by omega) hr hj).symm)
    | false =>
      refine Ev.f rfl ?_
      rw [wI (by omega) (by omega)]
      refine ih (i + 1) (by omega) fun j h => ?_
      by_cases e : j = i
      · rw [e]; exact hr
      · exact hj j (by omega)
theorem i_runSegment_ev (l : List S_Segment) (hl : l.length ≤ 1048576) : Ev (fun n => i_runSegment n l) (firstR l) := by
  unfold i_runSegment
  exact Ev.bind (irun_loop l hl l.length 0 (by omega) fun j h => by omega) (Ev.now _)
theorem i_end_val (n : Nat) (a v m : Int) (t : ByteArray) (h0 : 0 ≤ m) (h1 : m ≤ 3584) (h2 : 0 ≤ v) (h3 : v ≤ 3584) : i_Segment_end n (a, v, m, t, ()) = some (v + up m) := by
  unfold i_Segment_end
  rw [i_pages_val m n h0 (by omega)]
  simp only [Option.bind_some]
  rw [wI (by unfold up; omega) (by unfold up; omega)]
theorem sc_zero {first : Int} {had : Bool} {s : S_Segment} (h : sc first had s = 0) : (s.f0 = 4 ∨ s.f0 = 5 ∨ s.f0 = 6) ∧ Int.tmod s.f1 256 = 0 ∧ (first ≤ s.f1 ∧ s.f1 ≤ 3583) ∧ (1 ≤ s.f2 ∧ s.f2 ≤ 3584 - s.f1) ∧ (s.f3.size : Int) ≤ s.f2 ∧ (s.f0 = 5 → had = false ∧ (s.f3.size : Int) = s.f2 ∧ Int.tmod s.f2 32 = 0) := by
  unfold sc at h
  split at h
  · cases h
  · split at h
    · cases h
    · rename_i h1 h2
      split at h
      · cases h
      · rename_i h3
        have h2' := Decidable.not_not.1 h2
        refine ⟨by omega, h2'.1, h2'.2.1, h2'.2.2.1, h2'.2.2.2, fun h5 => ?_⟩
        have h4 : ¬ (had = true ∨ (s.f3.size : Int) ≠ s.f2 ∨ Int.tmod s.f2 32 ≠ 0) := fun z => h3 ⟨h5, z⟩
        refine ⟨?_, ?_, ?_⟩
        · cases had
          · rfl
          · exact absurd (.inl rfl) h4
        · exact Decidable.byContradiction fun z => h4 (.inr (.inl z))
        · exact Decidable.byContradiction fun z => h4 (.inr (.inr z))
/-- What is known of the segments that went through. -/
def Passed (l : List S_Segment) (i : Nat) : Prop := ∀ j : Nat, j < i → sc (fst_ l j) (hadR l j) (rd z_Segment l j) = 0
theorem fst_nonneg {l : List S_Segment} : ∀ {i : Nat}, Passed l i → 512 ≤ fst_ l i ∧ fst_ l i ≤ 7168
  | 0, _ => by unfold fst_; simp
  | i + 1, h => by
    have hi := sc_zero (h i (Nat.lt_succ_self i))
    have h0 := fst_nonneg (i := i) (fun j hj => h j (Nat.lt_succ_of_lt hj))
    unfold fst_
    rw [if_neg (by omega), show i + 1 - 1 = i by omega]
    unfold endOf up
    omega
theorem rd_take {l : List S_Segment} {i j : Nat} (hj : j < i) (hi : i ≤ l.length) : rd z_Segment (l.take i) j = rd z_Segment l j := by
  rw [rd_lt (by rw [List.length_take]; omega), rd_lt (by omega)]
  simp
theorem iseg_ev (l : List S_Segment) (i : Nat) (hi : i ≤ l.length) (hl : l.length ≤ 1048576) (hp : Passed l i) (s : S_Segment) : Ev (fun n => i_segmentCode n (s.f0, s.f1, s.f2, s.f3, ()) (l.take i)) (sc (fst_ l i) (hadR l i) s) := by
  have hn := fst_nonneg hp
  have hlen : (l.take i).length = i := by rw [List.length_take]; omega
  have hR := i_runSegment_ev (l.take i) (by omega)
  unfold i_segmentCode
  rw [hlen]
  by_cases h0 : i = 0
  · subst h0
    refine Ev.df (by simp) ?_
    exact segJ_ev (l.take 0) hR 512 (by omega) s
  · refine Ev.dt (by simp only [Int.ofNat_eq_natCast]; omega) ?_
    have e1 : IntKind.i64.wrap (Int.ofNat i - 1) = ((i - 1 : Nat) : Int) := by rw [wI (by simp only [Int.ofNat_eq_natCast]; omega) (by simp only [Int.ofNat_eq_natCast]; omega)]; simp only [Int.ofNat_eq_natCast]; omega
    rw [e1, Int.toNat_natCast, rd_take (by omega) hi]
    have hq := sc_zero (hp (i - 1) (by omega))
    have hq0 := fst_nonneg (i := i - 1) (fun j hj => hp j (by omega))
    refine Ev.dt (by omega) (Ev.dt (by simp only [Int.ofNat_eq_natCast]; omega) (Ev.bind (Ev.all fun n => i_end_val n _ _ _ _ (by omega) (by omega) (by omega) (by omega)) ?_))
    have e : fst_ l i = (rd z_Segment l (i - 1)).f1 + up (rd z_Segment l (i - 1)).f2 := by unfold fst_; rw [if_neg h0]; rfl
    rw [e] at hn ⊢
    exact segJ_ev (l.take i) hR _ (by omega) s
end Go.Proofs.Ytigoabhkdipdeaa
/- An image is checked: impl's CheckImage, whole. -/
namespace Go.Proofs.Ytigoabhkdipdeaa
open Go Go.Proofs.Ytigoabhkdipdeaa.AM
set_option linter.all false
def runS (l : List S_Segment) : S_Segment := rd z_Segment l (firstR l).toNat
/-- The entry's test. -/
def entryC (a : Int) (l : List S_Segment) : Int × Int :=
  if (runS l).f1 ≤ a ∧ a ≤ (runS l).f1 + (runS l).f2 - 1 ∧ Int.tmod a 32 = 0 then (0, 0) else (0, 32)
/-- The segments' code from segment i on. -/
def codes (l : List S_Segment) : Nat → Nat → Int × Int
  | i, 0 => if hadR l i = true then (0, 0) else (0, 28)
  | i, d + 1 => if sc (fst_ l i) (hadR l i) (rd z_Segment l i) = 0 then codes l (i + 1) d else ((i : Int), sc (fst_ l i) (hadR l i) (rd z_Segment l i))
def CI (a : Int) (l : List S_Segment) : Int × Int :=
  if l.length = 0 then (0, 5) else if l.length > 4 then (0, 6) else if (codes l 0 l.length).2 = 0 then entryC a l else codes l 0 l.length
theorem entry_bounds {l : List S_Segment} (hp : Passed l l.length) (hr : hadR l l.length = true) : 0 ≤ firstR l ∧ firstR l < l.length ∧ 0 ≤ (runS l).f1 ∧ (runS l).f1 ≤ 3583 ∧ 1 ≤ (runS l).f2 ∧ (runS l).f2 ≤ 3584 := by
  have h0 : 0 ≤ firstR l := by
    rw [firstR_any]
    unfold hadR at hr
    rwa [List.take_length] at hr
  have h1 := firstR_lt l
  have hq := sc_zero (hp (firstR l).toNat (by omega))
  have hq0 := fst_nonneg (i := (firstR l).toNat) (fun j hj => hp j (by omega))
  unfold runS
  exact ⟨h0, h1, by omega, by omega, by omega, by omega⟩
theorem noRun {l : List S_Segment} (hr : ¬ hadR l l.length = true) : firstR l < 0 := by
  have : ¬ 0 ≤ firstR l := by
    rw [firstR_any]
    unfold hadR at hr
    rwa [List.take_length] at hr
  omega
theorem iloop_ev (a : Int) (l : List S_Segment) (hl : l.length ≤ 1048576) : ∀ (d i : Nat), i + d = l.length → Passed l i → Ev (fun n => i_CheckImage_ls n l (l.length : Int) (i : Int) a l) (if (codes l i d).2 = 0 then entryC a l else codes l i d) := by
  intro d
  induction d with
  | zero =>
    intro i hi hp
    have e : i = l.length := by omega
    subst e
    refine Ev.step (g := fun n => i_CheckImage_r2 (i_CheckImage_ls n) n l l.length l.length a l) (fun n => rfl) ?_
    unfold i_CheckImage_r2
    refine Ev.df (by omega) (Ev.bind (i_runSegment_ev l hl) ?_)
    by_cases hr : hadR l l.length = true
    · obtain ⟨b0, b1, b2, b3, b4, b5⟩ := entry_bounds hp hr
      have e1 : (if (codes l l.length 0).2 = 0 then entryC a l else codes l l.length 0) = entryC a l := by unfold codes; simp [hr]
      rw [e1]
      refine Ev.df (by omega) (Ev.dt b0 (Ev.dt (by simp only [Int.ofNat_eq_natCast]; omega) ?_))
      change Ev (fun n => (i_within n a (runS l).f1 (IntKind.i64.wrap (IntKind.i64.wrap ((runS l).f1 + (runS l).f2) - 1))).bind fun t1 => (bif !t1 then (some (((0 : Int), (32 : Int)))) else (bif a.tmod (32 : Int) != (0 : Int) then (some (((0 : Int), (32 : Int)))) else (some (((0 : Int), (0 : Int))))))) (entryC a l)
      rw [wI (n := (runS l).f1 + (runS l).f2) (by omega) (by omega), wI (by omega) (by omega)]
      refine Ev.bind (Ev.all fun n => i_within_val n _ _ _) ?_
      unfold entryC
      by_cases c : (runS l).f1 ≤ a ∧ a ≤ (runS l).f1 + (runS l).f2 - 1
      · rw [IN_true.2 c]
        refine Ev.f rfl ?_
        by_cases c2 : Int.tmod a 32 = 0
        · exact Ev.f (by simp [c2]) (Ev.eq (Ev.now _) (by rw [if_pos ⟨c.1, c.2, c2⟩]))
        · exact Ev.t (by simp [c2]) (Ev.eq (Ev.now _) (by rw [if_neg (fun z => c2 z.2.2)]))
      · rw [IN_false.2 c]
        exact Ev.t rfl (Ev.eq (Ev.now _) (by rw [if_neg (fun z => c ⟨z.1, z.2.1⟩)]))
    · refine Ev.dt (noRun hr) (Ev.eq (Ev.now _) ?_)
      unfold codes
      simp [hr]
  | succ d ih =>
    intro i hi hp
    refine Ev.step (g := fun n => i_CheckImage_r2 (i_CheckImage_ls n) n l l.length i a l) (fun n => rfl) ?_
    unfold i_CheckImage_r2
    rw [Int.toNat_natCast]
    refine Ev.dt (by omega) (Ev.dt (by omega) (Ev.dt (by simp only [Int.ofNat_eq_natCast]; omega) (Ev.dt (by omega) (Ev.dt (by omega) ?_))))
    refine Ev.bind (iseg_ev l i (by omega) hl hp (rd z_Segment l i)) ?_
    by_cases c : sc (fst_ l i) (hadR l i) (rd z_Segment l i) = 0
    · refine Ev.f (by simp [c]) ?_
      rw [wI (n := (i : Int) + 1) (by omega) (by omega), show (i : Int) + 1 = ((i + 1 : Nat) : Int) by omega]
      refine Ev.eq (ih (i + 1) (by omega) ?_) ?_
      · intro j hj
        by_cases e : j = i
        · rw [e]; exact c
        · exact hp j (by omega)
      · rw [show codes l i (d + 1) = codes l (i + 1) d by rw [codes, if_pos c]]
    · refine Ev.t (by simp [c]) (Ev.eq (Ev.now _) ?_)
      rw [show codes l i (d + 1) = ((i : Int), sc (fst_ l i) (hadR l i) (rd z_Segment l i)) by rw [codes, if_neg c]]
      rw [if_neg c]
theorem i_CheckImage_ev (a : Int) (l : List S_Segment) (hl : l.length ≤ 1048576) : Ev (fun n => i_CheckImage n (a, l, ())) (CI a l) := by
  unfold i_CheckImage i_CheckImage_m
  by_cases h : l.length = 0
  · refine Ev.t (by simp [h]) (Ev.eq (Ev.now _) ?_)
    unfold CI
    rw [if_pos h]
  · refine Ev.f (by simp; exact fun z => h (by rw [z]; rfl)) ?_
    by_cases h2 : l.length > 4
    · refine Ev.dt (by simp only [Int.ofNat_eq_natCast]; omega) (Ev.eq (Ev.now _) ?_)
      unfold CI
      rw [if_neg h, if_pos h2]
    · refine Ev.df (by simp only [Int.ofNat_eq_natCast]; omega) ?_
      have e : CI a l = if (codes l 0 l.length).2 = 0 then entryC a l else codes l 0 l.length := by
        unfold CI
        rw [if_neg h, if_neg h2]
      rw [e]
      exact iloop_ev a l hl l.length 0 (by omega) (fun j hj => absurd hj (Nat.not_lt_zero _))
end Go.Proofs.Ytigoabhkdipdeaa
/- An image is checked: the reference's l10Check. -/
namespace Go.Proofs.Ytigoabhkdipdeaa
open Go Go.Proofs.Ytigoabhkdipdeaa.AM
set_option linter.all false
theorem hadR_succ {l : List S_Segment} {i : Nat} (hi : i < l.length) : hadR l (i + 1) = (hadR l i || isRun (rd z_Segment l i)) := by
  unfold hadR
  rw [List.take_succ_eq_append_getElem hi, List.any_append, rd_lt hi]
  simp
theorem up_loop (b x5 : Int) (i : Nat) (hi : i ≤ 1048576) (a : Int) (l : List S_Segment) (r : Int × Int) (v m : Int) (hv : Int.tmod v 256 = 0) (hv0 : 0 ≤ v ∧ v ≤ 3584) (hm : 1 ≤ m ∧ m ≤ 3584) : ∀ (d : Nat) (t : Int), v + m ≤ t → t ≤ v + up m → v + up m - t = d →
    Ev (fun n => (s_l10Segments_ls n).1 (v + up m) x5 ((i + 1 : Nat) : Int) a l) r → Ev (fun n => (s_l10Segments_ls n).2 t x5 (i : Int) a l) r := by
  have hv' : v % 256 = 0 := by rw [Int.tmod_eq_emod_of_nonneg hv0.1] at hv; exact hv
  intro d
  induction d with
  | zero =>
    intro t h0 h1 h2 h3
    have e : t = v + up m := by omega
    subst e
    refine Ev.step (g := fun n => s_l10Segments_r4 (s_l10Segments_ls n).1 (s_l10Segments_ls n).2 n (v + up m) x5 i a l) (fun n => rfl) ?_
    unfold s_l10Segments_r4
    have hz : (v + up m).tmod 256 = 0 := by
      unfold up at h0 ⊢
      rw [Int.tmod_eq_emod_of_nonneg (by omega)]
      omega
    refine Ev.f (by simp [hz]) ?_
    rw [wI (n := (i : Int) + 1) (by omega) (by omega)]
    exact h3
  | succ d ih =>
    intro t h0 h1 h2 h3
    refine Ev.step (g := fun n => s_l10Segments_r4 (s_l10Segments_ls n).1 (s_l10Segments_ls n).2 n t x5 i a l) (fun n => rfl) ?_
    unfold s_l10Segments_r4
    have hz : t.tmod 256 ≠ 0 := by
      rw [Int.tmod_eq_emod_of_nonneg (by omega)]
      unfold up at h1 h2
      omega
    refine Ev.t (by simp [hz]) ?_
    have hb : v + up m ≤ 8000 := by unfold up; omega
    rw [wI (n := t + 1) (by omega) (by omega)]
    exact ih (t + 1) (by omega) (by omega) (by omega) h3
noncomputable def sTail (l0 : Int → Int → Int → Int → List S_Segment → Option (Int × Int)) (l4 : Int → Int → Int → Int → List S_Segment → Option (Int × Int)) (n : Nat) (e4 : Int) (e5 : Int) (e6 : Int) (b0_0 : Int) (b0_1 : List S_Segment) : Option (Int × Int) :=
  (bif (rd z_Segment b0_1 e6.toNat).f1.tmod (256 : Int) != (0 : Int) then (some ((e6, (31 : Int)))) else ((s_l01In n ((rd z_Segment b0_1 e6.toNat).f1) (e4) ((3583 : Int))).bind fun t0 => (bif !t0 then (some ((e6, (31 : Int)))) else ((s_l01In n ((rd z_Segment b0_1 e6.toNat).f2) ((1 : Int)) (IntKind.i64.wrap ((3584 : Int) - (rd z_Segment b0_1 e6.toNat).f1))).bind fun t1 => (bif !t1 then (some ((e6, (31 : Int)))) else (bif decide (Int.ofNat (rd z_Segment b0_1 e6.toNat).f3.size > (rd z_Segment b0_1 e6.toNat).f2) then (some ((e6, (31 : Int)))) else (bif (rd z_Segment b0_1 e6.toNat).f0 == (5 : Int) then (bif decide (IntKind.i64.wrap (e5 + (1 : Int)) > (1 : Int)) then (some ((e6, (28 : Int)))) else (bif Int.ofNat (rd z_Segment b0_1 e6.toNat).f3.size != (rd z_Segment b0_1 e6.toNat).f2 then (some ((e6, (28 : Int)))) else (bif (rd z_Segment b0_1 e6.toNat).f2.tmod (32 : Int) != (0 : Int) then (some ((e6, (28 : Int)))) else ((s_l10Segments_j31 l0 l4 n (IntKind.i64.wrap (e5 + (1 : Int))) (e6) (b0_0) (b0_1) ((rd z_Segment b0_1 e6.toNat).f0) ((rd z_Segment b0_1 e6.toNat).f1) ((rd z_Segment b0_1 e6.toNat).f2) ((rd z_Segment b0_1 e6.toNat).f3)))))) else ((s_l10Segments_j31 l0 l4 n (e5) (e6) (b0_0) (b0_1) ((rd z_Segment b0_1 e6.toNat).f0) ((rd z_Segment b0_1 e6.toNat).f1) ((rd z_Segment b0_1 e6.toNat).f2) ((rd z_Segment b0_1 e6.toNat).f3))))))))))
theorem sTail_ev (first x5 : Int) (had : Bool) (hx5 : x5 = if had = true then 1 else 0) (i : Nat) (hi : i ≤ 1048576) (a : Int) (l : List S_Segment) (hf : 0 ≤ first) (r : Int × Int) (h : (rd z_Segment l i).f0 = 4 ∨ (rd z_Segment l i).f0 = 5 ∨ (rd z_Segment l i).f0 = 6)
    (hr : sc first had (rd z_Segment l i) = 0 → Ev (fun n => (s_l10Segments_ls n).1 (endOf (rd z_Segment l i)) (if (had || isRun (rd z_Segment l i)) = true then 1 else 0) ((i + 1 : Nat) : Int) a l) r) :
    Ev (fun n => sTail (s_l10Segments_ls n).1 (s_l10Segments_ls n).2 n first x5 (i : Int) a l) (if sc first had (rd z_Segment l i) = 0 then r else ((i : Int), sc first had (rd z_Segment l i))) := by
  unfold sTail
  rw [Int.toNat_natCast]
  obtain ⟨s, hs⟩ : ∃ s, s = rd z_Segment l i := ⟨_, rfl⟩
  rw [← hs] at hr h ⊢
  have h' : ¬ (s.f0 ≠ 4 ∧ s.f0 ≠ 5 ∧ s.f0 ≠ 6) := by omega
  by_cases c : (Int.tmod s.f1 256 = 0 ∧ (first ≤ s.f1 ∧ s.f1 ≤ 3583) ∧ (1 ≤ s.f2 ∧ s.f2 ≤ 3584 - s.f1) ∧ (s.f3.size : Int) ≤ s.f2)
  · have e : sc first had s = if s.f0 = 5 ∧ (had = true ∨ (s.f3.size : Int) ≠ s.f2 ∨ Int.tmod s.f2 32 ≠ 0) then 28 else 0 := by
      unfold sc
      rw [if_neg h', if_neg (Decidable.not_not.2 c)]
    refine Ev.f (by simp [c.1]) (Ev.bind (Ev.all fun n => s_l01In_val n _ _ _) (Ev.f (by rw [IN_true.2 c.2.1]; rfl) (Ev.bind (Ev.all fun n => s_l01In_val n _ _ _) (Ev.f (by rw [wI (n := 3584 - s.f1) (by omega) (by omega), IN_true.2 c.2.2.1]; rfl) (Ev.df (by simp only [Int.ofNat_eq_natCast]; omega) ?_)))))
    have J3 : ∀ y : Int, sc first had s = 0 → y = (if (had || isRun s) = true then 1 else 0) → Ev (fun n => s_l10Segments_j31 (s_l10Segments_ls n).1 (s_l10Segments_ls n).2 n y (i : Int) a l s.f0 s.f1 s.f2 s.f3) (if sc first had s = 0 then r else ((i : Int), sc first had s)) := by
      intro y h0 hy
      rw [if_pos h0]
      unfold s_l10Segments_j31
      rw [wI (n := s.f1 + s.f2) (by omega) (by omega)]
      refine up_loop first y i hi a l r s.f1 s.f2 c.1 (by omega) (by omega) (s.f1 + up s.f2 - (s.f1 + s.f2)).toNat (s.f1 + s.f2) (by omega) (by unfold up; omega) (by unfold up; omega) ?_
      rw [hy]
      exact hr h0
    by_cases h5 : s.f0 = 5
    · have hrun : isRun s = true := by unfold isRun; rw [h5]; rfl
      refine Ev.t (by simp [h5]) ?_
      cases had with
      | true =>
        have e2 : sc first true s = 28 := by rw [e, if_pos ⟨h5, .inl rfl⟩]
        rw [e2]
        exact Ev.dt (by rw [hx5]; decide) (Ev.now _)
      | false =>
        refine Ev.df (by rw [hx5]; decide) ?_
        by_cases hz : (s.f3.size : Int) = s.f2
        · refine Ev.f (by simp [hz]) ?_
          by_cases hm : Int.tmod s.f2 32 = 0
          · refine Ev.f (by simp [hm]) (J3 _ ?_ ?_)
            · rw [e, if_neg]
              rintro ⟨_, h1 | h1 | h1⟩
              · cases h1
              · exact h1 hz
              · exact h1 hm
            · rw [hx5, hrun]; decide
          · have e2 : sc first false s = 28 := by rw [e, if_pos ⟨h5, .inr (.inr hm)⟩]
            rw [e2]
            exact Ev.t (by simp [hm]) (Ev.now _)
        · have e2 : sc first false s = 28 := by rw [e, if_pos ⟨h5, .inr (.inl hz)⟩]
          rw [e2]
          exact Ev.t (by simp [hz]) (Ev.now _)
    · have hrun : isRun s = false := by unfold isRun; simpa using h5
      refine Ev.f (by simp [h5]) (J3 _ ?_ ?_)
      · rw [e, if_neg (fun z => h5 z.1)]
      · rw [hx5, hrun, Bool.or_false]
  · have e : sc first had s = 31 := by
      unfold sc
      rw [if_neg h', if_pos c]
    rw [e, if_neg (by decide)]
    by_cases c1 : Int.tmod s.f1 256 = 0
    · refine Ev.f (by simp [c1]) (Ev.bind (Ev.all fun n => s_l01In_val n _ _ _) ?_)
      by_cases c2 : first ≤ s.f1 ∧ s.f1 ≤ 3583
      · refine Ev.f (by rw [IN_true.2 c2]; rfl) (Ev.bind (Ev.all fun n => s_l01In_val n _ _ _) ?_)
        rw [wI (n := 3584 - s.f1) (by omega) (by omega)]
        by_cases c3 : 1 ≤ s.f2 ∧ s.f2 ≤ 3584 - s.f1
        · refine Ev.f (by rw [IN_true.2 c3]; rfl) (Ev.dt ?_ (Ev.now _))
          have : ¬ (s.f3.size : Int) ≤ s.f2 := fun z => c ⟨c1, c2, c3, z⟩
          simp only [Int.ofNat_eq_natCast]
          omega
        · exact Ev.t (by rw [IN_false.2 c3]; rfl) (Ev.now _)
      · exact Ev.t (by rw [IN_false.2 c2]; rfl) (Ev.now _)
    · exact Ev.t (by simp [c1]) (Ev.now _)
end Go.Proofs.Ytigoabhkdipdeaa
/- An image is checked: the reference's l10Check, whole. -/
namespace Go.Proofs.Ytigoabhkdipdeaa
open Go Go.Proofs.Ytigoabhkdipdeaa.AM
set_option linter.all false
theorem sloop_ev (a : Int) (l : List S_Segment) (hl : l.length ≤ 1048576) : ∀ (d i : Nat), i + d = l.length → Passed l i → Ev (fun n => (s_l10Segments_ls n).1 (fst_ l i) (if hadR l i = true then 1 else 0) (i : Int) a l) (codes l i d) := by
  intro d
  induction d with
  | zero =>
    intro i hi hp
    refine Ev.step (g := fun n => s_l10Segments_r0 (s_l10Segments_ls n).1 (s_l10Segments_ls n).2 n (fst_ l i) (if hadR l i = true then 1 else 0) i a l) (fun n => rfl) ?_
    unfold s_l10Segments_r0
    refine Ev.df (by simp only [Int.ofNat_eq_natCast]; omega) ?_
    unfold codes
    by_cases hr : hadR l i = true
    · rw [if_pos hr, if_pos hr]
      exact Ev.f (by decide) (Ev.now _)
    · rw [if_neg hr, if_neg hr]
      exact Ev.t (by decide) (Ev.now _)
  | succ d ih =>
    intro i hi hp
    have hn := fst_nonneg hp
    have hlt : (i : Int) < Int.ofNat l.length := by simp only [Int.ofNat_eq_natCast]; omega
    have hr : sc (fst_ l i) (hadR l i) (rd z_Segment l i) = 0 → Ev (fun n => (s_l10Segments_ls n).1 (endOf (rd z_Segment l i)) (if (hadR l i || isRun (rd z_Segment l i)) = true then 1 else 0) ((i + 1 : Nat) : Int) a l) (codes l (i + 1) d) := by
      intro h0
      have h1 := ih (i + 1) (by omega) (fun j hj => by
        by_cases e : j = i
        · rw [e]; exact h0
        · exact hp j (by omega))
      rw [hadR_succ (by omega)] at h1
      have e : fst_ l (i + 1) = endOf (rd z_Segment l i) := by
        unfold fst_
        rw [if_neg (by omega), show i + 1 - 1 = i by omega]
      rw [e] at h1
      exact h1
    rw [codes]
    have tl := fun h => sTail_ev (fst_ l i) _ (hadR l i) rfl i (by omega) a l (by omega) (codes l (i + 1) d) h hr
    refine Ev.step (g := fun n => s_l10Segments_r0 (s_l10Segments_ls n).1 (s_l10Segments_ls n).2 n (fst_ l i) (if hadR l i = true then 1 else 0) i a l) (fun n => rfl) ?_
    unfold s_l10Segments_r0
    refine Ev.dt hlt (Ev.dt (by omega) (Ev.dt hlt ?_))
    rw [Int.toNat_natCast]
    by_cases h4 : (rd z_Segment l i).f0 = 4
    · exact Ev.f (by simp [h4]) (tl (.inl h4))
    · refine Ev.t (by simp [h4]) ?_
      by_cases h5 : (rd z_Segment l i).f0 = 5
      · exact Ev.f (by simp [h5]) (tl (.inr (.inl h5)))
      · refine Ev.t (by simp [h5]) ?_
        by_cases h6 : (rd z_Segment l i).f0 = 6
        · exact Ev.f (by simp [h6]) (tl (.inr (.inr h6)))
        · refine Ev.t (by simp [h6]) (Ev.eq (Ev.now _) ?_)
          have e : sc (fst_ l i) (hadR l i) (rd z_Segment l i) = 14 := by unfold sc; rw [if_pos ⟨h4, h5, h6⟩]
          rw [e, if_neg (by decide)]
theorem srun_loop (a : Int) (l : List S_Segment) (hl : l.length ≤ 1048576) : ∀ (d i : Nat), i + d = l.length → (∀ j, j < i → isRun (rd z_Segment l j) = false) → Ev (fun n => s_l10Run_ls n (i : Int) a l) (firstR l) := by
  intro d
  induction d with
  | zero =>
    intro i hi hj
    refine Ev.step (g := fun n => s_l10Run_r0 (s_l10Run_ls n) n i a l) (fun n => rfl) ?_
    unfold s_l10Run_r0
    exact Ev.df (by simp only [Int.ofNat_eq_natCast]; omega) (Ev.eq (Ev.now _) (firstR_none fun j h => hj j (by omega)).symm)
  | succ d ih =>
    intro i hi hj
    have hlt : (i : Int) < Int.ofNat l.length := by simp only [Int.ofNat_eq_natCast]; omega
    refine Ev.step (g := fun n => s_l10Run_r0 (s_l10Run_ls n) n i a l) (fun n => rfl) ?_
    unfold s_l10Run_r0
    rw [Int.toNat_natCast]
    refine Ev.dt hlt (Ev.dt (by omega) (Ev.dt hlt ?_))
    cases hr : isRun (rd z_Segment l i) with
    | true => exact Ev.t hr (Ev.eq (Ev.now _) (firstR_hit (by omega) hr hj).symm)
    | false =>
      refine Ev.f hr ?_
      rw [wI (by omega) (by omega)]
      refine ih (i + 1) (by omega) fun j h => ?_
      by_cases e : j = i
      · rw [e]; exact hr
      · exact hj j (by omega)
theorem srun_ev (a : Int) (l : List S_Segment) (hl : l.length ≤ 1048576) : Ev (fun n => s_l10Run n (a, l, ())) (firstR l) := srun_loop a l hl l.length 0 (by omega) fun j h => by omega
theorem codes_zero (l : List S_Segment) : ∀ (d i : Nat), i + d = l.length → Passed l i → (codes l i d).2 = 0 → Passed l l.length ∧ hadR l l.length = true ∧ codes l i d = (0, 0) := by
  intro d
  induction d with
  | zero =>
    intro i hi hp h
    have e : i = l.length := by omega
    subst e
    unfold codes at h ⊢
    by_cases hr : hadR l l.length = true
    · rw [if_pos hr]; exact ⟨hp, hr, rfl⟩
    · rw [if_neg hr] at h; exact absurd h (by decide)
  | succ d ih =>
    intro i hi hp h
    rw [codes] at h ⊢
    by_cases c : sc (fst_ l i) (hadR l i) (rd z_Segment l i) = 0
    · rw [if_pos c] at h ⊢
      refine ih (i + 1) (by omega) (fun j hj => ?_) h
      by_cases e : j = i
      · rw [e]; exact c
      · exact hp j (by omega)
    · rw [if_neg c] at h; exact absurd h c
theorem s_l10Check_ev (a : Int) (l : List S_Segment) (hl : l.length ≤ 1048576) : Ev (fun n => s_l10Check n (a, l, ())) (CI a l) := by
  unfold s_l10Check
  by_cases h : l.length = 0
  · refine Ev.t (by simp [h]) (Ev.eq (Ev.now _) ?_)
    unfold CI
    rw [if_pos h]
  · refine Ev.f (by simp; exact fun z => h (by rw [z]; rfl)) ?_
    by_cases h2 : l.length > 4
    · refine Ev.dt (by simp only [Int.ofNat_eq_natCast]; omega) (Ev.eq (Ev.now _) ?_)
      unfold CI
      rw [if_neg h, if_pos h2]
    · refine Ev.df (by simp only [Int.ofNat_eq_natCast]; omega) ?_
      have e : CI a l = if (codes l 0 l.length).2 = 0 then entryC a l else codes l 0 l.length := by
        unfold CI
        rw [if_neg h, if_neg h2]
      rw [e]
      refine Ev.bind (sloop_ev a l hl l.length 0 (by omega) (fun j hj => absurd hj (Nat.not_lt_zero _))) ?_
      by_cases c : (codes l 0 l.length).2 = 0
      · obtain ⟨hp, hr, _⟩ := codes_zero l l.length 0 (by omega) (fun j hj => absurd hj (Nat.not_lt_zero _)) c
        obtain ⟨b0, b1, b2, b3, b4, b5⟩ := entry_bounds hp hr
        rw [if_pos c]
        refine Ev.f (by simp [c]) (Ev.bind (srun_ev a l hl) (Ev.dt b0 (Ev.dt (by simp only [Int.ofNat_eq_natCast]; omega) ?_)))
        change Ev (fun n => (s_l01In n a (runS l).f1 (IntKind.i64.wrap (IntKind.i64.wrap ((runS l).f1 + (runS l).f2) - 1))).bind fun t1 => (bif !t1 then (some (((0 : Int), (32 : Int)))) else (bif a.tmod (32 : Int) != (0 : Int) then (some (((0 : Int), (32 : Int)))) else (some (((0 : Int), (0 : Int))))))) (entryC a l)
        rw [wI (n := (runS l).f1 + (runS l).f2) (by omega) (by omega), wI (by omega) (by omega)]
        refine Ev.bind (Ev.all fun n => s_l01In_val n _ _ _) ?_
        unfold entryC
        by_cases c : (runS l).f1 ≤ a ∧ a ≤ (runS l).f1 + (runS l).f2 - 1
        · rw [IN_true.2 c]
          refine Ev.f rfl ?_
          by_cases c2 : Int.tmod a 32 = 0
          · exact Ev.f (by simp [c2]) (Ev.eq (Ev.now _) (by rw [if_pos ⟨c.1, c.2, c2⟩]))
          · exact Ev.t (by simp [c2]) (Ev.eq (Ev.now _) (by rw [if_neg (fun z => c2 z.2.2)]))
        · rw [IN_false.2 c]
          exact Ev.t rfl (Ev.eq (Ev.now _) (by rw [if_neg (fun z => c ⟨z.1, z.2.1⟩)]))
      · rw [if_neg c]
        exact Ev.t (by simp [c]) (Ev.now _)
end Go.Proofs.Ytigoabhkdipdeaa
/- What is laid for a segment: both sides lay the same pages. -/
namespace Go.Proofs.Ytigoabhkdipdeaa
open Go Go.Proofs.Ytigoabhkdipdeaa.AM
set_option linter.all false
set_option maxRecDepth 8000
def rep (f : UInt8) (n : Nat) : ByteArray := ⟨(Go.Lib.repeatL (ByteArray.mk #[f]).data.toList n).toArray⟩
theorem bl_rep (f : UInt8) (n : Nat) : bl (rep f n) = List.replicate n f := by
  have : ∀ n : Nat, Go.Lib.repeatL [f] n = List.replicate n f := by
    intro n
    induction n with
    | zero => rfl
    | succ n ih => simp [Go.Lib.repeatL, ih, List.replicate_succ]
  simp [bl, rep, this]
theorem rep_size (f : UInt8) (n : Nat) : (rep f n).size = n := by rw [← bl_len, bl_rep, List.length_replicate]
theorem bl_ZZ : bl ZZ = List.replicate 256 0 := by kernel_rfl
theorem ZZ_size : ZZ.size = 256 := by rw [← bl_len, bl_ZZ, List.length_replicate]
theorem chunks_mix : ∀ (k : Nat) (d t : ByteArray), d.size ≤ 256 * k → bl t = bl d ++ List.replicate (256 * k - d.size) 0 → chunks k t = mix (List.replicate k ZZ) d
  | 0, _, _, _, _ => rfl
  | k + 1, d, t, hd, ht => by
    have hl := bl_len d
    have hts : t.size = 256 * (k + 1) := by rw [← bl_len, ht, List.length_append, List.length_replicate, hl]; omega
    rw [chunks, List.replicate_succ, mix]
    by_cases c : d.size = 0
    · rw [if_pos c]
      have hd0 : bl d = [] := List.length_eq_zero_iff.1 (by omega)
      have e1 : t.extract 0 256 = ZZ := by
        apply bl_inj
        rw [bl_ext, ht, hd0, bl_ZZ, c, List.nil_append, List.take_replicate, Nat.min_eq_left (by omega)]
        rfl
      have e2 := chunks_mix k d (t.extract 256 t.size) (by omega) (by
        rw [bl_ext, ht, hd0, c, List.nil_append, List.nil_append, List.take_replicate, List.drop_replicate]
        congr 1
        omega)
      rw [e1, e2]
      cases k with
      | zero => rfl
      | succ k => rw [List.replicate_succ, mix, if_pos c]
    · rw [if_neg c]
      have e1 : t.extract 0 256 = mixB ZZ d := by
        apply bl_inj
        unfold mixB
        rw [bl_ext, bl_app, bl_ext, bl_ext, bl_ZZ, ht, List.drop_zero, List.drop_zero, List.take_append, hl, List.take_replicate, List.take_replicate, List.drop_replicate]
        by_cases c2 : d.size ≤ 256
        · rw [List.take_of_length_le (show (bl d).length ≤ 256 by omega), Nat.min_eq_left c2, List.take_of_length_le (show (bl d).length ≤ d.size by omega)]
          congr 2
          omega
        · rw [show min d.size 256 = 256 by omega, show min (256 - d.size) (256 * (k + 1) - d.size) = 0 by omega]
          rfl
      have hs : (d.extract (min d.size 256) d.size).size = d.size - min d.size 256 := ext_size _ _ _ (Nat.le_refl _)
      have e2 := chunks_mix k (d.extract (min d.size 256) d.size) (t.extract 256 t.size) (by rw [hs]; omega) (by
        rw [hs, bl_ext, bl_ext, ht, List.take_of_length_le (by rw [← ht, bl_len]; exact Nat.le_refl _), List.take_of_length_le (show (bl d).length ≤ d.size by omega), List.drop_append, hl, List.drop_replicate]
        by_cases c2 : d.size ≤ 256
        · rw [List.drop_eq_nil_of_le (show (bl d).length ≤ 256 by omega), Nat.min_eq_left c2, List.drop_eq_nil_of_le (show (bl d).length ≤ d.size by omega)]
          congr 2
          omega
        · rw [show min d.size 256 = 256 by omega]
          congr 2
          omega)
      rw [e1, e2]
/-! noughts, halts, private bytes -/
theorem x196_ev (f : UInt8) (k : Int) (h0 : 0 ≤ k) (h1 : k ≤ 1000000) : Ev (fun n => x196 n (ByteArray.mk #[f]) k) (rep f k.toNat) := by
  refine Ev.all fun n => ?_
  unfold x196
  have : (decide ((0 : Int) ≤ k) && decide (k ≤ 9223372036854775807) && decide ((ByteArray.mk #[f]).size * k.toNat ≤ 140737488355328)) = true := by
    simp only [Bool.and_eq_true, decide_eq_true_eq]
    refine ⟨⟨h0, by omega⟩, ?_⟩
    show 1 * k.toNat ≤ _
    omega
  rw [this]
  rfl
theorem small3 {x : Nat} (h : x ≤ 3000000) : ¬ (Int.ofNat x > IntKind.i64.max) := by
  rw [show IntKind.i64.max = 9223372036854775807 from rfl]
  simp only [Int.ofNat_eq_natCast]
  omega
theorem up_nat (s : Nat) : ∃ u : Nat, up (s : Int) = u ∧ s ≤ u ∧ u < s + 256 ∧ u % 256 = 0 := ⟨(s + 255) / 256 * 256, by unfold up; omega, by omega, by omega, by omega⟩
theorem i_padded_ev (s : ByteArray) (f : UInt8) (h : s.size ≤ 100000) : Ev (fun n => i_padded n s (ByteArray.mk #[f])) (s ++ rep f (up (s.size : Int) - s.size).toNat) := by
  unfold i_padded
  obtain ⟨u, h1, h2, h3, _⟩ := up_nat s.size
  refine Ev.bind (Ev.all fun n => i_pages_val (Int.ofNat s.size) n (by simp only [Int.ofNat_eq_natCast]; omega) (by simp only [Int.ofNat_eq_natCast]; omega)) ?_
  rw [show up (Int.ofNat s.size) = up (s.size : Int) from rfl, h1, wI (by simp only [Int.ofNat_eq_natCast]; omega) (by simp only [Int.ofNat_eq_natCast]; omega)]
  refine Ev.bind (x196_ev f _ (by simp only [Int.ofNat_eq_natCast]; omega) (by simp only [Int.ofNat_eq_natCast]; omega)) (Ev.df (small3 ?_) (Ev.now _))
  rw [rep_size]
  simp only [Int.ofNat_eq_natCast]
  omega
def permF (f : Int) : Int := if f = 5 then 5 else if f = 6 then 3 else 1
theorem s_l11Perm_val (n : Nat) (f : Int) : s_l11Perm n f = some (permF f) := by
  unfold s_l11Perm permF
  by_cases c : f = 5
  · subst c; rfl
  · rw [if_neg c, show (f == 5) = false from beq_eq_false_iff_ne.2 c]
    by_cases c2 : f = 6
    · subst c2; rfl
    · rw [if_neg c2, show (f == 6) = false from beq_eq_false_iff_ne.2 c2]
      rfl
/-- The bytes of a segment's pages. -/
def segB (s : S_Segment) : ByteArray := (s.f3 ++ rep 0 (s.f2 - s.f3.size).toNat) ++ rep (if s.f0 = 5 then 244 else 0) (up s.f2 - s.f2).toNat
theorem i_segmentPages_ev (s : S_Segment) (h1 : (s.f3.size : Int) ≤ s.f2) (h2 : s.f2 ≤ 3584) : Ev (fun n => i_segmentPages n (s.f0, s.f1, s.f2, s.f3, ())) (permF s.f0, segB s) := by
  unfold i_segmentPages
  have hs : (s.f3 ++ rep 0 (s.f2 - s.f3.size).toNat).size = s.f2.toNat := by rw [ByteArray.size_append, rep_size]; omega
  have hw : IntKind.i64.wrap (s.f2 - Int.ofNat s.f3.size) = s.f2 - s.f3.size := wI (by simp only [Int.ofNat_eq_natCast]; omega) (by simp only [Int.ofNat_eq_natCast]; omega)
  have hn : ((s.f2.toNat : Nat) : Int) = s.f2 := by omega
  have pad : ∀ f : UInt8, Ev (fun n => i_padded n (s.f3 ++ rep 0 (s.f2 - s.f3.size).toNat) (ByteArray.mk #[f])) ((s.f3 ++ rep 0 (s.f2 - s.f3.size).toNat) ++ rep f (up s.f2 - s.f2).toNat) := fun f => by
    have := i_padded_ev (s.f3 ++ rep 0 (s.f2 - s.f3.size).toNat) f (by rw [hs]; omega)
    rwa [hs, hn] at this
  simp only [hw]
  refine Ev.bind (x196_ev 0 (s.f2 - s.f3.size) (by omega) (by omega)) (Ev.df (small3 (by rw [rep_size]; omega)) ?_)
  unfold permF segB
  by_cases c : s.f0 = 5
  · rw [if_pos c, if_pos c]
    exact Ev.t (by simp [c]) (Ev.bind (pad 244) (Ev.now _))
  · rw [if_neg c, if_neg c]
    refine Ev.f (by simp [c]) ?_
    by_cases c2 : s.f0 = 6
    · rw [if_pos c2]
      exact Ev.t (by simp [c2]) (Ev.bind (pad 0) (Ev.now _))
    · rw [if_neg c2]
      exact Ev.f (by simp [c2]) (Ev.bind (pad 0) (Ev.now _))
theorem halts_loop (N : Nat) (hN : N ≤ 100000) : ∀ (d i : Nat) (b : List Int), i + d = N → b = List.replicate i 244 ++ List.replicate (N - i) 0 → Ev (fun n => s_l11Halts_ls n (N : Int) (i : Int) b) (rep 244 N) := by
  intro d
  induction d with
  | zero =>
    intro i b hi hb
    refine Ev.step (g := fun n => s_l11Halts_r0 (s_l11Halts_ls n) n N i b) (fun n => rfl) ?_
    unfold s_l11Halts_r0
    refine Ev.df (by omega) (Ev.eq (Ev.now _) (bl_inj ?_))
    rw [bl_rep, hb, show N - i = 0 by omega, show i = N by omega]
    simp [bl]
    exact .inr rfl
  | succ d ih =>
    intro i b hi hb
    refine Ev.step (g := fun n => s_l11Halts_r0 (s_l11Halts_ls n) n N i b) (fun n => rfl) ?_
    unfold s_l11Halts_r0
    have hbl : b.length = N := by rw [hb]; simp; omega
    refine Ev.dt (by omega) (Ev.dt (by omega) (Ev.dt (by rw [hbl]; simp only [Int.ofNat_eq_natCast]; omega) ?_))
    rw [wI (by omega) (by omega), Int.toNat_natCast]
    refine ih (i + 1) _ (by omega) ?_
    rw [hb, List.set_append_right _ _ (by simp), List.length_replicate, Nat.sub_self, show N - i = (N - (i + 1)) + 1 by omega, List.replicate_succ, List.set_cons_zero, List.replicate_succ', List.append_assoc]
    rfl
theorem s_l11Halts_ev (N : Nat) (hN : N ≤ 100000) : Ev (fun n => s_l11Halts n (N : Int)) (rep 244 N) := by
  unfold s_l11Halts s_l11Halts_m
  refine Ev.dt (by omega) (Ev.dt (Int.le_refl _) (Ev.dt (by simp only [Int.ofNat_eq_natCast]; omega) ?_))
  rw [Int.toNat_natCast]
  exact halts_loop N hN N 0 _ (by omega) (by simp)
theorem up_loop2 : ∀ (d : Nat) (x : Int), 0 ≤ x → up x ≤ 100500 → up x - x = d → Ev (fun n => s_l11Up_ls n x) (up x) := by
  intro d
  induction d with
  | zero =>
    intro x h0 h1 h2
    refine Ev.step (g := fun n => s_l11Up_r0 (s_l11Up_ls n) n x) (fun n => rfl) ?_
    unfold s_l11Up_r0
    have : x.tmod 256 = 0 := by rw [Int.tmod_eq_emod_of_nonneg h0]; unfold up at h2; omega
    exact Ev.f (by simp [this]) (Ev.eq (Ev.now _) (by omega))
  | succ d ih =>
    intro x h0 h1 h2
    refine Ev.step (g := fun n => s_l11Up_r0 (s_l11Up_ls n) n x) (fun n => rfl) ?_
    unfold s_l11Up_r0
    have hm : x % 256 ≠ 0 := by unfold up at h2; omega
    have : x.tmod 256 ≠ 0 := by rw [Int.tmod_eq_emod_of_nonneg h0]; exact hm
    refine Ev.t (by simp [this]) ?_
    rw [wI (by omega) (by omega)]
    have e : up (x + 1) = up x := by unfold up at *; omega
    rw [← e]
    exact ih (x + 1) (by omega) (by omega) (by rw [e]; omega)
theorem s_l11Up_ev (x : Int) (h0 : 0 ≤ x) (h1 : x ≤ 90000) : Ev (fun n => s_l11Up n x) (up x) := up_loop2 (up x - x).toNat x h0 (by unfold up; omega) (by unfold up; omega)
end Go.Proofs.Ytigoabhkdipdeaa
/- MapImage. -/
namespace Go.Proofs.Ytigoabhkdipdeaa
open Go Go.Proofs.Ytigoabhkdipdeaa.AM
set_option linter.all false
set_option maxRecDepth 8000
def pb (j : Nat) : Int := (7 * (j : Int) + 3) % 256
def PV : ByteArray := ByteArray.mk (List.map (fun y => AM.byteOf [Value.int IntKind.u8 y]) ((List.range 256).map pb)).toArray
theorem PV_size : PV.size = 256 := by unfold PV ByteArray.size; simp
theorem and255 : (List.range 256).all (fun i => ibits BinOp.and IntKind.i64 (7 * (i : Int) + 3) 255 == pb i) = true := by kernel_rfl
theorem s_pb (n : Nat) (i : Nat) (h : i < 256) : s_PrivateByte n (i : Int) = some (pb i) := by
  unfold s_PrivateByte
  rw [s_l01In_val, IN_true.2 ⟨by omega, by omega⟩, Option.bind_some]
  rw [wI (n := 7 * (i : Int)) (by omega) (by omega), wI (by omega) (by omega), Int.tmod_eq_emod_of_nonneg (by omega)]
  rfl
theorem i_pb (n : Nat) (i : Nat) (h : i < 256) : i_PrivateByte n (i : Int) = some (pb i) := by
  unfold i_PrivateByte i_isByte
  rw [i_within_val, IN_true.2 ⟨by omega, by omega⟩, Option.bind_some, Option.bind_some]
  rw [wI (n := 7 * (i : Int)) (by omega) (by omega), wI (by omega) (by omega)]
  have := List.all_eq_true.1 and255 i (List.mem_range.2 h)
  rw [eq_of_beq this]
  rfl
theorem u8_pb (i : Nat) : IntKind.u8.wrap (pb i) = pb i := by
  have : IntKind.u8.wrap (pb i) = pb i % 256 := IntKind.wrap_u8 _
  rw [this]
  unfold pb
  omega
theorem sPriv_loop : ∀ (d i : Nat), i + d = 256 → Ev (fun n => s_l11Private_ls n (i : Int) ((List.range i).map pb)) PV := by
  intro d
  induction d with
  | zero =>
    intro i hi
    refine Ev.step (g := fun n => s_l11Private_r0 (s_l11Private_ls n) n i ((List.range i).map pb)) (fun n => rfl) ?_
    unfold s_l11Private_r0
    obtain rfl : i = 256 := by omega
    exact Ev.df (by omega) (Ev.now _)
  | succ d ih =>
    intro i hi
    refine Ev.step (g := fun n => s_l11Private_r0 (s_l11Private_ls n) n i ((List.range i).map pb)) (fun n => rfl) ?_
    unfold s_l11Private_r0
    refine Ev.dt (by omega) (Ev.bind (Ev.all fun n => s_pb n i (by omega)) (Ev.dt (by simp; omega) ?_))
    rw [wI (by omega) (by omega), u8_pb]
    have e : (List.range i).map pb ++ (List.replicate 1 (0 : Int)).set 0 (pb i) = (List.range (i + 1)).map pb := by
      rw [List.range_succ, List.map_append]
      rfl
    rw [e]
    exact ih (i + 1) (by omega)
theorem s_l11Private_ev : Ev (fun n => s_l11Private n) PV := sPriv_loop 256 0 (by omega)
theorem iPriv_loop : ∀ (d i : Nat) (b : List Int), i + d = 256 → b.length = 256 → (∀ j, j < i → rd 0 b j = pb j) → Ev (fun n => i_privateData_ls n 256 (i : Int) b) PV := by
  intro d
  induction d with
  | zero =>
    intro i b hi hb hj
    refine Ev.step (g := fun n => i_privateData_r0 (i_privateData_ls n) n 256 i b) (fun n => rfl) ?_
    unfold i_privateData_r0
    have e : b = (List.range 256).map pb := by
      refine rd_ext (d := 0) (by simp [hb]) fun j h => ?_
      rw [hj j (by omega), rd_lt (by simp; omega)]
      simp
    exact Ev.df (by omega) (Ev.eq (Ev.now _) (by rw [e]; rfl))
  | succ d ih =>
    intro i b hi hb hj
    refine Ev.step (g := fun n => i_privateData_r0 (i_privateData_ls n) n 256 i b) (fun n => rfl) ?_
    unfold i_privateData_r0
    refine Ev.dt (by omega) (Ev.bind (Ev.all fun n => i_pb n i (by omega)) (Ev.dt (by omega) (Ev.dt (by rw [hb]; simp only [Int.ofNat_eq_natCast]; omega) ?_)))
    rw [wI (by omega) (by omega), u8_pb, Int.toNat_natCast]
    refine ih (i + 1) _ (by omega) (by simp [hb]) fun j h => ?_
    rw [rd_set (by omega)]
    by_cases e : i = j
    · rw [if_pos e, e]
    · rw [if_neg e]; exact hj j (by omega)
theorem i_privateData_ev : Ev (fun n => i_privateData n) PV := iPriv_loop 256 0 _ (by omega) rfl fun j h => by omega
/-- Memory ahead of the segments. -/
def H2 : ByteArray := rep 244 256
def M0 : List S_Page := [⟨4096, 3, PV⟩, ⟨16640, 4, H2⟩, ⟨19968, 3, ZZ⟩, ⟨20224, 3, ZZ⟩, ⟨32768, 3, PV⟩]
theorem Al.one {p q : S_Page} (hp : p.f0 % 256 = 0 ∧ -100000 ≤ p.f0 ∧ p.f0 ≤ 100000 ∧ p.f2.size = 256) : Al [p] := ⟨fun r hr => by simp at hr; exact hr ▸ hp, by simp⟩
theorem Al.nil : Al [] := ⟨fun r hr => by simp at hr, by simp⟩
theorem H2_size : H2.size = 256 := rep_size 244 256
theorem mix1 {t : ByteArray} (h : t.size = 256) : mix [ZZ] t = [t] := by
  rw [mix, if_neg (by omega)]
  have : mixB ZZ t = t := by
    apply bl_inj
    unfold mixB
    rw [h, bl_app, bl_ext, bl_ext, bl_ZZ]
    have := bl_len t
    rw [List.take_of_length_le (show (bl t).length ≤ min 256 256 by omega)]
    simp
  rw [this, mix]
theorem chunk1 {t : ByteArray} (h : t.size = 256) : chunks 1 t = [t] := by
  have : t.extract 0 256 = t := by
    apply bl_inj
    rw [bl_ext, List.take_of_length_le (by rw [bl_len]; omega)]
    rfl
  rw [chunks, this, chunks]
theorem chunk2 : chunks 2 (rep 0 512) = [ZZ, ZZ] := by
  rw [chunks_mix 2 (rep 0 0) (rep 0 512) (by rw [rep_size]; omega) (by rw [bl_rep, bl_rep, rep_size]; rfl)]
  rfl
/-- What the segments hold to. -/
structure Good (l : List S_Segment) (i : Nat) (M : List S_Page) : Prop where
  al : Al M
  len : M.length ≤ 5 + 14 * i
  at_ : ∀ q ∈ M, q.f0 < 16384 + fst_ l i ∨ 19968 ≤ q.f0
theorem seg_pages {s : S_Segment} (h2 : 1 ≤ s.f2) (h3 : s.f2 ≤ 3584) : ∃ k : Nat, up s.f2 = 256 * k ∧ 1 ≤ k ∧ k ≤ 14 := ⟨((s.f2 + 255) / 256).toNat, by unfold up; omega, by omega, by omega⟩
theorem segB_bl {s : S_Segment} (h1 : (s.f3.size : Int) ≤ s.f2) (h2 : 1 ≤ s.f2) (hf : s.f0 ≠ 5) {k : Nat} (hk : up s.f2 = 256 * k) : bl (segB s) = bl s.f3 ++ List.replicate (256 * k - s.f3.size) 0 := by
  unfold segB
  rw [if_neg hf, bl_app, bl_app, bl_rep, bl_rep, List.append_assoc, List.replicate_append_replicate]
  have : s.f2 ≤ up s.f2 := by unfold up; omega
  congr 2
  omega
theorem segB_run {s : S_Segment} (h1 : (s.f3.size : Int) = s.f2) (hf : s.f0 = 5) : segB s = s.f3 ++ rep 244 (up (s.f3.size : Int) - s.f3.size).toNat := by
  apply bl_inj
  unfold segB
  rw [if_pos hf, bl_app, bl_app, bl_app, bl_rep, bl_rep, bl_rep, h1]
  simp
theorem segB_size {s : S_Segment} (h1 : (s.f3.size : Int) ≤ s.f2) (h2 : 1 ≤ s.f2) {k : Nat} (hk : up s.f2 = 256 * k) : (segB s).size = 256 * k := by
  have : s.f2 ≤ up s.f2 := by unfold up; omega
  unfold segB
  rw [ByteArray.size_append, ByteArray.size_append, rep_size, rep_size]
  omega
end Go.Proofs.Ytigoabhkdipdeaa
/- MapImage: the segments one behind the other. -/
namespace Go.Proofs.Ytigoabhkdipdeaa
open Go Go.Proofs.Ytigoabhkdipdeaa.AM
set_option linter.all false
set_option maxRecDepth 8000
theorem chunks_size : ∀ (k : Nat) (t : ByteArray), t.size = 256 * k → ∀ d ∈ chunks k t, d.size = 256
  | 0, _, _, d, h => by simp [chunks] at h
  | k + 1, t, ht, d, h => by
    rw [chunks] at h
    rcases List.mem_cons.1 h with rfl | h
    · rw [ext_size _ _ _ (by omega)]
    · exact chunks_size k _ (by rw [ext_size _ _ _ (Nat.le_refl _)]; omega) d h
theorem fst_succ (l : List S_Segment) (i : Nat) : fst_ l (i + 1) = (rd z_Segment l i).f1 + up (rd z_Segment l i).f2 := by
  unfold fst_
  rw [if_neg (by omega)]
  rfl
theorem run_first {l : List S_Segment} {i : Nat} (hi : i < l.length) (hh : hadR l i = false) (h5 : (rd z_Segment l i).f0 = 5) : runS l = rd z_Segment l i := by
  have hj : ∀ j, j < i → isRun (rd z_Segment l j) = false := by
    intro j hj
    unfold hadR at hh
    rw [List.any_eq_false] at hh
    have := hh (rd z_Segment l j) (by
      rw [rd_lt (show j < l.length by omega)]
      refine List.mem_iff_getElem.2 ⟨j, by rw [List.length_take]; omega, by rw [List.getElem_take]⟩)
    simpa using this
  have := firstR_hit hi (by unfold isRun; rw [h5]; rfl) hj
  unfold runS
  rw [this, Int.toNat_natCast]
theorem map_loop (a : Int) (l : List S_Segment) (hl : l.length ≤ 4) (hp : Passed l l.length) (hr : hadR l l.length = true) : ∀ (d i : Nat) (M : List S_Page) (h tx sz : Int), i + d = l.length → Good l i M → (0 < i → h = fst_ l i) → (hadR l i = true → tx = 16384 + (runS l).f1 ∧ sz = up (runS l).f2) →
    ∃ M' : List S_Page, M'.length ≤ 61 ∧ (∀ q ∈ M', q.f2.size = 256) ∧
      Ev (fun n => s_l11Map_ls n (i : Int) a l [] 0 0 0 0 [] [] [] 0 M [] (IntKind.i64.wrap (16384 + a)) h tx sz [] [] [] 0) (M', IntKind.i64.wrap (16384 + a), fst_ l l.length, 16384 + (runS l).f1, up (runS l).f2, [], [], [], 0, ()) ∧
      Ev (fun n => (i_mapped_ls n).2 l (l.length : Int) (i : Int) a l 0 0 0 0 0 [] [] [] [] M) (M', IntKind.i64.wrap (16384 + a), fst_ l l.length, 16384 + (runS l).f1, up (runS l).f2, [], [], [], 0, ()) := by
  intro d
  induction d with
  | zero =>
    intro i M h tx sz hi hG hh ht
    have e : i = l.length := by omega
    subst e
    obtain ⟨b0, b1, b2, b3, b4, b5⟩ := entry_bounds hp hr
    have hpos : 0 < l.length := by omega
    obtain ⟨rfl, rfl⟩ := ht hr
    have hh := hh hpos
    subst hh
    refine ⟨M, by have := hG.len; omega, fun q hq => (hG.al.base q hq).2.2.2, ?_, ?_⟩
    · refine Ev.step (g := fun n => s_l11Map_r0 (s_l11Map_ls n) n (l.length : Int) a l [] 0 0 0 0 [] [] [] 0 M [] (IntKind.i64.wrap (16384 + a)) (fst_ l l.length) (16384 + (runS l).f1) (up (runS l).f2) [] [] [] 0) (fun n => rfl) ?_
      unfold s_l11Map_r0
      exact Ev.df (by simp only [Int.ofNat_eq_natCast]; omega) (Ev.now _)
    · refine Ev.step (g := fun n => i_mapped_r4 (i_mapped_ls n).1 (i_mapped_ls n).2 n l (l.length : Int) (l.length : Int) a l 0 0 0 0 0 [] [] [] [] M) (fun n => rfl) ?_
      unfold i_mapped_r4
      have hlast := hp (l.length - 1) (by omega)
      obtain ⟨_, g1, g2, g3, g4, _⟩ := sc_zero hlast
      have hf := (fst_nonneg (l := l) (i := l.length - 1) fun j hj => hp j (by omega)).1
      have hw : IntKind.i64.wrap (Int.ofNat l.length - 1) = ((l.length - 1 : Nat) : Int) := by rw [wI (by simp only [Int.ofNat_eq_natCast]; omega) (by simp only [Int.ofNat_eq_natCast]; omega)]; simp only [Int.ofNat_eq_natCast]; omega
      have hfs : fst_ l l.length = (rd z_Segment l (l.length - 1)).f1 + up (rd z_Segment l (l.length - 1)).f2 := by
        have := fst_succ l (l.length - 1)
        rwa [show l.length - 1 + 1 = l.length by omega] at this
      refine Ev.df (by omega) (Ev.bind (i_runSegment_ev l (by omega)) ?_)
      simp only [hw, Int.toNat_natCast]
      refine Ev.dt b0 (Ev.dt b1 (Ev.dt (by omega) (Ev.dt (by simp only [Int.ofNat_eq_natCast]; omega) ?_)))
      refine Ev.bind (Ev.all fun n => i_end_val n _ _ _ _ (by omega) (by omega) (by omega) (by omega)) (Ev.bind (Ev.all fun n => i_pages_val _ n (show (0 : Int) ≤ (runS l).f2 by omega) (show (runS l).f2 ≤ _ by omega)) ?_)
      refine Ev.eq (Ev.now _) ?_
      rw [show IntKind.i64.wrap ((16384 : Int) + (rd z_Segment l (firstR l).toNat).f1) = 16384 + (runS l).f1 from wI (show _ ≤ 16384 + (runS l).f1 by omega) (show 16384 + (runS l).f1 ≤ _ by omega), hfs]
      rfl
  | succ d ih =>
    intro i M h tx sz hi hG hh ht
    have hil : i < l.length := by omega
    have hi4 : i ≤ 3 := by omega
    obtain ⟨s, hs⟩ : ∃ s, s = rd z_Segment l i := ⟨_, rfl⟩
    have hsc := hp i hil
    rw [← hs] at hsc
    obtain ⟨g0, g1, g2, g3, g4, g5⟩ := sc_zero hsc
    have hf := (fst_nonneg (l := l) (i := i) fun j hj => hp j (by omega)).1
    have hv0 : 0 ≤ s.f1 := by omega
    rw [Int.tmod_eq_emod_of_nonneg hv0] at g1
    obtain ⟨k, hk, hk1, hk14⟩ := seg_pages (s := s) g3.1 (by omega)
    have hend : s.f1 + 256 * k ≤ 3584 := by unfold up at hk; omega
    have hwv : IntKind.i64.wrap (16384 + s.f1) = 16384 + s.f1 := wI (by omega) (by omega)
    have hfr : ∀ q ∈ M, ∀ j : Nat, j < k → q.f0 ≠ 16384 + s.f1 + 256 * j := fun q hq j hj => by
      rcases hG.at_ q hq with h | h <;> omega
    have hzz : ∀ x ∈ List.replicate k ZZ, x.size = 256 := fun x hx => by rw [List.eq_of_mem_replicate hx]; exact ZZ_size
    have hML := hG.len
    have hbs : (segB s).size = 256 * k := segB_size g4 g3.1 hk
    have hnew : Good l (i + 1) (lay (16384 + s.f1) (permF s.f0) (chunks k (segB s)) M) := by
      refine ⟨hG.al.lay (by omega) (by omega) (by rw [chunks_len]; omega) (chunks_size k _ hbs) (by rw [chunks_len]; exact hfr), by rw [lay_len, chunks_len]; omega, fun q hq => ?_⟩
      rw [fst_succ, ← hs, hk]
      rcases mem_lay hq with hq | ⟨j, h1, h2, _⟩
      · rcases hG.at_ q hq with h | h
        · left; omega
        · right; exact h
      · rw [chunks_len] at h1
        left
        omega
    have hup : up (s.f1 + s.f2) = s.f1 + 256 * k := by unfold up at hk ⊢; omega
    have had : hadR l (i + 1) = (hadR l i || isRun s) := by rw [hs]; exact hadR_succ hil
    have hsz5 : s.f3.size ≤ 3584 := by omega
    obtain ⟨M', m1, m2, m3, m4⟩ := ih (i + 1) (lay (16384 + s.f1) (permF s.f0) (chunks k (segB s)) M) (s.f1 + 256 * k) (if s.f0 = 5 then 16384 + s.f1 else tx) (if s.f0 = 5 then (256 * (k : Int)) else sz) (by omega) hnew (fun _ => by rw [fst_succ, ← hs, hk]) (fun hh' => by
      rw [had] at hh'
      by_cases c : s.f0 = 5
      · rw [if_pos c, if_pos c]
        have := run_first hil (g5 c).1 (by rw [← hs]; exact c)
        rw [this, ← hs, hk]
        exact ⟨rfl, rfl⟩
      · rw [if_neg c, if_neg c]
        refine ht ?_
        rw [Bool.or_eq_true] at hh'
        rcases hh' with h | h
        · exact h
        · exact absurd (eq_of_beq h) c)
    refine ⟨M', m1, m2, ?_, ?_⟩
    · refine Ev.step (g := fun n => s_l11Map_r0 (s_l11Map_ls n) n (i : Int) a l [] 0 0 0 0 [] [] [] 0 M [] (IntKind.i64.wrap (16384 + a)) h tx sz [] [] [] 0) (fun n => rfl) ?_
      unfold s_l11Map_r0
      rw [Int.toNat_natCast, ← hs]
      have hlt : (i : Int) < Int.ofNat l.length := by simp only [Int.ofNat_eq_natCast]; omega
      refine Ev.dt hlt (Ev.dt (by omega) (Ev.dt hlt (Ev.bind (Ev.all fun n => s_l11Perm_val n s.f0) ?_)))
      simp only [hwv]
      refine Ev.bind (s_l11Pages_ev (16384 + s.f1) (permF s.f0) s.f2 k M (by omega) (by unfold up at hk; omega) (by unfold up at hk; omega) (by omega) (by omega) (by omega) (by omega)) ?_
      have tail : ∀ (e8 : ByteArray) (t z : Int), mix (List.replicate k ZZ) e8 = chunks k (segB s) → e8.size ≤ 256 * k → t = (if s.f0 = 5 then 16384 + s.f1 else tx) → z = (if s.f0 = 5 then (256 * (k : Int)) else sz) →
          Ev (fun n => s_l11Map_j39 (s_l11Map_ls n) n (i : Int) e8 a l [] 0 0 0 0 [] [] [] 0 (lay (16384 + s.f1) (permF s.f0) (List.replicate k ZZ) M) [] (IntKind.i64.wrap (16384 + a)) h t z [] [] [] 0 s.f0 s.f1 s.f2 s.f3) (M', IntKind.i64.wrap (16384 + a), fst_ l l.length, 16384 + (runS l).f1, up (runS l).f2, [], [], [], 0, ()) := by
        rintro e8 t z hmix hsz rfl rfl
        unfold s_l11Map_j39
        rw [hwv]
        refine Ev.bind (s_l02Put_ev (permF s.f0) (List.replicate k ZZ) (16384 + s.f1) e8 M hG.al (by omega) (by omega) (by rw [List.length_replicate]; omega) hzz (by rw [List.length_replicate]; exact hfr) (by rw [List.length_replicate]; omega) (by rw [List.length_replicate]; exact hsz)) ?_
        rw [wI (n := s.f1 + s.f2) (by omega) (by omega), hmix]
        refine Ev.bind (s_l11Up_ev (s.f1 + s.f2) (by omega) (by omega)) ?_
        rw [hup, wI (by omega) (by omega)]
        exact m3
      by_cases c : s.f0 = 5
      · refine Ev.t (by simp [c]) ?_
        obtain ⟨_, q1, _⟩ := g5 c
        have hsB := segB_run q1 c
        have hupz : up (s.f3.size : Int) = 256 * k := by rw [q1]; exact hk
        have hw3 : IntKind.i64.wrap (up (Int.ofNat s.f3.size) - Int.ofNat s.f3.size) = ((256 * k - s.f3.size : Nat) : Int) := by
          rw [show up (Int.ofNat s.f3.size) = 256 * k from hupz, wI (by simp only [Int.ofNat_eq_natCast]; omega) (by simp only [Int.ofNat_eq_natCast]; omega)]
          simp only [Int.ofNat_eq_natCast]
          have : s.f2 ≤ up s.f2 := by unfold up; omega
          omega
        refine Ev.bind (s_l11Up_ev (Int.ofNat s.f3.size) (by simp only [Int.ofNat_eq_natCast]; omega) (by simp only [Int.ofNat_eq_natCast]; omega)) ?_
        rw [hw3]
        refine Ev.bind (s_l11Halts_ev (256 * k - s.f3.size) (by omega)) (Ev.df (small3 (by rw [rep_size]; omega)) ?_)
        have he8 : s.f3 ++ rep 244 (256 * k - s.f3.size) = segB s := by
          rw [hsB, hupz]
          congr 2
          omega
        rw [he8]
        refine tail (segB s) _ _ (chunks_mix k (segB s) (segB s) (by omega) (by rw [hbs, Nat.sub_self]; simp)).symm (by omega) (by rw [if_pos c]) (by rw [if_pos c, hbs]; simp only [Int.ofNat_eq_natCast]; omega)
      · refine Ev.f (by simp [c]) ?_
        have hle : s.f2 ≤ up s.f2 := by unfold up; omega
        exact tail s.f3 tx sz (chunks_mix k s.f3 (segB s) (by omega) (segB_bl g4 g3.1 c hk)).symm (by omega) (by rw [if_neg c]) (by rw [if_neg c])
    · refine Ev.step (g := fun n => i_mapped_r4 (i_mapped_ls n).1 (i_mapped_ls n).2 n l (l.length : Int) (i : Int) a l 0 0 0 0 0 [] [] [] [] M) (fun n => rfl) ?_
      unfold i_mapped_r4
      rw [Int.toNat_natCast, ← hs]
      refine Ev.dt (by omega) (Ev.dt (by omega) (Ev.dt (by simp only [Int.ofNat_eq_natCast]; omega) (Ev.bind (i_segmentPages_ev s g4 (by omega)) ?_)))
      rw [hwv]
      refine Ev.bind (i_laid_ev (permF s.f0) k (16384 + s.f1) (segB s) M hbs (by omega) (by omega) (by omega)) ?_
      rw [wI (by omega) (by omega)]
      exact m4
end Go.Proofs.Ytigoabhkdipdeaa
/- MapImage: its law. -/
namespace Go.Proofs.Ytigoabhkdipdeaa
open Go Go.Proofs.Ytigoabhkdipdeaa.AM
set_option linter.all false
set_option maxRecDepth 8000
/-! marks in lists of numbers -/
def mkI (e : Int) (L : Nat) : List Int := (List.range L).map fun j : Nat => e + (j : Int)
theorem rd_mkI (e : Int) (L j : Nat) (h : j < L) : rd 0 (mkI e L) j = e + (j : Int) := by
  unfold mkI
  rw [rd_lt (by simpa using h)]
  simp
theorem mkI_len (e : Int) (L : Nat) : (mkI e L).length = L := by simp [mkI]
theorem markIntS2 (e : Int) (L : Nat) (he : 0 ≤ e) (hL : e + L ≤ 100000000) : ∀ (d i : Nat) (b : List Int), i + d = L → b.length = L → (∀ j, j < i → rd 0 b j = e + (j : Int)) → Ev (fun n => w_markIntS_ls n (e + i) (i : Int) b) (e + L, mkI e L) := by
  intro d
  induction d with
  | zero =>
    intro i b hi hb hj
    refine Ev.step (g := fun n => w_markIntS_r0 (w_markIntS_ls n) n (e + i) i b) (fun n => rfl) ?_
    unfold w_markIntS_r0
    have eb : b = mkI e L := rd_ext (d := 0) (by rw [hb, mkI_len]) fun j h => by rw [rd_mkI _ _ _ (by omega), hj j (by omega)]
    refine Ev.df (by simp only [Int.ofNat_eq_natCast]; omega) (Ev.eq (Ev.now _) ?_)
    rw [eb, show i = L by omega]
  | succ d ih =>
    intro i b hi hb hj
    refine Ev.step (g := fun n => w_markIntS_r0 (w_markIntS_ls n) n (e + i) i b) (fun n => rfl) ?_
    unfold w_markIntS_r0
    refine Ev.dt (by simp only [Int.ofNat_eq_natCast]; omega) (Ev.dt (by omega) (Ev.dt (by simp only [Int.ofNat_eq_natCast]; omega) ?_))
    rw [wI (by omega) (by omega), wI (by omega) (by omega), Int.toNat_natCast, show e + (i : Int) + 1 = e + ((i + 1 : Nat) : Int) by omega]
    refine ih (i + 1) _ (by omega) (by simp [hb]) fun j h => ?_
    rw [rd_set (by omega)]
    by_cases c : i = j
    · rw [if_pos c, c]
    · rw [if_neg c]; exact hj j (by omega)
theorem w_markIntS_ev2 (b : List Int) (e : Int) (he : 0 ≤ e) (hL : e + b.length ≤ 100000000) : Ev (fun n => w_markIntS n b e) (e + b.length, mkI e b.length) := by
  have := markIntS2 e b.length he hL b.length 0 b (by omega) rfl (fun j h => by omega)
  rw [show e + ((0 : Nat) : Int) = e by omega] at this
  exact this
theorem heldIntS_loop (e : Int) (L : Nat) (he : 0 ≤ e) (hL : e + L ≤ 100000000) : ∀ (d i : Nat), i + d = L → Ev (fun n => w_heldIntS_ls n (mkI e L) (e + i) (i : Int)) (e + L) := by
  intro d
  induction d with
  | zero =>
    intro i hi
    refine Ev.step (g := fun n => w_heldIntS_r0 (w_heldIntS_ls n) n (mkI e L) (e + i) i) (fun n => rfl) ?_
    unfold w_heldIntS_r0
    rw [mkI_len]
    refine Ev.df (by simp only [Int.ofNat_eq_natCast]; omega) (Ev.eq (Ev.now _) (by rw [show i = L by omega]))
  | succ d ih =>
    intro i hi
    refine Ev.step (g := fun n => w_heldIntS_r0 (w_heldIntS_ls n) n (mkI e L) (e + i) i) (fun n => rfl) ?_
    unfold w_heldIntS_r0
    rw [mkI_len, Int.toNat_natCast, rd_mkI _ _ _ (by omega)]
    refine Ev.dt (by simp only [Int.ofNat_eq_natCast]; omega) (Ev.dt (by omega) (Ev.dt (by simp only [Int.ofNat_eq_natCast]; omega) (Ev.f (by simp) ?_)))
    rw [wI (by omega) (by omega), wI (by omega) (by omega), show e + (i : Int) + 1 = e + ((i + 1 : Nat) : Int) by omega]
    exact ih (i + 1) (by omega)
theorem w_heldIntS_ev (e : Int) (L : Nat) (he : 0 ≤ e) (hL : e + L ≤ 100000000) : Ev (fun n => w_heldIntS n (mkI e L) e) (e + L) := by
  have := heldIntS_loop e L he hL L 0 (by omega)
  rw [show e + ((0 : Nat) : Int) = e by omega] at this
  exact this
noncomputable def ldN (x : LdT) : Int := 1 + 3 * (x.1.length : Int) + x.2.2.2.2.2.1.length + x.2.2.2.2.2.2.1.length + x.2.2.2.2.2.2.2.1.length
noncomputable def ldM (x : LdT) : Int × List S_Page × List Int × List Int × List Int := (ldN x, mkPs 1 x.1.length, mkI (1 + 3 * (x.1.length : Int)) x.2.2.2.2.2.1.length, mkI (1 + 3 * (x.1.length : Int) + x.2.2.2.2.2.1.length) x.2.2.2.2.2.2.1.length, mkI (1 + 3 * (x.1.length : Int) + x.2.2.2.2.2.1.length + x.2.2.2.2.2.2.1.length) x.2.2.2.2.2.2.2.1.length)
theorem w_markLoaded_ev (x : LdT) (h0 : x.1.length ≤ 1048576) (h1 : x.2.2.2.2.2.1.length ≤ 1048576) (h2 : x.2.2.2.2.2.2.1.length ≤ 1048576) (h3 : x.2.2.2.2.2.2.2.1.length ≤ 1048576) : Ev (fun n => w_markLoaded n x 1) (ldM x) := by
  unfold w_markLoaded w_markMemory w_markReport
  exact Ev.bind (Ev.bind (w_markPageS_ev x.1 1 (by omega) (by omega)) (Ev.now _)) (Ev.bind (Ev.bind (w_markIntS_ev2 x.2.2.2.2.2.1 (1 + 3 * (x.1.length : Int)) (by omega) (by omega)) (Ev.bind (w_markIntS_ev2 x.2.2.2.2.2.2.1 _ (by omega) (by omega)) (Ev.bind (w_markIntS_ev2 x.2.2.2.2.2.2.2.1 _ (by omega) (by omega)) (Ev.now _)))) (Ev.now _))
theorem w_heldLoaded_ev (x : LdT) (h0 : x.1.length ≤ 1048576) (h1 : x.2.2.2.2.2.1.length ≤ 1048576) (h2 : x.2.2.2.2.2.2.1.length ≤ 1048576) (h3 : x.2.2.2.2.2.2.2.1.length ≤ 1048576) :
    Ev (fun n => w_heldLoaded n ((ldM x).2.1, x.2.1, x.2.2.1, x.2.2.2.1, x.2.2.2.2.1, (ldM x).2.2.1, (ldM x).2.2.2.1, (ldM x).2.2.2.2, x.2.2.2.2.2.2.2.2) 1) (ldN x) := by
  unfold w_heldLoaded w_heldMemory w_heldReport
  exact Ev.bind (Ev.bind (w_heldPageS_ev x.1.length 1 (by omega) (by omega)) (Ev.df (by omega) (Ev.now _))) (Ev.df (by omega) (Ev.bind (Ev.bind (w_heldIntS_ev _ _ (by omega) (by omega)) (Ev.df (by omega) (Ev.bind (w_heldIntS_ev _ _ (by omega) (by omega)) (Ev.df (by omega) (Ev.bind (w_heldIntS_ev _ _ (by omega) (by omega)) (Ev.df (by omega) (Ev.now _))))))) (Ev.df (by omega) (Ev.now _))))
theorem w_szSegment_val (n : Nat) (p : Int × Int × Int × ByteArray × Unit) (s : Int) (hs : 0 ≤ s ∧ s ≤ 1048576) (hp : p.2.2.2.1.size ≤ 9223372036854775807) :
    w_szSegment n p s = some (if s - p.2.2.2.1.size < 0 then -1 else s - p.2.2.2.1.size) := by
  unfold w_szSegment
  rw [wI (by simp only [Int.ofNat_eq_natCast]; omega) (by simp only [Int.ofNat_eq_natCast]; omega)]
  simp only [Int.ofNat_eq_natCast]
  by_cases h : s - (p.2.2.2.1.size : Int) < 0
  · simp [h]
  · simp [h]
theorem szSegmentS_loop (l : List S_Segment) (hl : l.length ≤ 9223372036854775807) (hy : ∀ y ∈ l, y.f3.size ≤ 9223372036854775807) : ∀ (d i : Nat) (s : Int), i + d = l.length → 0 ≤ s → s ≤ 1048576 → ∃ t, t ≤ s ∧ Ev (fun n => w_szSegmentS_ls n l s i) t := by
  intro d
  induction d with
  | zero =>
    intro i s hi h0 h1
    refine ⟨s, Int.le_refl _, Ev.step (g := fun n => w_szSegmentS_r0 (w_szSegmentS_ls n) n l s i) (fun n => rfl) ?_⟩
    unfold w_szSegmentS_r0
    exact Ev.df (by simp only [Int.ofNat_eq_natCast]; omega) (Ev.now _)
  | succ d ih =>
    intro i s hi h0 h1
    have hz := hy _ (AM.rd_mem (d := z_Segment) (show i < l.length by omega))
    have hv := fun n => w_szSegment_val n ((rd z_Segment l i).f0, (rd z_Segment l i).f1, (rd z_Segment l i).f2, (rd z_Segment l i).f3, ()) s ⟨h0, h1⟩ hz
    have st : ∀ t, Ev (fun n => bif decide ((if s - (rd z_Segment l i).f3.size < 0 then -1 else s - (rd z_Segment l i).f3.size) < (0 : Int)) then some (-1) else w_szSegmentS_ls n l (if s - (rd z_Segment l i).f3.size < 0 then -1 else s - (rd z_Segment l i).f3.size) ((i + 1 : Nat) : Int)) t → Ev (fun n => w_szSegmentS_ls n l s i) t := by
      intro t ht
      refine Ev.step (g := fun n => w_szSegmentS_r0 (w_szSegmentS_ls n) n l s i) (fun n => rfl) ?_
      unfold w_szSegmentS_r0
      refine Ev.dt (by simp only [Int.ofNat_eq_natCast]; omega) (Ev.dt (by omega) (Ev.dt (by simp only [Int.ofNat_eq_natCast]; omega) ?_))
      refine Ev.bind (Ev.all hv) ?_
      rw [wI (by omega) (by omega)]
      exact ht
    by_cases c : s - (rd z_Segment l i).f3.size < 0
    · refine ⟨-1, by omega, st _ ?_⟩
      simp only [if_pos c]
      exact Ev.dt (by decide) (Ev.now _)
    · obtain ⟨t, ht, hn⟩ := ih (i + 1) (s - (rd z_Segment l i).f3.size) (by omega) (by omega) (by omega)
      refine ⟨t, by omega, st _ ?_⟩
      simp only [if_neg c]
      exact Ev.df c hn
/-- How much an image holds: too much is told by a number below zero. -/
theorem w_szImage_ev (a : Int) (l : List S_Segment) (s : Int) (hs : 0 ≤ s ∧ s ≤ 1048576) (hl : l.length ≤ 9223372036854775807) (hy : ∀ y ∈ l, y.f3.size ≤ 9223372036854775807) : ∃ t, t ≤ s ∧ (0 ≤ t → l.length ≤ s) ∧ Ev (fun n => w_szImage n (a, l, ()) s) t := by
  have hw : IntKind.i64.wrap (s - Int.ofNat l.length) = s - l.length := by rw [wI (by simp only [Int.ofNat_eq_natCast]; omega) (by simp only [Int.ofNat_eq_natCast]; omega)]; rfl
  have h1 : ∃ t, t ≤ s ∧ (0 ≤ t → l.length ≤ s) ∧ Ev (fun n => w_szSegmentS n l s) t := by
    unfold w_szSegmentS w_szSegmentS_m
    rw [hw]
    by_cases c : s - (l.length : Int) < 0
    · exact ⟨-1, by omega, by omega, Ev.dt c (Ev.now _)⟩
    · obtain ⟨t, ht, hn⟩ := szSegmentS_loop l hl hy l.length 0 (s - l.length) (by omega) (by omega) (by omega)
      exact ⟨t, by omega, by omega, Ev.df c hn⟩
  obtain ⟨t, ht, hl', hn⟩ := h1
  by_cases c : t < 0
  · refine ⟨-1, by omega, by omega, ?_⟩
    unfold w_szImage
    exact Ev.bind hn (Ev.dt c (Ev.now _))
  · refine ⟨t, ht, hl', ?_⟩
    unfold w_szImage
    exact Ev.bind hn (Ev.df c (Ev.now _))
theorem toSegmentS_loop (l : List S_Segment) (hl : l.length ≤ 9223372036854775807) : ∀ (d i : Nat) (b : List S_Segment), i + d = l.length → b.length = l.length → (∀ j, j < i → rd z_Segment b j = rd z_Segment l j) → Ev (fun n => w_toSegmentS_ls n l (i : Int) b) l := by
  intro d
  induction d with
  | zero =>
    intro i b hi hb hj
    have e : b = l := rd_ext (d := z_Segment) hb fun j h => hj j (by omega)
    subst e
    refine Ev.step (g := fun n => w_toSegmentS_r0 (w_toSegmentS_ls n) n b i b) (fun n => rfl) ?_
    unfold w_toSegmentS_r0
    exact Ev.df (by simp only [Int.ofNat_eq_natCast]; omega) (Ev.now _)
  | succ d ih =>
    intro i b hi hb hj
    refine Ev.step (g := fun n => w_toSegmentS_r0 (w_toSegmentS_ls n) n l i b) (fun n => rfl) ?_
    unfold w_toSegmentS_r0
    refine Ev.dt (by simp only [Int.ofNat_eq_natCast]; omega) (Ev.dt (by omega) (Ev.dt (by simp only [Int.ofNat_eq_natCast]; omega) ?_))
    refine Ev.bind (Ev.all fun n => by unfold w_toSegment; rfl) (Ev.dt (by omega) (Ev.dt (by simp only [Int.ofNat_eq_natCast]; omega) ?_))
    rw [wI (by omega) (by omega)]
    exact ih (i + 1) _ (by omega) (by simp [hb]) (set_prefix (by omega) hb hj)
theorem w_toSegmentS_ev (l : List S_Segment) (hl : l.length ≤ 1048576) : Ev (fun n => w_toSegmentS n l) l := by
  unfold w_toSegmentS w_toSegmentS_m
  refine Ev.dt (Int.le_refl _) (Ev.dt (by simp only [Int.ofNat_eq_natCast]; omega) ?_)
  exact toSegmentS_loop l (by omega) l.length 0 _ (by omega) (by simp) (fun j hj => by omega)
theorem w_toImage_ev (a : Int) (l : List S_Segment) (hl : l.length ≤ 1048576) : Ev (fun n => w_toImage n (a, l, ())) (a, l, ()) := by
  unfold w_toImage
  exact Ev.bind (w_toSegmentS_ev l hl) (Ev.now _)
theorem ne_of {a b : Int} (h : a ≠ b) : (a == b) = false := beq_eq_false_iff_ne.2 h
theorem start_s (a : Int) (l : List S_Segment) (r : LdT) (h : Ev (fun n => s_l11Map_ls n 0 a l [] 0 0 0 0 [] [] [] 0 M0 [] (IntKind.i64.wrap (16384 + a)) 0 0 0 [] [] [] 0) r) : Ev (fun n => s_l11Map n (a, l, ())) r := by
  unfold s_l11Map s_l11Map_m
  have pg := fun (a perm : Int) (l : List S_Page) (h0 : -200000 ≤ a) (h1 : a ≤ 100000) (h2 : l.length ≤ 100) => s_l11Pages_ev a perm 256 1 l h0 (by omega) (by omega) (by omega) (by omega) (by omega) (by omega)
  have pZ : ∀ (b p : Int), b % 256 = 0 → -100000 ≤ b → b ≤ 99000 → Al [⟨b, p, PV⟩] := fun b p h0 h1 h2 => Al.one (q := ⟨0, 0, PV⟩) ⟨h0, h1, by show b ≤ 100000; omega, PV_size⟩
  refine Ev.bind (pg 4096 3 [] (by omega) (by omega) (by simp)) ?_
  refine Ev.bind (pg 32768 3 _ (by omega) (by omega) (by simp [lay_len])) (Ev.bind s_l11Private_ev ?_)
  have e1 : lay 32768 3 (List.replicate 1 ZZ) (lay 4096 3 (List.replicate 1 ZZ) []) = lay 4096 3 [ZZ] [⟨32768, 3, ZZ⟩] := rfl
  rw [e1]
  refine Ev.bind (s_l02Put_ev 3 [ZZ] 4096 PV [⟨32768, 3, ZZ⟩] (Al.one (q := ⟨0, 0, PV⟩) ⟨by decide, by decide, by decide, ZZ_size⟩) (by omega) (by omega) (by decide) (fun d hd => by simp at hd; exact hd ▸ ZZ_size) (fun q hq j hj => by simp at hq hj; subst hq; subst hj; decide) (by simp) (by rw [PV_size]; simp)) (Ev.bind s_l11Private_ev ?_)
  rw [mix1 PV_size]
  have e2 : lay 4096 3 [PV] [⟨32768, 3, ZZ⟩] = lay 32768 3 [ZZ] [⟨4096, 3, PV⟩] := rfl
  rw [e2]
  refine Ev.bind (s_l02Put_ev 3 [ZZ] 32768 PV [⟨4096, 3, PV⟩] (pZ 4096 3 (by omega) (by omega) (by omega)) (by omega) (by omega) (by decide) (fun d hd => by simp at hd; exact hd ▸ ZZ_size) (fun q hq j hj => by simp at hq hj; subst hq; subst hj; decide) (by simp) (by rw [PV_size]; simp)) ?_
  rw [mix1 PV_size]
  refine Ev.bind (pg 16640 4 _ (by omega) (by omega) (by simp [lay_len])) ?_
  refine Ev.bind (s_l11Halts_ev 256 (by omega)) ?_
  have hA2 : Al (lay 32768 3 [PV] [⟨4096, 3, PV⟩]) := (pZ 4096 3 (by omega) (by omega) (by omega)).lay (by omega) (by omega) (by decide) (fun d hd => by simp at hd; exact hd ▸ PV_size) (fun q hq j hj => by simp at hq hj; subst hq; subst hj; decide)
  refine Ev.bind (s_l02Put_ev 4 [ZZ] 16640 (rep 244 256) _ hA2 (by omega) (by omega) (by decide) (fun d hd => by simp at hd; exact hd ▸ ZZ_size) (fun q hq j hj => by
    simp [lay, insP] at hq hj
    subst hj
    rcases hq with rfl | rfl <;> decide) (by simp [lay_len]) (by rw [rep_size]; simp)) ?_
  rw [mix1 (rep_size 244 256)]
  refine Ev.bind (s_l11Pages_ev 19968 3 512 2 _ (by omega) (by omega) (by omega) (by omega) (by simp [lay_len]) (by omega) (by omega)) ?_
  exact h
theorem start_i (a : Int) (l : List S_Segment) (r : LdT) (h : Ev (fun n => (i_mapped_ls n).2 l (l.length : Int) 0 a l 0 0 0 0 0 [] [] [] [] M0) r) : Ev (fun n => i_mapped n (a, l, ())) r := by
  unfold i_mapped i_mapped_m
  have l1 : ∀ (a perm : Int) (l : List S_Page) (t : ByteArray), t.size = 256 → -200000 ≤ a → a ≤ 100000 → l.length ≤ 100 → Ev (fun n => i_laid n (l, ()) a perm t) (lay a perm [t] l, ()) := fun a perm l t ht h0 h1 h2 => by
    have := i_laid_ev perm 1 a t l (by omega) (by omega) h0 (by omega)
    rwa [chunk1 ht] at this
  refine Ev.step (g := fun n => i_mapped_r0 (i_mapped_ls n).1 (i_mapped_ls n).2 n [4096, 32768] 2 0 a l 0 0 0 0 0 [] [] [] [] []) (fun n => rfl) ?_
  unfold i_mapped_r0
  refine Ev.dt (by decide) (Ev.dt (by decide) (Ev.dt (by decide) (Ev.bind i_privateData_ev (Ev.bind (l1 4096 3 [] PV PV_size (by omega) (by omega) (by simp)) ?_))))
  refine Ev.step (g := fun n => i_mapped_r0 (i_mapped_ls n).1 (i_mapped_ls n).2 n [4096, 32768] 2 1 a l 0 0 0 0 0 [] [] [] [] [⟨4096, 3, PV⟩]) (fun n => rfl) ?_
  unfold i_mapped_r0
  refine Ev.dt (by decide) (Ev.dt (by decide) (Ev.dt (by decide) (Ev.bind i_privateData_ev (Ev.bind (l1 32768 3 [⟨4096, 3, PV⟩] PV PV_size (by omega) (by omega) (by simp)) ?_))))
  refine Ev.step (g := fun n => i_mapped_r0 (i_mapped_ls n).1 (i_mapped_ls n).2 n [4096, 32768] 2 2 a l 0 0 0 0 0 [] [] [] [] [⟨4096, 3, PV⟩, ⟨32768, 3, PV⟩]) (fun n => rfl) ?_
  unfold i_mapped_r0
  refine Ev.df (by decide) (Ev.bind (x196_ev 244 256 (by omega) (by omega)) (Ev.bind (l1 16640 4 _ _ (rep_size 244 256) (by omega) (by omega) (by simp)) (Ev.bind (x196_ev 0 512 (by omega) (by omega)) ?_)))
  have := i_laid_ev 3 2 19968 (rep 0 512) (lay 16640 4 [rep 244 256] [⟨4096, 3, PV⟩, ⟨32768, 3, PV⟩]) (by rw [rep_size]) (by simp [lay_len]) (by omega) (by omega)
  rw [chunk2] at this
  refine Ev.bind this ?_
  exact h
theorem good0 (l : List S_Segment) : Good l 0 M0 := by
  refine ⟨⟨fun q hq => ?_, ?_⟩, by simp [M0], fun q hq => ?_⟩
  · simp only [M0, List.mem_cons, List.not_mem_nil, or_false] at hq
    rcases hq with rfl | rfl | rfl | rfl | rfl
    · exact ⟨by decide, by decide, by decide, PV_size⟩
    · exact ⟨by decide, by decide, by decide, H2_size⟩
    · exact ⟨by decide, by decide, by decide, ZZ_size⟩
    · exact ⟨by decide, by decide, by decide, ZZ_size⟩
    · exact ⟨by decide, by decide, by decide, PV_size⟩
  · simp [M0]
  · simp only [M0, List.mem_cons, List.not_mem_nil, or_false] at hq
    have e : fst_ l 0 = 512 := rfl
    rw [e]
    rcases hq with rfl | rfl | rfl | rfl | rfl <;> decide
theorem MapImage_ex (a : Int) (l : List S_Segment) (hl : l.length ≤ 1048576) : ∃ r : LdT × Int, r.1.1.length ≤ 61 ∧ (∀ q ∈ r.1.1, q.f2.size = 256) ∧ r.1.2.2.2.2.2.1 = [] ∧ r.1.2.2.2.2.2.2.1 = [] ∧ r.1.2.2.2.2.2.2.2.1 = [] ∧ Ev (fun n => s_MapImage n (a, l, ())) r ∧ Ev (fun n => i_MapImage n (a, l, ())) r := by
  have hc := s_l10Check_ev a l hl
  have hi := i_CheckImage_ev a l hl
  unfold s_MapImage i_MapImage
  by_cases c : (CI a l).2 = 0
  · have hlen : l.length ≤ 4 ∧ l.length ≠ 0 := by
      unfold CI at c
      split at c
      · cases c
      · split at c
        · cases c
        · omega
    have hcodes : (codes l 0 l.length).2 = 0 := by
      unfold CI at c
      rw [if_neg hlen.2, if_neg (by omega)] at c
      split at c
      · assumption
      · assumption
    obtain ⟨hp, hr, _⟩ := codes_zero l l.length 0 (by omega) (fun j hj => absurd hj (Nat.not_lt_zero _)) hcodes
    obtain ⟨M', m1, m2, m3, m4⟩ := map_loop a l hlen.1 hp hr l.length 0 M0 0 0 0 (by omega) (good0 l) (fun h => absurd h (Nat.lt_irrefl _)) (fun h => by cases h)
    refine ⟨((M', IntKind.i64.wrap (16384 + a), fst_ l l.length, 16384 + (runS l).f1, up (runS l).f2, [], [], [], 0, ()), 0), m1, m2, rfl, rfl, rfl, Ev.bind hc (Ev.f (by simp [c]) (Ev.bind (start_s a l _ m3) (Ev.now _))), Ev.bind hi (Ev.f (by simp [c]) (Ev.bind (start_i a l _ m4) (Ev.now _)))⟩
  · refine ⟨(([], 0, 0, 0, 0, [], [], [], 0, ()), (CI a l).2), by simp, (fun q hq => by cases hq), rfl, rfl, rfl, Ev.bind hc (Ev.t (by simp [c]) (Ev.now _)), Ev.bind hi (Ev.t (by simp [c]) (Ev.now _))⟩
theorem FnExactMapImage_ev (a : Int) (l : List S_Segment) (hl : l.length ≤ 9223372036854775807) (hy : ∀ y ∈ l, y.f3.size ≤ 9223372036854775807) : Ev (fun n => w_FnExactMapImage n (a, l, ())) true := by
  obtain ⟨t, h1, h2, h3⟩ := w_szImage_ev a l 1048576 (by omega) hl hy
  unfold w_FnExactMapImage
  refine Ev.bind h3 (Ev.dcases (fun _ => Ev.now _) fun c => ?_)
  have h2' := h2 (by omega)
  have tI := w_toImage_ev a l (by omega)
  obtain ⟨r, r0, rq, r1, r2, r3, hs, hi⟩ := MapImage_ex a l (by omega)
  have eq := w_eqLoaded_refl r.1 ⟨by omega, fun y hy => by rw [rq y hy]; omega, ⟨by rw [r1]; simp, by rw [r2]; simp, by rw [r3]; simp⟩⟩
  have eI := w_eqImage_refl (a, l, ()) (by show l.length ≤ _; omega)
  have mI := w_markImage_ev (a, l, ()) (by show l.length ≤ _; omega)
  have mL := w_markLoaded_ev r.1 (by omega) (by rw [r1]; simp) (by rw [r2]; simp) (by rw [r3]; simp)
  have hL := w_heldLoaded_ev r.1 (by omega) (by rw [r1]; simp) (by rw [r2]; simp) (by rw [r3]; simp)
  have hN : 0 ≤ ldN r.1 := by unfold ldN; omega
  refine Ev.bind tI (Ev.bind hs (Ev.bind tI (Ev.bind hi (Ev.bind eq (Ev.f rfl (Ev.f (by simp) (Ev.bind tI (Ev.bind eI (Ev.f rfl ?_)))))))))
  refine Ev.bind mI (Ev.df (by show ¬ (1 + 4 * (l.length : Int) < 0); omega) (Ev.bind eq (Ev.f rfl (Ev.f (by simp) (Ev.bind mL (Ev.bind hL (Ev.df (by omega) (Ev.f (by simp [ldM]) ?_))))))))
  refine Ev.bind tI (Ev.bind hi (Ev.bind eq (Ev.f rfl (Ev.f (by simp) (Ev.bind hL (Ev.df (by omega) (Ev.f (by simp [ldM]) (Ev.now _))))))))
end Go.Proofs.Ytigoabhkdipdeaa

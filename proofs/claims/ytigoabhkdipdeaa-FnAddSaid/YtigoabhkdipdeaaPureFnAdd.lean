/- A sum is what the registers of its size hold, its carry goes on, what was added is taken away again, and comparing tells how numbers stand, for all bytes. No condition. -/
import Derived.Test.YtigoabhkdipdeaaPFnAddx0
import Derived.Test.YtigoabhkdipdeaaPFnAddx1
import Derived.Test.YtigoabhkdipdeaaPFnAddx2
import Derived.Test.YtigoabhkdipdeaaPFnAddx3
import Derived.Test.YtigoabhkdipdeaaPFnAddx4
import Derived.Test.YtigoabhkdipdeaaPFnAddx5
import Derived.Test.YtigoabhkdipdeaaNNum
namespace Go.Proofs.Ytigoabhkdipdeaa.Pure
open Go.RowKit Go.Proofs.Ytigoabhkdipdeaa.PFnAdd Go.Proofs.YtigoabhkdipdeaaW.PrintWords Go.Proofs.YtigoabhkdipdeaaW.PrintLast Go.Proofs.YtigoabhkdipdeaaW.PrintMore Go.Proofs.Ytigoabhkdipdeaa.Num
set_option linter.unusedSimpArgs false
set_option linter.unusedVariables false

theorem wf8 {a : Int} (h : (Lit.int .u8 a).wf = true) : 0 ≤ a ∧ a ≤ 255 := by
  simp only [Lit.wf, IntKind.min, IntKind.max, IntKind.signed, IntKind.bits, Bool.and_eq_true, decide_eq_true_eq] at h
  have h2 := h.2
  have h1 := h.1
  simp at h1 h2
  omega
def I6 (v : Int) : Prop := -9223372036854775808 ≤ v ∧ v ≤ 9223372036854775807
theorem i6_wrap (x : Int) : I6 (wrap64 x) := by unfold I6 wrap64; omega
theorem i6_i64 (x : Int) : I6 (IntKind.i64.wrap x) := by rw [i64_wrap]; exact i6_wrap x
theorem i6_bv (x : BitVec 64) : I6 x.toInt := by
  have h1 := BitVec.le_toInt x
  have h2 := BitVec.toInt_lt (x := x)
  unfold I6
  have e : (2 : Int) ^ (64 - 1) = 9223372036854775808 := by decide
  rw [e] at h1 h2
  omega
theorem rd_byte {l : List Int} (hb : ∀ x ∈ l, 0 ≤ x ∧ x ≤ 255) (i : Int) : 0 ≤ rd l i ∧ rd l i ≤ 255 := by
  unfold rd
  rw [List.getD_eq_getElem?_getD]
  cases h : l[i.toNat]? with
  | none => exact ⟨by decide, by decide⟩
  | some x => exact hb x (List.mem_of_getElem? h)
section
variable {l : List Int} (hl : l.length ≤ 1048576) (hb : ∀ x ∈ l, 0 ≤ x ∧ x ≤ 255)
include hl hb
theorem byte_ok {a s : Int} (ha : 0 ≤ a ∧ a ≤ 1000) (hs : 0 ≤ s ∧ s ≤ 2147483647) : ∃ v s', spec_l00Src_byte.f l a s = some (v, a + 1, s') ∧ (0 ≤ v ∧ v ≤ 255) ∧ (0 ≤ s' ∧ s' ≤ 2147483647) := by
  have hr := rd_byte hb a
  unfold spec_l00Src_byte.f
  rw [if_pos ⟨⟨ha.1, by omega⟩, hs, by omega⟩]
  by_cases c : a < l.length
  · rw [if_pos c, if_pos hr]
    exact ⟨_, _, rfl, hr, by omega⟩
  · rw [if_neg c, if_neg (by omega)]
    exact ⟨_, _, rfl, by omega, by omega⟩
theorem next_ok {a s n : Int} (ha : 0 ≤ a ∧ a ≤ 1000) (hs : 0 ≤ s ∧ s ≤ 2147483647) (hn : 2 ≤ n ∧ n ≤ 256) : ∃ v s', spec_l00Src_next.f l a s n = some (v, a + 1, s') ∧ (0 ≤ v ∧ v < n) ∧ (0 ≤ s' ∧ s' ≤ 2147483647) := by
  obtain ⟨v, s', h, hv, hs'⟩ := byte_ok hl hb ha hs
  unfold spec_l00Src_next.f
  rw [if_neg (by omega), if_pos hn.2, h]
  simp only [Option.bind_some]
  rw [if_neg (by omega), Int.tmod_eq_emod_of_nonneg hv.1]
  exact ⟨_, _, rfl, ⟨Int.emod_nonneg _ (by omega), Int.emod_lt_of_pos _ (by omega)⟩, hs'⟩
theorem next_big {a s n : Int} (ha : 0 ≤ a ∧ a ≤ 900) (hs : 0 ≤ s ∧ s ≤ 2147483647) (hn : 256 < n ∧ n ≤ 1000) : ∃ v s', spec_l00Src_next.f l a s n = some (v, a + 1 + 1 + 1, s') ∧ (0 ≤ v ∧ v < n) ∧ (0 ≤ s' ∧ s' ≤ 2147483647) := by
  obtain ⟨v1, s1, e1, hv1, hs1⟩ := byte_ok hl hb (a := a) ⟨ha.1, by omega⟩ hs
  obtain ⟨v2, s2, e2, hv2, hs2⟩ := byte_ok hl hb (a := a + 1) ⟨by omega, by omega⟩ hs1
  obtain ⟨v3, s3, e3, hv3, hs3⟩ := byte_ok hl hb (a := a + 1 + 1) ⟨by omega, by omega⟩ hs2
  unfold spec_l00Src_next.f
  rw [if_neg (by omega), if_neg (by omega), e1]
  simp only [Option.bind_some]
  rw [e2]
  simp only [Option.bind_some]
  rw [e3]
  simp only [Option.bind_some]
  rw [if_neg (by omega), w64 (n := v1 * 65536) (by omega) (by omega), w64 (n := v2 * 256) (by omega) (by omega), w64 (n := v1 * 65536 + v2 * 256) (by omega) (by omega), w64 (n := v1 * 65536 + v2 * 256 + v3) (by omega) (by omega), Int.tmod_eq_emod_of_nonneg (by omega)]
  exact ⟨_, _, rfl, ⟨Int.emod_nonneg _ (by omega), Int.emod_lt_of_pos _ (by omega)⟩, hs3⟩
theorem word_ok {a s : Int} (ha : 0 ≤ a ∧ a ≤ 900) (hs : 0 ≤ s ∧ s ≤ 2147483647) : ∃ v s', spec_l00Src_word.f l a s = some (v, a + 1 + 1 + 1 + 1, s') ∧ I6 v ∧ (0 ≤ s' ∧ s' ≤ 2147483647) := by
  obtain ⟨v1, s1, e1, hv1, hs1⟩ := byte_ok hl hb (a := a) ⟨ha.1, by omega⟩ hs
  obtain ⟨v2, s2, e2, hv2, hs2⟩ := byte_ok hl hb (a := a + 1) ⟨by omega, by omega⟩ hs1
  obtain ⟨v3, s3, e3, hv3, hs3⟩ := byte_ok hl hb (a := a + 1 + 1) ⟨by omega, by omega⟩ hs2
  obtain ⟨v4, s4, e4, hv4, hs4⟩ := byte_ok hl hb (a := a + 1 + 1 + 1) ⟨by omega, by omega⟩ hs3
  unfold spec_l00Src_word.f
  rw [e1]
  simp only [Option.bind_some]
  rw [e2]
  simp only [Option.bind_some]
  rw [e3]
  simp only [Option.bind_some]
  rw [e4]
  simp only [Option.bind_some]
  exact ⟨_, _, rfl, i6_wrap _, hs4⟩
theorem odd_ok {a s : Int} (ha : 0 ≤ a ∧ a ≤ 900) (hs : 0 ≤ s ∧ s ≤ 2147483647) : ∃ v a' s', spec_l00Src_odd.f l a s = some (v, a', s') ∧ I6 v := by
  obtain ⟨v, s', h, hv, hs'⟩ := next_ok hl hb (a := a) (n := 15) ⟨ha.1, by omega⟩ hs ⟨by decide, by decide⟩
  unfold spec_l00Src_odd.f
  simp only [Option.bind_some]
  rw [h]
  simp only [Option.bind_some]
  rw [if_pos hv.1, if_pos (show v < (([0, (-1), 1, 2, 31, 32, 33, 255, 256, 4095, 4096, 16384, 9223372036854775807, (-9223372036854775808), 30] : List Int).length : Int) from hv.2)]
  refine ⟨_, _, _, rfl, ?_⟩
  have key : ∀ x ∈ ([0, (-1), 1, 2, 31, 32, 33, 255, 256, 4095, 4096, 16384, 9223372036854775807, (-9223372036854775808), 30] : List Int), I6 x := by
    intro x hx
    unfold I6
    simp only [List.mem_cons, List.not_mem_nil, or_false] at hx
    omega
  unfold rd
  rw [List.getD_eq_getElem?_getD]
  cases h : ([0, (-1), 1, 2, 31, 32, 33, 255, 256, 4095, 4096, 16384, 9223372036854775807, (-9223372036854775808), 30] : List Int)[v.toNat]? with
  | none => unfold I6; simp
  | some x => exact key x (List.mem_of_getElem? h)
theorem wide_ok {a s : Int} (ha : 0 ≤ a ∧ a ≤ 800) (hs : 0 ≤ s ∧ s ≤ 2147483647) : ∃ v a' s', spec_l00Src_wide.f l a s = some (v, a', s') ∧ I6 v := by
  obtain ⟨v, s1, h, hv, hs1⟩ := next_ok hl hb (a := a) (n := 8) ⟨ha.1, by omega⟩ hs ⟨by decide, by decide⟩
  have ha1 : 0 ≤ a + 1 ∧ a + 1 ≤ 890 := by omega
  unfold spec_l00Src_wide.f
  rw [h]
  simp only [Option.bind_some]
  by_cases c0 : v = 0
  · rw [if_pos c0]
    obtain ⟨v1, s2, e1, hv1, hs2⟩ := word_ok hl hb (a := a + 1) ⟨by omega, by omega⟩ hs1
    obtain ⟨v2, s3, e2, hv2, hs3⟩ := word_ok hl hb (a := a + 1 + 1 + 1 + 1 + 1) ⟨by omega, by omega⟩ hs2
    rw [e1]
    simp only [Option.bind_some]
    rw [e2]
    simp only [Option.bind_some]
    exact ⟨_, _, _, rfl, by rw [or64]; exact i6_bv _⟩
  rw [if_neg c0]
  by_cases c1 : v = 1
  · rw [if_pos c1]
    obtain ⟨v1, a2, s2, e1, hv1⟩ := odd_ok hl hb (a := a + 1) ⟨by omega, by omega⟩ hs1
    rw [e1]
    simp only [Option.bind_some]
    exact ⟨_, _, _, rfl, hv1⟩
  rw [if_neg c1]
  by_cases c2 : v = 2
  · rw [if_pos c2]
    obtain ⟨v1, s2, e1, hv1, hs2⟩ := next_big hl hb (a := a + 1) (n := 300) ⟨by omega, by omega⟩ hs1 ⟨by decide, by decide⟩
    rw [e1]
    simp only [Option.bind_some]
    exact ⟨_, _, _, rfl, i6_wrap _⟩
  rw [if_neg c2]
  by_cases c3 : v = 3
  · rw [if_pos c3]
    obtain ⟨v1, s2, e1, hv1, hs2⟩ := word_ok hl hb (a := a + 1) ⟨by omega, by omega⟩ hs1
    rw [e1]
    simp only [Option.bind_some]
    exact ⟨_, _, _, rfl, i6_wrap _⟩
  rw [if_neg c3]
  by_cases c4 : v = 4
  · rw [if_pos c4]
    obtain ⟨v1, s2, e1, hv1, hs2⟩ := next_ok hl hb (a := a + 1) (n := 64) ⟨by omega, by omega⟩ hs1 ⟨by decide, by decide⟩
    rw [e1]
    simp only [Option.bind_some]
    rw [if_pos (by rw [u64]; omega)]
    exact ⟨_, _, _, rfl, by unfold shl; exact i6_i64 _⟩
  rw [if_neg c4]
  by_cases c5 : v = 5
  · rw [if_pos c5]
    obtain ⟨v1, s2, e1, hv1, hs2⟩ := next_ok hl hb (a := a + 1) (n := 63) ⟨by omega, by omega⟩ hs1 ⟨by decide, by decide⟩
    rw [e1]
    simp only [Option.bind_some]
    rw [if_pos (by rw [u64]; omega)]
    exact ⟨_, _, _, rfl, i6_wrap _⟩
  rw [if_neg c5]
  obtain ⟨v1, s2, e1, hv1, hs2⟩ := next_big hl hb (a := a + 1) (n := 300) ⟨by omega, by omega⟩ hs1 ⟨by decide, by decide⟩
  rw [e1]
  simp only [Option.bind_some]
  exact ⟨_, _, _, rfl, by unfold I6; omega⟩
theorem number_ok : ∃ v, spec_NumberOf.f l = some v ∧ I6 v := by
  obtain ⟨v, a', s', h, hv⟩ := wide_ok hl hb (a := 0) (s := (l.length : Int) % 1000) ⟨by decide, by decide⟩ ⟨by omega, by omega⟩
  refine ⟨v, ?_, hv⟩
  unfold spec_NumberOf.f spec_l00Source.f
  simp only [Option.bind_some]
  rw [h]
  rfl
/-- All sets of flags. -/
def FLS : List Int := (List.range 32).map fun i => ((if i % 2 = 1 then 1 else 0) + (if i / 2 % 2 = 1 then 4 else 0) + (if i / 4 % 2 = 1 then 64 else 0) + (if i / 8 % 2 = 1 then 128 else 0) + (if i / 16 % 2 = 1 then 2048 else 0) : Int)
omit hl hb in
theorem fls_or : ∀ f ∈ FLS, ∀ g ∈ FLS, Go.bits .or .i64 f g ∈ FLS := by
  have key : (FLS.all fun f => FLS.all fun g => FLS.contains (Go.bits .or .i64 f g)) = true := by kernel_rfl
  intro f hf g hg
  have := List.all_eq_true.1 (List.all_eq_true.1 key f hf) g hg
  exact List.contains_iff_mem.1 this
omit hl hb in
theorem fls_flag : ∀ b ∈ ([1, 4, 64, 128, 2048] : List Int), b ∈ FLS := by
  have key : (([1, 4, 64, 128, 2048] : List Int).all fun f => FLS.contains f) = true := by kernel_rfl
  intro f hf
  exact List.contains_iff_mem.1 (List.all_eq_true.1 key f hf)
omit hl hb in
theorem fls_zero : (0 : Int) ∈ FLS := List.contains_iff_mem.1 (show FLS.contains 0 = true by kernel_rfl)
theorem flags_loop (d : Nat) : ∀ (i f a s : Int), 0 ≤ i → (5 : Int) - i = d → f ∈ FLS → (0 ≤ a ∧ a ≤ 100 + i) → (0 ≤ s ∧ s ≤ 2147483647) → ∃ f' a' s', spec_l00Src_flags.l0 (d + 1) f [1, 4, 64, 128, 2048] 5 i l a s = some (f', a', s') ∧ f' ∈ FLS := by
  induction d with
  | zero =>
    intro i f a s h0 h1 hf ha hs
    refine ⟨f, a, s, ?_, hf⟩
    simp only [spec_l00Src_flags.l0]
    rw [if_neg (by omega)]
  | succ d ih =>
    intro i f a s h0 h1 hf ha hs
    obtain ⟨v, s', h, hv, hs'⟩ := next_ok hl hb (a := a) (n := 2) ⟨ha.1, by omega⟩ hs ⟨by decide, by decide⟩
    have hw : wrap64 (i + 1) = i + 1 := w64 (by omega) (by omega)
    have hm : rd ([1, 4, 64, 128, 2048] : List Int) i ∈ FLS := by
      refine fls_flag _ ?_
      unfold rd
      rw [List.getD_eq_getElem?_getD, List.getElem?_eq_getElem (show i.toNat < ([1, 4, 64, 128, 2048] : List Int).length by simp only [List.length_cons, List.length_nil]; omega)]
      exact List.getElem_mem _
    simp only [spec_l00Src_flags.l0]
    rw [if_pos (by omega), if_pos h0, if_pos (show i < (([1, 4, 64, 128, 2048] : List Int).length : Int) by simp only [List.length_cons, List.length_nil]; omega)]
    unfold spec_l00Src_chance.f
    rw [h]
    simp only [Option.bind_some]
    by_cases c : (v == wrap64 (2 - 1)) = true
    · rw [if_pos c, hw]
      exact ih (i + 1) _ (a + 1) s' (by omega) (by omega) (fls_or _ hf _ hm) (by omega) hs'
    · rw [if_neg c, hw]
      exact ih (i + 1) _ (a + 1) s' (by omega) (by omega) hf (by omega) hs'
theorem flags_ok : ∃ f, spec_FlagsDrawn.f 6 l = some f ∧ f ∈ FLS := by
  obtain ⟨f', a', s', h, hf⟩ := flags_loop hl hb 5 0 0 0 ((l.length : Int) % 1000) (by decide) (by decide) fls_zero ⟨by decide, by decide⟩ ⟨by omega, by omega⟩
  refine ⟨f', ?_, hf⟩
  unfold spec_FlagsDrawn.f spec_l00Source.f spec_l00Src_flags.f
  simp only [Option.bind_some]
  rw [show ((([1, 4, 64, 128, 2048] : List Int).length : Int)) = 5 from rfl, h]
  rfl
theorem size_ok : ∃ n, laws_sizeAt.f l 0 = some n ∧ (n = 1 ∨ n = 2 ∨ n = 4 ∨ n = 8) := by
  have hat : ∃ v, laws_at.f l 0 4 = some v ∧ 0 ≤ v ∧ v < 4 := by
    unfold laws_at.f
    rw [if_neg (by decide)]
    by_cases c : (l.length : Int) = 0
    · rw [if_pos c, if_neg (by decide), w64 (n := (0 : Int) * 7) (by omega) (by omega)]
      exact ⟨_, rfl, by decide, by decide⟩
    · rw [if_neg c]
      have hp : (0 : Int) < l.length := by omega
      have e1 : Int.tmod 0 (l.length : Int) = 0 := Int.zero_tmod _
      have e2 : wrap64 (0 + 1) = 1 := w64 (by omega) (by omega)
      have h2 : 0 ≤ Int.tmod 1 (l.length : Int) ∧ Int.tmod 1 (l.length : Int) < l.length := by
        rw [Int.tmod_eq_emod_of_nonneg (by decide)]
        exact ⟨Int.emod_nonneg _ (by omega), Int.emod_lt_of_pos _ hp⟩
      rw [e1, e2, if_pos (by decide), if_pos hp, if_pos h2.1, if_pos h2.2, if_neg (by decide), Int.zero_tdiv]
      have r1 := rd_byte hb 0
      have r2 := rd_byte hb (Int.tmod 1 (l.length : Int))
      generalize rd l (Int.tmod 1 (l.length : Int)) = y at r2 ⊢
      generalize rd l 0 = x at r1 ⊢
      rw [w64 (n := x) (by omega) (by omega), w64 (n := x * 31) (by omega) (by omega), w64 (n := y) (by omega) (by omega), w64 (n := x * 31 + y) (by omega) (by omega), w64 (n := (0 : Int)) (by omega) (by omega), w64 (n := x * 31 + y + 0) (by omega) (by omega), Int.tmod_eq_emod_of_nonneg (by omega)]
      exact ⟨_, rfl, by omega, by omega⟩
  obtain ⟨v, h, h0, h1⟩ := hat
  unfold laws_sizeAt.f
  simp only [Option.bind_some]
  rw [h]
  simp only [Option.bind_some]
  rw [if_pos h0, if_pos (show v < (([1, 2, 4, 8] : List Int).length : Int) by simp only [List.length_cons, List.length_nil]; omega)]
  refine ⟨_, rfl, ?_⟩
  have : v = 0 ∨ v = 1 ∨ v = 2 ∨ v = 3 := by omega
  rcases this with rfl | rfl | rfl | rfl
  · left; rfl
  · right; left; rfl
  · right; right; left; rfl
  · right; right; right; rfl
end

theorem bit_val (a i : Int) (h0 : 0 ≤ i) (h1 : i ≤ 63) : spec_l01Bit.f a i = some ((a % 18446744073709551616) / 2 ^ i.toNat % 2) := by
  have hi : IntKind.u64.wrap i = i := by rw [u64]; omega
  unfold spec_l01Bit.f
  rw [hi, if_pos h0, u64]
  have hn : min i.toNat 64 = i.toNat := by omega
  have e : shr .u64 (a % 18446744073709551616) i = (a % 18446744073709551616) / 2 ^ i.toNat := by unfold shr; simp only [IntKind.bits]; rw [hn]
  rw [e]
  have hp : (0 : Int) < 2 ^ i.toNat := Int.pow_pos (by decide)
  have hnn : 0 ≤ (a % 18446744073709551616) / 2 ^ i.toNat := Int.ediv_nonneg (by omega) (by omega)
  rw [Int.tmod_eq_emod_of_nonneg hnn]
  split <;> simp <;> omega
theorem mod_step (u : Int) (n : Nat) : u % 2 ^ (n + 1) = u / 2 ^ n % 2 * 2 ^ n + u % 2 ^ n := by
  have hp : (0 : Int) < 2 ^ n := Int.pow_pos (by decide)
  have h1 := Int.emod_add_mul_ediv u (2 ^ n)
  have h2 := Int.emod_add_mul_ediv (u / 2 ^ n) 2
  have h3 := Int.emod_add_mul_ediv u (2 ^ (n + 1))
  have e : u / 2 ^ (n + 1) = u / 2 ^ n / 2 := by
    rw [Int.pow_succ, Int.ediv_ediv_of_nonneg (by omega)]
  rw [e] at h3
  have : (2 : Int) ^ (n + 1) * (u / 2 ^ n / 2) = 2 ^ n * (2 * (u / 2 ^ n / 2)) := by rw [Int.pow_succ, Int.mul_assoc]
  have h4 : 2 ^ n * (u / 2 ^ n) = 2 ^ n * (u / 2 ^ n % 2) + 2 ^ n * (2 * (u / 2 ^ n / 2)) := by rw [← Int.mul_add, h2]
  have h5 : u / 2 ^ n % 2 * 2 ^ n = 2 ^ n * (u / 2 ^ n % 2) := Int.mul_comm _ _
  omega

/-- The loop from bit i down: the bits below i + 1 come behind what there is. -/
theorem zero_loop (a : Int) (n : Nat) : ∀ acc : Int, 0 ≤ acc → n ≤ 64 → acc * 2 ^ n + 2 ^ n ≤ 18446744073709551616 →
    spec_l01Zero.l0 (n + 1) a acc ((n : Int) - 1) = some (wrap64 (acc * 2 ^ n + (a % 18446744073709551616) % 2 ^ n)) := by
  induction n with
  | zero =>
    intro acc h0 h1 h2
    simp only [spec_l01Zero.l0]
    rw [if_neg (by omega)]
    simp only [Int.pow_zero, Int.mul_one, Int.emod_one, Int.add_zero]
  | succ n ih =>
    intro acc h0 h1 h2
    have hp : (0 : Int) < 2 ^ n := Int.pow_pos (by decide)
    have hs : (2 : Int) ^ (n + 1) = 2 * 2 ^ n := by rw [Int.pow_succ, Int.mul_comm]
    rw [hs] at h2
    have hacc : acc * (2 * 2 ^ n) = (2 * acc) * 2 ^ n := by rw [Int.mul_comm 2, ← Int.mul_assoc, Int.mul_comm (acc * _), ← Int.mul_assoc]
    rw [show spec_l01Zero.l0 (n + 1 + 1) a acc ((↑(n + 1) : Int) - 1) = (if ((↑(n + 1) : Int) - 1) ≥ 0 then ((spec_l01Bit.f a ((↑(n + 1) : Int) - 1)).bind fun t101 => (spec_l01Zero.l0 (n + 1) a (IntKind.u64.wrap ((IntKind.u64.wrap (2 * acc)) + (IntKind.u64.wrap (t101)))) (wrap64 (((↑(n + 1) : Int) - 1) - 1)))) else (some (wrap64 (acc)))) from rfl]
    rw [if_pos (by omega), bit_val _ _ (by omega) (by omega)]
    have ht : ((↑(n + 1) : Int) - 1).toNat = n := by omega
    simp only [Option.bind_some, ht]
    generalize hb : (a % 18446744073709551616) / 2 ^ n % 2 = b
    have hb0 : 0 ≤ b ∧ b ≤ 1 := by omega
    have hle : (2 * acc) * 1 ≤ (2 * acc) * 2 ^ n := Int.mul_le_mul_of_nonneg_left (by omega) (by omega)
    have hlt : 2 * acc + 2 ≤ 18446744073709551616 := by
      have h6 : (2 * acc + 2) * 1 ≤ (2 * acc + 2) * 2 ^ n := Int.mul_le_mul_of_nonneg_left (by omega) (by omega)
      have h7 : (2 * acc + 2) * 2 ^ n = (2 * acc) * 2 ^ n + 2 * 2 ^ n := Int.add_mul _ _ _
      omega
    have e1 : IntKind.u64.wrap (IntKind.u64.wrap (2 * acc) + IntKind.u64.wrap b) = 2 * acc + b := by rw [u64, u64, u64]; omega
    have e2 : wrap64 ((↑(n + 1) : Int) - 1 - 1) = (n : Int) - 1 := by rw [w64 (by omega) (by omega)]; omega
    rw [e1, e2]
    have hbm : b * 2 ^ n ≤ 1 * 2 ^ n := Int.mul_le_mul_of_nonneg_right hb0.2 (by omega)
    have h8 : (2 * acc + b) * 2 ^ n = (2 * acc) * 2 ^ n + b * 2 ^ n := Int.add_mul _ _ _
    rw [ih (2 * acc + b) (by omega) (by omega) (by omega), mod_step (a % 18446744073709551616) n, hb, hs, hacc, h8]
    congr 2
    omega
/-- The lowest n bytes as a number without a sign (of 8 bytes: as they are). -/
theorem zero_val (a n : Int) (hn : n = 1 ∨ n = 2 ∨ n = 4 ∨ n = 8) (h0 : -9223372036854775808 ≤ a) (h1 : a ≤ 9223372036854775807) : spec_l01Zero.f 65 a n = some (if n = 8 then a else a % 2 ^ (8 * n.toNat)) := by
  have key : ∀ m : Nat, m ≤ 64 → spec_l01Zero.l0 65 a 0 ((m : Int) - 1) = some (wrap64 ((a % 18446744073709551616) % 2 ^ m)) := by
    intro m hm
    have h2 : (2 : Int) ^ m ≤ 2 ^ 64 := by exact_mod_cast Nat.pow_le_pow_right (by decide) hm
    have h3 : (2 : Int) ^ 64 = 18446744073709551616 := by decide
    have := zero_loop a m 0 (by omega) hm (by omega)
    rw [Int.zero_mul, Int.zero_add] at this
    exact at_rounds (fun k => spec_l01Zero.mono_l k _ _ _) (by omega : m + 1 ≤ 65) this
  unfold spec_l01Zero.f
  rcases hn with rfl | rfl | rfl | rfl
  · have := key 8 (by omega)
    rw [show wrap64 (wrap64 (8 * 1) - 1) = ((8 : Nat) : Int) - 1 by unfold wrap64; omega, this, if_neg (by decide)]
    rw [show (2 : Int) ^ (8 * (1 : Int).toNat) = 256 by decide, show (2 : Int) ^ 8 = 256 by decide, w64 (by omega) (by omega)]
    congr 1; omega
  · have := key 16 (by omega)
    rw [show wrap64 (wrap64 (8 * 2) - 1) = ((16 : Nat) : Int) - 1 by unfold wrap64; omega, this, if_neg (by decide)]
    rw [show (2 : Int) ^ (8 * (2 : Int).toNat) = 65536 by decide, show (2 : Int) ^ 16 = 65536 by decide, w64 (by omega) (by omega)]
    congr 1; omega
  · have := key 32 (by omega)
    rw [show wrap64 (wrap64 (8 * 4) - 1) = ((32 : Nat) : Int) - 1 by unfold wrap64; omega, this, if_neg (by decide)]
    rw [show (2 : Int) ^ (8 * (4 : Int).toNat) = 4294967296 by decide, show (2 : Int) ^ 32 = 4294967296 by decide, w64 (by omega) (by omega)]
    congr 1; omega
  · have := key 64 (by omega)
    rw [show wrap64 (wrap64 (8 * 8) - 1) = ((64 : Nat) : Int) - 1 by unfold wrap64; omega, this, if_pos rfl]
    rw [show (2 : Int) ^ 64 = 18446744073709551616 by decide]
    congr 1; unfold wrap64; omega

theorem evPos {α : Type} {c : Prop} [Decidable c] {g f : Nat → Option α} {r : α} (h : c) (k : Ev g r) : Ev (fun n => if c then g n else f n) r := Ev.congr (fun _ => if_pos h) k
theorem evNeg {α : Type} {c : Prop} [Decidable c] {g f : Nat → Option α} {r : α} (h : ¬ c) (k : Ev f r) : Ev (fun n => if c then g n else f n) r := Ev.congr (fun _ => if_neg h) k
theorem evIte {α : Type} {c : Prop} [Decidable c] {g f : Nat → Option α} {r : α} (h : c → Ev g r) (k : ¬ c → Ev f r) : Ev (fun n => if c then g n else f n) r := by
  by_cases hc : c
  · exact evPos hc (h hc)
  · exact evNeg hc (k hc)
/-- A call that needs no rounds. -/
theorem evB {α β : Type} {o : Option α} {f : Nat → α → Option β} {a : α} {r : β} (h : o = some a) (k : Ev (fun n => f n a) r) : Ev (fun n => o.bind (f n)) r := Ev.congr (fun _ => by rw [h]; rfl) k
theorem evR {α : Type} (r : α) : Ev (fun _ => some r) r := Ev.now r
theorem evEq {α : Type} {g : Nat → Option α} {r r' : α} (h : Ev g r) (e : r = r') : Ev g r' := e ▸ h

def Z (n a : Int) : Int := if n = 8 then a else a % 2 ^ (8 * n.toNat)
abbrev Sz (n : Int) : Prop := n = 1 ∨ n = 2 ∨ n = 4 ∨ n = 8
theorem szero_val {n a : Int} (hn : Sz n) (ha : I6 a) : spec_l01Zero.f 65 a n = some (Z n a) := zero_val a n hn ha.1 ha.2
theorem szero_ev {n a : Int} (hn : Sz n) (ha : I6 a) : Ev (fun k => spec_l01Zero.f k a n) (Z n a) := Ev.of (g := fun k => spec_l01Zero.f k a n) (fun k => spec_l01Zero.mono a n k) (szero_val hn ha)
theorem Z_i6 {n a : Int} (hn : Sz n) (ha : I6 a) : I6 (Z n a) := by
  unfold I6 at *
  rcases hn with rfl | rfl | rfl | rfl
  · simp only [Z]; rw [if_neg (by decide), show (2 : Int) ^ (8 * (1 : Int).toNat) = 256 by decide]; omega
  · simp only [Z]; rw [if_neg (by decide), show (2 : Int) ^ (8 * (2 : Int).toNat) = 65536 by decide]; omega
  · simp only [Z]; rw [if_neg (by decide), show (2 : Int) ^ (8 * (4 : Int).toNat) = 4294967296 by decide]; omega
  · simp only [Z, if_true]; omega
theorem Z1 (a : Int) : Z 1 a = a % 256 := by simp only [Z]; rw [if_neg (by decide), show (2 : Int) ^ (8 * (1 : Int).toNat) = 256 by decide]
theorem Z2 (a : Int) : Z 2 a = a % 65536 := by simp only [Z]; rw [if_neg (by decide), show (2 : Int) ^ (8 * (2 : Int).toNat) = 65536 by decide]
theorem Z4 (a : Int) : Z 4 a = a % 4294967296 := by simp only [Z]; rw [if_neg (by decide), show (2 : Int) ^ (8 * (4 : Int).toNat) = 4294967296 by decide]
theorem Z8 (a : Int) : Z 8 a = a := by simp only [Z, if_true]
theorem shl1 (k : Nat) (hk : k ≤ 32) : shl .i64 1 (k : Int) = 2 ^ k := by
  have h2 : (2 : Int) ^ k ≤ 2 ^ 32 := by exact_mod_cast Nat.pow_le_pow_right (by decide) hk
  have h3 : (0 : Int) < 2 ^ k := Int.pow_pos (by decide)
  have h4 : (2 : Int) ^ 32 = 4294967296 := by decide
  unfold shl
  rw [i64_wrap]
  simp only [IntKind.bits, Int.toNat_natCast]
  rw [show min k 64 = k by omega, Int.one_mul, w64 (by omega) (by omega)]
theorem izero_val {n a : Int} (hn : Sz n) (ha : I6 a) : impl_zero.f a n = some (Z n a) := by
  unfold impl_zero.f
  rcases hn with rfl | rfl | rfl | rfl
  · rw [if_neg (by decide), w64 (n := 8 * 1) (by omega) (by omega), if_pos (by decide), show (8 * 1 : Int) = ((8 : Nat) : Int) from rfl, shl1 8 (by decide), w64 (n := (2 : Int) ^ 8 - 1) (by decide) (by decide), and_mask a 8 (by decide), Z1]; rfl
  · rw [if_neg (by decide), w64 (n := 8 * 2) (by omega) (by omega), if_pos (by decide), show (8 * 2 : Int) = ((16 : Nat) : Int) from rfl, shl1 16 (by decide), w64 (n := (2 : Int) ^ 16 - 1) (by decide) (by decide), and_mask a 16 (by decide), Z2]; rfl
  · rw [if_neg (by decide), w64 (n := 8 * 4) (by omega) (by omega), if_pos (by decide), show (8 * 4 : Int) = ((32 : Nat) : Int) from rfl, shl1 32 (by decide), w64 (n := (2 : Int) ^ 32 - 1) (by decide) (by decide), and_mask a 32 (by decide), Z4]; rfl
  · rw [if_pos rfl, Z8]
/-- The highest bit of a number of a size. -/
def BT (n v : Int) : Bool := (v % 18446744073709551616) / 2 ^ (8 * n.toNat - 1) % 2 == 1
theorem and1 (y : Int) : Go.bits .and .i64 y 1 = y % 2 := and_mask y 1 (by decide)
theorem itop_val {n x : Int} (hn : Sz n) (hx : I6 x) : impl_top.f x n = some (BT n x) := by
  have key : ∀ m : Nat, m ≤ 63 → (∃ c : Int, 2 ^ m = c ∧ 0 < c ∧ (x / c) % 2 = (x % 18446744073709551616) / c % 2) → wrap64 (wrap64 (8 * n) - 1) = (m : Int) → 8 * n.toNat - 1 = m → impl_top.f x n = some (BT n x) := by
    intro m hm ⟨c, hc, hc0, he⟩ h1 h2
    unfold impl_top.f BT
    rw [h1, if_pos (by omega), and1, h2, hc]
    have e : shr .i64 x (m : Int) = x / c := by
      unfold shr
      simp only [IntKind.bits, Int.toNat_natCast]
      rw [show min m 64 = m by omega, hc]
    rw [e, he]
  unfold I6 at hx
  rcases hn with rfl | rfl | rfl | rfl
  · exact key 7 (by decide) ⟨128, by decide, by decide, by omega⟩ (by rw [w64 (n := 8 * 1) (by omega) (by omega), w64 (by omega) (by omega)]; rfl) rfl
  · exact key 15 (by decide) ⟨32768, by decide, by decide, by omega⟩ (by rw [w64 (n := 8 * 2) (by omega) (by omega), w64 (by omega) (by omega)]; rfl) rfl
  · exact key 31 (by decide) ⟨2147483648, by decide, by decide, by omega⟩ (by rw [w64 (n := 8 * 4) (by omega) (by omega), w64 (by omega) (by omega)]; rfl) rfl
  · exact key 63 (by decide) ⟨9223372036854775808, by decide, by decide, by omega⟩ (by rw [w64 (n := 8 * 8) (by omega) (by omega), w64 (by omega) (by omega)]; rfl) rfl
/-- Is the number of bits of the lowest byte even? -/
def PE (v : Int) : Bool := (Lib.onesCount (v % 256).toNat : Int) % 2 == 0
def fv (a b c : Bool) : Int := Go.bits .or .i64 (Go.bits .or .i64 (if a = true then 128 else 0) (if b = true then 64 else 0)) (if c = true then 4 else 0)
def FV (n v : Int) : Int := fv (BT n v) (Z n v == 0) (PE v)
theorem ones_le : ∀ u : Nat, u < 256 → Lib.onesCount u ≤ 8 ∧ (Lib.onesCount u : Int) = (u : Int) / 1 % 2 + (u : Int) / 2 % 2 + (u : Int) / 4 % 2 + (u : Int) / 8 % 2 + (u : Int) / 16 % 2 + (u : Int) / 32 % 2 + (u : Int) / 64 % 2 + (u : Int) / 128 % 2 := by
  have key : ((List.range 256).all fun u => decide (Lib.onesCount u ≤ 8) && ((Lib.onesCount u : Int) == (u : Int) / 1 % 2 + (u : Int) / 2 % 2 + (u : Int) / 4 % 2 + (u : Int) / 8 % 2 + (u : Int) / 16 % 2 + (u : Int) / 32 % 2 + (u : Int) / 64 % 2 + (u : Int) / 128 % 2)) = true := by kernel_rfl
  intro u hu
  have := List.all_eq_true.1 key u (List.mem_range.2 hu)
  simp only [Bool.and_eq_true, decide_eq_true_eq, beq_iff_eq] at this
  exact this
theorem if_flag (b : Bool) (x : Int) : impl_flag.f b x = some (if b = true then x else 0) := by
  unfold impl_flag.f; cases b <;> rfl
theorem sif_flag (b : Bool) (x : Int) : spec_l06If.f b x = some (if b = true then x else 0) := if_flag b x
theorem iflags_val {n x : Int} (hn : Sz n) (hx : I6 x) : impl_flagsOf.f n x = some (FV n x) := by
  unfold impl_flagsOf.f
  rw [itop_val hn hx, izero_val hn hx]
  simp only [Option.bind_some, if_flag]
  unfold bits_OnesCount8.f
  rw [if_pos (by omega)]
  simp only [Option.bind_some]
  rw [Int.tmod_eq_emod_of_nonneg (by omega)]
  rfl
/-- What the first i bits are together. -/
def pc (v : Int) : Nat → Int
  | 0 => 0
  | i + 1 => pc v i + (v % 18446744073709551616) / 2 ^ i % 2
theorem pc_le (v : Int) (i : Nat) : 0 ≤ pc v i ∧ pc v i ≤ i := by
  induction i with
  | zero => exact ⟨Int.le_refl 0, Int.le_refl 0⟩
  | succ i ih => simp only [pc]; omega
theorem pc8 (v : Int) : pc v 8 = (Lib.onesCount (v % 256).toNat : Int) := by
  rw [(ones_le (v % 256).toNat (by omega)).2]
  have e : (((v % 256).toNat : Nat) : Int) = v % 256 := by omega
  rw [e]
  simp only [pc]
  rw [show (2 : Int) ^ 0 = 1 by decide, show (2 : Int) ^ 1 = 2 by decide, show (2 : Int) ^ 2 = 4 by decide, show (2 : Int) ^ 3 = 8 by decide, show (2 : Int) ^ 4 = 16 by decide, show (2 : Int) ^ 5 = 32 by decide, show (2 : Int) ^ 6 = 64 by decide, show (2 : Int) ^ 7 = 128 by decide]
  have f0 : v % 18446744073709551616 / 1 % 2 = v % 256 / 1 % 2 := by omega
  have f1 : v % 18446744073709551616 / 2 % 2 = v % 256 / 2 % 2 := by omega
  have f2 : v % 18446744073709551616 / 4 % 2 = v % 256 / 4 % 2 := by omega
  have f3 : v % 18446744073709551616 / 8 % 2 = v % 256 / 8 % 2 := by omega
  have f4 : v % 18446744073709551616 / 16 % 2 = v % 256 / 16 % 2 := by omega
  have f5 : v % 18446744073709551616 / 32 % 2 = v % 256 / 32 % 2 := by omega
  have f6 : v % 18446744073709551616 / 64 % 2 = v % 256 / 64 % 2 := by omega
  have f7 : v % 18446744073709551616 / 128 % 2 = v % 256 / 128 % 2 := by omega
  rw [f0, f1, f2, f3, f4, f5, f6, f7, Int.zero_add]
theorem szp_ev {n v : Int} (hn : Sz n) (hv : I6 v) : Ev (fun k => spec_l06Szp.f k n v) (FV n v) := by
  have key : ∀ d i : Nat, i + d = 8 → Ev (fun k => spec_l06Szp.l0 k n v (pc v i) (i : Int)) (FV n v) := by
    intro d
    induction d with
    | zero =>
      intro i hi
      obtain rfl : i = 8 := by omega
      refine Ev.step (fun k => by simp only [spec_l06Szp.l0]; exact rfl) (evNeg (by decide) ?_)
      have hb : spec_l01Bit.f v (wrap64 (wrap64 (8 * n) - 1)) = some ((v % 18446744073709551616) / 2 ^ (8 * n.toNat - 1) % 2) := by
        rcases hn with rfl | rfl | rfl | rfl
        · rw [w64 (n := 8 * 1) (by omega) (by omega), w64 (by omega) (by omega)]; exact bit_val v 7 (by decide) (by decide)
        · rw [w64 (n := 8 * 2) (by omega) (by omega), w64 (by omega) (by omega)]; exact bit_val v 15 (by decide) (by decide)
        · rw [w64 (n := 8 * 4) (by omega) (by omega), w64 (by omega) (by omega)]; exact bit_val v 31 (by decide) (by decide)
        · rw [w64 (n := 8 * 8) (by omega) (by omega), w64 (by omega) (by omega)]; exact bit_val v 63 (by decide) (by decide)
      refine evB hb (evB (sif_flag _ _) (Ev.bind (szero_ev hn hv) (evB (sif_flag _ _) (evB (sif_flag _ _) (evEq (evR _) ?_)))))
      rw [Int.tmod_eq_emod_of_nonneg (pc_le v 8).1, pc8]
      rfl
    | succ d ih =>
      intro i hi
      have hp := pc_le v i
      refine Ev.step (fun k => by simp only [spec_l06Szp.l0]; exact rfl) (evPos (by omega) ?_)
      refine evB (bit_val v i (by omega) (by omega)) ?_
      have e1 : wrap64 (pc v i + (v % 18446744073709551616) / 2 ^ ((i : Int)).toNat % 2) = pc v (i + 1) := by
        simp only [pc, Int.toNat_natCast]
        exact w64 (by omega) (by omega)
      rw [e1, w64 (n := (i : Int) + 1) (by omega) (by omega)]
      exact ih (i + 1) (by omega)
  exact key 8 0 rfl
theorem Z_Z {n : Int} (hn : Sz n) (v : Int) : Z n (Z n v) = Z n v := by
  rcases hn with rfl | rfl | rfl | rfl
  · rw [Z1, Z1]; omega
  · rw [Z2, Z2]; omega
  · rw [Z4, Z4]; omega
  · rw [Z8, Z8]
theorem BT_Z {n : Int} (hn : Sz n) (v : Int) : BT n (Z n v) = BT n v := by
  unfold BT
  rcases hn with rfl | rfl | rfl | rfl
  · rw [Z1, show 8 * (1 : Int).toNat - 1 = 7 from rfl, show (2 : Int) ^ 7 = 128 by decide, show v % 256 % 18446744073709551616 / 128 % 2 = v % 18446744073709551616 / 128 % 2 by omega]
  · rw [Z2, show 8 * (2 : Int).toNat - 1 = 15 from rfl, show (2 : Int) ^ 15 = 32768 by decide, show v % 65536 % 18446744073709551616 / 32768 % 2 = v % 18446744073709551616 / 32768 % 2 by omega]
  · rw [Z4, show 8 * (4 : Int).toNat - 1 = 31 from rfl, show (2 : Int) ^ 31 = 2147483648 by decide, show v % 4294967296 % 18446744073709551616 / 2147483648 % 2 = v % 18446744073709551616 / 2147483648 % 2 by omega]
  · rw [Z8]
theorem PE_Z {n : Int} (hn : Sz n) (v : Int) : PE (Z n v) = PE v := by
  unfold PE
  rcases hn with rfl | rfl | rfl | rfl
  · rw [Z1, show v % 256 % 256 = v % 256 by omega]
  · rw [Z2, show v % 65536 % 256 = v % 256 by omega]
  · rw [Z4, show v % 4294967296 % 256 = v % 256 by omega]
  · rw [Z8]
theorem FV_Z {n : Int} (hn : Sz n) (v : Int) : FV n (Z n v) = FV n v := by unfold FV; rw [BT_Z hn, Z_Z hn, PE_Z hn]
theorem Z_and {n : Int} (hn : Sz n) (a b : Int) : Go.bits .and .i64 (Z n a) (Z n b) = Z n (Go.bits .and .i64 a b) := by
  have key : ∀ m : Nat, m < 63 → Go.bits .and .i64 (a % 2 ^ m) (b % 2 ^ m) = (Go.bits .and .i64 a b) % 2 ^ m := by
    intro m hm
    rw [← and_mask a m hm, ← and_mask b m hm, ← and_mask (Go.bits .and .i64 a b) m hm]
    simp only [and64, BitVec.ofInt_toInt]
    congr 1
    ext i hi
    simp only [BitVec.getElem_and]
    cases (BitVec.ofInt 64 a)[i] <;> cases (BitVec.ofInt 64 b)[i] <;> simp
  rcases hn with rfl | rfl | rfl | rfl
  · rw [Z1, Z1, Z1]; exact key 8 (by decide)
  · rw [Z2, Z2, Z2]; exact key 16 (by decide)
  · rw [Z4, Z4, Z4]; exact key 32 (by decide)
  · rw [Z8, Z8, Z8]
/-- The flags of a result, with what goes out and what is over. -/
def fx (a b c out over : Bool) : Int := Go.bits .or .i64 (Go.bits .or .i64 (fv a b c) (if out = true then 1 else 0)) (if over = true then 2048 else 0)
theorem fv_and1 (a b c : Bool) : Go.bits .and .i64 (fv a b c) 1 = 0 := by cases a <;> cases b <;> cases c <;> kernel_rfl
theorem fv_and2048 (a b c : Bool) : Go.bits .and .i64 (fv a b c) 2048 = 0 := by cases a <;> cases b <;> cases c <;> kernel_rfl
theorem fx_and1 (a b c o v : Bool) : Go.bits .and .i64 (fx a b c o v) 1 = if o = true then 1 else 0 := by cases a <;> cases b <;> cases c <;> cases o <;> cases v <;> kernel_rfl
theorem fx_mem (a b c o v : Bool) : fx a b c o v ∈ FLS := List.contains_iff_mem.1 (show FLS.contains (fx a b c o v) = true by cases a <;> cases b <;> cases c <;> cases o <;> cases v <;> kernel_rfl)
theorem fv_mem (a b c : Bool) : fv a b c ∈ FLS := List.contains_iff_mem.1 (show FLS.contains (fv a b c) = true by cases a <;> cases b <;> cases c <;> kernel_rfl)
theorem fls_all : ∀ f ∈ FLS, ∀ g ∈ FLS, Go.bits .or .i64 (Go.bits .andNot .i64 f 1) (Go.bits .and .i64 g 1) ∈ FLS ∧ Go.bits .and .i64 (Go.bits .or .i64 (Go.bits .andNot .i64 f 1) (Go.bits .and .i64 g 1)) 1 = Go.bits .and .i64 g 1 := by
  have key : (FLS.all fun f => FLS.all fun g => FLS.contains (Go.bits .or .i64 (Go.bits .andNot .i64 f 1) (Go.bits .and .i64 g 1)) && (Go.bits .and .i64 (Go.bits .or .i64 (Go.bits .andNot .i64 f 1) (Go.bits .and .i64 g 1)) 1 == Go.bits .and .i64 g 1)) = true := by kernel_rfl
  intro f hf g hg
  have := List.all_eq_true.1 (List.all_eq_true.1 key f hf) g hg
  simp only [Bool.and_eq_true, beq_iff_eq] at this
  exact ⟨List.contains_iff_mem.1 this.1, this.2⟩
theorem fls_are : ∀ f ∈ FLS, impl_areFlags.f f = some true := by
  have key : (FLS.all fun f => Go.bits .andNot .i64 f 2245 == 0) = true := by kernel_rfl
  intro f hf
  have := List.all_eq_true.1 key f hf
  unfold impl_areFlags.f
  rw [this]
theorem isize_val {n : Int} (hn : Sz n) : impl_isSize.f n = some true := by
  unfold impl_isSize.f
  rcases hn with rfl | rfl | rfl | rfl <;> rfl
theorem ssize_val {n : Int} (hn : Sz n) : spec_l01Size.f n = some true := by
  unfold spec_l01Size.f
  rcases hn with rfl | rfl | rfl | rfl <;> rfl
theorem asked_val {n f : Int} (hn : Sz n) (hf : f ∈ FLS) : impl_areAsked.f n f = some true := by
  unfold impl_areAsked.f
  rw [isize_val hn]
  simp only [Option.bind_some, if_true]
  rw [fls_are f hf]
  rfl
theorem addR_i6 (a b c : Int) : I6 (wrap64 (addR a b c)) := i6_wrap _
theorem sum_val {n a b c : Int} (hn : Sz n) (hc : 0 ≤ c ∧ c ≤ 1) : ∃ t, impl_sum.f n a b c = some (Z n (wrap64 (addR a b c)), fx (BT n (wrap64 (addR a b c))) (Z n (wrap64 (addR a b c)) == 0) (PE (wrap64 (addR a b c))) (sumC n a b c) t) ∧ t = BT n (Go.bits .and .i64 (Go.bits .xor .i64 a (Z n (wrap64 (addR a b c)))) (Go.bits .xor .i64 b (Z n (wrap64 (addR a b c))))) := by
  refine ⟨_, ?_, rfl⟩
  unfold impl_sum.f
  rw [if_pos ⟨hn, hc⟩, izero_val hn (addR_i6 _ _ _)]
  simp only [Option.bind_some]
  rw [iflags_val hn (Z_i6 hn (addR_i6 _ _ _)), FV_Z hn]
  simp only [Option.bind_some, if_flag]
  rw [itop_val hn (by rw [and64]; exact i6_bv _)]
  simp only [Option.bind_some, if_flag]
  rfl
theorem diff_val {n a b c : Int} (hn : Sz n) (hc : 0 ≤ c ∧ c ≤ 1) : ∃ t, impl_difference.f n a b c = some (Z n (wrap64 (subR a b c)), fx (BT n (wrap64 (subR a b c))) (Z n (wrap64 (subR a b c)) == 0) (PE (wrap64 (subR a b c))) (subO a b c == 1) t) ∧ t = BT n (Go.bits .and .i64 (Go.bits .xor .i64 a b) (Go.bits .xor .i64 a (Z n (wrap64 (subR a b c))))) := by
  refine ⟨_, ?_, rfl⟩
  unfold impl_difference.f
  rw [if_pos hc, izero_val hn (i6_wrap _)]
  simp only [Option.bind_some]
  rw [iflags_val hn (Z_i6 hn (i6_wrap _)), FV_Z hn]
  simp only [Option.bind_some, if_flag]
  rw [itop_val hn (by rw [and64]; exact i6_bv _)]
  simp only [Option.bind_some, if_flag]
  rfl

/-- The lowest n bytes as a number with a sign. -/
def sg (a n : Int) : Int := if n = 1 then (a + 128) % 256 - 128 else if n = 2 then (a + 32768) % 65536 - 32768 else if n = 4 then (a + 2147483648) % 4294967296 - 2147483648 else a

theorem isign_val (a n : Int) (hn : n = 1 ∨ n = 2 ∨ n = 4 ∨ n = 8) (h0 : -9223372036854775808 ≤ a) (h1 : a ≤ 9223372036854775807) : impl_sign.f a n = some (sg a n) := by
  unfold impl_sign.f
  rcases hn with rfl | rfl | rfl | rfl
  · rw [show wrap64 (64 - wrap64 (8 * 1)) = 56 by unfold wrap64; omega, if_pos (by decide)]
    simp only [shr, shl, sg, if_true, IntKind.bits, i64_wrap]
    rw [show (2 : Int) ^ min (56 : Int).toNat 64 = 72057594037927936 by decide]
    congr 1; unfold wrap64; omega
  · rw [show wrap64 (64 - wrap64 (8 * 2)) = 48 by unfold wrap64; omega, if_pos (by decide)]
    simp only [shr, shl, sg, if_true, IntKind.bits, i64_wrap]
    rw [show (2 : Int) ^ min (48 : Int).toNat 64 = 281474976710656 by decide, if_neg (by decide)]
    congr 1; unfold wrap64; omega
  · rw [show wrap64 (64 - wrap64 (8 * 4)) = 32 by unfold wrap64; omega, if_pos (by decide)]
    simp only [shr, shl, sg, if_true, IntKind.bits, i64_wrap]
    rw [show (2 : Int) ^ min (32 : Int).toNat 64 = 4294967296 by decide, if_neg (by decide), if_neg (by decide)]
    congr 1; unfold wrap64; omega
  · rw [show wrap64 (64 - wrap64 (8 * 8)) = 0 by unfold wrap64; omega, if_pos (by decide)]
    simp only [shr, shl, sg, IntKind.bits, i64_wrap]
    rw [show (2 : Int) ^ min (0 : Int).toNat 64 = 1 by decide, if_neg (by decide), if_neg (by decide), if_neg (by decide)]
    congr 1; unfold wrap64; omega

theorem tb (x : Int) (i : Nat) : (BitVec.ofInt 64 x).getLsbD i = ((x % 18446744073709551616) / 2 ^ i % 2 == 1) := by
  unfold BitVec.getLsbD
  rw [Nat.testBit_eq_decide_div_mod_eq]
  have h := ofInt_nat x
  have e : (((BitVec.ofInt 64 x).toNat / 2 ^ i % 2 : Nat) : Int) = (x % 18446744073709551616) / 2 ^ i % 2 := by
    rw [Int.natCast_emod, Int.natCast_ediv, h, Int.natCast_pow]; rfl
  rw [Bool.eq_iff_iff, beq_iff_eq, decide_eq_true_eq, ← e]
  omega
theorem BT_lsb (n x : Int) : BT n x = (BitVec.ofInt 64 x).getLsbD (8 * n.toNat - 1) := (tb x _).symm
theorem BT_and (n x y : Int) : BT n (Go.bits .and .i64 x y) = (BT n x && BT n y) := by
  simp only [BT_lsb, and64, BitVec.ofInt_toInt, BitVec.getLsbD_and]
theorem BT_xor (n x y : Int) : BT n (Go.bits .xor .i64 x y) = (BT n x ^^ BT n y) := by
  simp only [BT_lsb, xor64, BitVec.ofInt_toInt, BitVec.getLsbD_xor]
/-- A bit is laid above those that there are. -/
theorem or_bit {o b : Int} {i : Nat} (hi : i ≤ 63) (h0 : 0 ≤ o) (h1 : o < 2 ^ i) (hb : b = 0 ∨ b = 1) : Go.bits .or .u64 o (shl .u64 b (i : Int)) = o + b * 2 ^ i := by
  have hp : (2 : Int) ^ i ≤ 2 ^ 63 := by exact_mod_cast Nat.pow_le_pow_right (by decide) hi
  have hp0 : (0 : Int) < 2 ^ i := Int.pow_pos (by decide)
  have e63 : (2 : Int) ^ 63 = 9223372036854775808 := by decide
  have hs : shl .u64 b (i : Int) = b * 2 ^ i := by
    unfold shl
    simp only [IntKind.bits, Int.toNat_natCast]
    rw [show min i 64 = i by omega, u64]
    rcases hb with rfl | rfl
    · rw [Int.zero_mul]; rfl
    · rw [Int.one_mul]; omega
  rw [hs]
  obtain ⟨o, rfl⟩ := Int.eq_ofNat_of_zero_le h0
  have ho : o < 2 ^ i := by exact_mod_cast h1
  rcases hb with rfl | rfl
  · rw [Int.zero_mul, Int.add_zero]
    show IntKind.u64.wrap ((BitVec.ofInt 64 ((o : Nat) : Int) ||| BitVec.ofInt 64 0).toNat : Int) = _
    rw [BitVec.ofInt_natCast, show BitVec.ofInt 64 0 = 0#64 from rfl, BitVec.or_zero, BitVec.toNat_ofNat, u64]
    omega
  · rw [Int.one_mul]
    have e2 : ((2 : Int) ^ i) = ((2 ^ i : Nat) : Int) := by rw [Int.natCast_pow]; rfl
    show IntKind.u64.wrap ((BitVec.ofInt 64 ((o : Nat) : Int) ||| BitVec.ofInt 64 (2 ^ i)).toNat : Int) = _
    rw [e2, BitVec.ofInt_natCast, BitVec.ofInt_natCast, BitVec.toNat_or, BitVec.toNat_ofNat, BitVec.toNat_ofNat]
    have l1 : o % 2 ^ 64 = o := Nat.mod_eq_of_lt (by have : 2 ^ i ≤ 2 ^ 63 := Nat.pow_le_pow_right (by decide) hi; omega)
    have l2 : 2 ^ i % 2 ^ 64 = 2 ^ i := Nat.mod_eq_of_lt (Nat.pow_lt_pow_right (by decide) (by omega))
    rw [l1, l2, Nat.or_comm]
    have := Nat.two_pow_add_eq_or_of_lt ho 1
    rw [Nat.mul_one] at this
    rw [← this, u64]
    have h64 : 2 ^ i ≤ 2 ^ 63 := Nat.pow_le_pow_right (by decide) hi
    omega
/-- What is added below bit i, with what came in. -/
def SI (a b c : Int) (i : Nat) : Int := (a % 18446744073709551616) % 2 ^ i + (b % 18446744073709551616) % 2 ^ i + c
theorem SI_succ (a b c : Int) (i : Nat) : SI a b c (i + 1) = SI a b c i + ((a % 18446744073709551616) / 2 ^ i % 2 + (b % 18446744073709551616) / 2 ^ i % 2) * 2 ^ i := by
  unfold SI
  rw [mod_step, mod_step, Int.add_mul]
  omega
theorem SI_bd {a b c : Int} (hc : 0 ≤ c ∧ c ≤ 1) (i : Nat) : 0 ≤ SI a b c i ∧ SI a b c i < 2 * 2 ^ i := by
  have hp0 : (0 : Int) < 2 ^ i := Int.pow_pos (by decide)
  have h1 := Int.emod_nonneg (a % 18446744073709551616) (show (2 : Int) ^ i ≠ 0 by omega)
  have h2 := Int.emod_lt_of_pos (a % 18446744073709551616) hp0
  have h3 := Int.emod_nonneg (b % 18446744073709551616) (show (2 : Int) ^ i ≠ 0 by omega)
  have h4 := Int.emod_lt_of_pos (b % 18446744073709551616) hp0
  unfold SI
  omega
/-- What goes out behind i bits. -/
def CI (a b c : Int) (i : Nat) : Int := SI a b c i / 2 ^ i
theorem CI_01 {a b c : Int} (hc : 0 ≤ c ∧ c ≤ 1) (i : Nat) : CI a b c i = 0 ∨ CI a b c i = 1 := by
  have hp0 : (0 : Int) < 2 ^ i := Int.pow_pos (by decide)
  have h := SI_bd (a := a) (b := b) hc i
  unfold CI
  have h1 : 0 ≤ SI a b c i / 2 ^ i := Int.ediv_nonneg h.1 (by omega)
  have h2 : SI a b c i / 2 ^ i < 2 := Int.ediv_lt_of_lt_mul hp0 h.2
  omega
theorem step_div {s n : Int} {i : Nat} (h0 : 0 ≤ s) (h : s < 2 * 2 ^ i) (hn : 0 ≤ n) : (s + n * 2 ^ i) % 2 ^ (i + 1) = s % 2 ^ i + (s / 2 ^ i + n) % 2 * 2 ^ i ∧ (s + n * 2 ^ i) / 2 ^ (i + 1) = (s / 2 ^ i + n) / 2 := by
  have hp0 : (0 : Int) < 2 ^ i := Int.pow_pos (by decide)
  have e1 : (2 : Int) ^ (i + 1) = 2 ^ i * 2 := Int.pow_succ _ _
  have ed := Int.emod_add_mul_ediv s (2 ^ i)
  have em0 := Int.emod_nonneg s (show (2 : Int) ^ i ≠ 0 by omega)
  have em1 := Int.emod_lt_of_pos s hp0
  generalize hq : s / 2 ^ i = q at *
  generalize hr : s % 2 ^ i = r at *
  have es : s + n * 2 ^ i = r + (q + n) * 2 ^ i := by rw [Int.add_mul, ← ed, Int.mul_comm (2 ^ i) q]; omega
  rw [es, e1]
  have e2 := Int.emod_add_mul_ediv (q + n) 2
  generalize hm : (q + n) % 2 = m at *
  generalize hd : (q + n) / 2 = d at *
  have hm2 : m = 0 ∨ m = 1 := by omega
  have ez : r + (q + n) * 2 ^ i = (r + m * 2 ^ i) + d * (2 ^ i * 2) := by
    rw [← e2, Int.add_mul, show 2 * d * 2 ^ i = d * (2 ^ i * 2) by rw [Int.mul_comm 2 d, Int.mul_assoc, Int.mul_comm 2]]
    omega
  have hb : 0 ≤ r + m * 2 ^ i ∧ r + m * 2 ^ i < 2 ^ i * 2 := by rcases hm2 with rfl | rfl <;> omega
  rw [ez]
  constructor
  · rw [Int.add_mul_emod_self_right]; exact Int.emod_eq_of_lt hb.1 hb.2
  · rw [Int.add_mul_ediv_right _ _ (by omega), Int.ediv_eq_zero_of_lt hb.1 hb.2, Int.zero_add]
theorem add_loop {n a b c : Int} (hc : 0 ≤ c ∧ c ≤ 1) {m : Nat} (hm : m ≤ 64) (hn : wrap64 (8 * n) = (m : Int)) {r : Int × Int} (d : Nat) : ∀ (i : Nat) (into : Int), i + 1 + d = m →
    Ev (fun k => spec_l06Add.l0 k n a b false (SI a b c m % 2 ^ m) (CI a b c m) (CI a b c (m - 1)) (m : Int)) r →
    Ev (fun k => spec_l06Add.l0 k n a b false (SI a b c i % 2 ^ i) (CI a b c i) into (i : Int)) r := by
  have step : ∀ (i : Nat) (into : Int), i < m → Ev (fun k => spec_l06Add.l0 k n a b false (SI a b c (i + 1) % 2 ^ (i + 1)) (CI a b c (i + 1)) (CI a b c i) ((i + 1 : Nat) : Int)) r → Ev (fun k => spec_l06Add.l0 k n a b false (SI a b c i % 2 ^ i) (CI a b c i) into (i : Int)) r := by
    intro i into hi h
    have hp0 : (0 : Int) < 2 ^ i := Int.pow_pos (by decide)
    have hbd := SI_bd (a := a) (b := b) hc i
    have hx : (a % 18446744073709551616) / 2 ^ i % 2 = 0 ∨ (a % 18446744073709551616) / 2 ^ i % 2 = 1 := by omega
    have hy : (b % 18446744073709551616) / 2 ^ i % 2 = 0 ∨ (b % 18446744073709551616) / 2 ^ i % 2 = 1 := by omega
    have hci := CI_01 (a := a) (b := b) hc i
    have hsd := step_div hbd.1 hbd.2 (n := (a % 18446744073709551616) / 2 ^ i % 2 + (b % 18446744073709551616) / 2 ^ i % 2) (by omega)
    rw [← SI_succ] at hsd
    refine Ev.step (fun k => by simp only [spec_l06Add.l0]; exact rfl) ?_
    refine evPos (by rw [hn]; omega) ?_
    refine evB (bit_val a i (by omega) (by omega)) ?_
    refine evB (bit_val b i (by omega) (by omega)) ?_
    refine evNeg (by decide) ?_
    refine evPos (by rw [u64]; omega) ?_
    simp only [Int.toNat_natCast]
    have hq : SI a b c i / 2 ^ i = CI a b c i := rfl
    rw [hq] at hsd
    generalize (a % 18446744073709551616) / 2 ^ i % 2 = x at *
    generalize (b % 18446744073709551616) / 2 ^ i % 2 = y at *
    have e1 : wrap64 (wrap64 (x + y) + CI a b c i) = x + y + CI a b c i := by rw [w64 (n := x + y) (by omega) (by omega), w64 (by omega) (by omega)]
    rw [e1, Int.tmod_eq_emod_of_nonneg (by omega), Int.tdiv_eq_ediv_of_nonneg (by omega)]
    have e2 : IntKind.u64.wrap ((x + y + CI a b c i) % 2) = (x + y + CI a b c i) % 2 := by rw [u64]; omega
    have e3 : IntKind.u64.wrap (i : Int) = (i : Int) := by rw [u64]; omega
    rw [e2, e3, or_bit (i := i) (by omega) (Int.emod_nonneg _ (by omega)) (Int.emod_lt_of_pos _ hp0) (by omega), w64 (n := (x + y + CI a b c i) / 2) (by omega) (by omega), w64 (n := (i : Int) + 1) (by omega) (by omega)]
    have f1 : SI a b c i % 2 ^ i + (x + y + CI a b c i) % 2 * 2 ^ i = SI a b c (i + 1) % 2 ^ (i + 1) := by rw [hsd.1, show CI a b c i + (x + y) = x + y + CI a b c i by omega]
    have f2 : (x + y + CI a b c i) / 2 = CI a b c (i + 1) := by
      show _ = SI a b c (i + 1) / 2 ^ (i + 1)
      rw [hsd.2, show CI a b c i + (x + y) = x + y + CI a b c i by omega]
    rw [f1, f2]
    exact h
  induction d with
  | zero =>
    intro i into hi h
    have e : m = i + 1 := by omega
    subst e
    exact step i into (by omega) h
  | succ d ih =>
    intro i into hi h
    exact step i into (by omega) (ih (i + 1) _ (by omega) h)
def M8 (n : Int) : Nat := 8 * n.toNat
theorem sadd_ev {n a b c : Int} (hn : Sz n) (hc : 0 ≤ c ∧ c ≤ 1) : Ev (fun k => spec_l06Add.f k n a b c false) (wrap64 (SI a b c (M8 n) % 2 ^ (M8 n)), fx (BT n (wrap64 (SI a b c (M8 n) % 2 ^ (M8 n)))) (Z n (wrap64 (SI a b c (M8 n) % 2 ^ (M8 n))) == 0) (PE (wrap64 (SI a b c (M8 n) % 2 ^ (M8 n)))) (CI a b c (M8 n) == 1) (CI a b c (M8 n) != CI a b c (M8 n - 1))) := by
  have hm : wrap64 (8 * n) = (M8 n : Int) ∧ M8 n ≤ 64 ∧ 8 ≤ M8 n := by
    unfold M8
    rcases hn with rfl | rfl | rfl | rfl <;> refine ⟨?_, by decide, by decide⟩ <;> rw [w64 (by omega) (by omega)] <;> rfl
  have h0 : (SI a b c 0 % 2 ^ 0 : Int) = 0 := by rw [show (2 : Int) ^ 0 = 1 by decide, Int.emod_one]
  have h1 : CI a b c 0 = c := by
    unfold CI SI
    rw [show (2 : Int) ^ 0 = 1 by decide, Int.emod_one, Int.emod_one]; omega
  have key := add_loop (n := n) (a := a) (b := b) hc hm.2.1 hm.1 (M8 n - 1) 0 0 (by omega) (r := (wrap64 (SI a b c (M8 n) % 2 ^ (M8 n)), fx (BT n (wrap64 (SI a b c (M8 n) % 2 ^ (M8 n)))) (Z n (wrap64 (SI a b c (M8 n) % 2 ^ (M8 n))) == 0) (PE (wrap64 (SI a b c (M8 n) % 2 ^ (M8 n)))) (CI a b c (M8 n) == 1) (CI a b c (M8 n) != CI a b c (M8 n - 1)))) ?_
  · rw [h0, h1] at key
    exact key
  · refine Ev.step (fun k => by simp only [spec_l06Add.l0]; exact rfl) ?_
    refine evNeg (by rw [hm.1]; omega) ?_
    exact Ev.bind (szp_ev hn (i6_wrap _)) (evB (sif_flag _ _) (evB (sif_flag _ _) (evR _)))

theorem carry_in {f : Int} (hf : f ∈ FLS) : 0 ≤ Go.bits .and .i64 f 1 ∧ Go.bits .and .i64 f 1 ≤ 1 := by rw [and1]; omega
theorem sflags_val : ∀ f ∈ FLS, spec_l06Flags.f f = some true := by
  have key : (FLS.all fun f => spec_l06Flags.f f == some true) = true := by kernel_rfl
  intro f hf
  exact beq_iff_eq.1 (List.all_eq_true.1 key f hf)
theorem alu_sum {n a b f : Int} (hn : Sz n) (ha : I6 a) (hb : I6 b) (hf : f ∈ FLS) : ∃ t, impl_Alu.f 3 n a b f = some (Z n (wrap64 (addR (Z n a) (Z n b) (Go.bits .and .i64 f 1))), fx (BT n (wrap64 (addR (Z n a) (Z n b) (Go.bits .and .i64 f 1)))) (Z n (wrap64 (addR (Z n a) (Z n b) (Go.bits .and .i64 f 1))) == 0) (PE (wrap64 (addR (Z n a) (Z n b) (Go.bits .and .i64 f 1)))) (sumC n (Z n a) (Z n b) (Go.bits .and .i64 f 1)) t, 0) ∧ t = BT n (Go.bits .and .i64 (Go.bits .xor .i64 (Z n a) (Z n (wrap64 (addR (Z n a) (Z n b) (Go.bits .and .i64 f 1))))) (Go.bits .xor .i64 (Z n b) (Z n (wrap64 (addR (Z n a) (Z n b) (Go.bits .and .i64 f 1)))))) := by
  obtain ⟨t, hs, ht⟩ := sum_val (n := n) (a := Z n a) (b := Z n b) (c := Go.bits .and .i64 f 1) hn (carry_in hf)
  refine ⟨t, ?_, ht⟩
  unfold impl_Alu.f impl_isAlu.f impl_within.f impl_alu.f
  rw [asked_val hn hf, izero_val hn ha, izero_val hn hb]
  simp only [Option.bind_some, if_true]
  rw [if_pos (by decide)]
  simp only [Option.bind_some]
  rw [if_pos (by decide)]
  simp only [Option.bind_some, if_true]
  rw [if_neg (by decide), hs]
  rfl
theorem alu_diff {n a b f : Int} (hn : Sz n) (ha : I6 a) (hb : I6 b) (hf : f ∈ FLS) : ∃ g t, impl_Alu.f 4 n a b f = some (Z n (wrap64 (subR (Z n a) (Z n b) (Go.bits .and .i64 f 1))), g, 0) ∧ g = fx (BT n (wrap64 (subR (Z n a) (Z n b) (Go.bits .and .i64 f 1)))) (Z n (wrap64 (subR (Z n a) (Z n b) (Go.bits .and .i64 f 1))) == 0) (PE (wrap64 (subR (Z n a) (Z n b) (Go.bits .and .i64 f 1)))) (subO (Z n a) (Z n b) (Go.bits .and .i64 f 1) == 1) t := by
  obtain ⟨t, hs, ht⟩ := diff_val (n := n) (a := Z n a) (b := Z n b) (c := Go.bits .and .i64 f 1) hn (carry_in hf)
  refine ⟨_, t, ?_, rfl⟩
  unfold impl_Alu.f impl_isAlu.f impl_within.f impl_alu.f
  rw [asked_val hn hf, izero_val hn ha, izero_val hn hb]
  simp only [Option.bind_some, if_true]
  rw [if_pos (by decide)]
  simp only [Option.bind_some]
  rw [if_pos (by decide)]
  simp only [Option.bind_some, if_true]
  rw [if_neg (by decide), if_neg (by decide), if_neg (by decide), hs]
  rfl
theorem alu_cmp {n a b f : Int} (hn : Sz n) (ha : I6 a) (hb : I6 b) (hf : f ∈ FLS) : ∃ t, impl_Alu.f 8 n a b f = some (Z n a, fx (BT n (wrap64 (subR (Z n a) (Z n b) 0))) (Z n (wrap64 (subR (Z n a) (Z n b) 0)) == 0) (PE (wrap64 (subR (Z n a) (Z n b) 0))) (subO (Z n a) (Z n b) 0 == 1) t, 0) ∧ t = BT n (Go.bits .and .i64 (Go.bits .xor .i64 (Z n a) (Z n b)) (Go.bits .xor .i64 (Z n a) (Z n (wrap64 (subR (Z n a) (Z n b) 0))))) := by
  obtain ⟨t, hs, ht⟩ := diff_val (n := n) (a := Z n a) (b := Z n b) (c := 0) hn ⟨by decide, by decide⟩
  refine ⟨t, ?_, ht⟩
  unfold impl_Alu.f impl_isAlu.f impl_within.f impl_alu.f
  rw [asked_val hn hf, izero_val hn ha, izero_val hn hb]
  simp only [Option.bind_some, if_true]
  rw [if_pos (by decide)]
  simp only [Option.bind_some]
  rw [if_pos (by decide)]
  simp only [Option.bind_some, if_true]
  rw [if_neg (by decide), if_neg (by decide), if_neg (by decide), if_neg (by decide), hs]
  rfl
theorem sAlu_ev {n a b f : Int} (hn : Sz n) (hf : f ∈ FLS) : Ev (fun k => spec_Alu.f k 3 n a b f) (wrap64 (SI a b (Go.bits .and .i64 f 1) (M8 n) % 2 ^ (M8 n)), fx (BT n (wrap64 (SI a b (Go.bits .and .i64 f 1) (M8 n) % 2 ^ (M8 n)))) (Z n (wrap64 (SI a b (Go.bits .and .i64 f 1) (M8 n) % 2 ^ (M8 n))) == 0) (PE (wrap64 (SI a b (Go.bits .and .i64 f 1) (M8 n) % 2 ^ (M8 n)))) (CI a b (Go.bits .and .i64 f 1) (M8 n) == 1) (CI a b (Go.bits .and .i64 f 1) (M8 n) != CI a b (Go.bits .and .i64 f 1) (M8 n - 1)), 0) := by
  refine evB (ssize_val hn) (evPos rfl (evB (sflags_val f hf) ?_))
  refine Ev.step (fun k => by simp only [spec_Alu.j0]; exact rfl) ?_
  refine evNeg (by decide) ?_
  refine evB (show spec_l01In.f 3 1 8 = some true by unfold spec_l01In.f; rfl) (evPos rfl ?_)
  refine Ev.bind (a := (wrap64 (SI a b (Go.bits .and .i64 f 1) (M8 n) % 2 ^ (M8 n)), fx (BT n (wrap64 (SI a b (Go.bits .and .i64 f 1) (M8 n) % 2 ^ (M8 n)))) (Z n (wrap64 (SI a b (Go.bits .and .i64 f 1) (M8 n) % 2 ^ (M8 n))) == 0) (PE (wrap64 (SI a b (Go.bits .and .i64 f 1) (M8 n) % 2 ^ (M8 n)))) (CI a b (Go.bits .and .i64 f 1) (M8 n) == 1) (CI a b (Go.bits .and .i64 f 1) (M8 n) != CI a b (Go.bits .and .i64 f 1) (M8 n - 1)))) ?_ (evR _)
  refine evNeg (by decide) (evPos rfl ?_)
  exact Ev.bind (sadd_ev hn (carry_in hf)) (evR _)
theorem andu1 {y : Int} (h0 : 0 ≤ y) (h1 : y ≤ 18446744073709551615) : Go.bits .and .u64 y 1 = y % 2 := by
  show IntKind.u64.wrap ((BitVec.ofInt 64 y &&& BitVec.ofInt 64 1).toNat : Int) = _
  obtain ⟨y, rfl⟩ := Int.eq_ofNat_of_zero_le h0
  rw [BitVec.toNat_and, BitVec.ofInt_natCast, BitVec.toNat_ofNat, show (BitVec.ofInt 64 1).toNat = 1 from rfl, Nat.and_one_is_mod, u64]
  omega
theorem shru (y : Int) (k : Nat) (hk : k ≤ 64) : shr .u64 y (k : Int) = y / 2 ^ k := by
  unfold shr
  simp only [IntKind.bits, Int.toNat_natCast]
  rw [show min k 64 = k by omega]
theorem addR_bd (a b c : Int) : 0 ≤ addR a b c ∧ addR a b c ≤ 18446744073709551615 := by unfold addR; omega
theorem sumC1 (a b c : Int) : sumC 1 a b c = (addR a b c / 256 % 2 == 1) := by
  have h := addR_bd a b c
  unfold sumC
  rw [if_pos (by decide), show (8 * 1 : Int) = ((8 : Nat) : Int) from rfl, shru _ 8 (by decide), show (2 : Int) ^ 8 = 256 by decide, andu1 (by omega) (by omega)]
theorem sumC2 (a b c : Int) : sumC 2 a b c = (addR a b c / 65536 % 2 == 1) := by
  have h := addR_bd a b c
  unfold sumC
  rw [if_pos (by decide), show (8 * 2 : Int) = ((16 : Nat) : Int) from rfl, shru _ 16 (by decide), show (2 : Int) ^ 16 = 65536 by decide, andu1 (by omega) (by omega)]
theorem sumC4 (a b c : Int) : sumC 4 a b c = (addR a b c / 4294967296 % 2 == 1) := by
  have h := addR_bd a b c
  unfold sumC
  rw [if_pos (by decide), show (8 * 4 : Int) = ((32 : Nat) : Int) from rfl, shru _ 32 (by decide), show (2 : Int) ^ 32 = 4294967296 by decide, andu1 (by omega) (by omega)]
theorem sumC8 (a b c : Int) : sumC 8 a b c = (addO a b c == 1) := by
  unfold sumC
  rw [if_neg (by decide)]
theorem beq_of {x y : Int} {u v : Int} (h : x = u ↔ y = v) : (x == u) = (y == v) := by rw [Bool.eq_iff_iff, beq_iff_eq, beq_iff_eq]; exact h
theorem sum_same {n a b c : Int} (hn : Sz n) (ha : I6 a) (hb : I6 b) (hc : 0 ≤ c ∧ c ≤ 1) : wrap64 (SI a b c (M8 n) % 2 ^ (M8 n)) = Z n (wrap64 (addR (Z n a) (Z n b) c)) ∧ (CI a b c (M8 n) == 1) = sumC n (Z n a) (Z n b) c := by
  unfold I6 at ha hb
  unfold CI SI M8
  rcases hn with rfl | rfl | rfl | rfl
  · rw [Z1, Z1, Z1, sumC1, show 8 * (1 : Int).toNat = 8 from rfl, show (2 : Int) ^ 8 = 256 by decide]
    exact ⟨by unfold addR wrap64; omega, beq_of (by unfold addR; omega)⟩
  · rw [Z2, Z2, Z2, sumC2, show 8 * (2 : Int).toNat = 16 from rfl, show (2 : Int) ^ 16 = 65536 by decide]
    exact ⟨by unfold addR wrap64; omega, beq_of (by unfold addR; omega)⟩
  · rw [Z4, Z4, Z4, sumC4, show 8 * (4 : Int).toNat = 32 from rfl, show (2 : Int) ^ 32 = 4294967296 by decide]
    exact ⟨by unfold addR wrap64; omega, beq_of (by unfold addR; omega)⟩
  · rw [Z8, Z8, Z8, sumC8, show 8 * (8 : Int).toNat = 64 from rfl, show (2 : Int) ^ 64 = 18446744073709551616 by decide]
    exact ⟨by unfold addR wrap64; omega, beq_of (by unfold addO; omega)⟩
theorem over_same {n a b c : Int} (hn : Sz n) (hc : 0 ≤ c ∧ c ≤ 1) : (CI a b c (M8 n) != CI a b c (M8 n - 1)) = ((BT n a ^^ BT n (wrap64 (SI a b c (M8 n) % 2 ^ (M8 n)))) && (BT n b ^^ BT n (wrap64 (SI a b c (M8 n) % 2 ^ (M8 n))))) := by
  have hm : M8 n ≤ 64 ∧ 8 ≤ M8 n := by
    unfold M8
    rcases hn with rfl | rfl | rfl | rfl <;> exact ⟨by decide, by decide⟩
  have hBT : ∀ x, BT n x = ((x % 18446744073709551616) / 2 ^ (M8 n - 1) % 2 == 1) := fun x => rfl
  rw [hBT, hBT, hBT]
  obtain ⟨i, hi⟩ : ∃ i, M8 n = i + 1 := ⟨M8 n - 1, by omega⟩
  rw [hi, Nat.add_sub_cancel]
  have hp0 : (0 : Int) < 2 ^ i := Int.pow_pos (by decide)
  have hp64 : (2 : Int) ^ (i + 1) ≤ 2 ^ 64 := by exact_mod_cast Nat.pow_le_pow_right (by decide) (by omega)
  have e64 : (2 : Int) ^ 64 = 18446744073709551616 := by decide
  have hbd := SI_bd (a := a) (b := b) hc i
  have hci := CI_01 (a := a) (b := b) hc i
  have hsd := step_div hbd.1 hbd.2 (n := (a % 18446744073709551616) / 2 ^ i % 2 + (b % 18446744073709551616) / 2 ^ i % 2) (by omega)
  rw [← SI_succ] at hsd
  have hq : SI a b c i / 2 ^ i = CI a b c i := rfl
  rw [hq] at hsd
  have hc2 : CI a b c (i + 1) = (CI a b c i + ((a % 18446744073709551616) / 2 ^ i % 2 + (b % 18446744073709551616) / 2 ^ i % 2)) / 2 := hsd.2
  have hpm : (0 : Int) < 2 ^ (i + 1) := Int.pow_pos (by decide)
  have hV0 := Int.emod_nonneg (SI a b c (i + 1)) (show (2 : Int) ^ (i + 1) ≠ 0 by omega)
  have hV1 := Int.emod_lt_of_pos (SI a b c (i + 1)) hpm
  have hw : wrap64 (SI a b c (i + 1) % 2 ^ (i + 1)) % 18446744073709551616 = SI a b c (i + 1) % 2 ^ (i + 1) := by unfold wrap64; omega
  rw [hw, hsd.1, hc2]
  have em0 := Int.emod_nonneg (SI a b c i) (show (2 : Int) ^ i ≠ 0 by omega)
  have em1 := Int.emod_lt_of_pos (SI a b c i) hp0
  generalize SI a b c i % 2 ^ i = r at *
  have hdiv : ∀ z : Int, (r + z * 2 ^ i) / 2 ^ i = z := fun z => by rw [Int.add_mul_ediv_right _ _ (by omega), Int.ediv_eq_zero_of_lt em0 em1, Int.zero_add]
  rw [hdiv]
  have hx : (a % 18446744073709551616) / 2 ^ i % 2 = 0 ∨ (a % 18446744073709551616) / 2 ^ i % 2 = 1 := by omega
  have hy : (b % 18446744073709551616) / 2 ^ i % 2 = 0 ∨ (b % 18446744073709551616) / 2 ^ i % 2 = 1 := by omega
  generalize (a % 18446744073709551616) / 2 ^ i % 2 = x at *
  generalize (b % 18446744073709551616) / 2 ^ i % 2 = y at *
  generalize CI a b c i = z at *
  rcases hx with rfl | rfl <;> rcases hy with rfl | rfl <;> rcases hci with rfl | rfl <;> rfl
theorem sub_back {n a b c : Int} (hn : Sz n) (ha : I6 a) (hb : I6 b) (hc : 0 ≤ c ∧ c ≤ 1) : Z n (wrap64 (subR (Z n (Z n (wrap64 (addR (Z n a) (Z n b) c)))) (Z n b) c)) = Z n a ∧ (subO (Z n (Z n (wrap64 (addR (Z n a) (Z n b) c)))) (Z n b) c == 1) = sumC n (Z n a) (Z n b) c := by
  rw [Z_Z hn]
  unfold I6 at ha hb
  rcases hn with rfl | rfl | rfl | rfl
  · rw [Z1, Z1, Z1, Z1, sumC1]
    exact ⟨by unfold subR addR wrap64; omega, beq_of (by unfold subO addR wrap64; split <;> omega)⟩
  · rw [Z2, Z2, Z2, Z2, sumC2]
    exact ⟨by unfold subR addR wrap64; omega, beq_of (by unfold subO addR wrap64; split <;> omega)⟩
  · rw [Z4, Z4, Z4, Z4, sumC4]
    exact ⟨by unfold subR addR wrap64; omega, beq_of (by unfold subO addR wrap64; split <;> omega)⟩
  · rw [Z8, Z8, Z8, Z8, sumC8]
    exact ⟨by unfold subR addR wrap64; omega, beq_of (by unfold subO addR addO wrap64; split <;> omega)⟩
theorem below_eq (x y : Int) : (subO x y 0 == 1) = decide (IntKind.u64.wrap x < IntKind.u64.wrap y) := by
  rw [u64, u64, Bool.eq_iff_iff, beq_iff_eq, decide_eq_true_eq]
  unfold subO
  split <;> omega
theorem alike_eq {n a b : Int} (hn : Sz n) (ha : I6 a) (hb : I6 b) : (Z n (wrap64 (subR (Z n a) (Z n b) 0)) == 0) = (Z n a == Z n b) := by
  unfold I6 at ha hb
  rcases hn with rfl | rfl | rfl | rfl
  · rw [Z1, Z1, Z1]; exact beq_of (by unfold subR wrap64; omega)
  · rw [Z2, Z2, Z2]; exact beq_of (by unfold subR wrap64; omega)
  · rw [Z4, Z4, Z4]; exact beq_of (by unfold subR wrap64; omega)
  · rw [Z8, Z8, Z8]; exact beq_of (by unfold subR wrap64; omega)
theorem fx_has (a b c o v : Bool) : hasV (fx a b c o v) 1 = o ∧ hasV (fx a b c o v) 64 = b ∧ hasV (fx a b c o v) 128 = a ∧ hasV (fx a b c o v) 2048 = v := by
  cases a <;> cases b <;> cases c <;> cases o <;> cases v <;> exact ⟨by kernel_rfl, by kernel_rfl, by kernel_rfl, by kernel_rfl⟩
theorem holds_val {c k : Int} (hk : k ∈ FLS) (hc : c = 2 ∨ c = 4 ∨ c = 12) : impl_Holds.f c k = some (isV k c, 0) := by
  unfold impl_Holds.f impl_within.f
  rw [if_pos (by omega), decide_eq_true (by omega : c ≤ 15)]
  simp only [Option.bind_some, if_true]
  rw [fls_are k hk]
  simp only [Option.bind_some, if_true]
  unfold impl_holds.f
  rw [if_pos hc]
  rfl
theorem izeroOf_val {n a : Int} (hn : Sz n) (ha : I6 a) : impl_ZeroOf.f a n = some (Z n a, 0) := by
  unfold impl_ZeroOf.f
  rw [isize_val hn]
  simp only [Option.bind_some, if_true]
  rw [izero_val hn ha]
  rfl
theorem isignOf_val {n a : Int} (hn : Sz n) (ha : I6 a) : impl_SignOf.f a n = some (sg a n, 0) := by
  unfold impl_SignOf.f
  rw [isize_val hn]
  simp only [Option.bind_some, if_true]
  rw [isign_val a n hn ha.1 ha.2]
  rfl
theorem less_eq {n a b : Int} (hn : Sz n) (ha : I6 a) (hb : I6 b) : (BT n (wrap64 (subR (Z n a) (Z n b) 0)) != ((BT n a ^^ BT n b) && (BT n a ^^ BT n (wrap64 (subR (Z n a) (Z n b) 0))))) = decide (sg a n < sg b n) := by
  have key : ∀ x y d : Int, (x = 0 ∨ x = 1) → (y = 0 ∨ y = 1) → (d = 0 ∨ d = 1) → ∀ P : Prop, [Decidable P] → ((x = y ∧ (d = 1 ↔ P)) ∨ (x ≠ y ∧ (x = 1 ↔ P))) → ((d == 1) != (((x == 1) ^^ (y == 1)) && ((x == 1) ^^ (d == 1)))) = decide P := by
    intro x y d hx hy hd P _ h
    by_cases hp : P
    · rw [decide_eq_true hp]
      rcases hx with rfl | rfl <;> rcases hy with rfl | rfl <;> rcases hd with rfl | rfl <;> simp_all
    · rw [decide_eq_false hp]
      rcases hx with rfl | rfl <;> rcases hy with rfl | rfl <;> rcases hd with rfl | rfl <;> simp_all
  unfold I6 at ha hb
  unfold BT
  refine key _ _ _ (by omega) (by omega) (by omega) _ ?_
  rcases hn with rfl | rfl | rfl | rfl
  · rw [Z1, Z1, show 8 * (1 : Int).toNat - 1 = 7 from rfl, show (2 : Int) ^ 7 = 128 by decide]
    simp only [sg, if_true]
    unfold subR wrap64
    by_cases h : a % 18446744073709551616 / 128 % 2 = b % 18446744073709551616 / 128 % 2
    · left; refine ⟨h, ?_⟩; omega
    · right; refine ⟨h, ?_⟩; omega
  · rw [Z2, Z2, show 8 * (2 : Int).toNat - 1 = 15 from rfl, show (2 : Int) ^ 15 = 32768 by decide]
    simp only [sg, if_true]
    rw [if_neg (by decide), if_neg (by decide)]
    unfold subR wrap64
    by_cases h : a % 18446744073709551616 / 32768 % 2 = b % 18446744073709551616 / 32768 % 2
    · left; refine ⟨h, ?_⟩; omega
    · right; refine ⟨h, ?_⟩; omega
  · rw [Z4, Z4, show 8 * (4 : Int).toNat - 1 = 31 from rfl, show (2 : Int) ^ 31 = 2147483648 by decide]
    simp only [sg, if_true]
    rw [if_neg (by decide), if_neg (by decide), if_neg (by decide), if_neg (by decide)]
    unfold subR wrap64
    by_cases h : a % 18446744073709551616 / 2147483648 % 2 = b % 18446744073709551616 / 2147483648 % 2
    · left; refine ⟨h, ?_⟩; omega
    · right; refine ⟨h, ?_⟩; omega
  · rw [Z8, Z8, show 8 * (8 : Int).toNat - 1 = 63 from rfl, show (2 : Int) ^ 63 = 9223372036854775808 by decide]
    simp only [sg]
    rw [if_neg (by decide), if_neg (by decide), if_neg (by decide), if_neg (by decide), if_neg (by decide), if_neg (by decide)]
    unfold subR wrap64
    by_cases h : a % 18446744073709551616 / 9223372036854775808 % 2 = b % 18446744073709551616 / 9223372036854775808 % 2
    · left; refine ⟨h, ?_⟩; omega
    · right; refine ⟨h, ?_⟩; omega
theorem shlv (v : Int) (k : Nat) (hv : v = 0 ∨ v = 1) (hk : k ≤ 32) : shl .i64 v (k : Int) = v * 2 ^ k := by
  rcases hv with rfl | rfl
  · unfold shl
    rw [Int.zero_mul, Int.zero_mul, i64_wrap]; exact w64 (by omega) (by omega)
  · rw [shl1 k hk, Int.one_mul]
theorem grow_eq {n a b c : Int} (hn : Sz n) (h8 : n ≠ 8) (ha : I6 a) (hb : I6 b) (hc : 0 ≤ c ∧ c ≤ 1) : wrap64 (Z n (wrap64 (addR (Z n a) (Z n b) c)) + shl .i64 (if sumC n (Z n a) (Z n b) c = true then 1 else 0) (IntKind.u64.wrap (wrap64 (8 * n)))) = wrap64 (wrap64 (Z n a + Z n b) + c) := by
  unfold I6 at ha hb
  rcases hn with rfl | rfl | rfl | rfl
  · rw [Z1, Z1, Z1, sumC1, show IntKind.u64.wrap (wrap64 (8 * 1)) = ((8 : Nat) : Int) by rw [w64 (by omega) (by omega), u64]; rfl, shlv _ 8 (by split <;> simp) (by decide), show (2 : Int) ^ 8 = 256 by decide]
    simp only [beq_iff_eq]
    unfold addR wrap64
    split <;> omega
  · rw [Z2, Z2, Z2, sumC2, show IntKind.u64.wrap (wrap64 (8 * 2)) = ((16 : Nat) : Int) by rw [w64 (by omega) (by omega), u64]; rfl, shlv _ 16 (by split <;> simp) (by decide), show (2 : Int) ^ 16 = 65536 by decide]
    simp only [beq_iff_eq]
    unfold addR wrap64
    split <;> omega
  · rw [Z4, Z4, Z4, sumC4, show IntKind.u64.wrap (wrap64 (8 * 4)) = ((32 : Nat) : Int) by rw [w64 (by omega) (by omega), u64]; rfl, shlv _ 32 (by split <;> simp) (by decide), show (2 : Int) ^ 32 = 4294967296 by decide]
    simp only [beq_iff_eq]
    unfold addR wrap64
    split <;> omega
  · exact absurd rfl h8
theorem FnAdd : laws_FnAdd.Pure := by
  intro l0 l1 _ _ hb0 _ _ hb1
  have b0 : ∀ x ∈ l0, 0 ≤ x ∧ x ≤ 255 := fun x hx => wf8 (hb0 x hx)
  have b1 : ∀ x ∈ l1, 0 ≤ x ∧ x ≤ 255 := fun x hx => wf8 (hb1 x hx)
  refine Ev.rounds (g := fun k => laws_FnAdd.f k l0 l1) ?_
  have early : Ev (fun k => laws_FnAdd.j0 k l0 l1 true) true := ⟨1, fun k hk => by
    obtain ⟨m, rfl⟩ : ∃ m, k = m + 1 := ⟨k - 1, by omega⟩
    simp only [laws_FnAdd.j0, if_true]⟩
  refine evIte (fun c => early) (fun c => ?_)
  by_cases c1 : (l1.length : Int) > 1048576
  · rw [decide_eq_true c1]; exact early
  rw [decide_eq_false c1]
  have hl0 : l0.length ≤ 1048576 := by omega
  have hl1 : l1.length ≤ 1048576 := by omega
  clear early c c1
  obtain ⟨a, ea, ia⟩ := number_ok hl0 b0
  obtain ⟨b, eb, ib⟩ := number_ok hl1 b1
  obtain ⟨n, en, hn⟩ := size_ok hl1 b1
  obtain ⟨f, ef, hf⟩ := flags_ok hl0 b0
  have evf : Ev (fun k => spec_FlagsDrawn.f k l0) f := Ev.of (g := fun k => spec_FlagsDrawn.f k l0) (fun k => spec_FlagsDrawn.mono l0 k) ef
  have hc := carry_in hf
  obtain ⟨t, e3, ht⟩ := alu_sum hn ia ib hf
  have es := sAlu_ev (n := n) (a := a) (b := b) hn hf
  have hsame := sum_same hn ia ib hc
  have hover := over_same (a := a) (b := b) hn hc
  have iv : I6 (Z n (wrap64 (addR (Z n a) (Z n b) (Go.bits .and .i64 f 1)))) := Z_i6 hn (i6_wrap _)
  obtain ⟨g4, t4, e4, hg4⟩ := alu_diff hn iv ib hf
  have hback := sub_back hn ia ib hc
  obtain ⟨t8, e8, ht8⟩ := alu_cmp hn ia ib hf
  have hgrow := fun h8 => grow_eq (n := n) hn h8 ia ib hc
  have hlow := below_eq (Z n a) (Z n b)
  have hlike := alike_eq hn ia ib
  have hless := less_eq hn ia ib
  rw [BT_and, BT_xor, BT_xor, BT_Z hn, BT_Z hn, BT_Z hn] at ht ht8
  rw [hsame.1] at es hover
  rw [hsame.2, hover, BT_Z hn, Z_Z hn, PE_Z hn] at es
  rw [← ht] at es
  rw [hback.1] at e4
  have hg4c : Go.bits .and .i64 g4 1 = (if (sumC n (Z n a) (Z n b) (Go.bits .and .i64 f 1)) = true then 1 else 0) := by rw [hg4, fx_and1, hback.2]
  have hg3c : Go.bits .and .i64 (fx (BT n (wrap64 (addR (Z n a) (Z n b) (Go.bits .and .i64 f 1)))) (Z n (wrap64 (addR (Z n a) (Z n b) (Go.bits .and .i64 f 1))) == 0) (PE (wrap64 (addR (Z n a) (Z n b) (Go.bits .and .i64 f 1)))) (sumC n (Z n a) (Z n b) (Go.bits .and .i64 f 1)) t) 1 = (if (sumC n (Z n a) (Z n b) (Go.bits .and .i64 f 1)) = true then 1 else 0) := fx_and1 _ _ _ _ _
  have hk := fx_has (BT n (wrap64 (subR (Z n a) (Z n b) 0))) (Z n (wrap64 (subR (Z n a) (Z n b) 0)) == 0) (PE (wrap64 (subR (Z n a) (Z n b) 0))) (subO (Z n a) (Z n b) 0 == 1) t8
  have hkm := fx_mem (BT n (wrap64 (subR (Z n a) (Z n b) 0))) (Z n (wrap64 (subR (Z n a) (Z n b) 0)) == 0) (PE (wrap64 (subR (Z n a) (Z n b) 0))) (subO (Z n a) (Z n b) 0 == 1) t8
  generalize hK : fx (BT n (wrap64 (subR (Z n a) (Z n b) 0))) (Z n (wrap64 (subR (Z n a) (Z n b) 0)) == 0) (PE (wrap64 (subR (Z n a) (Z n b) 0))) (subO (Z n a) (Z n b) 0 == 1) t8 = K at e8 hk hkm
  rw [ht8] at hk
  generalize hG : fx (BT n (wrap64 (addR (Z n a) (Z n b) (Go.bits .and .i64 f 1)))) (Z n (wrap64 (addR (Z n a) (Z n b) (Go.bits .and .i64 f 1))) == 0) (PE (wrap64 (addR (Z n a) (Z n b) (Go.bits .and .i64 f 1)))) (sumC n (Z n a) (Z n b) (Go.bits .and .i64 f 1)) t = G at e3 es hg3c
  refine Ev.step (fun k => by simp only [laws_FnAdd.j0]; exact rfl) ?_
  refine evNeg (by decide) ?_
  refine evB ea ?_
  refine evB eb ?_
  refine evB en ?_
  refine Ev.bind evf ?_
  refine evB e3 ?_
  refine Ev.bind es ?_
  refine evB e4 ?_
  refine evB (izeroOf_val hn ia) ?_
  refine evB (izeroOf_val hn ib) ?_
  refine evB e8 ?_
  refine evPos rfl ?_
  refine evPos rfl ?_
  refine evPos rfl ?_
  refine evPos rfl ?_
  refine evPos rfl ?_
  refine evPos (hg4c.trans hg3c.symm) ?_
  refine evPos rfl ?_
  refine evPos rfl ?_
  refine evPos rfl ?_
  have hne : (Z n a != Z n a) = false := by simp
  show Ev (fun k => laws_FnAdd.j1 k a b n f _ G (Z n a) (Z n b) K (Z n a != Z n a)) true
  rw [hne]
  refine Ev.step (fun k => by simp only [laws_FnAdd.j1]; exact rfl) ?_
  refine evNeg (by decide) ?_
  refine evB (holds_val hkm (Or.inl rfl)) ?_
  refine evB (holds_val hkm (Or.inr (Or.inl rfl))) ?_
  refine evB (holds_val hkm (Or.inr (Or.inr rfl))) ?_
  refine evB (isignOf_val hn ia) ?_
  refine evB (isignOf_val hn ib) ?_
  refine evPos rfl ?_
  refine evB rfl ?_
  refine evPos (by show (hasV K 1 == decide (IntKind.u64.wrap (Z n a) < IntKind.u64.wrap (Z n b))) = true; rw [hk.1, hlow]; simp) ?_
  refine evPos rfl ?_
  refine evPos (by show (hasV K 64 == (Z n a == Z n b)) = true; rw [hk.2.1, hlike]; simp) ?_
  refine evPos rfl ?_
  refine evPos rfl ?_
  refine evPos rfl ?_
  refine evPos (by show ((hasV K 128 != hasV K 2048) == decide (sg a n < sg b n)) = true; rw [hk.2.2.1, hk.2.2.2, hless]; simp) ?_
  by_cases h8 : n = 8
  · exact evPos h8 (evR _)
  · refine evNeg h8 ?_
    refine evPos (by rw [u64]; omega) ?_
    refine evEq (evR _) ?_
    show (wrap64 (Z n (wrap64 (addR (Z n a) (Z n b) (Go.bits .and .i64 f 1))) + shl .i64 (Go.bits .and .i64 G 1) (IntKind.u64.wrap (wrap64 (8 * n)))) == wrap64 (wrap64 (Z n a + Z n b) + Go.bits .and .i64 f 1)) = true
    rw [hg3c, hgrow h8]
    simp

end Go.Proofs.Ytigoabhkdipdeaa.Pure

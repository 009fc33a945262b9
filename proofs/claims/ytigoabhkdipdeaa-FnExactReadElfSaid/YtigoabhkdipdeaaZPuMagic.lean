/- A part of the plain reading of Go's code: what a function's code comes to, by a plain function. No condition. -/
import Derived.Test.YtigoabhkdipdeaaZPuHead
/- The head of an ELF text, told by its pieces. -/
namespace Go.Proofs.Ytigoabhkdipdeaa
open Go Go.Proofs.Ytigoabhkdipdeaa.AM
set_option linter.all false
theorem byteOf_bt (s : ByteArray) (i : Nat) : AM.byteOf [Value.int IntKind.u8 (bt s i)] = s.data.getD i 0 := by
  unfold AM.byteOf bt
  simp
theorem tk_byte (s : ByteArray) : ∀ (n p j : Nat), j < n → tk s p n / 2 ^ (8 * j) % 256 = bt s (p + j) := by
  intro n
  induction n with
  | zero => intro p j h; omega
  | succ n ih =>
    intro p j h
    have hb := bt_range s p
    cases j with
    | zero => unfold tk; simp; omega
    | succ j =>
      have h1 := ih (p + 1) j (by omega)
      unfold tk
      have e : (bt s p + 256 * tk s (p + 1) n) / 2 ^ (8 * (j + 1)) = tk s (p + 1) n / 2 ^ (8 * j) := by
        rw [show 8 * (j + 1) = 8 + 8 * j by omega, Int.pow_add, ← Int.ediv_ediv_of_nonneg (by omega), show ((2 : Int) ^ 8) = 256 from rfl]
        congr 1
        omega
      rw [e, h1, show p + (j + 1) = p + 1 + j by omega]
theorem byteAt_wrap (v : Int) (j : Nat) (h : j < 8) : byteAt (IntKind.i64.wrap v) j = byteAt v j := by
  unfold byteAt
  rw [wI_def]
  have : j = 0 ∨ j = 1 ∨ j = 2 ∨ j = 3 ∨ j = 4 ∨ j = 5 ∨ j = 6 ∨ j = 7 := by omega
  rcases this with rfl | rfl | rfl | rfl | rfl | rfl | rfl | rfl <;> simp only [Nat.mul_zero, Nat.reduceMul, Int.reducePow] <;> omega
theorem LB_data (v : Int) (n : Nat) : (LB v n).data.toList = (List.range n).map fun j => AM.byteOf [Value.int IntKind.u8 (byteAt v j)] := by
  unfold LB
  simp
theorem LB_tk (s : ByteArray) (p n : Nat) (hn : n ≤ 8) (hs : p + n ≤ s.size) : LB (IntKind.i64.wrap (tk s p n)) n = s.extract p (p + n) := by
  apply ByteArray.ext
  apply Array.toList_inj.1
  have hz : s.data.size = s.size := rfl
  refine List.ext_getElem (by rw [LB_data]; simp [ByteArray.data_extract]; omega) fun j h1 h2 => ?_
  rw [LB_data] at h1
  have hj : j < n := by simpa using h1
  simp only [LB_data, List.getElem_map, List.getElem_range, byteAt_wrap _ j (by omega : j < 8)]
  unfold byteAt
  rw [tk_byte s n p j hj, byteOf_bt]
  simp [ByteArray.data_extract, Array.getD_eq_getD_getElem?]
  rw [Array.getElem?_eq_getElem (by omega)]
  rfl
def HA : ByteArray := H0 ++ LB 2 2 ++ LB 62 2 ++ LB 1 4
def HC : ByteArray := LB 64 8 ++ LB 0 8 ++ LB 0 4 ++ LB 64 2 ++ LB 56 2
theorem HA_size : HA.size = 24 := by unfold HA; simp only [ByteArray.size_append, LB_size, H0_size]
theorem HC_size : HC.size = 24 := by unfold HC; simp only [ByteArray.size_append, LB_size]
theorem HD_parts (a m : Int) : HD a m = HA ++ (LB a 8 ++ (HC ++ (LB m 2 ++ H6))) := by
  unfold HD HA HC
  simp only [ByteArray.append_assoc]
theorem HD_size (a m : Int) : (HD a m).size = 64 := by
  rw [HD_parts]
  simp only [ByteArray.size_append, LB_size, HA_size, HC_size, H6_size]
theorem HD_a (a m : Int) : (HD a m).extract 0 24 = HA := by rw [HD_parts]; exact ByteArray.extract_append_eq_left HA_size.symm
theorem drop_app {x y : ByteArray} {p q n : Nat} (h : x.size = n) : (x ++ y).extract (n + p) (n + q) = y.extract p q := ByteArray.extract_append_size_add' h.symm
theorem HD_c (a m : Int) : (HD a m).extract 32 56 = HC := by
  rw [HD_parts]
  refine (drop_app (p := 8) (q := 32) HA_size).trans ((drop_app (p := 0) (q := 24) (LB_size _ _)).trans ?_)
  exact ByteArray.extract_append_eq_left HC_size.symm
theorem HD_d (a m : Int) : (HD a m).extract 58 64 = H6 := by
  rw [HD_parts]
  refine (drop_app (p := 34) (q := 40) HA_size).trans ((drop_app (p := 26) (q := 32) (LB_size _ _)).trans ((drop_app (p := 2) (q := 8) HC_size).trans ((drop_app (p := 0) (q := 6) (LB_size _ _)).trans ?_)))
  rfl
theorem parts64 (s : ByteArray) : s.extract 0 64 = s.extract 0 24 ++ (s.extract 24 32 ++ (s.extract 32 56 ++ (s.extract 56 58 ++ s.extract 58 64))) := by
  have e : ∀ a b c : Nat, a ≤ b → b ≤ c → s.extract a b ++ s.extract b c = s.extract a c := fun a b c h k => by
    rw [ByteArray.extract_append_extract, Nat.min_eq_left h, Nat.max_eq_right k]
  rw [e 56 58 64 (by omega) (by omega), e 32 56 64 (by omega) (by omega), e 24 32 64 (by omega) (by omega), e 0 24 64 (by omega) (by omega)]
theorem magic_iff (s : ByteArray) (hs : 64 ≤ s.size) : s.extract 0 64 = HD (IntKind.i64.wrap (tk s 24 8)) (IntKind.i64.wrap (tk s 56 2)) ↔ s.extract 0 24 = HA ∧ s.extract 32 56 = HC ∧ s.extract 58 64 = H6 := by
  rw [HD_parts, LB_tk s 24 8 (by omega) (by omega), LB_tk s 56 2 (by omega) (by omega), parts64]
  constructor
  · intro h
    have h1 := ByteArray.append_inj_left h (by rw [ByteArray.size_extract, HA_size]; omega)
    rw [h1] at h
    have h2 := (ByteArray.append_right_inj _).1 h
    have h3 := (ByteArray.append_right_inj _).1 h2
    have h4 := ByteArray.append_inj_left h3 (by rw [ByteArray.size_extract, HC_size]; omega)
    rw [h4] at h3
    have h5 := (ByteArray.append_right_inj _).1 h3
    exact ⟨h1, h4, (ByteArray.append_right_inj _).1 h5⟩
  · rintro ⟨h1, h2, h3⟩
    rw [h1, h2, h3]
theorem toList_eq (x y : ByteArray) : (x.toList == y.toList) = decide (x = y) := by
  by_cases h : x = y
  · subst h; simp
  · rw [decide_eq_false h]
    exact beq_eq_false_iff_ne.2 fun e => h (toList_inj e)
/-- Whether a text begins as an ELF text. -/
def HOK (s : ByteArray) : Bool := decide (s.extract 0 64 = HD (IntKind.i64.wrap (tk s 24 8)) (IntKind.i64.wrap (tk s 56 2)))
theorem s_l10Magic_ev (s : ByteArray) (hs : 64 ≤ s.size) : Ev (fun n => s_l10Magic n s) (HOK s) := by
  unfold s_l10Magic
  refine Ev.bind (s_l10Head_ev 0 0) ?_
  simp only [HD_size]
  refine Ev.dt (by show 24 ≤ s.size; omega) (Ev.dt (by decide) ?_)
  rw [show Int.toNat (24 : Int) = 24 from rfl, show Int.toNat (32 : Int) = 32 from rfl, show Int.toNat (56 : Int) = 56 from rfl, show Int.toNat (58 : Int) = 58 from rfl, show Int.toNat (64 : Int) = 64 from rfl, HD_a, HD_c, HD_d, toList_eq, toList_eq, toList_eq]
  have hm := magic_iff s hs
  unfold HOK
  by_cases h1 : s.extract 0 24 = HA
  · refine Ev.dt h1 (Ev.dt (by omega) (Ev.dt (by omega) ?_))
    by_cases h2 : s.extract 32 56 = HC
    · refine Ev.dt h2 (Ev.dt (by omega) (Ev.dt (by omega) (Ev.eq (Ev.now _) ?_)))
      rw [decide_eq_decide, hm]
      exact ⟨fun h => ⟨h1, h2, h⟩, fun h => h.2.2⟩
    · refine Ev.df h2 (Ev.eq (Ev.now _) ?_)
      exact (decide_eq_false fun h => h2 (hm.1 h).2.1).symm
  · refine Ev.df h1 (Ev.eq (Ev.now _) ?_)
    exact (decide_eq_false fun h => h1 (hm.1 h).1).symm
end Go.Proofs.Ytigoabhkdipdeaa

/- The program's Padded tells what the reference's tells, for every text. No condition. -/
import Derived.Test.YtoohimpbckpiaaaPFnExactPaddedx0
import Derived.Test.YtoohimpbckpiaaaPFnExactPaddedx1
import Derived.Test.YtoohimpbckpiaaaNNum
namespace Go.Proofs.Ytoohimpbckpiaaa.Pure
open Go.RowKit Go.Proofs.Ytoohimpbckpiaaa.PFnExactPadded Go.Proofs.YtoohimpbckpiaaaW.PrintWords Go.Proofs.YtoohimpbckpiaaaW.PrintLast Go.Proofs.YtoohimpbckpiaaaW.PrintMore Go.Proofs.Ytoohimpbckpiaaa.Num
set_option linter.unusedSimpArgs false
set_option linter.unusedVariables false

theorem padded_val (s : ByteArray) (h : 0 < s.size ∧ s.size ≤ 3072) : impl_padded.f s (⟨#[244]⟩ : ByteArray) = some (strOfNums (bytesOf s ++ List.replicate (padBy s.size) 244)) := by
  have hp : padBy s.size ≤ 255 := by unfold padBy; omega
  have e : wrap64 ((wrap64 (Int.tdiv (wrap64 ((wrap64 ((s.size : Int) + 256)) - 1)) 256)) * 256) = (s.size : Int) + padBy s.size := by
    rw [w64 (n := (s.size : Int) + 256) (by omega) (by omega), w64 (n := (s.size : Int) + 256 - 1) (by omega) (by omega), Int.tdiv_eq_ediv_of_nonneg (by omega), w64 (n := ((s.size : Int) + 256 - 1) / 256) (by omega) (by omega), w64 (by omega) (by omega)]
    unfold padBy
    omega
  have hsz : ((⟨#[244]⟩ : ByteArray)).size = 1 := rfl
  unfold impl_padded.f impl_pages.f strings_Repeat.f
  simp only [Option.bind_some, e, hsz]
  rw [show wrap64 ((s.size : Int) + padBy s.size - s.size) = (padBy s.size : Int) by rw [w64 (by omega) (by omega)]; omega, Int.toNat_natCast, if_pos (by omega)]
  simp only [Option.bind_some]
  have hl : Go.Lib.repeatL (⟨#[244]⟩ : ByteArray).data.toList (padBy s.size) = List.replicate (padBy s.size) 244 := by
    have := Go.Lib.repeatL_replicate (244 : UInt8) 1 (padBy s.size)
    rw [Nat.mul_one] at this
    exact this
  rw [hl, if_pos (by
    have : (ByteArray.mk (List.replicate (padBy s.size) (244 : UInt8)).toArray).size = padBy s.size := by
      show (List.replicate (padBy s.size) (244 : UInt8)).toArray.size = _
      rw [List.size_toArray, List.length_replicate]
    omega)]
  obtain ⟨⟨l⟩⟩ := s
  unfold strOfNums bytesOf
  rw [List.map_append, Go.ByteArray.mk_append_mk]
  have e1 : ∀ l : List UInt8, List.map (fun n : Int => UInt8.ofNat n.toNat) (List.map (fun b : UInt8 => (b.toNat : Int)) l) = l := by
    intro l
    induction l with
    | nil => rfl
    | cons x xs ih => rw [List.map_cons, List.map_cons, ih, Int.toNat_natCast, UInt8.ofNat_toNat]
  simp only []
  rw [e1, List.map_replicate]
  rfl
theorem FnExactPadded : laws_FnExactPadded.Pure := by
  intro s ok
  unfold laws_FnExactPadded.f
  by_cases c : (s.size : Int) > 1048576
  · rw [if_pos c]
  rw [if_neg c]
  unfold spec_Padded.f impl_Padded.f
  by_cases c1 : 65536 < s.size
  · rw [if_pos c1, if_pos (by omega)]; simp
  rw [if_neg c1, if_neg (c := (s.size : Int) > 65536) (by omega)]
  by_cases c2 : s.size = 0
  · rw [if_pos (.inl c2), if_pos (by omega)]; simp
  rw [if_neg (c := (s.size : Int) = 0) (by omega)]
  by_cases c3 : 3072 < s.size
  · rw [if_pos (.inr c3), if_pos (by omega)]; simp
  rw [if_neg (by omega), if_neg (c := (s.size : Int) > 3072) (by omega), padded_val s (by omega)]
  simp

end Go.Proofs.Ytoohimpbckpiaaa.Pure

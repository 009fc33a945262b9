/- The program's PrivateByte tells what the reference's tells, for every int. No condition. -/
import Derived.Test.YtoohimpbckpiaaaPFnExactPrivateBytex1
import Derived.Test.YtoohimpbckpiaaaNNum
namespace Go.Proofs.Ytoohimpbckpiaaa.Pure
open Go.RowKit Go.Proofs.Ytoohimpbckpiaaa.PFnExactPrivateByte Go.Proofs.YtoohimpbckpiaaaW.PrintWords Go.Proofs.YtoohimpbckpiaaaW.PrintLast Go.Proofs.Ytoohimpbckpiaaa.Num

theorem FnExactPrivateByte : laws_FnExactPrivateByte.Pure := by
  intro a h
  have hb := wf64 h
  unfold laws_FnExactPrivateByte.f spec_PrivateByte.f impl_PrivateByte.f impl_isByte.f impl_within.f spec_l01In.f
  by_cases h0 : a ≥ 0
  · rw [if_pos h0]
    by_cases h1 : a ≤ 255
    · have e1 : wrap64 (wrap64 (7 * a) + 3) = 7 * a + 3 := by rw [w64 (n := 7 * a) (by omega) (by omega), w64 (by omega) (by omega)]
      have e2 : Go.bits .and .i64 (7 * a + 3) 255 = (7 * a + 3) % 256 := and_mask (7 * a + 3) 8 (by decide)
      simp only [h1, decide_true, Option.bind_some, if_true, e1, e2]
      rw [Int.tmod_eq_emod_of_nonneg (by omega), if_pos rfl]
    · simp [h1]
  · simp [h0]

end Go.Proofs.Ytoohimpbckpiaaa.Pure

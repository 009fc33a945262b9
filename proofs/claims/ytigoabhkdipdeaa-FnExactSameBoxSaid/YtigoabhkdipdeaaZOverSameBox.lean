/- FnExactSameBox holds: its row. No condition. -/
import Derived.Test.YtigoabhkdipdeaaZLawSameBox
import Derived.Test.YtigoabhkdipdeaaZCaSameBox
import Derived.Test.YtigoabhkdipdeaaZCbSameBox
namespace Go.Proofs.Ytigoabhkdipdeaa.fnExactSameBox
open Go.RowKit Go.ChangeShapes Go.WideShapes Go.ChangeMaps
theorem over : Rows.fnExactSameBoxRow.holds Try.pinned (OpenSpec.ofChange Rows.fnExactSameBoxSpec) :=
  OpenClaim.holds_of_wide 6 Try.f6 rfl rfl rfl rfl rfl rfl rfl ⟨rfl, rfl, rfl, rfl, rfl⟩ rfl rfl rfl rfl rfl named Try.func6 closed
    (of_decide_eq_true (by kernel_rfl)) (by unfold Func.isWrapper; first | (rw [if_pos (by decide +kernel)]; kernel_rfl) | (rw [if_neg (by decide +kernel)]; exact ⟨rfl, rfl⟩))
    (fun os started H enc _ => lifted os started H enc)
theorem proved : Rows.FnExactSameBoxSaid := over
end Go.Proofs.Ytigoabhkdipdeaa.fnExactSameBox
namespace Go.Proofs.Ytigoabhkdipdeaa
/-- The row, under a short name, for the claim. -/
theorem fnExactSameBox_holds : Rows.FnExactSameBoxSaid := fnExactSameBox.proved
end Go.Proofs.Ytigoabhkdipdeaa

/- FnExactNewBox holds: its row. No condition. -/
import Derived.Test.YtigoabhkdipdeaaZLawNewBox
import Derived.Test.YtigoabhkdipdeaaZCaNewBox
import Derived.Test.YtigoabhkdipdeaaZCbNewBox
namespace Go.Proofs.Ytigoabhkdipdeaa.fnExactNewBox
open Go.RowKit Go.ChangeShapes Go.WideShapes Go.ChangeMaps
theorem over : Rows.fnExactNewBoxRow.holds Try.pinned (OpenSpec.ofChange Rows.fnExactNewBoxSpec) :=
  OpenClaim.holds_of_wide 7 Try.f7 rfl rfl rfl rfl rfl rfl rfl ⟨rfl, rfl, rfl, rfl, rfl⟩ rfl rfl rfl rfl rfl named Try.func7 closed
    (of_decide_eq_true (by kernel_rfl)) (by unfold Func.isWrapper; first | (rw [if_pos (by decide +kernel)]; kernel_rfl) | (rw [if_neg (by decide +kernel)]; exact ⟨rfl, rfl⟩))
    (fun os started H enc _ => lifted os started H enc)
theorem proved : Rows.FnExactNewBoxSaid := over
end Go.Proofs.Ytigoabhkdipdeaa.fnExactNewBox
namespace Go.Proofs.Ytigoabhkdipdeaa
/-- The row, under a short name, for the claim. -/
theorem fnExactNewBox_holds : Rows.FnExactNewBoxSaid := fnExactNewBox.proved
end Go.Proofs.Ytigoabhkdipdeaa

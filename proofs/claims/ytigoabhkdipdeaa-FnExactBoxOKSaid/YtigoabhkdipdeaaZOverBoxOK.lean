/- FnExactBoxOK holds: its row. No condition. -/
import Derived.Test.YtigoabhkdipdeaaZLawBoxOK
import Derived.Test.YtigoabhkdipdeaaZCaBoxOK
import Derived.Test.YtigoabhkdipdeaaZCbBoxOK
namespace Go.Proofs.Ytigoabhkdipdeaa.fnExactBoxOK
open Go.RowKit Go.ChangeShapes Go.WideShapes Go.ChangeMaps
theorem over : Rows.fnExactBoxOKRow.holds Try.pinned (OpenSpec.ofChange Rows.fnExactBoxOKSpec) :=
  OpenClaim.holds_of_wide 4 Try.f4 rfl rfl rfl rfl rfl rfl rfl ⟨rfl, rfl, rfl, rfl, rfl⟩ rfl rfl rfl rfl rfl named Try.func4 closed
    (of_decide_eq_true (by kernel_rfl)) (by unfold Func.isWrapper; first | (rw [if_pos (by decide +kernel)]; kernel_rfl) | (rw [if_neg (by decide +kernel)]; exact ⟨rfl, rfl⟩))
    (fun os started H enc _ => lifted os started H enc)
theorem proved : Rows.FnExactBoxOKSaid := over
end Go.Proofs.Ytigoabhkdipdeaa.fnExactBoxOK
namespace Go.Proofs.Ytigoabhkdipdeaa
/-- The row, under a short name, for the claim. -/
theorem fnExactBoxOK_holds : Rows.FnExactBoxOKSaid := fnExactBoxOK.proved
end Go.Proofs.Ytigoabhkdipdeaa

/- FnExactMapImage holds: its row. No condition. -/
import Derived.Test.YtigoabhkdipdeaaZLawMapImage
import Derived.Test.YtigoabhkdipdeaaZCaMapImage
import Derived.Test.YtigoabhkdipdeaaZCbMapImage
namespace Go.Proofs.Ytigoabhkdipdeaa.fnExactMapImage
open Go.RowKit Go.ChangeShapes Go.WideShapes Go.ChangeMaps
theorem over : Rows.fnExactMapImageRow.holds Try.pinned (OpenSpec.ofChange Rows.fnExactMapImageSpec) :=
  OpenClaim.holds_of_wide 9 Try.f9 rfl rfl rfl rfl rfl rfl rfl ⟨rfl, rfl, rfl, rfl, rfl⟩ rfl rfl rfl rfl rfl named Try.func9 closed
    (of_decide_eq_true (by kernel_rfl)) (by unfold Func.isWrapper; first | (rw [if_pos (by decide +kernel)]; kernel_rfl) | (rw [if_neg (by decide +kernel)]; exact ⟨rfl, rfl⟩))
    (fun os started H enc _ => lifted os started H enc)
theorem proved : Rows.FnExactMapImageSaid := over
end Go.Proofs.Ytigoabhkdipdeaa.fnExactMapImage
namespace Go.Proofs.Ytigoabhkdipdeaa
/-- The row, under a short name, for the claim. -/
theorem fnExactMapImage_holds : Rows.FnExactMapImageSaid := fnExactMapImage.proved
end Go.Proofs.Ytigoabhkdipdeaa

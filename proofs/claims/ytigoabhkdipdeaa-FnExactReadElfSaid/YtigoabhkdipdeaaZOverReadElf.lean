/- FnExactReadElf holds: its row. No condition. -/
import Derived.Test.YtigoabhkdipdeaaZLawReadElf
import Derived.Test.YtigoabhkdipdeaaZCaReadElf
import Derived.Test.YtigoabhkdipdeaaZCbReadElf
namespace Go.Proofs.Ytigoabhkdipdeaa.fnExactReadElf
open Go.RowKit Go.ChangeShapes Go.WideShapes Go.ChangeMaps
theorem over : Rows.fnExactReadElfRow.holds Try.pinned (OpenSpec.ofChange Rows.fnExactReadElfSpec) :=
  OpenClaim.holds_of_wide 11 Try.f11 rfl rfl rfl rfl rfl rfl rfl ⟨rfl, rfl, rfl, rfl, rfl⟩ rfl rfl rfl rfl rfl named Try.func11 closed
    (of_decide_eq_true (by kernel_rfl)) (by unfold Func.isWrapper; first | (rw [if_pos (by decide +kernel)]; kernel_rfl) | (rw [if_neg (by decide +kernel)]; exact ⟨rfl, rfl⟩))
    (fun os started H enc _ => lifted os started H enc)
theorem proved : Rows.FnExactReadElfSaid := over
end Go.Proofs.Ytigoabhkdipdeaa.fnExactReadElf
namespace Go.Proofs.Ytigoabhkdipdeaa
/-- The row, under a short name, for the claim. -/
theorem fnExactReadElf_holds : Rows.FnExactReadElfSaid := fnExactReadElf.proved
end Go.Proofs.Ytigoabhkdipdeaa

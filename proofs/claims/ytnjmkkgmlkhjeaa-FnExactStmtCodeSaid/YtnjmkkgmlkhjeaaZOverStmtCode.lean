/- FnExactStmtCode holds: its row. No condition. -/
import Derived.Test.YtnjmkkgmlkhjeaaZLawStmtCode
import Derived.Test.YtnjmkkgmlkhjeaaZCaStmtCode
import Derived.Test.YtnjmkkgmlkhjeaaZCbStmtCode
namespace Go.Proofs.Ytnjmkkgmlkhjeaa.fnExactStmtCode
open Go.RowKit Go.ChangeShapes Go.WideShapes Go.ChangeMaps
theorem over : Rows.fnExactStmtCodeRow.holds Try.pinned (OpenSpec.ofChange Rows.fnExactStmtCodeSpec) :=
  OpenClaim.holds_of_wide 3 Try.f3 rfl rfl rfl rfl rfl rfl rfl ⟨rfl, rfl, rfl, rfl, rfl⟩ rfl rfl rfl rfl rfl named Try.func3 closed
    (of_decide_eq_true (by kernel_rfl)) (by unfold Func.isWrapper; first | (rw [if_pos (by decide +kernel)]; kernel_rfl) | (rw [if_neg (by decide +kernel)]; exact ⟨rfl, rfl⟩))
    (fun os started H enc _ => lifted os started H enc)
theorem proved : Rows.FnExactStmtCodeSaid := over
end Go.Proofs.Ytnjmkkgmlkhjeaa.fnExactStmtCode
namespace Go.Proofs.Ytnjmkkgmlkhjeaa
/-- The row, under a short name, for the claim. -/
theorem fnExactStmtCode_holds : Rows.FnExactStmtCodeSaid := fnExactStmtCode.proved
end Go.Proofs.Ytnjmkkgmlkhjeaa

/- The row of FnExactStmtCode names its function. No condition. -/
import Derived.Test.YtnjmkkgmlkhjeaaRows
import Derived.WalkKit
import Derived.ProofKit
import Derived.JoinedOf
import Derived.SizedLaws
namespace Go.Proofs.Ytnjmkkgmlkhjeaa.fnExactStmtCode
open Go.RowKit
theorem named : Try.pinned.checked.prog.funcNamed Rows.fnExactStmtCodeRow.func = some 3 := by kernel_rfl
end Go.Proofs.Ytnjmkkgmlkhjeaa.fnExactStmtCode

/- The row of FnExactStmtCode stands to its program. No condition. -/
import Derived.Test.YtnjmkkgmlkhjeaaRows
import Derived.WalkKit
import Derived.ProofKit
import Derived.JoinedOf
import Derived.SizedLaws
namespace Go.Proofs.Ytnjmkkgmlkhjeaa.fnExactStmtCode
open Go.RowKit
theorem closed : joinedFacts Try.pinned.checked.prog 3 Try.f3 Rows.fnExactStmtCodeSpec Rows.fnExactStmtCodeRow = true := by kernel_rfl
end Go.Proofs.Ytnjmkkgmlkhjeaa.fnExactStmtCode

/- The row of FnExactBoxOK stands to its program. No condition. -/
import Derived.Test.YtigoabhkdipdeaaRows
import Derived.WalkKit
import Derived.ProofKit
import Derived.JoinedOf
import Derived.SizedLaws
namespace Go.Proofs.Ytigoabhkdipdeaa.fnExactBoxOK
open Go.RowKit
theorem closed : joinedFacts Try.pinned.checked.prog 4 Try.f4 Rows.fnExactBoxOKSpec Rows.fnExactBoxOKRow = true := by kernel_rfl
end Go.Proofs.Ytigoabhkdipdeaa.fnExactBoxOK

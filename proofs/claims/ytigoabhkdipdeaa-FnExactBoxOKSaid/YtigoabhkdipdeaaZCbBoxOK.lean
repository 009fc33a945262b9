/- The row of FnExactBoxOK names its function. No condition. -/
import Derived.Test.YtigoabhkdipdeaaRows
import Derived.WalkKit
import Derived.ProofKit
import Derived.JoinedOf
import Derived.SizedLaws
namespace Go.Proofs.Ytigoabhkdipdeaa.fnExactBoxOK
open Go.RowKit
theorem named : Try.pinned.checked.prog.funcNamed Rows.fnExactBoxOKRow.func = some 4 := by kernel_rfl
end Go.Proofs.Ytigoabhkdipdeaa.fnExactBoxOK

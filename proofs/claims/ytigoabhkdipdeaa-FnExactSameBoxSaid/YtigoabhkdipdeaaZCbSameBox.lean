/- The row of FnExactSameBox names its function. No condition. -/
import Derived.Test.YtigoabhkdipdeaaRows
import Derived.WalkKit
import Derived.ProofKit
import Derived.JoinedOf
import Derived.SizedLaws
namespace Go.Proofs.Ytigoabhkdipdeaa.fnExactSameBox
open Go.RowKit
theorem named : Try.pinned.checked.prog.funcNamed Rows.fnExactSameBoxRow.func = some 6 := by kernel_rfl
end Go.Proofs.Ytigoabhkdipdeaa.fnExactSameBox

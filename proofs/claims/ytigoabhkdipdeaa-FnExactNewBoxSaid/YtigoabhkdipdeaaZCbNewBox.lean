/- The row of FnExactNewBox names its function. No condition. -/
import Derived.Test.YtigoabhkdipdeaaRows
import Derived.WalkKit
import Derived.ProofKit
import Derived.JoinedOf
import Derived.SizedLaws
namespace Go.Proofs.Ytigoabhkdipdeaa.fnExactNewBox
open Go.RowKit
theorem named : Try.pinned.checked.prog.funcNamed Rows.fnExactNewBoxRow.func = some 7 := by kernel_rfl
end Go.Proofs.Ytigoabhkdipdeaa.fnExactNewBox

/- The row of FnExactMapImage names its function. No condition. -/
import Derived.Test.YtigoabhkdipdeaaRows
import Derived.WalkKit
import Derived.ProofKit
import Derived.JoinedOf
import Derived.SizedLaws
namespace Go.Proofs.Ytigoabhkdipdeaa.fnExactMapImage
open Go.RowKit
theorem named : Try.pinned.checked.prog.funcNamed Rows.fnExactMapImageRow.func = some 9 := by kernel_rfl
end Go.Proofs.Ytigoabhkdipdeaa.fnExactMapImage

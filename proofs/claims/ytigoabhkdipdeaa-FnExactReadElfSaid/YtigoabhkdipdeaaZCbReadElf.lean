/- The row of FnExactReadElf names its function. No condition. -/
import Derived.Test.YtigoabhkdipdeaaRows
import Derived.WalkKit
import Derived.ProofKit
import Derived.JoinedOf
import Derived.SizedLaws
namespace Go.Proofs.Ytigoabhkdipdeaa.fnExactReadElf
open Go.RowKit
theorem named : Try.pinned.checked.prog.funcNamed Rows.fnExactReadElfRow.func = some 11 := by kernel_rfl
end Go.Proofs.Ytigoabhkdipdeaa.fnExactReadElf

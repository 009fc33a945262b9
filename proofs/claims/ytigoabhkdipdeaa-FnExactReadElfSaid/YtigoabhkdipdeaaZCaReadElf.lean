/- The row of FnExactReadElf stands to its program. No condition. -/
import Derived.Test.YtigoabhkdipdeaaRows
import Derived.WalkKit
import Derived.ProofKit
import Derived.JoinedOf
import Derived.SizedLaws
namespace Go.Proofs.Ytigoabhkdipdeaa.fnExactReadElf
open Go.RowKit
theorem closed : joinedFacts Try.pinned.checked.prog 11 Try.f11 Rows.fnExactReadElfSpec Rows.fnExactReadElfRow = true := by kernel_rfl
end Go.Proofs.Ytigoabhkdipdeaa.fnExactReadElf

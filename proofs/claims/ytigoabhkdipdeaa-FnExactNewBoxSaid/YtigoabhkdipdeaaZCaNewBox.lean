/- The row of FnExactNewBox stands to its program. No condition. -/
import Derived.Test.YtigoabhkdipdeaaRows
import Derived.WalkKit
import Derived.ProofKit
import Derived.JoinedOf
import Derived.SizedLaws
namespace Go.Proofs.Ytigoabhkdipdeaa.fnExactNewBox
open Go.RowKit
theorem closed : joinedFacts Try.pinned.checked.prog 7 Try.f7 Rows.fnExactNewBoxSpec Rows.fnExactNewBoxRow = true := by kernel_rfl
end Go.Proofs.Ytigoabhkdipdeaa.fnExactNewBox

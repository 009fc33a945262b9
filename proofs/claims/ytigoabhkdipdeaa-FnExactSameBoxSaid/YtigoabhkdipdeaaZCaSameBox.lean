/- The row of FnExactSameBox stands to its program. No condition. -/
import Derived.Test.YtigoabhkdipdeaaRows
import Derived.WalkKit
import Derived.ProofKit
import Derived.JoinedOf
import Derived.SizedLaws
namespace Go.Proofs.Ytigoabhkdipdeaa.fnExactSameBox
open Go.RowKit
theorem closed : joinedFacts Try.pinned.checked.prog 6 Try.f6 Rows.fnExactSameBoxSpec Rows.fnExactSameBoxRow = true := by kernel_rfl
end Go.Proofs.Ytigoabhkdipdeaa.fnExactSameBox

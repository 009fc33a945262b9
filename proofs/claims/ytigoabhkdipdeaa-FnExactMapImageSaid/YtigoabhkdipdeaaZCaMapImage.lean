/- The row of FnExactMapImage stands to its program. No condition. -/
import Derived.Test.YtigoabhkdipdeaaRows
import Derived.WalkKit
import Derived.ProofKit
import Derived.JoinedOf
import Derived.SizedLaws
namespace Go.Proofs.Ytigoabhkdipdeaa.fnExactMapImage
open Go.RowKit
theorem closed : joinedFacts Try.pinned.checked.prog 9 Try.f9 Rows.fnExactMapImageSpec Rows.fnExactMapImageRow = true := by kernel_rfl
end Go.Proofs.Ytigoabhkdipdeaa.fnExactMapImage

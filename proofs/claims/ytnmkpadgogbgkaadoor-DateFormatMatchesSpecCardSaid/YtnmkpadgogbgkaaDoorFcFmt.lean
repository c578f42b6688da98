/- DateFormatMatchesSpec: the row of facts on the text that the claim rests on; no condition. -/
import Derived.Test.YtnmkpadgogbgkaaDoorRows
import Derived.Test.YtnmkpadgogbgkaaDoorChecked
import Derived.ProofKit
import Derived.Deep.DeepHandedRow
namespace Go.Proofs.YtnmkpadgogbgkaaDoor
open Go
theorem closed3 : joinedFacts Tryd.pinned.checked.prog 3 Tryd.f3 (OpenSpec.ofChange Rows.dateFormatMatchesSpecSpec).bare Rows.dateFormatMatchesSpecRow = true := by kernel_rfl
end Go.Proofs.YtnmkpadgogbgkaaDoor

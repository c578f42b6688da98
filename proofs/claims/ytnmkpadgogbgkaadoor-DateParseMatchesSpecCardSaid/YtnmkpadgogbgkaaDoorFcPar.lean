/- DateParseMatchesSpec: the row of facts on the text that the claim rests on; no condition. -/
import Derived.Test.YtnmkpadgogbgkaaDoorRows
import Derived.Test.YtnmkpadgogbgkaaDoorChecked
import Derived.ProofKit
import Derived.Deep.DeepHandedRow
namespace Go.Proofs.YtnmkpadgogbgkaaDoor
open Go
theorem closed13 : joinedFacts Tryd.pinned.checked.prog 13 Tryd.f13 (OpenSpec.ofChange Rows.dateParseMatchesSpecSpec).bare Rows.dateParseMatchesSpecRow = true := by kernel_rfl
end Go.Proofs.YtnmkpadgogbgkaaDoor

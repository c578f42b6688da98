/- DateBetweenMatchesSpec: the row of facts on the text that the claim rests on; no condition. -/
import Derived.Test.YtnmkpadgogbgkaaDoorRows
import Derived.Test.YtnmkpadgogbgkaaDoorChecked
import Derived.ProofKit
import Derived.Deep.DeepHandedRow
namespace Go.Proofs.YtnmkpadgogbgkaaDoor
open Go
theorem closed8 : joinedFacts Tryd.pinned.checked.prog 8 Tryd.f8 (OpenSpec.ofChange Rows.dateBetweenMatchesSpecSpec).bare Rows.dateBetweenMatchesSpecRow = true := by kernel_rfl
end Go.Proofs.YtnmkpadgogbgkaaDoor

/- DateAtMatchesSpec: the row of facts on the text that the claim rests on; no condition. -/
import Derived.Test.YtnmkpadgogbgkaaDoorRows
import Derived.Test.YtnmkpadgogbgkaaDoorChecked
import Derived.ProofKit
import Derived.Deep.DeepHandedRow
namespace Go.Proofs.YtnmkpadgogbgkaaDoor
open Go
theorem closed7 : joinedFacts Tryd.pinned.checked.prog 7 Tryd.f7 (OpenSpec.ofChange Rows.dateAtMatchesSpecSpec).bare Rows.dateAtMatchesSpecRow = true := by kernel_rfl
end Go.Proofs.YtnmkpadgogbgkaaDoor

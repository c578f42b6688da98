/- DateNumberMatchesSpec: the row of facts on the text that the claim rests on; no condition. -/
import Derived.Test.YtnmkpadgogbgkaaDoorRows
import Derived.Test.YtnmkpadgogbgkaaDoorChecked
import Derived.ProofKit
import Derived.Deep.DeepHandedRow
namespace Go.Proofs.YtnmkpadgogbgkaaDoor
open Go
theorem closed4 : joinedFacts Tryd.pinned.checked.prog 4 Tryd.f4 (OpenSpec.ofChange Rows.dateNumberMatchesSpecSpec).bare Rows.dateNumberMatchesSpecRow = true := by kernel_rfl
end Go.Proofs.YtnmkpadgogbgkaaDoor

/- DateMonthsAdd: the row of facts on the text that the claim rests on; no condition. -/
import Derived.Test.YtnmkpadgogbgkaaDoorRows
import Derived.Test.YtnmkpadgogbgkaaDoorChecked
import Derived.ProofKit
import Derived.Deep.DeepHandedRow
namespace Go.Proofs.YtnmkpadgogbgkaaDoor
open Go
theorem closed6 : joinedFacts Tryd.pinned.checked.prog 6 Tryd.f6 (OpenSpec.ofChange Rows.dateMonthsAddSpec).bare Rows.dateMonthsAddRow = true := by kernel_rfl
end Go.Proofs.YtnmkpadgogbgkaaDoor

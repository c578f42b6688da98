/- TemplatePrintMatchesSpec: the row of facts on the text that the claim rests on; no condition. -/
import Derived.Test.YtnfjgphfaemjcaaGreatDoorRows
import Derived.Test.YtnfjgphfaemjcaaGreatDoorChecked
import Derived.ProofKit
import Derived.Deep.DeepHandedRow
namespace Go.Proofs.YtnfjgphfaemjcaaGreatDoor
open Go
theorem closed3 : joinedFacts Tryz.pinned.checked.prog 3 Tryz.f3 (Rows.OpenSpec.upto Rows.templatePrintMatchesSpecSpec).bare Rows.templatePrintMatchesSpecUptoRow = true := by kernel_rfl
end Go.Proofs.YtnfjgphfaemjcaaGreatDoor

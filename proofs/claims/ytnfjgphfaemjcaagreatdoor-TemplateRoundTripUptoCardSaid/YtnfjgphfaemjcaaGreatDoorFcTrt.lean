/- TemplateRoundTrip: the row of facts on the text that the claim rests on; no condition. -/
import Derived.Test.YtnfjgphfaemjcaaGreatDoorRows
import Derived.Test.YtnfjgphfaemjcaaGreatDoorChecked
import Derived.ProofKit
import Derived.Deep.DeepHandedRow
namespace Go.Proofs.YtnfjgphfaemjcaaGreatDoor
open Go
theorem closed7 : joinedFacts Tryz.pinned.checked.prog 7 Tryz.f7 (Rows.OpenSpec.upto Rows.templateRoundTripSpec).bare Rows.templateRoundTripUptoRow = true := by kernel_rfl
end Go.Proofs.YtnfjgphfaemjcaaGreatDoor

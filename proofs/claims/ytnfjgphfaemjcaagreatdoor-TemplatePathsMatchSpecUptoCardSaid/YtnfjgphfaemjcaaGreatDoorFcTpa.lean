/- TemplatePathsMatchSpec: the row of facts on the text that the claim rests on; no condition. -/
import Derived.Test.YtnfjgphfaemjcaaGreatDoorRows
import Derived.Test.YtnfjgphfaemjcaaGreatDoorChecked
import Derived.ProofKit
import Derived.Deep.DeepHandedRow
namespace Go.Proofs.YtnfjgphfaemjcaaGreatDoor
open Go
theorem closed6 : joinedFacts Tryz.pinned.checked.prog 6 Tryz.f6 (Rows.OpenSpec.upto Rows.templatePathsMatchSpecSpec).bare Rows.templatePathsMatchSpecUptoRow = true := by kernel_rfl
end Go.Proofs.YtnfjgphfaemjcaaGreatDoor

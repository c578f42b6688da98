/- TemplateParseMatchesSpec: the row of facts on the text that the claim rests on; no condition. -/
import Derived.Test.YtnfjgphfaemjcaaGreatDoorRows
import Derived.Test.YtnfjgphfaemjcaaGreatDoorChecked
import Derived.ProofKit
import Derived.Deep.DeepHandedRow
namespace Go.Proofs.YtnfjgphfaemjcaaGreatDoor
open Go
theorem closed4 : joinedFacts Tryz.pinned.checked.prog 4 Tryz.f4 (OpenSpec.ofChange Rows.templateParseMatchesSpecSpec).bare Rows.templateParseMatchesSpecRow = true := by kernel_rfl
end Go.Proofs.YtnfjgphfaemjcaaGreatDoor

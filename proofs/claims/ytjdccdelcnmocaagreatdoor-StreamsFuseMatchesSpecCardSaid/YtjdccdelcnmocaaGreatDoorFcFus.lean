/- StreamsFuseMatchesSpec: the row of facts on the text that the claim rests on; no condition. -/
import Derived.Test.YtjdccdelcnmocaaGreatDoorRows
import Derived.Test.YtjdccdelcnmocaaGreatDoorChecked
import Derived.ProofKit
import Derived.Deep.DeepHandedRow
namespace Go.Proofs.YtjdccdelcnmocaaGreatDoor
open Go
theorem closed11 : joinedFacts Tryz.pinned.checked.prog 11 Tryz.f11 (OpenSpec.ofChange Rows.streamsFuseMatchesSpecSpec).bare Rows.streamsFuseMatchesSpecRow = true := by kernel_rfl
end Go.Proofs.YtjdccdelcnmocaaGreatDoor

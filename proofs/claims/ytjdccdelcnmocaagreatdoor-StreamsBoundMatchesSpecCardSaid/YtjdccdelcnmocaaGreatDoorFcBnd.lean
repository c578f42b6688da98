/- StreamsBoundMatchesSpec: the row of facts on the text that the claim rests on; no condition. -/
import Derived.Test.YtjdccdelcnmocaaGreatDoorRows
import Derived.Test.YtjdccdelcnmocaaGreatDoorChecked
import Derived.ProofKit
import Derived.Deep.DeepHandedRow
namespace Go.Proofs.YtjdccdelcnmocaaGreatDoor
open Go
theorem closed3 : joinedFacts Tryz.pinned.checked.prog 3 Tryz.f3 (OpenSpec.ofChange Rows.streamsBoundMatchesSpecSpec).bare Rows.streamsBoundMatchesSpecRow = true := by kernel_rfl
end Go.Proofs.YtjdccdelcnmocaaGreatDoor

/- StreamsMapParts: the row of facts on the text that the claim rests on; no condition. -/
import Derived.Test.YtjdccdelcnmocaaGreatDoorRows
import Derived.Test.YtjdccdelcnmocaaGreatDoorChecked
import Derived.ProofKit
import Derived.Deep.DeepHandedRow
namespace Go.Proofs.YtjdccdelcnmocaaGreatDoor
open Go
theorem closed9 : joinedFacts Tryz.pinned.checked.prog 9 Tryz.f9 (OpenSpec.ofChange Rows.streamsMapPartsSpec).bare Rows.streamsMapPartsRow = true := by kernel_rfl
end Go.Proofs.YtjdccdelcnmocaaGreatDoor

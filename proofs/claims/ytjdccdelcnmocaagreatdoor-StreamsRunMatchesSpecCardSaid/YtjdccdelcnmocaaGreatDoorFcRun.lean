/- StreamsRunMatchesSpec: the row of facts on the text that the claim rests on; no condition. -/
import Derived.Test.YtjdccdelcnmocaaGreatDoorRows
import Derived.Test.YtjdccdelcnmocaaGreatDoorChecked
import Derived.ProofKit
import Derived.Deep.DeepHandedRow
namespace Go.Proofs.YtjdccdelcnmocaaGreatDoor
open Go
theorem closed4 : joinedFacts Tryz.pinned.checked.prog 4 Tryz.f4 (OpenSpec.ofChange Rows.streamsRunMatchesSpecSpec).bare Rows.streamsRunMatchesSpecRow = true := by kernel_rfl
end Go.Proofs.YtjdccdelcnmocaaGreatDoor

/- StreamsParseMatchesSpec: the row of facts on the text that the claim rests on; no condition. -/
import Derived.Test.YtjdccdelcnmocaaGreatDoorRows
import Derived.Test.YtjdccdelcnmocaaGreatDoorChecked
import Derived.ProofKit
import Derived.Deep.DeepHandedRow
namespace Go.Proofs.YtjdccdelcnmocaaGreatDoor
open Go
theorem closed6 : joinedFacts Tryz.pinned.checked.prog 6 Tryz.f6 (OpenSpec.ofChange Rows.streamsParseMatchesSpecSpec).bare Rows.streamsParseMatchesSpecRow = true := by kernel_rfl
end Go.Proofs.YtjdccdelcnmocaaGreatDoor

/- StreamsTextMatchesSpec: the row of facts on the text that the claim rests on; no condition. -/
import Derived.Test.YtjdccdelcnmocaaGreatDoorRows
import Derived.Test.YtjdccdelcnmocaaGreatDoorChecked
import Derived.ProofKit
import Derived.Deep.DeepHandedRow
namespace Go.Proofs.YtjdccdelcnmocaaGreatDoor
open Go
theorem closed5 : joinedFacts Tryz.pinned.checked.prog 5 Tryz.f5 (OpenSpec.ofChange Rows.streamsTextMatchesSpecSpec).bare Rows.streamsTextMatchesSpecRow = true := by kernel_rfl
end Go.Proofs.YtjdccdelcnmocaaGreatDoor

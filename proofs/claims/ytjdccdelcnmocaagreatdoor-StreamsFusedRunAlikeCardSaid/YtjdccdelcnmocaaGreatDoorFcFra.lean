/- StreamsFusedRunAlike: the row of facts on the text that the claim rests on; no condition. -/
import Derived.Test.YtjdccdelcnmocaaGreatDoorRows
import Derived.Test.YtjdccdelcnmocaaGreatDoorChecked
import Derived.ProofKit
import Derived.Deep.DeepHandedRow
namespace Go.Proofs.YtjdccdelcnmocaaGreatDoor
open Go
theorem closed12 : joinedFacts Tryz.pinned.checked.prog 12 Tryz.f12 (OpenSpec.ofChange Rows.streamsFusedRunAlikeSpec).bare Rows.streamsFusedRunAlikeRow = true := by kernel_rfl
end Go.Proofs.YtjdccdelcnmocaaGreatDoor

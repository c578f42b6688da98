/- StreamsMergeOrders: the row of facts on the text that the claim rests on; no condition. -/
import Derived.Test.YtjdccdelcnmocaaGreatDoorRows
import Derived.Test.YtjdccdelcnmocaaGreatDoorChecked
import Derived.ProofKit
import Derived.Deep.DeepHandedRow
namespace Go.Proofs.YtjdccdelcnmocaaGreatDoor
open Go
theorem closed10 : joinedFacts Tryz.pinned.checked.prog 10 Tryz.f10 (OpenSpec.ofChange Rows.streamsMergeOrdersSpec).bare Rows.streamsMergeOrdersRow = true := by kernel_rfl
end Go.Proofs.YtjdccdelcnmocaaGreatDoor

/- RecurListMatchesSpec: the row of facts on the text that the claim rests on; no condition. -/
import Derived.Test.YtecpfmhminkalaaGreatDoorRows
import Derived.Test.YtecpfmhminkalaaGreatDoorChecked
import Derived.ProofKit
import Derived.Deep.DeepHandedRow
namespace Go.Proofs.YtecpfmhminkalaaGreatDoor
open Go
theorem closed3 : joinedFacts Tryz.pinned.checked.prog 3 Tryz.f3 (OpenSpec.ofChange Rows.recurListMatchesSpecSpec).bare Rows.recurListMatchesSpecRow = true := by kernel_rfl
end Go.Proofs.YtecpfmhminkalaaGreatDoor

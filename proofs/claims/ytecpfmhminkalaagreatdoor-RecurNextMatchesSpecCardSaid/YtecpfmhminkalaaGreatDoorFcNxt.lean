/- RecurNextMatchesSpec: the row of facts on the text that the claim rests on; no condition. -/
import Derived.Test.YtecpfmhminkalaaGreatDoorRows
import Derived.Test.YtecpfmhminkalaaGreatDoorChecked
import Derived.ProofKit
import Derived.Deep.DeepHandedRow
namespace Go.Proofs.YtecpfmhminkalaaGreatDoor
open Go
theorem closed4 : joinedFacts Tryz.pinned.checked.prog 4 Tryz.f4 (OpenSpec.ofChange Rows.recurNextMatchesSpecSpec).bare Rows.recurNextMatchesSpecRow = true := by kernel_rfl
end Go.Proofs.YtecpfmhminkalaaGreatDoor

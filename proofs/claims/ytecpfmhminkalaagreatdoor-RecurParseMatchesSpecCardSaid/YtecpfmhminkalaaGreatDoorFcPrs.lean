/- RecurParseMatchesSpec: the row of facts on the text that the claim rests on; no condition. -/
import Derived.Test.YtecpfmhminkalaaGreatDoorRows
import Derived.Test.YtecpfmhminkalaaGreatDoorChecked
import Derived.ProofKit
import Derived.Deep.DeepHandedRow
namespace Go.Proofs.YtecpfmhminkalaaGreatDoor
open Go
theorem closed6 : joinedFacts Tryz.pinned.checked.prog 6 Tryz.f6 (OpenSpec.ofChange Rows.recurParseMatchesSpecSpec).bare Rows.recurParseMatchesSpecRow = true := by kernel_rfl
end Go.Proofs.YtecpfmhminkalaaGreatDoor

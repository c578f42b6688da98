/- RecurPrintMatchesSpec: the row of facts on the text that the claim rests on; no condition. -/
import Derived.Test.YtecpfmhminkalaaGreatDoorRows
import Derived.Test.YtecpfmhminkalaaGreatDoorChecked
import Derived.ProofKit
import Derived.Deep.DeepHandedRow
namespace Go.Proofs.YtecpfmhminkalaaGreatDoor
open Go
theorem closed5 : joinedFacts Tryz.pinned.checked.prog 5 Tryz.f5 (OpenSpec.ofChange Rows.recurPrintMatchesSpecSpec).bare Rows.recurPrintMatchesSpecRow = true := by kernel_rfl
end Go.Proofs.YtecpfmhminkalaaGreatDoor

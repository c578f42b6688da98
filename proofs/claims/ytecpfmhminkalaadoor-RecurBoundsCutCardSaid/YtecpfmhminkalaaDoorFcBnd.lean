/- RecurBoundsCut: the row of facts on the text that the claim rests on; no condition. -/
import Derived.Test.YtecpfmhminkalaaDoorRows
import Derived.Test.YtecpfmhminkalaaDoorChecked
import Derived.ProofKit
import Derived.Deep.DeepHandedRow
namespace Go.Proofs.YtecpfmhminkalaaDoor
open Go
theorem closed4 : joinedFacts Tryd.pinned.checked.prog 4 Tryd.f4 (OpenSpec.ofChange Rows.recurBoundsCutSpec).bare Rows.recurBoundsCutRow = true := by kernel_rfl
end Go.Proofs.YtecpfmhminkalaaDoor

/- RecurStepsSelect: the row of facts on the text that the claim rests on; no condition. -/
import Derived.Test.YtecpfmhminkalaaDoorRows
import Derived.Test.YtecpfmhminkalaaDoorChecked
import Derived.ProofKit
import Derived.Deep.DeepHandedRow
namespace Go.Proofs.YtecpfmhminkalaaDoor
open Go
theorem closed5 : joinedFacts Tryd.pinned.checked.prog 5 Tryd.f5 (OpenSpec.ofChange Rows.recurStepsSelectSpec).bare Rows.recurStepsSelectRow = true := by kernel_rfl
end Go.Proofs.YtecpfmhminkalaaDoor

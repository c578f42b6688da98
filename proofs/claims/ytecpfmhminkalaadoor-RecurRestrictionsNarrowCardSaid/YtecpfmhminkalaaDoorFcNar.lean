/- RecurRestrictionsNarrow: the row of facts on the text that the claim rests on; no condition. -/
import Derived.Test.YtecpfmhminkalaaDoorRows
import Derived.Test.YtecpfmhminkalaaDoorChecked
import Derived.ProofKit
import Derived.Deep.DeepHandedRow
namespace Go.Proofs.YtecpfmhminkalaaDoor
open Go
theorem closed6 : joinedFacts Tryd.pinned.checked.prog 6 Tryd.f6 (OpenSpec.ofChange Rows.recurRestrictionsNarrowSpec).bare Rows.recurRestrictionsNarrowRow = true := by kernel_rfl
end Go.Proofs.YtecpfmhminkalaaDoor

/- RecurListsArePrefixes: the row of facts on the text that the claim rests on; no condition. -/
import Derived.Test.YtecpfmhminkalaaDoorRows
import Derived.Test.YtecpfmhminkalaaDoorChecked
import Derived.ProofKit
import Derived.Deep.DeepHandedRow
namespace Go.Proofs.YtecpfmhminkalaaDoor
open Go
theorem closed3 : joinedFacts Tryd.pinned.checked.prog 3 Tryd.f3 (OpenSpec.ofChange Rows.recurListsArePrefixesSpec).bare Rows.recurListsArePrefixesRow = true := by kernel_rfl
end Go.Proofs.YtecpfmhminkalaaDoor

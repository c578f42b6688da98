/- What the listed tables hold when a call begins; no condition. -/
import Derived.Test.YtnmkpadgogbgkaaDoorMem
import Derived.Lib.Space
import Derived.Lib.ItoaNum
import Derived.Lib.LaidTab
set_option linter.all false
set_option linter.unusedSimpArgs false
set_option linter.unusedVariables false
namespace Go.Proofs.YtnmkpadgogbgkaaDoor
/-- the two tables that the library reads here -/
def Laid (w : World) : Prop :=
  (∃ t fz, w.heap[0]? = some (.cells (Lib.asciiSpaceTab.map fun z => Value.int .u8 z).toArray t fz)) ∧
  (∃ t fz, w.heap[3]? = some (.cells (Lib.pow10Tab.map fun z => Value.int .u64 z).toArray t fz))
theorem Laid.ext {w w' : World} (h : Laid w) (e : Ext w w') : Laid w' := by
  obtain ⟨⟨t, fz, h1⟩, t', fz', h2⟩ := h
  exact ⟨⟨t, fz, by rw [e.block 0 (Array.getElem?_eq_some_iff.1 h1).1]; exact h1⟩, t', fz', by rw [e.block 3 (Array.getElem?_eq_some_iff.1 h2).1]; exact h2⟩
theorem tab_of {P : Program} {w : World} {name : String} {g : Nat} {k : IntKind} {zs : List Int} (hg : P.globalNamed name = some g) (h : ∃ t fz, w.heap[g]? = some (.cells (zs.map fun z => Value.int k z).toArray t fz)) : Lib.TabIs P w name k zs := by
  obtain ⟨t, fz, h1⟩ := h
  simp [Lib.TabIs, World.var?, hg, h1]
end Go.Proofs.YtnmkpadgogbgkaaDoor

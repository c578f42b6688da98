/- A store of what a cell holds already turns nothing; no condition. -/
import Derived.Test.YtefeiogbaiodnaaMem
namespace Go.Proofs.Ytefeiogbaiodnaa
open Go.RowKit
theorem modify_same {α : Type} (a : Array α) (i : Nat) (f : α → α) (h : ∀ x, a[i]? = some x → f x = x) : a.modify i f = a := by
  apply Array.ext_getElem?
  intro j
  rw [Array.getElem?_modify]
  split
  · rename_i e
    subst e
    cases hx : a[i]? with
    | none => rfl
    | some x => simp [h x hx]
  · rfl
theorem setCell_same {w : World} {b o : Nat} {v : Value} (h : w.cell? ⟨b, o, none⟩ = some v) : w.setCell ⟨b, o, none⟩ v = w := by
  have h1 : (w.setCell ⟨b, o, none⟩ v).heap = w.heap := by
    unfold World.setCell
    dsimp only
    apply modify_same
    intro x hx
    unfold World.cell? at h
    rw [show w.heap[(⟨b, o, none⟩ : Addr).block]? = some x from hx] at h
    cases x with
    | cells c elem fz =>
      have h2 : c[o]? = some v := h
      obtain ⟨hlt, hv⟩ := Array.getElem?_eq_some_iff.1 h2
      subst hv
      show Obj.cells (c.setIfInBounds o c[o]) elem fz = Obj.cells c elem fz
      congr 1
      apply Array.ext_getElem?
      intro j
      rw [Array.getElem?_setIfInBounds]
      split
      · rename_i e
        subst e
        simp [hlt]
      · rfl
    | _ => exact absurd h (by simp)
  have h2 : w.setCell ⟨b, o, none⟩ v = { w with heap := (w.setCell ⟨b, o, none⟩ v).heap } := rfl
  rw [h2, h1]
end Go.Proofs.Ytefeiogbaiodnaa

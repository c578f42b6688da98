/- Arguments that are slices of numbers or of strings, opened; no condition. -/
import Derived.Test.YtefeiogbaiodnaaOpen
import Derived.Test.YtefeiogbaiodnaaKeepW
namespace Go.Proofs.Ytefeiogbaiodnaa
open Go.ChangeShapes Go.WideShapes Go.ChangeAt Go.RowKit Go.Deep

theorem cells3 : Try.prog.cellsOf 3 = 1 := by kernel_rfl
theorem cells9 : Try.prog.cellsOf 9 = 1 := by kernel_rfl

theorem one_of {α : Type} {l : List α} (h : l.length = 1) : ∃ a, l = [a] := by
  rcases l with _ | ⟨a, _ | ⟨b, l⟩⟩
  · cases h
  · exact ⟨a, rfl⟩
  · simp at h

theorem flat_of1 {α : Type} (E : Enc α) {n : Nat} {X : Nat → List Value} {f : Nat → α} (h : ∀ i, i < n → X i = E.cells (f i)) : (List.range n).flatMap X = flat E ((List.range n).map f) := by
  induction n with
  | zero => rfl
  | succ n ih =>
    rw [List.range_succ, List.flatMap_append, List.map_append, flat_append, ih (fun i hi => h i (by omega))]
    simp [flat, h n (by omega)]

theorem open_ints {H : Type} {enc : TypeId × Value → H} {w : World} {base : Nat} {spare : Nat → Bool} {held : Bool} {fuel : Nat} {v : Value} {x : DataW H × List MemPlace}
    (h : DataW.trod enc Try.prog w base spare held fuel 59 [v] = some x) : ∃ l, SlA encI w v l := by
  obtain ⟨n, k, X, hr, hX⟩ := open_flat Try.underlying59 cells3 (by decide) h
  have hel : ∀ i, i < n → ∃ e : Int, X i = encI.cells e := by
    intro i hi
    obtain ⟨hlen, y, hy⟩ := hX i hi
    obtain ⟨a, ha⟩ := one_of hlen
    rw [ha] at hy
    obtain ⟨r, hr, _⟩ := DataW.trod_int Try.underlying3 hy
    simp at hr
    exact ⟨r, by rw [ha, hr]; rfl⟩
  obtain ⟨f, hf⟩ := choose_lt (n := n) (p := fun i e => X i = encI.cells e) hel
  refine ⟨(List.range n).map f, ?_⟩
  unfold SlA
  rw [← flat_of1 encI hf]
  simpa [encI] using hr

theorem open_strs {H : Type} {enc : TypeId × Value → H} {w : World} {base : Nat} {spare : Nat → Bool} {held : Bool} {fuel : Nat} {v : Value} {x : DataW H × List MemPlace}
    (h : DataW.trod enc Try.prog w base spare held fuel 60 [v] = some x) : ∃ l, SlA encS w v l := by
  obtain ⟨n, k, X, hr, hX⟩ := open_flat Try.underlying60 cells9 (by decide) h
  have hel : ∀ i, i < n → ∃ e : ByteArray, X i = encS.cells e := by
    intro i hi
    obtain ⟨hlen, y, hy⟩ := hX i hi
    obtain ⟨a, ha⟩ := one_of hlen
    rw [ha] at hy
    obtain ⟨r, hr, _⟩ := DataW.trod_string Try.underlying9 hy
    simp at hr
    exact ⟨r, by rw [ha, hr]; rfl⟩
  obtain ⟨f, hf⟩ := @choose_lt ByteArray ⟨ByteArray.empty⟩ n (fun i e => X i = encS.cells e) hel
  refine ⟨(List.range n).map f, ?_⟩
  unfold SlA
  rw [← flat_of1 encS hf]
  simpa [encS] using hr
end Go.Proofs.Ytefeiogbaiodnaa

/- An argument that is one entry, by value, opened; no condition. -/
import Derived.Test.YtefeiogbaiodnaaOpen
namespace Go.Proofs.Ytefeiogbaiodnaa
open Go.ChangeShapes Go.WideShapes Go.ChangeAt Go.RowKit Go.Deep

theorem ent_cells {H : Type} {enc : TypeId × Value → H} {w : World} {base : Nat} {spare : Nat → Bool} {held : Bool} {fuel : Nat} {xs : List Value} {y : DataW H × List MemPlace}
    (hlen : xs.length = 2) (hy : DataW.trod enc Try.prog w base spare held fuel 40 xs = some y) : ∃ e : Ent, xs = [.string e.name, .int .i64 e.rank] := by
  obtain ⟨ys, m, _, _, hcl, hyl, hf⟩ := DataW.trod_struct und40 hy
  have hfs := fs40
  obtain ⟨f0, f1, hq⟩ := two_of (by have := congrArg List.length fs40; simpa using this : (Try.prog.fieldsOf 40).toList.length = 2)
  rw [hq] at hfs
  simp only [List.map_cons, List.map_nil, List.cons.injEq, Prod.mk.injEq, and_true] at hfs
  obtain ⟨⟨t0, o0, k0⟩, ⟨t1, o1, k1⟩⟩ := hfs
  have h0 : (Try.prog.fieldsOf 40)[0]? = some f0 := by rw [← Array.getElem?_toList, hq]; rfl
  have h1 : (Try.prog.fieldsOf 40)[1]? = some f1 := by rw [← Array.getElem?_toList, hq]; rfl
  have hsz : (Try.prog.fieldsOf 40).size = 2 := by rw [← Array.length_toList, hq]; rfl
  have g0 := hf 0 f0 h0
  have g1 := hf 1 f1 h1
  rw [o0, k0, t0] at g0
  rw [o1, k1, t1] at g1
  rw [hsz] at hyl
  obtain ⟨a, b, hx⟩ := two_of hlen
  obtain ⟨y0, y1, hys⟩ := two_of hyl
  subst hys
  rw [hx] at g0 g1 ⊢
  obtain ⟨s, hs, _⟩ := DataW.trod_string Try.underlying9 g0
  obtain ⟨r, hr, _⟩ := DataW.trod_int Try.underlying3 g1
  simp at hs hr
  exact ⟨⟨s, r⟩, by rw [hs, hr]⟩

theorem open_ent {H : Type} {enc : TypeId × Value → H} {w : World} {base b0 : Nat} {spare : Nat → Bool} {held : Bool} {r : Reach} {v : Value} {d : DataW H} {p : List MemPlace}
    (hv : Value.okWide Try.prog w r b0 40 v) (h : DataW.Trod enc Try.prog w base spare held 40 v d p) : ∃ e : Ent, v = .agg #[.string e.name, .int .i64 e.rank] := by
  obtain ⟨cs, rfl, hsz⟩ := okWide_struct und40 hv
  obtain ⟨fuel, hf⟩ := h
  obtain ⟨e, he⟩ := ent_cells (xs := cs.toList) (by rw [Array.length_toList, hsz]; exact cells40) (by simpa [Value.cells] using hf)
  exact ⟨e, by rw [show cs = #[.string e.name, .int .i64 e.rank] from Array.toList_inj.1 he]⟩
end Go.Proofs.Ytefeiogbaiodnaa

/- An argument that is a slice of entries, opened; no condition. -/
import Derived.Test.YtefeiogbaiodnaaRowKit
import Derived.Test.YtefeiogbaiodnaaW1
namespace Go.Proofs.Ytefeiogbaiodnaa
open Go.ChangeShapes Go.WideShapes Go.ChangeAt Go.RowKit Go.Deep

theorem Try.own : ownKnob Try.prog.godebug = none := by kernel_rfl
theorem Try.laidOut : laidOutB Try.prog = true := by kernel_rfl
theorem cells40 : Try.prog.cellsOf 40 = 2 := by kernel_rfl
theorem fs40 : (Try.prog.fieldsOf 40).toList.map (fun f => (f.type, f.offset, Try.prog.cellsOf f.type)) = [(9, 0, 1), (3, 1, 1)] := by kernel_rfl

theorem flat_of {n : Nat} {X : Nat → List Value} {l : List Ent} (hl : l.length = n) (h : ∀ i, i < n → X i = [.string (nth l i).name, .int .i64 (nth l i).rank]) : (List.range n).flatMap X = flatE l := by
  induction n generalizing l with
  | zero => rw [List.length_eq_zero_iff.1 hl]; rfl
  | succ n ih =>
    rw [List.range_succ, List.flatMap_append]
    have h1 := ih (l := l.take n) (by simp; omega) (fun i hi => by rw [h i (by omega)]; simp [nth, hi])
    have h2 : l = l.take n ++ [nth l n] := by
      rw [nth_eq (by omega)]
      have := List.take_succ_eq_append_getElem (l := l) (i := n) (by omega)
      rw [← this, List.take_of_length_le (by omega)]
    rw [h1]
    rw [show [n].flatMap X = X n by simp, h n (by omega)]
    conv => rhs; rw [h2]
    rw [flatE_append]
    rfl

theorem two_of {α : Type} {l : List α} (h : l.length = 2) : ∃ a b, l = [a, b] := by
  rcases l with _ | ⟨a, _ | ⟨b, _ | ⟨c, l⟩⟩⟩
  · cases h
  · cases h
  · exact ⟨a, b, rfl⟩
  · simp at h

theorem open_ents {H : Type} {enc : TypeId × Value → H} {w : World} {base : Nat} {spare : Nat → Bool} {held : Bool} {fuel : Nat} {v : Value} {x : DataW H × List MemPlace}
    (h : DataW.trod enc Try.prog w base spare held fuel 22 [v] = some x) : ∃ l, EntS w v l := by
  obtain ⟨n, k, X, hr, hX⟩ := open_flat Try.underlying22 cells40 (by decide) h
  have hel : ∀ i, i < n → ∃ e : Ent, X i = [.string e.name, .int .i64 e.rank] := by
    intro i hi
    obtain ⟨hlen, y, hy⟩ := hX i hi
    obtain ⟨ys, m, _, _, hcl, hyl, hf⟩ := DataW.trod_struct und40 hy
    have hfs := fs40
    obtain ⟨f0, f1, hq⟩ := two_of (by have := congrArg List.length fs40; simpa using this : (Try.prog.fieldsOf 40).toList.length = 2)
    rw [hq] at hfs
    simp only [List.map_cons, List.map_nil, List.cons.injEq, Prod.mk.injEq, and_true] at hfs
    obtain ⟨⟨t0, o0, k0⟩, ⟨t1, o1, k1⟩⟩ := hfs
    have h0 : (Try.prog.fieldsOf 40)[0]? = some f0 := by rw [← Array.getElem?_toList, hq]; rfl
    have h1 : (Try.prog.fieldsOf 40)[1]? = some f1 := by rw [← Array.getElem?_toList, hq]; rfl
    have hsz : (Try.prog.fieldsOf 40).size = 2 := by rw [← Array.length_toList, hq]; rfl
    have g0 := hf 0 f0 h0
    have g1 := hf 1 f1 h1
    rw [o0, k0, t0] at g0
    rw [o1, k1, t1] at g1
    rw [hsz] at hyl
    obtain ⟨a, b, hx⟩ := two_of hlen
    obtain ⟨y0, y1, hys⟩ := two_of hyl
    subst hys
    rw [hx] at g0 g1 ⊢
    obtain ⟨s, hs, _⟩ := DataW.trod_string Try.underlying9 g0
    obtain ⟨r, hr, _⟩ := DataW.trod_int Try.underlying3 g1
    simp at hs hr
    exact ⟨⟨s, r⟩, by rw [hs, hr]⟩
  obtain ⟨f, hf⟩ := @choose_lt Ent ⟨E0⟩ n (fun i e => X i = [.string e.name, .int .i64 e.rank]) hel
  refine ⟨(List.range n).map f, ?_⟩
  unfold EntS
  have hfl : (List.range n).flatMap X = flatE ((List.range n).map f) := flat_of (by simp) (fun i hi => by rw [hf i hi]; simp [nth, hi])
  rw [← hfl]
  simpa using hr
end Go.Proofs.Ytefeiogbaiodnaa

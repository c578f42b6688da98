/- Positions in lists, and what is left of the lists behind them; plain facts for the walk of Mixed; no condition. -/
import Derived.Test.YtefeiogbaiodnaaMergeDP
import Derived.Test.YtefeiogbaiodnaaMrg2
namespace Go.Proofs.Ytefeiogbaiodnaa
open Go.RowKit

theorem swoP : SWO ltP := ⟨fun a => by simp [ltP], fun a b c h1 h2 => by simp [ltP] at *; omega, fun a b c h1 h2 => by simp [ltP] at *; omega⟩

/-- ls' is what is left of the lists ls behind the positions ps -/
def Rem {α : Type} (ls : List (List α)) (ps : List Nat) (ls' : List (List α)) : Prop :=
  ps.length = ls.length ∧ ls'.length = ls.length ∧ ∀ (i : Nat) (l : List α) (p : Nat), ls[i]? = some l → ps[i]? = some p → p ≤ l.length ∧ ls'[i]? = some (l.drop p)

theorem Rem.start {α : Type} (ls : List (List α)) : Rem ls (List.replicate ls.length 0) ls := by
  refine ⟨by simp, rfl, fun i l p h1 h2 => ?_⟩
  simp only [List.getElem?_replicate] at h2
  split at h2
  · injection h2 with h2; subst h2; exact ⟨by omega, by simpa using h1⟩
  · cases h2

theorem Rem.at {α : Type} {ls ls' : List (List α)} {ps : List Nat} (h : Rem ls ps ls') {k : Nat} (hk : k < ls.length) : ∃ l p, ls[k]? = some l ∧ ps[k]? = some p ∧ p ≤ l.length ∧ ls'[k]? = some (l.drop p) := by
  obtain ⟨h1, h2, h3⟩ := h
  have e1 := List.getElem?_eq_getElem hk
  have e2 := List.getElem?_eq_getElem (l := ps) (i := k) (by omega)
  exact ⟨_, _, e1, e2, h3 _ _ _ e1 e2⟩

theorem Rem.step {α : Type} {ls ls' : List (List α)} {ps : List Nat} (h : Rem ls ps ls') {k p : Nat} {x : α} {l r : List α} (hl : ls[k]? = some l) (hp : ps[k]? = some p) (hx : ls'[k]? = some (x :: r)) :
    p < l.length ∧ l[p]? = some x ∧ Rem ls (ps.set k (p + 1)) (ls'.set k r) := by
  obtain ⟨h1, h2, h3⟩ := h
  obtain ⟨h4, h5⟩ := h3 _ _ _ hl hp
  rw [hx] at h5
  injection h5 with h5
  have hpl : p < l.length := by
    rcases Nat.lt_or_ge p l.length with h | h
    · exact h
    · rw [List.drop_of_length_le h] at h5; cases h5
  have hd := List.drop_eq_getElem_cons hpl
  rw [← h5] at hd
  injection hd with d1 d2
  refine ⟨hpl, by rw [List.getElem?_eq_getElem hpl, d1], by simpa using h1, by simpa using h2, fun i l2 p2 e1 e2 => ?_⟩
  have hkp := (List.getElem?_eq_some_iff.1 hp).1
  have hkl := (List.getElem?_eq_some_iff.1 hl).1
  by_cases e : i = k
  · subst e
    rw [List.getElem?_set_self (by omega)] at e2 ⊢
    rw [hl] at e1
    injection e1 with e1
    injection e2 with e2
    subst e1; subst e2
    exact ⟨by omega, by rw [d2]⟩
  · rw [List.getElem?_set_ne (by omega)] at e2 ⊢
    exact h3 _ _ _ e1 e2

theorem mixTo_nil {α : Type} {lt : α → α → Bool} {ls : List (List α)} {i : Nat} (h : ls[i]? = some []) : mixTo lt ls (i + 1) = mixTo lt ls i := by rw [mixTo, h]
theorem mixTo_first {α : Type} {lt : α → α → Bool} {ls : List (List α)} {i : Nat} {x : α} {r : List α} (h : ls[i]? = some (x :: r)) (hn : mixTo lt ls i = -1) : mixTo lt ls (i + 1) = i := by rw [mixTo, h, hn]; simp
theorem mixTo_lt {α : Type} {lt : α → α → Bool} {ls : List (List α)} {i k : Nat} {x y : α} {r q : List α} (h : ls[i]? = some (x :: r)) (hn : mixTo lt ls i = k) (hk : ls[k]? = some (y :: q)) : mixTo lt ls (i + 1) = if lt x y = true then (i : Int) else k := by
  rw [mixTo, h, hn]
  have hb : beats lt ls x (k : Int) = lt x y := by simp [beats, hk]
  simp only [hb]
  rw [if_neg (by omega)]

def intsOf (ps : List Nat) : List Value := ps.map fun (p : Nat) => .int .i64 (p : Int)
theorem intsOf_at {ps : List Nat} {k p : Nat} (h : ps[k]? = some p) : (intsOf ps)[k]? = some (.int .i64 (p : Int)) := by simp [intsOf, h]
theorem intsOf_set (ps : List Nat) (k p : Nat) : intsOf (ps.set k p) = (intsOf ps).set k (.int .i64 (p : Int)) := by simp [intsOf, List.map_set]

theorem own_set {w : World} {g cap n k base : Nat} {e : TypeId} {xs : List Value} {y : Value}
    (ho : w.ownsRow base e 1 (.slice (some ⟨g, 0, none⟩) n cap) n xs) : (w.setCell ⟨g, k, none⟩ y).ownsRow base e 1 (.slice (some ⟨g, 0, none⟩) n cap) n (xs.set k y) := by
  obtain ⟨hl, h3⟩ := ho
  rcases h3 with ⟨h, _⟩ | ⟨g', cap', cur, hv, hb, hg, hnc, hm, hs, ht⟩
  · cases h
  · injection hv with e1 e2 e3
    injection e1 with e1
    injection e1 with e1
    subst e1; subst e3
    refine ⟨by simpa using hl, .inr ⟨g, cap, cur.setIfInBounds k y, rfl, hb, ?_, hnc, hm, by simpa using hs, ?_⟩⟩
    · simp [World.setCell, Array.getElem?_modify, hg]
    · rw [← ht, Array.toList_setIfInBounds, List.take_set]

theorem own_make (w : World) (n : Nat) (hn : n ≤ maxLen) : (w.alloc (.cells (madeCells #[.int .i64 0] n) 3)).ownsRow w.heap.size 3 1 (.slice (some ⟨w.heap.size, 0, none⟩) n n) n (intsOf (List.replicate n 0)) := by
  refine ⟨by simp [intsOf], .inr ⟨w.heap.size, n, madeCells #[.int .i64 0] n, rfl, Nat.le_refl _, (by show (w.heap.push _)[w.heap.size]? = _; simp), Nat.le_refl _, hn, ?_, ?_⟩⟩
  · simp [madeCells]
  · apply List.ext_getElem?
    intro i
    by_cases h : i < n
    · simp [intsOf, madeCells, h, Nat.mod_one]
    · simp [intsOf, madeCells, h]

/-- the p-th pair of a list in memory -/
theorem pairAt {w : World} {v : Value} {l : List ElP} {p : Nat} {x : ElP} (h : SlA encP w v l) (hx : l[p]? = some x) :
    ∃ g off c, v = .slice (some ⟨g, off, none⟩) l.length c ∧ l.length ≤ c ∧ l.length ≤ 9223372036854775807 ∧ w.cell? ⟨g, off + p * 2, none⟩ = some (.int .i64 x.1) ∧ w.cell? ⟨g, off + p * 2 + 1, none⟩ = some (.int .i64 x.2) := by
  obtain ⟨A, c, hv, hc, hm, hA⟩ := h.out
  have hp := (List.getElem?_eq_some_iff.1 hx).1
  obtain ⟨g, off, rfl, hcell⟩ := hA (by omega)
  have h0 := hcell p x hx 0 _ rfl
  have h1 := hcell p x hx 1 _ rfl
  exact ⟨g, off, c, hv, hc, hm, by simpa [encP] using h0, by simpa [encP, Nat.add_assoc] using h1⟩
end Go.Proofs.Ytefeiogbaiodnaa

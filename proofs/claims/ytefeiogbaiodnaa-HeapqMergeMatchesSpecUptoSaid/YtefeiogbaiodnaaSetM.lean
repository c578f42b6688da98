/- A map[string]bool that the call itself made and in which it only ever stores true, as a set of strings; no condition. -/
import Derived.Maps.Own
import Derived.Maps.Views
import Derived.StringKeys
import Derived.Test.YtefeiogbaiodnaaMem
namespace Go.Proofs.Ytefeiogbaiodnaa
open Go.RowKit Go.Maps

/-- s is one of S -/
def inS (s : ByteArray) (S : List ByteArray) : Bool := S.any fun x => decide (x = s)
theorem inS_nil (s : ByteArray) : inS s [] = false := rfl
theorem inS_cons (s x : ByteArray) (S : List ByteArray) : inS s (x :: S) = (decide (x = s) || inS s S) := rfl

/-- block b is the set S of strings, as a map from strings (type k) to bools (type e) -/
def SetM (P : Program) (k e : TypeId) (w : World) (b n : Nat) (S : List ByteArray) : Prop :=
  ∃ D : DataW Unit, w.ownsMap P k (plainElem P e) b n D ∧ IsMap D ∧ ∀ s : ByteArray, D.atKey (.string s.data.toList) (.lit (.bool false)) = .lit (.bool (inS s S))

theorem ba_of_list {a b : ByteArray} (h : a.data.toList = b.data.toList) : a = b := by
  cases a; cases b
  simp only at h
  congr
  exact Array.toList_inj.1 h

theorem SetM.made (P : Program) (k e : TypeId) (w : World) : SetM P k e (w.alloc (.map #[] 0)) w.heap.size 0 [] :=
  ⟨.map [], World.ownsMap_made w P k _, isMap_empty, fun s => by simp [DataW.atKey, inS_nil]⟩

theorem SetM.keep {P : Program} {k e : TypeId} {w w' : World} {b n : Nat} {S : List ByteArray} (h : SetM P k e w b n S) {row : Option Nat} (hg : w.grownBy w' row) (hne : some b ≠ row) : SetM P k e w' b n S := by
  obtain ⟨D, h1, h2, h3⟩ := h
  exact ⟨D, h1.kept hg hne, h2, h3⟩
theorem SetM.ext {P : Program} {k e : TypeId} {w w' : World} {b n : Nat} {S : List ByteArray} (h : SetM P k e w b n S) (hg : Ext w w') : SetM P k e w' b n S := h.keep (hg.toG none) (by simp)

theorem SetM.look {P : Program} {k e t : TypeId} {w : World} {b n : Nat} {S : List ByteArray} (h : SetM P k e w b n S) (hk : P.underlying k = some .string) (he : P.underlying e = some .bool) (ht : P.underlying t = some (.map k e))
    (hz : (zeroValue e).run P w = .ok (.bool false) w) (s : ByteArray) (hs : s.size ≤ maxLen) : (Instr.lookup t (.map (some b)) (.string s) false).run P w = .ok (.bool (inS s S)) w := by
  obtain ⟨D, h1, h2, h3⟩ := h
  obtain ⟨v, ps, hrun, hv⟩ := h1.lookup (string_keyed hk) ht hz (plainElem_bool he false) (WideMaps.keyOf_string_mk hk hs)
  rw [h3 s] at hv
  rw [hrun]
  unfold plainElem at hv
  rw [he] at hv
  cases v <;> simp at hv
  simp [hv.1]

theorem SetM.put {P : Program} {k e t : TypeId} {w : World} {b n : Nat} {S : List ByteArray} (h : SetM P k e w b n S) (hk : P.underlying k = some .string) (he : P.underlying e = some .bool) (ht : P.underlying t = some (.map k e))
    (hn : n < maxLen) (s : ByteArray) (hs : s.size ≤ maxLen) : ∃ w', (Instr.mapUpdate t (.map (some b)) (.string s) (.bool true)).run P w = .ok () w' ∧ SetM P k e w' b (n + 1) (s :: S) ∧ w.grownBy w' (some b) := by
  obtain ⟨D, h1, h2, h3⟩ := h
  obtain ⟨w', hrun, h4, h5⟩ := h1.update (string_keyed hk) ht hn (WideMaps.keyOf_string_mk hk hs) (plainElem_bool he true)
  refine ⟨w', hrun, ⟨_, h4, h2.put _ _, fun s' => ?_⟩, h5⟩
  by_cases e' : s' = s
  · subst e'
    rw [atKey_put_same h2 (by trivial)]
    simp [inS_cons]
  · rw [atKey_put_other (fun he => e' (ba_of_list (by injection he)))]
    rw [h3 s', inS_cons]
    simp [Ne.symm e']
end Go.Proofs.Ytefeiogbaiodnaa

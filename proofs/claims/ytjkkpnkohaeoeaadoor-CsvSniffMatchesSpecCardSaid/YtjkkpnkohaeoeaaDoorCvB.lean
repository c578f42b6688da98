/- The text of a table, on plain data; no condition. -/
import Derived.Test.YtjkkpnkohaeoeaaDoorCvA
set_option linter.all false
set_option linter.unusedSimpArgs false
set_option linter.unusedVariables false
namespace Go.Proofs.YtjkkpnkohaeoeaaDoor

def dbl (q : UInt8) : List UInt8 → List UInt8
  | [] => []
  | c :: cs => (if c = q then [c, c] else [c]) ++ dbl q cs
def special (d : Dia) (c : UInt8) : Bool := c == d.sep || c == d.quote || c == 10 || c == 13
def cellText (d : Dia) (s : List UInt8) : List UInt8 := if d.always || s.any (special d) then [d.quote] ++ dbl d.quote s ++ [d.quote] else s
def cellsText (d : Dia) : Nat → List (List UInt8) → List UInt8
  | _, [] => []
  | k, s :: ss => (if 0 < k then [d.sep] else []) ++ cellText d s ++ cellsText d (k + 1) ss
def rowText (d : Dia) (r : List (List UInt8)) : List UInt8 := cellsText d 0 r ++ (if d.ret then [13] else []) ++ [10]
def tableText (d : Dia) : List (List (List UInt8)) → List UInt8
  | [] => []
  | r :: rs => rowText d r ++ tableText d rs

theorem drop_at {α : Type} {l : List α} {k : Nat} {x : α} (h : l[k]? = some x) : l.drop k = x :: l.drop (k + 1) := by
  have hk := (List.getElem?_eq_some_iff.1 h).1
  rw [List.drop_eq_getElem_cons hk, (List.getElem?_eq_some_iff.1 h).2]
theorem dbl_len (q : UInt8) (s : List UInt8) : s.length ≤ (dbl q s).length ∧ (dbl q s).length ≤ 2 * s.length := by
  induction s with
  | nil => simp [dbl]
  | cons c cs ih => simp only [dbl]; split <;> simp <;> omega
theorem cellText_len (d : Dia) (s : List UInt8) : s.length ≤ (cellText d s).length := by
  have := dbl_len d.quote s
  unfold cellText; split
  · simp; omega
  · exact Nat.le_refl _
theorem strAdd_ok {a b : List UInt8} (h : a.length + b.length ≤ 9223372036854775807) : strBin .add a b = some (.str (a ++ b)) := by
  unfold strBin
  rw [if_neg (by simp [IntKind.max, IntKind.bits, IntKind.signed]; omega)]
theorem cutS1 {s : List UInt8} {j : Nat} {c : UInt8} (h : s[j]? = some c) : (s.take (j + 1)).drop j = [c] := by
  have hk := (List.getElem?_eq_some_iff.1 h).1
  rw [List.take_succ, h, List.drop_append_of_le_length (by simp; omega)]
  rw [List.drop_of_length_le (by simp; omega)]; simp
end Go.Proofs.YtjkkpnkohaeoeaaDoor

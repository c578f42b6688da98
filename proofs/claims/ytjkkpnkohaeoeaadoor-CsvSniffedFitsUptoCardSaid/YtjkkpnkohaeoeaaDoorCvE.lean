/- Columns of a table, on plain data; no condition. -/
import Derived.Test.YtjkkpnkohaeoeaaDoorCvD
set_option linter.all false
set_option linter.unusedSimpArgs false
set_option linter.unusedVariables false
namespace Go.Proofs.YtjkkpnkohaeoeaaDoor

/-- the first place from k on whose string stands ahead of it, or -1 -/
def firstRep (head : List Str) : List Str → Nat → Int
  | [], _ => -1
  | x :: xs, k => if posFrom x head 0 < k then (k : Int) else firstRep head xs (k + 1)
/-- the first place from k on whose string is no name, or -1 -/
def firstMiss (head : List Str) : List Str → Nat → Int
  | [], _ => -1
  | x :: xs, k => if posFrom x head 0 < 0 then (k : Int) else firstMiss head xs (k + 1)
def cellAt (row : List Str) (k : Int) : Str := (row[k.toNat]?).getD []
def selOf (rows : List (List Str)) (names : List Str) : List (List Str) × (Int × Int) :=
  if (tF rows (-1)).1 ≠ 0 then ([], tF rows (-1)) else
  match rows with
  | [] => ([], (10, 0))
  | head :: _ =>
    if 0 ≤ firstRep head head 0 then ([], (8, 1000 + firstRep head head 0)) else
    if names = [] then ([], (10, -2)) else
    if 0 ≤ firstMiss head names 0 then ([], (12, 2000 + firstMiss head names 0)) else
    if 1000 < names.length * rows.length then ([], (14, -3)) else
    (rows.map fun row => names.map fun nm => cellAt row (posFrom nm head 0), (0, 0))
theorem posFrom_ge {x : Str} : ∀ {l : List Str} {k : Nat}, posFrom x l k = -1 ∨ (k : Int) ≤ posFrom x l k
  | [], k => .inl rfl
  | y :: ys, k => by
    simp only [posFrom]
    split
    · right; omega
    · rcases posFrom_ge (x := x) (l := ys) (k := k + 1) with h | h
      · exact .inl h
      · right; omega

theorem tF_rows {rows : List (List Str)} {ix : Int} (h : (tF rows ix).1 = 0) : rows.length ≤ 200 := by
  unfold tF at h
  split at h
  · simp at h
  · omega
end Go.Proofs.YtjkkpnkohaeoeaaDoor

/- The table of a text, on plain data; no condition. -/
import Derived.Test.YtjkkpnkohaeoeaaDoorCvC
set_option linter.all false
set_option linter.unusedSimpArgs false
set_option linter.unusedVariables false
namespace Go.Proofs.YtjkkpnkohaeoeaaDoor

/-- reading a table byte by byte: the offset of a fault, or what has been read -/
def tGo (d : Dia) : Str → Nat → List (List Str) → List Str → Str → Int → Nat ⊕ (List (List Str) × List Str × Str × Int)
  | [], _, rows, row, cell, st => .inr (rows, row, cell, st)
  | c :: cs, i, rows, row, cell, st =>
    if st = 2 then (if c = d.quote then tGo d cs (i + 1) rows row cell 3 else tGo d cs (i + 1) rows row (cell ++ [c]) 2)
    else if st = 4 ∧ c ≠ 10 then .inl i
    else if c = d.sep ∧ st ≠ 4 then tGo d cs (i + 1) rows (if cs = [] then row ++ [cell] ++ [[]] else row ++ [cell]) [] 0
    else if c = 10 then tGo d cs (i + 1) (rows ++ [row ++ [cell]]) [] [] 0
    else if c = 13 then tGo d cs (i + 1) rows row cell 4
    else if c = d.quote then (if st = 1 then .inl i else tGo d cs (i + 1) rows row (if st = 3 then cell ++ [c] else cell) 2)
    else if st = 3 then .inl i
    else tGo d cs (i + 1) rows row (cell ++ [c]) 1
def tEnd (len : Nat) : Nat ⊕ (List (List Str) × List Str × Str × Int) → List (List Str) × (Int × Int)
  | .inl i => ([], (1, i))
  | .inr (rows, row, cell, st) =>
    if st = 2 ∨ st = 4 then ([], (1, len)) else
    let row' := if st = 0 then row else row ++ [cell]
    let rows' := if row' = [] then rows else rows ++ [row']
    if (tF rows' (-3)).1 = 0 then (rows', (0, 0)) else ([], tF rows' (-3))
def tOf (d : Dia) (s : Str) : List (List Str) × (Int × Int) := tEnd s.length (tGo d s 0 [] [] [] 0)

abbrev fOb (a b : Int) : AObj := .cells 26 [.int .i64 a, .int .i64 b]
end Go.Proofs.YtjkkpnkohaeoeaaDoor

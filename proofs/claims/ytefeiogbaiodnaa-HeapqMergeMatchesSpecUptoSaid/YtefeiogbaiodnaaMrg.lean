/- Merging lists, as the program does it; no condition. -/
namespace Go.Proofs.Ytefeiogbaiodnaa
section
variable {α : Type} (lt : α → α → Bool)

/-- the list o begins with an element that is less than x -/
def headLt (o : List α) (x : α) : Bool := match o with
  | [] => false
  | y :: _ => lt y x
/-- list i begins with an element than which no other list's first one is less -/
def minAt (ls : List (List α)) (i : Nat) (x : α) : Bool := !((ls.take i ++ ls.drop (i + 1)).any fun o => headLt lt o x)
def leastGo (ls : List (List α)) : Nat → Nat → Int → Int
  | 0, _, f => f
  | n + 1, i, f => match ls[i]? with
    | some (x :: _) => if minAt lt ls i x = true then i else leastGo ls n (i + 1) (if f < 0 then i else f)
    | _ => leastGo ls n (i + 1) f
def leastL (ls : List (List α)) : Int := leastGo lt ls ls.length 0 (-1)

/-- a number that is -1 or the number of a list that is not empty -/
def GoodIx (ls : List (List α)) (f : Int) : Prop := f = -1 ∨ ∃ (k : Nat) (x : α) (r : List α), f = k ∧ ls[k]? = some (x :: r)
theorem leastGo_good (ls : List (List α)) (n i : Nat) (f : Int) (h : GoodIx ls f) : GoodIx ls (leastGo lt ls n i f) := by
  induction n generalizing i f with
  | zero => exact h
  | succ n ih =>
    rw [leastGo]
    split
    · rename_i x r hx
      split
      · exact .inr ⟨i, x, r, rfl, hx⟩
      · apply ih
        split
        · exact .inr ⟨i, x, r, rfl, hx⟩
        · exact h
    · exact ih _ _ h
theorem leastL_good (ls : List (List α)) : GoodIx ls (leastL lt ls) := leastGo_good lt ls _ _ _ (.inl rfl)

def total (ls : List (List α)) : Nat := (ls.map List.length).sum
theorem total_set (ls : List (List α)) (k : Nat) (x : α) (r : List α) (h : ls[k]? = some (x :: r)) : total (ls.set k r) + 1 = total ls := by
  induction ls generalizing k with
  | nil => simp at h
  | cons a ls ih =>
    cases k with
    | zero => simp at h; subst h; simp [total]; omega
    | succ k =>
      have := ih k (by simpa using h)
      simp only [total, List.set_cons_succ, List.map_cons, List.sum_cons] at *
      omega

def mergeF : Nat → List (List α) → List α
  | 0, _ => []
  | n + 1, ls => if leastL lt ls < 0 then [] else match ls[(leastL lt ls).toNat]? with
    | some (x :: r) => x :: mergeF n (ls.set (leastL lt ls).toNat r)
    | _ => []
def mergeL (ls : List (List α)) : List α := mergeF lt (total ls + 1) ls

theorem mergeF_step {n k : Nat} {ls : List (List α)} {x : α} {r : List α} (hk : leastL lt ls = k) (h : ls[k]? = some (x :: r)) : mergeF lt (n + 1) ls = x :: mergeF lt n (ls.set k r) := by
  rw [mergeF, hk, if_neg (by omega), Int.toNat_natCast, h]
theorem mergeF_stop {n : Nat} {ls : List (List α)} (hk : leastL lt ls = -1) : mergeF lt (n + 1) ls = [] := by
  rw [mergeF, hk, if_pos (by decide)]
theorem mergeF_len (n : Nat) (ls : List (List α)) : (mergeF lt n ls).length ≤ total ls := by
  induction n generalizing ls with
  | zero => simp [mergeF]
  | succ n ih =>
    rw [mergeF]
    split
    · simp
    · split
      · rename_i x r h
        have := total_set ls _ x r h
        have := ih (ls.set (leastL lt ls).toNat r)
        simp only [List.length_cons]
        omega
      · simp
end
end Go.Proofs.Ytefeiogbaiodnaa

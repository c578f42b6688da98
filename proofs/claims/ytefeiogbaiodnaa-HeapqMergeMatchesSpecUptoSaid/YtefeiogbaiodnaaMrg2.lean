/- The plain law of merging: the list that is taken is the first one whose first element is least; merging sorted lists sorts; no condition. -/
import Derived.Test.YtefeiogbaiodnaaMrg
namespace Go.Proofs.Ytefeiogbaiodnaa

/-- a strict order in which 'not less' goes on -/
structure SWO {α : Type} (lt : α → α → Bool) : Prop where
  irrefl : ∀ a, lt a a = false
  trans : ∀ a b c, lt a b = true → lt b c = true → lt a c = true
  ntrans : ∀ a b c, lt b a = false → lt c b = false → lt c a = false

section
variable {α : Type} {lt : α → α → Bool}
theorem SWO.asymm (S : SWO lt) {a b : α} (h : lt a b = true) : lt b a = false := by
  cases h' : lt b a with
  | false => rfl
  | true => have := S.trans _ _ _ h h'; rw [S.irrefl] at this; cases this

/-- the first element of list k is less than that of list i, if both have one -/
def beats (lt : α → α → Bool) (ls : List (List α)) (x : α) (k : Int) : Bool := match ls[k.toNat]? with
  | some (y :: _) => lt x y
  | _ => false
/-- Mixed's choice among the first n lists -/
def mixTo (lt : α → α → Bool) (ls : List (List α)) : Nat → Int
  | 0 => -1
  | i + 1 => match ls[i]? with
    | some (x :: _) => if mixTo lt ls i < 0 then i else if beats lt ls x (mixTo lt ls i) = true then i else mixTo lt ls i
    | _ => mixTo lt ls i
def mixL (lt : α → α → Bool) (ls : List (List α)) : Int := mixTo lt ls ls.length

theorem mixTo_spec (S : SWO lt) (ls : List (List α)) (n : Nat) : (mixTo lt ls n = -1 ∧ ∀ (j : Nat) (y : α) (r : List α), j < n → ls[j]? ≠ some (y :: r)) ∨
    ∃ (k : Nat) (x : α) (r : List α), mixTo lt ls n = k ∧ k < n ∧ ls[k]? = some (x :: r) ∧ (∀ (j : Nat) (y : α) (q : List α), j < n → ls[j]? = some (y :: q) → lt y x = false) ∧ (∀ (j : Nat) (y : α) (q : List α), j < k → ls[j]? = some (y :: q) → lt x y = true) := by
  induction n with
  | zero => left; exact ⟨rfl, by omega⟩
  | succ n ih =>
    rw [mixTo]
    split
    · rename_i z q hz
      rcases ih with ⟨h1, h2⟩ | ⟨k, x, r, h1, h2, h3, h4, h5⟩
      · rw [h1, if_pos (by decide)]
        right
        refine ⟨n, z, q, rfl, by omega, hz, fun j y q' hj hy => ?_, fun j y q' hj hy => absurd hy (h2 j y q' hj)⟩
        by_cases e : j = n
        · subst e
          rw [hz] at hy
          injection hy with hy
          injection hy with hy
          subst hy
          exact S.irrefl _
        · exact absurd hy (h2 j y q' (by omega))
      · rw [h1, if_neg (by omega)]
        have hb : beats lt ls z (k : Int) = lt z x := by simp [beats, h3]
        rw [hb]
        split
        · rename_i hlt
          right
          refine ⟨n, z, q, rfl, by omega, hz, fun j y q' hj hy => ?_, fun j y q' hj hy => ?_⟩
          · by_cases e : j = n
            · subst e
              rw [hz] at hy
              injection hy with hy
              injection hy with hy
              subst hy
              exact S.irrefl _
            · exact S.ntrans _ _ _ (S.asymm hlt) (h4 j y q' (by omega) hy)
          · have h6 := h4 j y q' hj hy
            cases h7 : lt z y with
            | true => rfl
            | false =>
              have := S.ntrans _ _ _ h6 h7
              rw [hlt] at this
              cases this
        · rename_i hlt
          right
          refine ⟨k, x, r, rfl, by omega, h3, fun j y q' hj hy => ?_, h5⟩
          by_cases e : j = n
          · subst e
            rw [hz] at hy
            injection hy with hy
            injection hy with hy
            subst hy
            simpa using hlt
          · exact h4 j y q' (by omega) hy
    · rename_i hz
      rcases ih with ⟨h1, h2⟩ | ⟨k, x, r, h1, h2, h3, h4, h5⟩
      · left
        refine ⟨h1, fun j y q hj hy => ?_⟩
        by_cases e : j = n
        · subst e; exact hz _ _ hy
        · exact h2 j y q (by omega) hy
      · right
        refine ⟨k, x, r, h1, by omega, h3, fun j y q hj hy => ?_, h5⟩
        by_cases e : j = n
        · subst e; exact absurd hy (hz _ _)
        · exact h4 j y q (by omega) hy

theorem leastGo_at {ls : List (List α)} {k : Nat} {x : α} {r : List α} (hk : ls[k]? = some (x :: r)) (hm : minAt lt ls k x = true) (n i : Nat) (f : Int) (hik : i ≤ k) (hkn : k < i + n)
    (hno : ∀ (j : Nat) (y : α) (q : List α), i ≤ j → j < k → ls[j]? = some (y :: q) → minAt lt ls j y = false) : leastGo lt ls n i f = k := by
  induction n generalizing i f with
  | zero => omega
  | succ n ih =>
    rw [leastGo]
    by_cases e : i = k
    · subst e
      rw [hk]
      simp only [hm, if_true]
    · split
      · rename_i y q hy
        rw [if_neg (by rw [hno i y q (Nat.le_refl _) (by omega) hy]; simp)]
        exact ih (i + 1) _ (by omega) (by omega) (fun j y q h1 h2 => hno j y q (by omega) h2)
      · exact ih (i + 1) _ (by omega) (by omega) (fun j y q h1 h2 => hno j y q (by omega) h2)
theorem leastGo_none {ls : List (List α)} (h : ∀ (j : Nat) (y : α) (r : List α), j < ls.length → ls[j]? ≠ some (y :: r)) (n i : Nat) (f : Int) : leastGo lt ls n i f = f := by
  induction n generalizing i with
  | zero => rfl
  | succ n ih =>
    rw [leastGo]
    split
    · rename_i y q hy
      exact absurd hy (h i y q (List.getElem?_eq_some_iff.1 hy).1)
    · exact ih _

theorem mem_others {ls : List (List α)} {k : Nat} {o : List α} : o ∈ ls.take k ++ ls.drop (k + 1) → ∃ j, j ≠ k ∧ ls[j]? = some o := by
  intro h
  rcases List.mem_append.1 h with h | h
  · obtain ⟨j, hj⟩ := List.mem_iff_getElem?.1 h
    have hjk : j < k := by
      have := (List.getElem?_eq_some_iff.1 hj).1
      simp at this
      omega
    rw [List.getElem?_take_of_lt hjk] at hj
    exact ⟨j, by omega, hj⟩
  · obtain ⟨j, hj⟩ := List.mem_iff_getElem?.1 h
    rw [List.getElem?_drop] at hj
    exact ⟨k + 1 + j, by omega, hj⟩
theorem others_mem {ls : List (List α)} {k j : Nat} {o : List α} (hne : j ≠ k) (h : ls[j]? = some o) : o ∈ ls.take k ++ ls.drop (k + 1) := by
  rcases Nat.lt_or_ge j k with hlt | hge
  · refine List.mem_append_left _ (List.mem_iff_getElem?.2 ⟨j, ?_⟩)
    rw [List.getElem?_take_of_lt hlt, h]
  · refine List.mem_append_right _ (List.mem_iff_getElem?.2 ⟨j - (k + 1), ?_⟩)
    rw [List.getElem?_drop, show k + 1 + (j - (k + 1)) = j by omega, h]
theorem minAt_true {ls : List (List α)} {k : Nat} {x : α} (h : ∀ (j : Nat) (y : α) (q : List α), ls[j]? = some (y :: q) → lt y x = false) : minAt lt ls k x = true := by
  unfold minAt
  rw [Bool.not_eq_true', List.any_eq_false]
  intro o ho
  obtain ⟨j, _, hj⟩ := mem_others ho
  cases o with
  | nil => simp [headLt]
  | cons y q => simp [headLt, h j y q hj]
theorem minAt_false {ls : List (List α)} {j k : Nat} {x y : α} {r : List α} (hjk : j ≠ k) (hk : ls[k]? = some (x :: r)) (h : lt x y = true) : minAt lt ls j y = false := by
  unfold minAt
  rw [Bool.not_eq_false', List.any_eq_true]
  exact ⟨x :: r, others_mem (Ne.symm hjk) hk, by simpa [headLt] using h⟩

theorem least_mix (S : SWO lt) (ls : List (List α)) : leastL lt ls = mixL lt ls := by
  unfold leastL mixL
  rcases mixTo_spec S ls ls.length with ⟨h1, h2⟩ | ⟨k, x, r, h1, h2, h3, h4, h5⟩
  · rw [h1]
    exact leastGo_none h2 _ _ _
  · rw [h1]
    refine leastGo_at h3 (minAt_true fun j y q hy => h4 j y q (List.getElem?_eq_some_iff.1 hy).1 hy) _ _ _ (Nat.zero_le _) (by omega) (fun j y q _ hj hy => ?_)
    exact minAt_false (by omega) h3 (h5 j y q hj hy)

/-! merging sorted lists -/
theorem flatten_set {ls : List (List α)} {k : Nat} {x : α} {r : List α} (h : ls[k]? = some (x :: r)) : (x :: (ls.set k r).flatten).Perm ls.flatten := by
  induction ls generalizing k with
  | nil => simp at h
  | cons a ls ih =>
    cases k with
    | zero => simp at h; subst h; simp
    | succ k =>
      have := ih (k := k) (by simpa using h)
      simp only [List.set_cons_succ, List.flatten_cons]
      exact (List.perm_middle.symm).trans (this.append_left a)
theorem mergeF_spec (S : SWO lt) (n : Nat) (ls : List (List α)) (hn : total ls < n) (hs : ∀ l ∈ ls, l.Pairwise fun a b => lt b a = false) :
    (mergeF lt n ls).Perm ls.flatten ∧ (mergeF lt n ls).Pairwise fun a b => lt b a = false := by
  induction n generalizing ls with
  | zero => omega
  | succ n ih =>
    rcases mixTo_spec S ls ls.length with ⟨h1, h2⟩ | ⟨k, x, r, h1, h2, h3, h4, h5⟩
    · have hl : leastL lt ls = -1 := (least_mix S ls).trans h1
      rw [mergeF_stop lt hl]
      have : ls.flatten = [] := by
        rw [List.flatten_eq_nil_iff]
        intro l hl
        obtain ⟨j, hj⟩ := List.mem_iff_getElem?.1 hl
        cases l with
        | nil => rfl
        | cons y q => exact absurd hj (h2 j y q (List.getElem?_eq_some_iff.1 hj).1)
      rw [this]
      exact ⟨List.Perm.refl _, List.Pairwise.nil⟩
    · have hl : leastL lt ls = k := (least_mix S ls).trans h1
      rw [mergeF_step lt hl h3]
      have ht := total_set ls k x r h3
      have hxr : (x :: r).Pairwise fun a b => lt b a = false := hs _ (List.mem_of_getElem? h3)
      obtain ⟨g1, g2⟩ := ih (ls.set k r) (by omega) (fun l hl => by
        rcases List.mem_or_eq_of_mem_set hl with h | h
        · exact hs l h
        · subst h; exact (List.pairwise_cons.1 hxr).2)
      have hp := flatten_set h3
      refine ⟨(g1.cons x).trans hp, List.Pairwise.cons (fun b hb => ?_) g2⟩
      have hb' : b ∈ ls.flatten := hp.mem_iff.1 (List.mem_cons_of_mem _ (g1.mem_iff.1 hb))
      obtain ⟨l, hl1, hl2⟩ := List.mem_flatten.1 hb'
      obtain ⟨j, hj⟩ := List.mem_iff_getElem?.1 hl1
      cases l with
      | nil => cases hl2
      | cons y q =>
        have h6 := h4 j y q (List.getElem?_eq_some_iff.1 hj).1 hj
        rcases List.mem_cons.1 hl2 with e | e
        · subst e; exact h6
        · exact S.ntrans _ _ _ h6 ((List.pairwise_cons.1 (hs _ hl1)).1 b e)
theorem mergeL_spec (S : SWO lt) (ls : List (List α)) (hs : ∀ l ∈ ls, l.Pairwise fun a b => lt b a = false) :
    (mergeL lt ls).Perm ls.flatten ∧ (mergeL lt ls).Pairwise fun a b => lt b a = false := mergeF_spec S _ ls (by omega) hs
end
end Go.Proofs.Ytefeiogbaiodnaa

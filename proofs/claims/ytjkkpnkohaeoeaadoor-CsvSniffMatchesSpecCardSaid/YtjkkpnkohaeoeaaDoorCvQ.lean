/- Selecting columns of selected columns; the rows that a text can have; no condition. -/
import Derived.Test.YtjkkpnkohaeoeaaDoorCvP
import Derived.Test.YtjkkpnkohaeoeaaDoorCvE
import Derived.Test.YtjkkpnkohaeoeaaDoorCvF
set_option linter.all false
set_option linter.unusedSimpArgs false
set_option linter.unusedVariables false
namespace Go.Proofs.YtjkkpnkohaeoeaaDoor

theorem rowF_len (d : Dia) : ∀ (f : Nat) (l : Str) (out : List Str), (rowF d f l out).1.length ≤ out.length + l.length + 1
  | 0, l, out => by simp [rowF]
  | f + 1, l, out => by
    have hs := (cellF_sfx d l).length_le
    have he : ∀ (r : Str) (o : List Str), (endRow r o).1.length ≤ o.length := by
      intro r o
      rcases r with _ | ⟨c, r⟩
      · simp [endRow]
      · by_cases h : c = 13
        · rcases r with _ | ⟨c2, r⟩
          · simp [endRow, h]
          · by_cases h2 : c2 = 10 <;> simp [endRow, h, h2]
        · simp [endRow, h]
    rw [rowF]
    split
    · simp
    · rcases hr : (cellF d l).2.2 with _ | ⟨x, r⟩
      · have := he [] (out ++ [(cellF d l).1]); simp at this ⊢; omega
      · rw [hr] at hs
        simp only []
        split
        · have := rowF_len d f r (out ++ [(cellF d l).1])
          simp at this hs ⊢; omega
        · have := he (x :: r) (out ++ [(cellF d l).1]); simp at this ⊢; omega
theorem parseGo_len (d : Dia) (B : Nat) : ∀ (f : Nat) (l : Str) (rows rows' : List (List Str)), parseGo d f l rows = .inr rows' → (∀ r ∈ rows, r.length ≤ B) → l.length + 1 ≤ B → rows.length + l.length ≤ B → rows'.length ≤ B ∧ ∀ r ∈ rows', r.length ≤ B
  | 0, l, rows, rows', h, _, _, _ => by simp [parseGo] at h
  | f + 1, [], rows, rows', h, h1, h2, h3 => by
    simp only [parseGo] at h; injection h with h; subst h
    exact ⟨by simpa using h3, h1⟩
  | f + 1, c :: cs, rows, rows', h, h1, h2, h3 => by
    have hl := rowF_len d ((c :: cs).length + 1) (c :: cs) []
    have hlt := rowF_lt d ((c :: cs).length + 1) (c :: cs) [] (by simp)
    rw [parseGo] at h
    split at h
    · cases h
    · rename_i hok
      have := hlt (by simpa using hok)
      refine parseGo_len d B f _ _ rows' h (fun r hr => ?_) (by omega) (by simp only [List.length_append, List.length_singleton]; omega)
      rcases List.mem_append.1 hr with hr | hr
      · exact h1 r hr
      · simp at hr; subst hr; simp at hl h2; omega
theorem parseF_len (d : Dia) (t : Str) : (parseF d t).1.length ≤ 4001 ∧ ∀ r ∈ (parseF d t).1, r.length ≤ 4001 := by
  unfold parseF
  split
  · simp
  · split
    · simp
    · rcases h : parseGo d (t.length + 1) t [] with r | rows
      · simp [parseEnd]
      · simp only [parseEnd]
        split
        · exact parseGo_len d 4001 _ _ _ _ h (by simp) (by omega) (by simp; omega)
        · simp

-- selecting twice
theorem firstRep_iff (head : List Str) : ∀ (l : List Str) (k : Nat), firstRep head l k < 0 ↔ ∀ (i : Nat) (x : Str), l[i]? = some x → ¬ posFrom x head 0 < ((k + i : Nat) : Int)
  | [], k => by simp [firstRep]
  | y :: ys, k => by
    simp only [firstRep]
    split
    · rename_i h
      constructor
      · intro h2; omega
      · intro h2; exact absurd h (h2 0 y rfl)
    · rename_i h
      rw [firstRep_iff head ys (k + 1)]
      constructor
      · intro h2 i x hx
        cases i with
        | zero => simp at hx; subst hx; simpa using h
        | succ i => have := h2 i x (by simpa using hx); rwa [show k + (i + 1) = k + 1 + i from by omega]
      · intro h2 i x hx
        have := h2 (i + 1) x (by simpa using hx); rwa [show k + 1 + i = k + (i + 1) from by omega]
theorem firstMiss_iff (head : List Str) : ∀ (l : List Str) (k : Nat), firstMiss head l k < 0 ↔ ∀ x ∈ l, ¬ posFrom x head 0 < 0
  | [], k => by simp [firstMiss]
  | y :: ys, k => by
    simp only [firstMiss]
    split
    · rename_i h
      constructor
      · intro h2; omega
      · intro h2; exact absurd h (h2 y List.mem_cons_self)
    · rename_i h
      rw [firstMiss_iff head ys (k + 1)]
      constructor
      · intro h2 x hx
        rcases List.mem_cons.1 hx with rfl | hx
        · exact h
        · exact h2 x hx
      · intro h2 x hx
        exact h2 x (List.mem_cons_of_mem _ hx)
theorem posFrom_at {x : Str} : ∀ {l : List Str} {k : Nat}, 0 ≤ posFrom x l k → l[(posFrom x l k - k).toNat]? = some x ∧ (k : Int) ≤ posFrom x l k
  | [], k, h => by simp [posFrom] at h
  | y :: ys, k, h => by
    simp only [posFrom] at h ⊢
    split
    · rename_i he; subst he; simp
    · rename_i he
      rw [if_neg he] at h
      obtain ⟨h1, h2⟩ := posFrom_at (l := ys) (k := k + 1) h
      refine ⟨?_, by omega⟩
      rw [show (posFrom x ys (k + 1) - (k : Int)).toNat = (posFrom x ys (k + 1) - ((k + 1 : Nat) : Int)).toNat + 1 from by omega]
      simpa using h1
theorem posFrom_mem {x : Str} : ∀ {l : List Str} {k : Nat}, x ∈ l → 0 ≤ posFrom x l k
  | [], k, h => by cases h
  | y :: ys, k, h => by
    simp only [posFrom]
    split
    · omega
    · rcases List.mem_cons.1 h with rfl | h
      · rename_i h2; exact absurd rfl h2
      · exact posFrom_mem h
theorem posFrom_le {x : Str} : ∀ {l : List Str} {k i : Nat}, l[i]? = some x → posFrom x l k ≤ ((k + i : Nat) : Int)
  | [], k, i, h => by simp at h
  | y :: ys, k, i, h => by
    simp only [posFrom]
    split
    · omega
    · cases i with
      | zero => simp at h; subst h; rename_i h2; exact absurd rfl h2
      | succ i => have := posFrom_le (l := ys) (k := k + 1) (i := i) (by simpa using h); omega
theorem cellsTo_const (n m : Nat) (l : List (List Str)) (hl : ∀ r ∈ l, r.length = n) : ∀ (c : Nat), l.length = m → c + n * m ≤ 1000000 → cellsTo (c : Int) l = ((c + n * m : Nat) : Int) := by
  induction l generalizing m with
  | nil => intro c hm _; simp at hm; subst hm; simp [cellsTo]
  | cons r rs ih =>
    intro c hm hb
    simp only [List.length_cons] at hm
    subst hm
    rw [Nat.mul_add, Nat.mul_one] at hb
    simp only [cellsTo]
    rw [hl r List.mem_cons_self]
    have : IntKind.i64.wrap ((c : Int) + (n : Int)) = ((c + n : Nat) : Int) := by
      rw [show (c : Int) + (n : Int) = ((c + n : Nat) : Int) from by omega]
      exact IntWalk.i64_in _ (by omega)
    rw [this, ih rs.length (fun r hr => hl r (List.mem_cons_of_mem _ hr)) (c + n) rfl (by omega)]
    rw [Nat.mul_add, Nat.mul_one]; congr 1; omega
theorem emptyFrom_none (n : Nat) (hn : 0 < n) : ∀ (l : List (List Str)) (k : Nat), (∀ r ∈ l, r.length = n) → emptyFrom l k = -1
  | [], k, _ => rfl
  | r :: rs, k, h => by
    have := h r List.mem_cons_self
    simp only [emptyFrom]
    rw [if_neg (by rintro rfl; simp at this; omega)]
    exact emptyFrom_none n hn rs (k + 1) fun r hr => h r (List.mem_cons_of_mem _ hr)
theorem selOf_bad {rows : List (List Str)} {names : List Str} (h : (selOf rows names).2.1 ≠ 0) : (selOf rows names).1 = [] := by
  revert h
  unfold selOf
  split
  · simp
  · split
    · simp
    · repeat' split
      all_goals simp
/-- columns of selected columns -/
theorem sel_twice (rows : List (List Str)) (names fewer : List Str) (h0 : (selOf rows names).2.1 = 0) (hnd : ∀ (i : Nat) (x : Str), names[i]? = some x → x ∉ names.take i) (hf : ∀ x ∈ fewer, x ∈ names) :
    selOf (selOf rows names).1 fewer = selOf rows fewer := by
  unfold selOf at h0
  by_cases ht : (tF rows (-1)).1 = 0
  · rw [if_neg (by simp [ht])] at h0
    cases rows with
    | nil => simp at h0
    | cons head tl =>
      simp only at h0
      by_cases hr : 0 ≤ firstRep head head 0
      · rw [if_pos hr] at h0; simp at h0
      rw [if_neg hr] at h0
      by_cases hn : names = []
      · rw [if_pos hn] at h0; simp at h0
      rw [if_neg hn] at h0
      by_cases hm : 0 ≤ firstMiss head names 0
      · rw [if_pos hm] at h0; simp at h0
      rw [if_neg hm] at h0
      by_cases hz : 1000 < names.length * (head :: tl).length
      · rw [if_pos hz] at h0; simp at h0
      have hsel : selOf (head :: tl) names = ((head :: tl).map fun row => names.map fun nm => cellAt row (posFrom nm head 0), (0, 0)) := by
        unfold selOf; rw [if_neg (by simp [ht])]; simp only; rw [if_neg hr, if_neg hn, if_neg hm, if_neg hz]
      rw [hsel]
      have hrows := tF_rows ht
      have hmiss := (firstMiss_iff head names 0).1 (by omega)
      have hhead : (names.map fun nm => cellAt head (posFrom nm head 0)) = names := by
        have : ∀ x ∈ names, cellAt head (posFrom x head 0) = x := by
          intro x hx
          obtain ⟨h1, _⟩ := posFrom_at (x := x) (l := head) (k := 0) (by have := hmiss x hx; omega)
          simp only [Int.natCast_zero, Int.sub_zero] at h1
          simp [cellAt, h1]
        conv => rhs; rw [← List.map_id names]
        exact List.map_congr_left this
      have hlens : ∀ r ∈ ((head :: tl).map fun row => names.map fun nm => cellAt row (posFrom nm head 0)), r.length = names.length := by
        intro r hr; obtain ⟨a, _, rfl⟩ := List.mem_map.1 hr; simp
      have htF : tF ((head :: tl).map fun row => names.map fun nm => cellAt row (posFrom nm head 0)) (-1) = (0, 0) := by
        have hc := cellsTo_const names.length (head :: tl).length _ hlens 0 (by simp) (by omega)
        have hn0 : 0 < names.length := List.length_pos_iff.2 hn
        unfold tF
        rw [if_neg (by rw [show (0 : Int) = ((0 : Nat) : Int) from rfl, hc]; simp only [List.length_map]; omega), emptyFrom_none names.length hn0 _ 0 hlens]
        rfl
      have hrep : ¬ 0 ≤ firstRep names names 0 := by
        have := (firstRep_iff names names 0).2 (by
          intro i x hx hlt
          have hp := posFrom_mem (x := x) (l := names) (k := 0) (List.mem_of_getElem? hx)
          obtain ⟨h1, _⟩ := posFrom_at hp
          simp only [Int.natCast_zero, Int.sub_zero] at h1
          refine hnd i x hx ?_
          refine List.mem_of_getElem? (i := (posFrom x names 0).toNat) ?_
          rw [List.getElem?_take_of_lt (by omega)]; exact h1)
        omega
      have hl1 : (((head :: tl).map fun row => names.map fun nm => cellAt row (posFrom nm head 0)) : List (List Str)) = names :: (tl.map fun row => names.map fun nm => cellAt row (posFrom nm head 0)) := by
        rw [List.map_cons, hhead]
      rw [hl1] at htF ⊢
      unfold selOf
      rw [if_neg (by simp [htF]), if_neg (by simp [ht])]
      simp only
      rw [if_neg hrep, if_neg hr]
      by_cases hfe : fewer = []
      · rw [if_pos hfe, if_pos hfe]
      rw [if_neg hfe, if_neg hfe]
      have hm1 : ¬ 0 ≤ firstMiss names fewer 0 := by
        have := (firstMiss_iff names fewer 0).2 fun x hx hlt => by
          have := posFrom_mem (x := x) (l := names) (k := 0) (hf x hx); omega
        omega
      have hm2 : ¬ 0 ≤ firstMiss head fewer 0 := by
        have := (firstMiss_iff head fewer 0).2 fun x hx hlt => absurd hlt (hmiss x (hf x hx))
        omega
      rw [if_neg hm1, if_neg hm2]
      have hll : (names :: (tl.map fun row => names.map fun nm => cellAt row (posFrom nm head 0))).length = (head :: tl).length := by simp
      rw [hll]
      by_cases hz2 : 1000 < fewer.length * (head :: tl).length
      · rw [if_pos hz2, if_pos hz2]
      · rw [if_neg hz2, if_neg hz2, ← hl1, List.map_map]
        congr 1
        apply List.map_congr_left
        intro row _
        apply List.map_congr_left
        intro x hx
        have hp := posFrom_mem (x := x) (l := names) (k := 0) (hf x hx)
        obtain ⟨h1, _⟩ := posFrom_at hp
        simp only [Int.natCast_zero, Int.sub_zero] at h1
        simp [cellAt, h1]
  · rw [if_pos (by simpa using ht)] at h0; exact absurd h0 ht
end Go.Proofs.YtjkkpnkohaeoeaaDoor

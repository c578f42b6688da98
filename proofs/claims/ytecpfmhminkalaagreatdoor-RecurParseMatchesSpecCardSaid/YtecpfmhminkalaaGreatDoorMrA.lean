/- Rules of recurring days: periods, and the days of a rule; no condition. -/
import Derived.Test.YtecpfmhminkalaaGreatDoorMdA
set_option linter.all false
set_option linter.unusedSimpArgs false
set_option linter.unusedVariables false
namespace Go.Proofs.YtecpfmhminkalaaGreatDoor
structure Rule where
  unit : Int
  step : Int
  months : List Int
  mdays : List Int
  wdays : List (Int × Int)
  picks : List Int
  count : Int
  untl : Int
/-- the code of the fault of a list -/
def chkG {α : Type} [DecidableEq α] (perm : α → Bool) : List α → List α → Int
  | [], _ => 0
  | x :: xs, pre => if perm x = false then 4 else if x ∈ pre then 8 else chkG perm xs (pre ++ [x])
def chkF {α : Type} [DecidableEq α] (perm : α → Bool) (l : List α) : Int := if 12 < l.length then 2 else chkG perm l []
def pMon (x : Int) : Bool := decide (1 ≤ x) && decide (x ≤ 12)
def pSgn (m x : Int) : Bool := decide (x ≠ 0) && decide (-m ≤ x) && decide (x ≤ m)
def pWd (w : Int × Int) : Bool := decide (0 ≤ w.1) && decide (w.1 ≤ 6) && decide (-5 ≤ w.2) && decide (w.2 ≤ 5)
def wthF (x a b : Int) : Int := if x < a ∨ b < x then 4 else 0
/-- the fault of a rule -/
def ruleF (r : Rule) : Int × Int :=
  if r.unit < 1 ∨ 4 < r.unit then (5, 0) else if wthF r.step 1 1000 ≠ 0 then (4, 1) else if chkF pMon r.months ≠ 0 then (chkF pMon r.months, 2) else
  if chkF (pSgn 31) r.mdays ≠ 0 then (chkF (pSgn 31) r.mdays, 3) else if chkF pWd r.wdays ≠ 0 then (chkF pWd r.wdays, 4) else
  if chkF (pSgn 366) r.picks ≠ 0 then (chkF (pSgn 366) r.picks, 5) else if wthF r.count 0 20001 ≠ 0 then (4, 6) else if wthF r.untl 0 3652059 ≠ 0 then (4, 7) else (0, 0)
def wdF (n : Int) : Int := (n - 1) % 7
/-- the days from a day to the end of its month, itself counted -/
def leftF (n : Int) : Int := dom (dateM n).y (dateM n).m - (dateM n).d + 1
/-- the day is one that an element of the days of weeks names -/
def namedF (n : Int) (w : Int × Int) : Bool :=
  decide (wdF n = w.1) && (decide (w.2 = 0) || (decide (0 < w.2) && decide (((dateM n).d - 1) / 7 + 1 = w.2)) || (decide (w.2 < 0) && decide ((leftF n - 1) / 7 + 1 = -w.2)))
/-- the day fits the rule -/
def fitsF (r : Rule) (s n : Int) : Bool :=
  if r.months ≠ [] ∧ (dateM n).m ∉ r.months then false else
  if r.mdays ≠ [] ∧ (dateM n).d ∉ r.mdays ∧ -(leftF n) ∉ r.mdays then false else
  if r.wdays ≠ [] then r.wdays.any (namedF n) else
  if r.mdays ≠ [] then true else
  if r.unit = 2 then decide (wdF n = wdF s) else
  if r.unit = 3 then decide ((dateM n).d = (dateM s).d) else
  if r.unit = 4 then decide ((dateM n).d = (dateM s).d) && (decide (r.months ≠ []) || decide ((dateM n).m = (dateM s).m)) else true
/-- the number of the period of a day -/
def perF (u n : Int) : Int := if u = 2 then (n - 1) / 7 else if u = 3 then 12 * (dateM n).y + (dateM n).m else if u = 4 then (dateM n).y else n
/-- the first and the last day of the k-th period behind that of s -/
def fiF (u s k : Int) : Int := if u = 2 then s - wdF s + 7 * k else if u = 3 then moB (12 * (dateM s).y + (dateM s).m - 1 + k) + 1 else if u = 4 then bef ((dateM s).y + k) + 1 else s + k
theorem day_of {n : Int} (h : 1 ≤ n) : okD (dateM n).y (dateM n).m (dateM n).d ∧ dayN (dateM n).y (dateM n).m (dateM n).d = n := dateR_ok h
theorem moB_lt {a b : Int} (h : a < b) : moB a + 28 ≤ moB b := by
  have h1 := moB_succ a
  have h2 := dom_pos (a / 12) (a % 12 + 1)
  have h3 := moB_mono (show a + 1 ≤ b by omega)
  omega
theorem day_moB {n : Int} (h : 1 ≤ n) : moB (12 * (dateM n).y + (dateM n).m - 1) < n ∧ n ≤ moB (12 * (dateM n).y + (dateM n).m - 1 + 1) := by
  obtain ⟨⟨h1, h2, h3, h4, h5⟩, h6⟩ := day_of h
  rw [dayN_moB _ _ _ h2 h3] at h6
  have h7 := moB_succ (12 * (dateM n).y + (dateM n).m - 1)
  have e1 : (12 * (dateM n).y + (dateM n).m - 1) / 12 = (dateM n).y := by omega
  have e2 : (12 * (dateM n).y + (dateM n).m - 1) % 12 + 1 = (dateM n).m := by omega
  rw [e1, e2] at h7
  omega
theorem day_bef {n : Int} (h : 1 ≤ n) : bef (dateM n).y < n ∧ n ≤ bef ((dateM n).y + 1) := by
  obtain ⟨h1, h2⟩ := day_of h
  have := dayN_bounds h1
  omega
theorem fi_step (u s k : Int) : fiF u s k < fiF u s (k + 1) := by
  unfold fiF
  split
  · omega
  · split
    · have := moB_lt (show 12 * (dateM s).y + (dateM s).m - 1 + k < 12 * (dateM s).y + (dateM s).m - 1 + (k + 1) by omega); omega
    · split
      · have := bef_step (show (dateM s).y + k < (dateM s).y + (k + 1) by omega); omega
      · omega
theorem fi_mono (u s : Int) {a b : Int} (h : a ≤ b) : fiF u s a + (b - a) ≤ fiF u s b := by
  obtain ⟨k, rfl⟩ : ∃ k : Nat, b = a + k := ⟨(b - a).toNat, by omega⟩
  induction k with
  | zero => simp
  | succ k ih =>
    have := ih (by omega)
    have h2 := fi_step u s (a + k)
    have e : a + ((k + 1 : Nat) : Int) = a + k + 1 := by omega
    rw [e]; omega
theorem fi_zero {u s : Int} (h : 1 ≤ s) : 1 ≤ fiF u s 0 ∧ fiF u s 0 ≤ s ∧ s < fiF u s 1 := by
  have h1 := day_moB h
  have h2 := day_bef h
  obtain ⟨⟨h3, h4, h5, _⟩, _⟩ := day_of h
  have hb := bef_mono h3
  have hb1 := bef_at
  have e : moB (12 * 1 + 1 - 1) = 0 := by decide
  have hm := moB_mono (show 12 * 1 + 1 - 1 ≤ 12 * (dateM s).y + (dateM s).m - 1 by omega)
  unfold fiF wdF
  split
  · omega
  · split
    · rw [Int.add_zero]; omega
    · split
      · rw [Int.add_zero]; omega
      · omega
/-- a day lies in a period if it lies between its ends -/
theorem per_iff {u s n : Int} (k : Int) (hs : 1 ≤ s) (hn : 1 ≤ n) : perF u n = perF u s + k ↔ fiF u s k ≤ n ∧ n < fiF u s (k + 1) := by
  have s1 := day_moB hs
  have s2 := day_bef hs
  have n1 := day_moB hn
  have n2 := day_bef hn
  unfold perF fiF wdF
  by_cases u2 : u = 2
  · simp only [u2, if_true]; omega
  · by_cases u3 : u = 3
    · subst u3
      simp only [if_neg (show ¬ (3 : Int) = 2 by decide), if_true]
      have ea : ∀ x : Int, x + (k + 1) = x + k + 1 := fun x => by omega
      rw [ea]
      constructor
      · intro e
        have e1 : 12 * (dateM n).y + (dateM n).m - 1 = 12 * (dateM s).y + (dateM s).m - 1 + k := by omega
        rw [e1] at n1
        omega
      · intro h
        rcases Int.lt_trichotomy (12 * (dateM n).y + (dateM n).m - 1) (12 * (dateM s).y + (dateM s).m - 1 + k) with h5 | h5 | h5
        · have := moB_mono (show 12 * (dateM n).y + (dateM n).m - 1 + 1 ≤ 12 * (dateM s).y + (dateM s).m - 1 + k by omega); omega
        · omega
        · have := moB_mono (show 12 * (dateM s).y + (dateM s).m - 1 + k + 1 ≤ 12 * (dateM n).y + (dateM n).m - 1 by omega); omega
    · by_cases u4 : u = 4
      · subst u4
        simp only [if_neg (show ¬ (4 : Int) = 2 by decide), if_neg (show ¬ (4 : Int) = 3 by decide), if_true]
        constructor
        · intro e
          rw [e, Int.add_assoc] at n2
          omega
        · intro h
          rcases Int.lt_trichotomy (dateM n).y ((dateM s).y + k) with h5 | h5 | h5
          · have := bef_mono (show (dateM n).y + 1 ≤ (dateM s).y + k by omega); omega
          · exact h5
          · have := bef_mono (show (dateM s).y + (k + 1) ≤ (dateM n).y by omega); omega
      · simp only [if_neg u2, if_neg u3, if_neg u4]; omega
/-- the days from one to another -/
def upto (a b : Int) : List Int := (List.range (b + 1 - a).toNat).map fun (i : Nat) => a + (i : Int)
theorem upto_mem {a b n : Int} : n ∈ upto a b ↔ a ≤ n ∧ n ≤ b := by
  unfold upto
  simp only [List.mem_map, List.mem_range]
  constructor
  · rintro ⟨i, hi, rfl⟩; omega
  · intro h; exact ⟨(n - a).toNat, by omega, by omega⟩
theorem upto_snoc {a b : Int} (h : a ≤ b + 1) : upto a (b + 1) = upto a b ++ [b + 1] := by
  unfold upto
  have e : (b + 1 + 1 - a).toNat = (b + 1 - a).toNat + 1 := by omega
  rw [e, List.range_succ, List.map_append]
  congr 1
  simp; omega
theorem upto_nil {a b : Int} (h : b < a) : upto a b = [] := by
  unfold upto
  have e : (b + 1 - a).toNat = 0 := by omega
  rw [e]; rfl
theorem upto_sorted (a b : Int) : (upto a b).Pairwise (· < ·) := by
  unfold upto
  rw [List.pairwise_map]
  exact List.pairwise_lt_range.imp fun h => by omega
/-- the candidates of a period -/
def candF (r : Rule) (s k : Int) : List Int := if k % r.step = 0 then (upto (fiF r.unit s k) (min (fiF r.unit s (k + 1) - 1) 3652059)).filter (fitsF r s) else []
/-- what remains of candidates -/
def pickF (picks l : List Int) : List Int := if picks = [] then l else (l.zipIdx.filter fun x => decide ((x.2 : Int) + 1 ∈ picks) || decide ((x.2 : Int) - l.length ∈ picks)).map (·.1)
def perL (r : Rule) (s k : Int) : List Int := (pickF r.picks (candF r s k)).filter fun n => decide (s ≤ n)
/-- the days of the first periods -/
def daysF (r : Rule) (s : Int) (K : Nat) : List Int := (List.range K).flatMap fun (k : Nat) => perL r s k
def lastF (r : Rule) (s : Int) : Int := if 0 < r.untl then min (min (s + 20000) 3652059) r.untl else min (s + 20000) 3652059
/-- so many periods begin not behind the last day -/
def numF (r : Rule) (s : Int) : Nat := (lastF r s + 1 - fiF r.unit s 0).toNat
/-- the days of a rule -/
def allF (r : Rule) (s : Int) : List Int := (daysF r s (numF r s)).filter fun n => decide (n ≤ lastF r s)
/-- cut by the rule's own number -/
def cutF (r : Rule) (l : List Int) : List Int := if 0 < r.count then l.take r.count.toNat else l
def listF (r : Rule) (s most : Int) : List Int := (cutF r (allF r s)).take most.toNat
theorem pick_sub (picks l : List Int) : (pickF picks l).Sublist l := by
  unfold pickF
  split
  · exact List.Sublist.refl _
  · have h := (List.filter_sublist (p := fun x : Int × Nat => decide ((x.2 : Int) + 1 ∈ picks) || decide ((x.2 : Int) - l.length ∈ picks)) (l := l.zipIdx)).map (·.1)
    rwa [List.zipIdx_map_fst] at h
theorem cand_mem {r : Rule} {s k n : Int} (h : n ∈ candF r s k) : fiF r.unit s k ≤ n ∧ n < fiF r.unit s (k + 1) ∧ n ≤ 3652059 ∧ fitsF r s n = true := by
  unfold candF at h
  split at h
  · obtain ⟨h1, h2⟩ := List.mem_filter.1 h
    have := upto_mem.1 h1
    exact ⟨by omega, by omega, by omega, h2⟩
  · cases h
theorem cand_sorted (r : Rule) (s k : Int) : (candF r s k).Pairwise (· < ·) := by
  unfold candF
  split
  · exact (upto_sorted _ _).filter _
  · exact .nil
theorem perL_mem {r : Rule} {s k n : Int} (h : n ∈ perL r s k) : fiF r.unit s k ≤ n ∧ n < fiF r.unit s (k + 1) ∧ s ≤ n ∧ n ≤ 3652059 ∧ fitsF r s n = true := by
  obtain ⟨h1, h2⟩ := List.mem_filter.1 h
  have h3 := cand_mem ((pick_sub _ _).subset h1)
  simp at h2
  exact ⟨h3.1, h3.2.1, h2, h3.2.2.1, h3.2.2.2⟩
theorem days_mem {r : Rule} {s n : Int} {K : Nat} (h : n ∈ daysF r s K) : ∃ k : Nat, k < K ∧ n ∈ perL r s k := by
  obtain ⟨k, h1, h2⟩ := List.mem_flatMap.1 h
  exact ⟨k, List.mem_range.1 h1, h2⟩
theorem days_succ (r : Rule) (s : Int) (K : Nat) : daysF r s (K + 1) = daysF r s K ++ perL r s K := by
  unfold daysF
  rw [List.range_succ, List.flatMap_append]; simp
/-- periods that begin behind the last day add nothing -/
theorem days_more {r : Rule} {s : Int} {K : Nat} (h : lastF r s < fiF r.unit s K) : ∀ L : Nat, (daysF r s (K + L)).filter (fun n => decide (n ≤ lastF r s)) = (daysF r s K).filter fun n => decide (n ≤ lastF r s)
  | 0 => rfl
  | L + 1 => by
    have ih := days_more h L
    have e : K + (L + 1) = K + L + 1 := by omega
    rw [e, days_succ, List.filter_append, ih]
    have : (perL r s (K + L : Nat)).filter (fun n => decide (n ≤ lastF r s)) = [] := by
      rw [List.filter_eq_nil_iff]
      intro n hn
      have h1 := perL_mem hn
      have h2 := fi_mono r.unit s (show (K : Int) ≤ (K + L : Nat) by omega)
      simp; omega
    rw [this, List.append_nil]
theorem all_of {r : Rule} {s : Int} {K : Nat} (h : lastF r s < fiF r.unit s K) : (daysF r s K).filter (fun n => decide (n ≤ lastF r s)) = allF r s := by
  have hN : lastF r s < fiF r.unit s (numF r s) := by
    have := fi_mono r.unit s (show (0 : Int) ≤ (numF r s : Nat) by omega)
    unfold numF at this ⊢; omega
  unfold allF
  rcases Nat.le_total K (numF r s) with h1 | h1
  · obtain ⟨L, e⟩ := Nat.le.dest h1
    rw [← e]; exact (days_more h L).symm
  · obtain ⟨L, e⟩ := Nat.le.dest h1
    rw [← e]; exact days_more hN L
end Go.Proofs.YtecpfmhminkalaaGreatDoor

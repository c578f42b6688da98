/- The specified days of a rule, period by period, are the rule's days; no condition. -/
import Derived.Test.YtecpfmhminkalaaGreatDoorMrG
import Derived.Test.YtecpfmhminkalaaGreatDoorAdA
import Derived.Test.YtecpfmhminkalaaGreatDoorProg
import Derived.KernelRfl
import Derived.Test.YtecpfmhminkalaaGreatDoorMrD
set_option linter.all false
set_option linter.unusedSimpArgs false
set_option linter.unusedVariables false
namespace Go.Proofs.YtecpfmhminkalaaGreatDoor
/-- so many days at most -/
def mostF (r : Rule) (m : Int) : Int := if 0 < r.count ∧ r.count < m then r.count else m
theorem list_most (r : Rule) (s m : Int) (hm : 0 ≤ m) : listF r s m = (allF r s).take (mostF r m).toNat := by
  unfold listF cutF mostF
  by_cases h : 0 < r.count
  · rw [if_pos h, List.take_take]
    congr 1
    split <;> omega
  · rw [if_neg h, if_neg (by omega)]
/-- the days of the first periods that are not behind the last day -/
def soF (r : Rule) (s : Int) (K : Nat) : List Int := (daysF r s K).filter fun n => decide (n ≤ lastF r s)
theorem so_more (r : Rule) (s : Int) (K : Nat) : ∀ L : Nat, ∃ t, soF r s (K + L) = soF r s K ++ t
  | 0 => ⟨[], by simp⟩
  | L + 1 => by
    obtain ⟨t, h⟩ := so_more r s K L
    refine ⟨t ++ (perL r s (K + L : Nat)).filter fun n => decide (n ≤ lastF r s), ?_⟩
    have e : K + (L + 1) = K + L + 1 := by omega
    rw [e, ← List.append_assoc, ← h]
    unfold soF
    rw [days_succ, List.filter_append]
theorem so_all {r : Rule} {s : Int} {K : Nat} (h : lastF r s < fiF r.unit s K) : soF r s K = allF r s := all_of h
theorem so_pre (r : Rule) (s : Int) (K : Nat) : ∃ t, allF r s = soF r s K ++ t := by
  obtain ⟨t, h⟩ := so_more r s K (numF r s)
  refine ⟨t, ?_⟩
  rw [← h]
  refine (so_all ?_).symm
  have := fi_mono r.unit s (show (0 : Int) ≤ (K + numF r s : Nat) by omega)
  unfold numF at this ⊢; omega
/-- where the reckoning ends, it has the rule's days -/
theorem so_done {r : Rule} {s : Int} {K c : Nat} (h : lastF r s < fiF r.unit s K ∨ c ≤ ((soF r s K).take c).length) : (soF r s K).take c = (allF r s).take c := by
  rcases h with h | h
  · rw [so_all h]
  · obtain ⟨t, e⟩ := so_pre r s K
    rw [e, List.take_append_of_le_length]
    rw [List.length_take] at h; omega
theorem pick_nil (picks : List Int) : pickF picks [] = [] := by unfold pickF; split <;> rfl
theorem perL_skip {r : Rule} {s k : Int} (h : k % r.step ≠ 0) : perL r s k = [] := by
  unfold perL candF
  rw [if_neg h, pick_nil]; rfl
theorem days_skip {r : Rule} {s : Int} {K : Nat} : ∀ L : Nat, (∀ j : Nat, j < L → ((K + j : Nat) : Int) % r.step ≠ 0) → daysF r s (K + L) = daysF r s K
  | 0, _ => rfl
  | L + 1, h => by
    have e : K + (L + 1) = K + L + 1 := by omega
    rw [e, days_succ, days_skip L (fun j hj => h j (by omega)), perL_skip (h L (by omega)), List.append_nil]
/-- the days of one more period of those that count -/
theorem so_step {r : Rule} {s : Int} {K : Nat} (hst : 1 ≤ r.step) (hK : (K : Int) % r.step = 0) : soF r s (K + r.step.toNat) = soF r s K ++ (perL r s K).filter fun n => decide (n ≤ lastF r s) := by
  obtain ⟨m, hm⟩ : ∃ m : Nat, r.step = (m : Int) + 1 := ⟨(r.step - 1).toNat, by omega⟩
  have e : K + r.step.toNat = K + 1 + m := by omega
  have h1 : daysF r s (K + 1 + m) = daysF r s (K + 1) := days_skip m fun j hj => by
    have : ((K + 1 + j : Nat) : Int) = K + (1 + j) := by omega
    rw [this, Int.add_emod, hK, Int.zero_add, Int.emod_emod_of_dvd _ (Int.dvd_refl _), Int.emod_eq_of_lt (by omega) (by omega)]
    omega
  unfold soF
  rw [e, h1, days_succ, List.filter_append]
/-- the day at that place of the candidates is given -/
def pkB (r : Rule) (n : Nat) (s : Int) (x : Int × Nat) : Bool :=
  (decide (r.picks = []) || decide ((x.2 : Int) + 1 ∈ r.picks) || decide ((x.2 : Int) - n ∈ r.picks)) && decide (s ≤ x.1) && decide (x.1 ≤ lastF r s)
def selL (r : Rule) (s : Int) (fit : List Int) (i : Nat) : List Int := ((fit.zipIdx.take i).filter (pkB r fit.length s)).map (·.1)
theorem filter_fst (p : Int → Bool) (l : List (Int × Nat)) : (l.map (·.1)).filter p = (l.filter fun x => p x.1).map (·.1) := by
  rw [List.filter_map]; rfl
theorem sel_all (r : Rule) (s : Int) (fit : List Int) : selL r s fit fit.length = ((pickF r.picks fit).filter fun n => decide (s ≤ n)).filter fun n => decide (n ≤ lastF r s) := by
  unfold selL pickF
  have e0 : fit.zipIdx.take fit.length = fit.zipIdx := List.take_of_length_le (by simp)
  rw [e0]
  by_cases h : r.picks = []
  · rw [if_pos h]
    conv => rhs; rw [← List.zipIdx_map_fst 0 fit]
    rw [filter_fst, filter_fst, List.filter_filter]
    congr 1
    apply List.filter_congr
    intro x _
    unfold pkB
    simp [h, Bool.and_comm]
  · rw [if_neg h, filter_fst, filter_fst, List.filter_filter, List.filter_filter]
    congr 1
    apply List.filter_congr
    intro x _
    unfold pkB
    simp only [h, decide_false, Bool.false_or]
    cases decide (s ≤ x.1) <;> cases decide (x.1 ≤ lastF r s) <;> simp
theorem sel_succ {r : Rule} {s : Int} {fit : List Int} {i : Nat} {x : Int} (h : fit[i]? = some x) : selL r s fit (i + 1) = selL r s fit i ++ (if pkB r fit.length s (x, i) then [x] else []) := by
  unfold selL
  have h1 : fit.zipIdx[i]? = some (x, i) := by rw [List.getElem?_zipIdx, h]; simp
  rw [List.take_succ, h1]
  simp only [Option.toList, List.filter_append, List.map_append]
  congr 1
  split
  · rename_i h2; rw [List.filter_cons_of_pos h2]; rfl
  · rename_i h2; rw [List.filter_cons_of_neg h2]; rfl
/-- one more, if there is room -/
theorem take_more {α : Type} (o : List α) (c : Nat) (x : α) : (o ++ [x]).take c = if (o.take c).length < c then o.take c ++ [x] else o.take c := by
  rw [List.length_take]
  by_cases h : o.length < c
  · rw [if_pos (by omega), List.take_of_length_le (by simp; omega), List.take_of_length_le (by omega)]
  · rw [if_neg (by omega), List.take_append_of_le_length (by omega)]
theorem fits_ref (r : Rule) (s n : Int) : fitsF r s n =
    (if 0 < r.months.length ∧ (dateM n).m ∉ r.months then false else
     if 0 < r.mdays.length ∧ (dateM n).d ∉ r.mdays ∧ (dateM n).d - dom (dateM n).y (dateM n).m - 1 ∉ r.mdays then false else
     if (decide (r.wdays.length = 0) || r.wdays.any (namedF n)) = false ∨ 0 < r.mdays.length ∨ 0 < r.wdays.length ∨ r.unit = 1 then (decide (r.wdays.length = 0) || r.wdays.any (namedF n)) else
     if r.unit = 2 then decide (wdF n = wdF s) else
     decide ((dateM n).d = (dateM s).d) && (decide (r.unit = 3) || decide (0 < r.months.length) || decide ((dateM n).m = (dateM s).m))) ∨ r.unit < 1 ∨ 4 < r.unit := by
  by_cases hu : r.unit < 1 ∨ 4 < r.unit
  · exact .inr hu
  left
  have em : ∀ {α : Type} (l : List α), l ≠ [] ↔ 0 < l.length := fun l => by rw [List.length_pos_iff]
  have e0 : -(leftF n) = (dateM n).d - dom (dateM n).y (dateM n).m - 1 := by unfold leftF; omega
  unfold fitsF
  rw [e0]
  simp only [em]
  split
  · rfl
  · split
    · rfl
    · by_cases hw : 0 < r.wdays.length
      · rw [if_pos hw, if_pos (by omega)]
        have : ¬ r.wdays.length = 0 := by omega
        simp [this]
      · have h0 : r.wdays.length = 0 := by omega
        rw [if_neg hw]
        simp only [h0, decide_true, Bool.true_or, Bool.true_eq_false, false_or, Nat.lt_irrefl]
        by_cases hm : 0 < r.mdays.length
        · simp [hm]
        · have hu4 : r.unit = 1 ∨ r.unit = 2 ∨ r.unit = 3 ∨ r.unit = 4 := by omega
          rcases hu4 with u | u | u | u <;> simp [hm, u]
/-- how an element of the days of weeks is held against a day -/
theorem named_ref (n : Int) (w : Int × Int) (h : 1 ≤ n) : namedF n w = (decide ((n + 6) % 7 = w.1) && (decide (w.2 = 0) || decide (w.2 = ((dateM n).d + 6) / 7) || decide (w.2 = -((dom (dateM n).y (dateM n).m - (dateM n).d + 7) / 7)))) := by
  obtain ⟨⟨h1, h2, h3, h4, h5⟩, h6⟩ := day_of h
  have e1 : wdF n = (n + 6) % 7 := by unfold wdF; omega
  have e2 : leftF n - 1 = dom (dateM n).y (dateM n).m - (dateM n).d := by unfold leftF; omega
  unfold namedF
  rw [e1, e2]
  by_cases a : (n + 6) % 7 = w.1
  · simp only [a, decide_true, Bool.true_and]
    rw [Bool.eq_iff_iff]
    simp only [Bool.or_eq_true, Bool.and_eq_true, decide_eq_true_eq]
    omega
  · simp only [a, decide_false, Bool.false_and]
end Go.Proofs.YtecpfmhminkalaaGreatDoor
namespace Go.Proofs.YtecpfmhminkalaaGreatDoor
def c15_k1 : ACode := .kp [0, 2, 4, 7, 8, 9] (.reg [⟨some 42, .mv (.t 9), none⟩,
    ⟨some 43, .faddr (.t 4) 1 none, none⟩,
    ⟨some 44, .load none (.t 43), none⟩,
    ⟨some 45, .bin .add (.t 42) (.t 44), none⟩,
    ⟨some 9, .mv (.t 45), none⟩])
theorem c15_k1_go {Q : AExit → AS → Prop} {e : AEnv} {n : Nat} {H : AHeap} : aw Tryz.prog c15_k1 Q ⟨e, n, H⟩ = aw Tryz.prog (.kp [0, 2, 4, 7, 8, 9] (.reg [⟨some 42, .mv (.t 9), none⟩,
    ⟨some 43, .faddr (.t 4) 1 none, none⟩,
    ⟨some 44, .load none (.t 43), none⟩,
    ⟨some 45, .bin .add (.t 42) (.t 44), none⟩,
    ⟨some 9, .mv (.t 45), none⟩])) Q ⟨e, n, H⟩ := rfl
def c15_k2 : ACode := .kp [0, 2, 4, 7, 8, 9, 12, 14] (.reg [⟨some 85, .mv (.t 14), none⟩,
    ⟨some 86, .bin .add (.t 85) (.c (.int .i64 1)), none⟩,
    ⟨some 14, .mv (.t 86), none⟩])
theorem c15_k2_go {Q : AExit → AS → Prop} {e : AEnv} {n : Nat} {H : AHeap} : aw Tryz.prog c15_k2 Q ⟨e, n, H⟩ = aw Tryz.prog (.kp [0, 2, 4, 7, 8, 9, 12, 14] (.reg [⟨some 85, .mv (.t 14), none⟩,
    ⟨some 86, .bin .add (.t 85) (.c (.int .i64 1)), none⟩,
    ⟨some 14, .mv (.t 86), none⟩])) Q ⟨e, n, H⟩ := rfl
def c15_k3 : ACode := .kp [0, 2, 4, 7, 8, 9, 12, 14] (.seq (.block 5 (.seq (.segs [⟨none, [⟨some 87, .faddr (.t 4) 5 none, none⟩,
      ⟨some 88, .load none (.t 87), none⟩,
      ⟨some 89, .len (.t 88), none⟩,
      ⟨some 90, .bin .eql (.t 89) (.c (.int .i64 0)), none⟩,
      ⟨some 91, .mv (.t 90), none⟩], none⟩,
    ⟨some (91, false), [⟨some 92, .faddr (.t 4) 5 none, none⟩,
      ⟨some 93, .load none (.t 92), none⟩,
      ⟨some 94, .mv (.t 14), none⟩,
      ⟨some 95, .bin .add (.t 94) (.c (.int .i64 1)), none⟩,
      ⟨some 96, .callp 44 [(.t 93), (.t 95)], none⟩], none⟩,
    ⟨none, [⟨some 97, .pick (.t 91) (.c (.bool true)) (.t 96), none⟩,
      ⟨some 98, .mv (.t 97), none⟩], none⟩,
    ⟨some (98, false), [⟨some 99, .faddr (.t 4) 5 none, none⟩,
      ⟨some 100, .load none (.t 99), none⟩,
      ⟨some 101, .mv (.t 14), none⟩,
      ⟨some 102, .mv (.t 12), none⟩,
      ⟨some 103, .len (.t 102), none⟩,
      ⟨some 104, .bin .sub (.t 101) (.t 103), none⟩,
      ⟨some 105, .callp 44 [(.t 100), (.t 104)], none⟩], none⟩,
    ⟨none, [⟨some 106, .pick (.t 98) (.c (.bool true)) (.t 105), none⟩,
      ⟨some 15, .mv (.t 106), none⟩], none⟩]) (.kp [0, 2, 4, 7, 8, 9, 12, 14, 15] (.seq (.segs [⟨none, [⟨some 107, .mv (.t 15), none⟩,
      ⟨some 108, .mv (.t 107), none⟩], none⟩,
    ⟨some (108, true), [⟨some 109, .mv (.t 12), none⟩,
      ⟨some 110, .mv (.t 14), none⟩,
      ⟨some 111, .iaddr 1 none (.t 109) (.t 110), none⟩,
      ⟨some 112, .load none (.t 111), none⟩,
      ⟨some 113, .mv (.t 0), none⟩,
      ⟨some 114, .mv (.t 7), none⟩,
      ⟨some 115, .callp 11 [(.t 112), (.t 113), (.t 114)], none⟩], none⟩,
    ⟨none, [⟨some 116, .pick (.t 108) (.t 115) (.c (.bool false)), none⟩,
      ⟨some 117, .mv (.t 116), none⟩], none⟩,
    ⟨some (117, true), [⟨some 118, .mv (.t 8), none⟩,
      ⟨some 119, .len (.t 118), none⟩,
      ⟨some 120, .mv (.t 2), none⟩,
      ⟨some 121, .bin .lss (.t 119) (.t 120), none⟩], some (122, 121)⟩]) (.kp [0, 2, 4, 7, 8, 9, 12, 14, 122] (.cond (.t 122) (.reg [⟨some 123, .mv (.t 8), none⟩,
    ⟨some 124, .mv (.t 12), none⟩,
    ⟨some 125, .mv (.t 14), none⟩,
    ⟨some 126, .iaddr 1 none (.t 124) (.t 125), none⟩,
    ⟨some 127, .load none (.t 126), none⟩,
    ⟨some 128, .bsl 3 none [(.t 127)], none⟩,
    ⟨some 129, .app 3 1 8 (.t 123) (.t 128), none⟩,
    ⟨some 8, .mv (.t 129), none⟩]) (.skip))))))) (c15_k2))
theorem c15_k3_go {Q : AExit → AS → Prop} {e : AEnv} {n : Nat} {H : AHeap} : aw Tryz.prog c15_k3 Q ⟨e, n, H⟩ = aw Tryz.prog (.kp [0, 2, 4, 7, 8, 9, 12, 14] (.seq (.block 5 (.seq (.segs [⟨none, [⟨some 87, .faddr (.t 4) 5 none, none⟩,
      ⟨some 88, .load none (.t 87), none⟩,
      ⟨some 89, .len (.t 88), none⟩,
      ⟨some 90, .bin .eql (.t 89) (.c (.int .i64 0)), none⟩,
      ⟨some 91, .mv (.t 90), none⟩], none⟩,
    ⟨some (91, false), [⟨some 92, .faddr (.t 4) 5 none, none⟩,
      ⟨some 93, .load none (.t 92), none⟩,
      ⟨some 94, .mv (.t 14), none⟩,
      ⟨some 95, .bin .add (.t 94) (.c (.int .i64 1)), none⟩,
      ⟨some 96, .callp 44 [(.t 93), (.t 95)], none⟩], none⟩,
    ⟨none, [⟨some 97, .pick (.t 91) (.c (.bool true)) (.t 96), none⟩,
      ⟨some 98, .mv (.t 97), none⟩], none⟩,
    ⟨some (98, false), [⟨some 99, .faddr (.t 4) 5 none, none⟩,
      ⟨some 100, .load none (.t 99), none⟩,
      ⟨some 101, .mv (.t 14), none⟩,
      ⟨some 102, .mv (.t 12), none⟩,
      ⟨some 103, .len (.t 102), none⟩,
      ⟨some 104, .bin .sub (.t 101) (.t 103), none⟩,
      ⟨some 105, .callp 44 [(.t 100), (.t 104)], none⟩], none⟩,
    ⟨none, [⟨some 106, .pick (.t 98) (.c (.bool true)) (.t 105), none⟩,
      ⟨some 15, .mv (.t 106), none⟩], none⟩]) (.kp [0, 2, 4, 7, 8, 9, 12, 14, 15] (.seq (.segs [⟨none, [⟨some 107, .mv (.t 15), none⟩,
      ⟨some 108, .mv (.t 107), none⟩], none⟩,
    ⟨some (108, true), [⟨some 109, .mv (.t 12), none⟩,
      ⟨some 110, .mv (.t 14), none⟩,
      ⟨some 111, .iaddr 1 none (.t 109) (.t 110), none⟩,
      ⟨some 112, .load none (.t 111), none⟩,
      ⟨some 113, .mv (.t 0), none⟩,
      ⟨some 114, .mv (.t 7), none⟩,
      ⟨some 115, .callp 11 [(.t 112), (.t 113), (.t 114)], none⟩], none⟩,
    ⟨none, [⟨some 116, .pick (.t 108) (.t 115) (.c (.bool false)), none⟩,
      ⟨some 117, .mv (.t 116), none⟩], none⟩,
    ⟨some (117, true), [⟨some 118, .mv (.t 8), none⟩,
      ⟨some 119, .len (.t 118), none⟩,
      ⟨some 120, .mv (.t 2), none⟩,
      ⟨some 121, .bin .lss (.t 119) (.t 120), none⟩], some (122, 121)⟩]) (.kp [0, 2, 4, 7, 8, 9, 12, 14, 122] (.cond (.t 122) (.reg [⟨some 123, .mv (.t 8), none⟩,
    ⟨some 124, .mv (.t 12), none⟩,
    ⟨some 125, .mv (.t 14), none⟩,
    ⟨some 126, .iaddr 1 none (.t 124) (.t 125), none⟩,
    ⟨some 127, .load none (.t 126), none⟩,
    ⟨some 128, .bsl 3 none [(.t 127)], none⟩,
    ⟨some 129, .app 3 1 8 (.t 123) (.t 128), none⟩,
    ⟨some 8, .mv (.t 129), none⟩]) (.skip))))))) (c15_k2))) Q ⟨e, n, H⟩ := rfl
def c15_L4 : ACode := .ke [0, 2, 4, 7, 8, 9, 12, 14] (.seq (.seq (.reg [⟨some 81, .mv (.t 14), none⟩,
    ⟨some 82, .mv (.t 12), none⟩,
    ⟨some 83, .len (.t 82), none⟩,
    ⟨some 84, .bin .lss (.t 81) (.t 83), none⟩]) (.kp [0, 2, 4, 7, 8, 9, 12, 14, 84] (.cond (.t 84) (.skip) (.exit 4)))) (c15_k3))
theorem c15_L4_go {Q : AExit → AS → Prop} {e : AEnv} {n : Nat} {H : AHeap} : aw Tryz.prog c15_L4 Q ⟨e, n, H⟩ = aw Tryz.prog (.ke [0, 2, 4, 7, 8, 9, 12, 14] (.seq (.seq (.reg [⟨some 81, .mv (.t 14), none⟩,
    ⟨some 82, .mv (.t 12), none⟩,
    ⟨some 83, .len (.t 82), none⟩,
    ⟨some 84, .bin .lss (.t 81) (.t 83), none⟩]) (.kp [0, 2, 4, 7, 8, 9, 12, 14, 84] (.cond (.t 84) (.skip) (.exit 4)))) (c15_k3))) Q ⟨e, n, H⟩ := rfl
def c15_k5 : ACode := .kp [0, 2, 4, 7, 8, 9, 12] (.seq (.reg [⟨some 14, .mv (.c (.int .i64 0)), none⟩]) (.kp [0, 2, 4, 7, 8, 9, 12, 14] (.block 4 (.kp [0, 2, 4, 7, 8, 9, 12, 14] (.loop c15_L4)))))
theorem c15_k5_go {Q : AExit → AS → Prop} {e : AEnv} {n : Nat} {H : AHeap} : aw Tryz.prog c15_k5 Q ⟨e, n, H⟩ = aw Tryz.prog (.kp [0, 2, 4, 7, 8, 9, 12] (.seq (.reg [⟨some 14, .mv (.c (.int .i64 0)), none⟩]) (.kp [0, 2, 4, 7, 8, 9, 12, 14] (.block 4 (.kp [0, 2, 4, 7, 8, 9, 12, 14] (.loop c15_L4)))))) Q ⟨e, n, H⟩ := rfl
def c15_k6 : ACode := .kp [0, 2, 4, 7, 8, 9, 11, 12, 13] (.reg [⟨some 71, .mv (.t 13), none⟩,
    ⟨some 72, .bin .add (.t 71) (.c (.int .i64 1)), none⟩,
    ⟨some 13, .mv (.t 72), none⟩])
theorem c15_k6_go {Q : AExit → AS → Prop} {e : AEnv} {n : Nat} {H : AHeap} : aw Tryz.prog c15_k6 Q ⟨e, n, H⟩ = aw Tryz.prog (.kp [0, 2, 4, 7, 8, 9, 11, 12, 13] (.reg [⟨some 71, .mv (.t 13), none⟩,
    ⟨some 72, .bin .add (.t 71) (.c (.int .i64 1)), none⟩,
    ⟨some 13, .mv (.t 72), none⟩])) Q ⟨e, n, H⟩ := rfl
def c15_k7 : ACode := .kp [0, 2, 4, 7, 8, 9, 11, 12, 13] (.seq (.block 3 (.seq (.reg [⟨some 73, .mv (.t 13), none⟩,
    ⟨some 74, .load (some 8) (.t 4), none⟩,
    ⟨some 75, .mv (.t 0), none⟩,
    ⟨some 76, .callp 43 [(.t 73), (.t 74), (.t 75)], none⟩]) (.kp [0, 2, 4, 7, 8, 9, 11, 12, 13, 76] (.cond (.t 76) (.reg [⟨some 77, .mv (.t 12), none⟩,
    ⟨some 78, .mv (.t 13), none⟩,
    ⟨some 79, .bsl 3 none [(.t 78)], none⟩,
    ⟨some 80, .app 3 1 8 (.t 77) (.t 79), none⟩,
    ⟨some 12, .mv (.t 80), none⟩]) (.skip))))) (c15_k6))
theorem c15_k7_go {Q : AExit → AS → Prop} {e : AEnv} {n : Nat} {H : AHeap} : aw Tryz.prog c15_k7 Q ⟨e, n, H⟩ = aw Tryz.prog (.kp [0, 2, 4, 7, 8, 9, 11, 12, 13] (.seq (.block 3 (.seq (.reg [⟨some 73, .mv (.t 13), none⟩,
    ⟨some 74, .load (some 8) (.t 4), none⟩,
    ⟨some 75, .mv (.t 0), none⟩,
    ⟨some 76, .callp 43 [(.t 73), (.t 74), (.t 75)], none⟩]) (.kp [0, 2, 4, 7, 8, 9, 11, 12, 13, 76] (.cond (.t 76) (.reg [⟨some 77, .mv (.t 12), none⟩,
    ⟨some 78, .mv (.t 13), none⟩,
    ⟨some 79, .bsl 3 none [(.t 78)], none⟩,
    ⟨some 80, .app 3 1 8 (.t 77) (.t 79), none⟩,
    ⟨some 12, .mv (.t 80), none⟩]) (.skip))))) (c15_k6))) Q ⟨e, n, H⟩ := rfl
def c15_L8 : ACode := .ke [0, 2, 4, 7, 8, 9, 11, 12, 13] (.seq (.seq (.segs [⟨none, [⟨some 64, .mv (.t 13), none⟩,
      ⟨some 65, .mv (.t 11), none⟩,
      ⟨some 66, .bin .leq (.t 64) (.t 65), none⟩,
      ⟨some 67, .mv (.t 66), none⟩], none⟩,
    ⟨some (67, true), [⟨some 68, .mv (.t 13), none⟩,
      ⟨some 69, .bin .leq (.t 68) (.c (.int .i64 3652059)), none⟩], some (70, 69)⟩]) (.kp [0, 2, 4, 7, 8, 9, 11, 12, 13, 70] (.cond (.t 70) (.skip) (.exit 2)))) (c15_k7))
theorem c15_L8_go {Q : AExit → AS → Prop} {e : AEnv} {n : Nat} {H : AHeap} : aw Tryz.prog c15_L8 Q ⟨e, n, H⟩ = aw Tryz.prog (.ke [0, 2, 4, 7, 8, 9, 11, 12, 13] (.seq (.seq (.segs [⟨none, [⟨some 64, .mv (.t 13), none⟩,
      ⟨some 65, .mv (.t 11), none⟩,
      ⟨some 66, .bin .leq (.t 64) (.t 65), none⟩,
      ⟨some 67, .mv (.t 66), none⟩], none⟩,
    ⟨some (67, true), [⟨some 68, .mv (.t 13), none⟩,
      ⟨some 69, .bin .leq (.t 68) (.c (.int .i64 3652059)), none⟩], some (70, 69)⟩]) (.kp [0, 2, 4, 7, 8, 9, 11, 12, 13, 70] (.cond (.t 70) (.skip) (.exit 2)))) (c15_k7))) Q ⟨e, n, H⟩ := rfl
def c15_k9 : ACode := .kp [0, 2, 4, 7, 8, 9, 10, 11] (.seq (.reg [⟨some 12, .mv (.c (.sl 0 [] .nil)), none⟩]) (.kp [0, 2, 4, 7, 8, 9, 10, 11, 12] (.seq (.seq (.reg [⟨some 63, .mv (.t 10), none⟩,
    ⟨some 13, .mv (.t 63), none⟩]) (.kp [0, 2, 4, 7, 8, 9, 11, 12, 13] (.block 2 (.kp [0, 2, 4, 7, 8, 9, 11, 12, 13] (.loop c15_L8))))) (c15_k5))))
theorem c15_k9_go {Q : AExit → AS → Prop} {e : AEnv} {n : Nat} {H : AHeap} : aw Tryz.prog c15_k9 Q ⟨e, n, H⟩ = aw Tryz.prog (.kp [0, 2, 4, 7, 8, 9, 10, 11] (.seq (.reg [⟨some 12, .mv (.c (.sl 0 [] .nil)), none⟩]) (.kp [0, 2, 4, 7, 8, 9, 10, 11, 12] (.seq (.seq (.reg [⟨some 63, .mv (.t 10), none⟩,
    ⟨some 13, .mv (.t 63), none⟩]) (.kp [0, 2, 4, 7, 8, 9, 11, 12, 13] (.block 2 (.kp [0, 2, 4, 7, 8, 9, 11, 12, 13] (.loop c15_L8))))) (c15_k5))))) Q ⟨e, n, H⟩ := rfl
def c15_L10 : ACode := .ke [0, 2, 4, 7, 8, 9] (.seq (.block 1 (.seq (.reg [⟨some 47, .load (some 8) (.t 4), none⟩,
    ⟨some 48, .mv (.t 0), none⟩,
    ⟨some 49, .mv (.t 9), none⟩,
    ⟨some 50, .callp 42 [(.t 47), (.t 48), (.t 49)], none⟩,
    ⟨some 46, .mv (.t 50), none⟩,
    ⟨some 51, .extr (.t 46) 0, none⟩,
    ⟨some 52, .extr (.t 46) 1, none⟩,
    ⟨some 10, .mv (.t 51), none⟩,
    ⟨some 11, .mv (.t 52), none⟩]) (.kp [0, 2, 4, 7, 8, 9, 10, 11] (.seq (.seq (.segs [⟨none, [⟨some 53, .mv (.t 10), none⟩,
      ⟨some 54, .mv (.t 7), none⟩,
      ⟨some 55, .bin .gtr (.t 53) (.t 54), none⟩,
      ⟨some 56, .mv (.t 55), none⟩], none⟩,
    ⟨some (56, false), [⟨some 57, .mv (.t 8), none⟩,
      ⟨some 58, .len (.t 57), none⟩,
      ⟨some 59, .mv (.t 2), none⟩,
      ⟨some 60, .bin .geq (.t 58) (.t 59), none⟩], some (61, 60)⟩]) (.kp [0, 2, 4, 7, 8, 9, 10, 11, 61] (.cond (.t 61) (.seq (.reg [⟨some 62, .mv (.t 8), none⟩,
    ⟨some 6, .mv (.t 62), none⟩]) (.ret)) (.skip)))) (c15_k9))))) (c15_k1))
theorem c15_L10_go {Q : AExit → AS → Prop} {e : AEnv} {n : Nat} {H : AHeap} : aw Tryz.prog c15_L10 Q ⟨e, n, H⟩ = aw Tryz.prog (.ke [0, 2, 4, 7, 8, 9] (.seq (.block 1 (.seq (.reg [⟨some 47, .load (some 8) (.t 4), none⟩,
    ⟨some 48, .mv (.t 0), none⟩,
    ⟨some 49, .mv (.t 9), none⟩,
    ⟨some 50, .callp 42 [(.t 47), (.t 48), (.t 49)], none⟩,
    ⟨some 46, .mv (.t 50), none⟩,
    ⟨some 51, .extr (.t 46) 0, none⟩,
    ⟨some 52, .extr (.t 46) 1, none⟩,
    ⟨some 10, .mv (.t 51), none⟩,
    ⟨some 11, .mv (.t 52), none⟩]) (.kp [0, 2, 4, 7, 8, 9, 10, 11] (.seq (.seq (.segs [⟨none, [⟨some 53, .mv (.t 10), none⟩,
      ⟨some 54, .mv (.t 7), none⟩,
      ⟨some 55, .bin .gtr (.t 53) (.t 54), none⟩,
      ⟨some 56, .mv (.t 55), none⟩], none⟩,
    ⟨some (56, false), [⟨some 57, .mv (.t 8), none⟩,
      ⟨some 58, .len (.t 57), none⟩,
      ⟨some 59, .mv (.t 2), none⟩,
      ⟨some 60, .bin .geq (.t 58) (.t 59), none⟩], some (61, 60)⟩]) (.kp [0, 2, 4, 7, 8, 9, 10, 11, 61] (.cond (.t 61) (.seq (.reg [⟨some 62, .mv (.t 8), none⟩,
    ⟨some 6, .mv (.t 62), none⟩]) (.ret)) (.skip)))) (c15_k9))))) (c15_k1))) Q ⟨e, n, H⟩ := rfl
def c15_k11 : ACode := .kp [0, 2, 4, 7] (.seq (.reg [⟨some 8, .mv (.c (.sl 0 [] .nil)), none⟩]) (.kp [0, 2, 4, 7, 8] (.seq (.reg [⟨some 9, .mv (.c (.int .i64 0)), none⟩]) (.kp [0, 2, 4, 7, 8, 9] (.block 0 (.kp [0, 2, 4, 7, 8, 9] (.loop c15_L10)))))))
theorem c15_k11_go {Q : AExit → AS → Prop} {e : AEnv} {n : Nat} {H : AHeap} : aw Tryz.prog c15_k11 Q ⟨e, n, H⟩ = aw Tryz.prog (.kp [0, 2, 4, 7] (.seq (.reg [⟨some 8, .mv (.c (.sl 0 [] .nil)), none⟩]) (.kp [0, 2, 4, 7, 8] (.seq (.reg [⟨some 9, .mv (.c (.int .i64 0)), none⟩]) (.kp [0, 2, 4, 7, 8, 9] (.block 0 (.kp [0, 2, 4, 7, 8, 9] (.loop c15_L10)))))))) Q ⟨e, n, H⟩ := rfl
def c15_k12 : ACode := .kp [0, 2, 4, 7] (.seq (.seq (.segs [⟨none, [⟨some 31, .faddr (.t 4) 6 none, none⟩,
      ⟨some 32, .load none (.t 31), none⟩,
      ⟨some 33, .bin .gtr (.t 32) (.c (.int .i64 0)), none⟩,
      ⟨some 34, .mv (.t 33), none⟩], none⟩,
    ⟨some (34, true), [⟨some 35, .faddr (.t 4) 6 none, none⟩,
      ⟨some 36, .load none (.t 35), none⟩,
      ⟨some 37, .mv (.t 2), none⟩,
      ⟨some 38, .bin .lss (.t 36) (.t 37), none⟩], some (39, 38)⟩]) (.kp [0, 2, 4, 7, 39] (.cond (.t 39) (.reg [⟨some 40, .faddr (.t 4) 6 none, none⟩,
    ⟨some 41, .load none (.t 40), none⟩,
    ⟨some 2, .mv (.t 41), none⟩]) (.skip)))) (c15_k11))
theorem c15_k12_go {Q : AExit → AS → Prop} {e : AEnv} {n : Nat} {H : AHeap} : aw Tryz.prog c15_k12 Q ⟨e, n, H⟩ = aw Tryz.prog (.kp [0, 2, 4, 7] (.seq (.seq (.segs [⟨none, [⟨some 31, .faddr (.t 4) 6 none, none⟩,
      ⟨some 32, .load none (.t 31), none⟩,
      ⟨some 33, .bin .gtr (.t 32) (.c (.int .i64 0)), none⟩,
      ⟨some 34, .mv (.t 33), none⟩], none⟩,
    ⟨some (34, true), [⟨some 35, .faddr (.t 4) 6 none, none⟩,
      ⟨some 36, .load none (.t 35), none⟩,
      ⟨some 37, .mv (.t 2), none⟩,
      ⟨some 38, .bin .lss (.t 36) (.t 37), none⟩], some (39, 38)⟩]) (.kp [0, 2, 4, 7, 39] (.cond (.t 39) (.reg [⟨some 40, .faddr (.t 4) 6 none, none⟩,
    ⟨some 41, .load none (.t 40), none⟩,
    ⟨some 2, .mv (.t 41), none⟩]) (.skip)))) (c15_k11))) Q ⟨e, n, H⟩ := rfl
def c15_k13 : ACode := .kp [0, 2, 4, 7] (.seq (.seq (.segs [⟨none, [⟨some 20, .faddr (.t 4) 7 none, none⟩,
      ⟨some 21, .load none (.t 20), none⟩,
      ⟨some 22, .bin .gtr (.t 21) (.c (.int .i64 0)), none⟩,
      ⟨some 23, .mv (.t 22), none⟩], none⟩,
    ⟨some (23, true), [⟨some 24, .faddr (.t 4) 7 none, none⟩,
      ⟨some 25, .load none (.t 24), none⟩,
      ⟨some 26, .mv (.t 7), none⟩,
      ⟨some 27, .bin .lss (.t 25) (.t 26), none⟩], some (28, 27)⟩]) (.kp [0, 2, 4, 7, 28] (.cond (.t 28) (.reg [⟨some 29, .faddr (.t 4) 7 none, none⟩,
    ⟨some 30, .load none (.t 29), none⟩,
    ⟨some 7, .mv (.t 30), none⟩]) (.skip)))) (c15_k12))
theorem c15_k13_go {Q : AExit → AS → Prop} {e : AEnv} {n : Nat} {H : AHeap} : aw Tryz.prog c15_k13 Q ⟨e, n, H⟩ = aw Tryz.prog (.kp [0, 2, 4, 7] (.seq (.seq (.segs [⟨none, [⟨some 20, .faddr (.t 4) 7 none, none⟩,
      ⟨some 21, .load none (.t 20), none⟩,
      ⟨some 22, .bin .gtr (.t 21) (.c (.int .i64 0)), none⟩,
      ⟨some 23, .mv (.t 22), none⟩], none⟩,
    ⟨some (23, true), [⟨some 24, .faddr (.t 4) 7 none, none⟩,
      ⟨some 25, .load none (.t 24), none⟩,
      ⟨some 26, .mv (.t 7), none⟩,
      ⟨some 27, .bin .lss (.t 25) (.t 26), none⟩], some (28, 27)⟩]) (.kp [0, 2, 4, 7, 28] (.cond (.t 28) (.reg [⟨some 29, .faddr (.t 4) 7 none, none⟩,
    ⟨some 30, .load none (.t 29), none⟩,
    ⟨some 7, .mv (.t 30), none⟩]) (.skip)))) (c15_k12))) Q ⟨e, n, H⟩ := rfl
def c15 : AFun := { nargs := 3, nt := 130, res := [.tmp 6], code := .seq (.reg [⟨some 4, .box 25 (some 8) (.t 1), none⟩,
    ⟨some 6, .mv (.c (.sl 0 [] .nil)), none⟩]) (.kp [0, 2, 4] (.seq (.reg [⟨some 16, .mv (.t 0), none⟩,
    ⟨some 17, .bin .add (.t 16) (.c (.int .i64 20000)), none⟩,
    ⟨some 7, .mv (.t 17), none⟩]) (.kp [0, 2, 4, 7] (.seq (.seq (.reg [⟨some 18, .mv (.t 7), none⟩,
    ⟨some 19, .bin .gtr (.t 18) (.c (.int .i64 3652059)), none⟩]) (.kp [0, 2, 4, 7, 19] (.cond (.t 19) (.reg [⟨some 7, .mv (.c (.int .i64 3652059)), none⟩]) (.skip)))) (c15_k13))))) }
theorem cmp15 : (cFun Tryz.prog efs Tryz.f15).map (fun x => (x.nargs, x.nt, x.res, x.code)) = some (c15.nargs, c15.nt, c15.res, bare c15.code) := by kernel_rfl
def c42_k1 : ACode := .kp [2, 8] (.seq (.reg [⟨some 50, .faddr (.t 8) 1 none, none⟩,
    ⟨some 51, .load none (.t 50), none⟩,
    ⟨some 52, .bin .sub (.t 51) (.c (.int .i64 1)), none⟩,
    ⟨some 53, .mv (.t 2), none⟩,
    ⟨some 54, .bin .add (.t 52) (.t 53), none⟩,
    ⟨some 10, .mv (.t 54), none⟩]) (.kp [8, 10] (.seq (.reg [⟨some 55, .faddr (.t 8) 0 none, none⟩,
    ⟨some 56, .load none (.t 55), none⟩,
    ⟨some 57, .mv (.t 10), none⟩,
    ⟨some 58, .bin .quo (.t 57) (.c (.int .i64 12)), none⟩,
    ⟨some 59, .bin .add (.t 56) (.t 58), none⟩,
    ⟨some 11, .mv (.t 59), none⟩]) (.kp [10, 11] (.seq (.reg [⟨some 60, .mv (.t 10), none⟩,
    ⟨some 61, .bin .rem (.t 60) (.c (.int .i64 12)), none⟩,
    ⟨some 62, .bin .add (.t 61) (.c (.int .i64 1)), none⟩,
    ⟨some 12, .mv (.t 62), none⟩]) (.kp [11, 12] (.seq (.reg [⟨some 63, .mv (.t 11), none⟩,
    ⟨some 64, .mv (.t 12), none⟩,
    ⟨some 65, .callp 77 [(.t 63), (.t 64), (.c (.int .i64 1))], none⟩,
    ⟨some 66, .mv (.t 11), none⟩,
    ⟨some 67, .mv (.t 12), none⟩,
    ⟨some 68, .mv (.t 11), none⟩,
    ⟨some 69, .mv (.t 12), none⟩,
    ⟨some 70, .callp 78 [(.t 68), (.t 69)], none⟩,
    ⟨some 71, .callp 77 [(.t 66), (.t 67), (.t 70)], none⟩,
    ⟨some 6, .mv (.t 65), none⟩,
    ⟨some 7, .mv (.t 71), none⟩]) (.ret))))))))
theorem c42_k1_go {Q : AExit → AS → Prop} {e : AEnv} {n : Nat} {H : AHeap} : aw Tryz.prog c42_k1 Q ⟨e, n, H⟩ = aw Tryz.prog (.kp [2, 8] (.seq (.reg [⟨some 50, .faddr (.t 8) 1 none, none⟩,
    ⟨some 51, .load none (.t 50), none⟩,
    ⟨some 52, .bin .sub (.t 51) (.c (.int .i64 1)), none⟩,
    ⟨some 53, .mv (.t 2), none⟩,
    ⟨some 54, .bin .add (.t 52) (.t 53), none⟩,
    ⟨some 10, .mv (.t 54), none⟩]) (.kp [8, 10] (.seq (.reg [⟨some 55, .faddr (.t 8) 0 none, none⟩,
    ⟨some 56, .load none (.t 55), none⟩,
    ⟨some 57, .mv (.t 10), none⟩,
    ⟨some 58, .bin .quo (.t 57) (.c (.int .i64 12)), none⟩,
    ⟨some 59, .bin .add (.t 56) (.t 58), none⟩,
    ⟨some 11, .mv (.t 59), none⟩]) (.kp [10, 11] (.seq (.reg [⟨some 60, .mv (.t 10), none⟩,
    ⟨some 61, .bin .rem (.t 60) (.c (.int .i64 12)), none⟩,
    ⟨some 62, .bin .add (.t 61) (.c (.int .i64 1)), none⟩,
    ⟨some 12, .mv (.t 62), none⟩]) (.kp [11, 12] (.seq (.reg [⟨some 63, .mv (.t 11), none⟩,
    ⟨some 64, .mv (.t 12), none⟩,
    ⟨some 65, .callp 77 [(.t 63), (.t 64), (.c (.int .i64 1))], none⟩,
    ⟨some 66, .mv (.t 11), none⟩,
    ⟨some 67, .mv (.t 12), none⟩,
    ⟨some 68, .mv (.t 11), none⟩,
    ⟨some 69, .mv (.t 12), none⟩,
    ⟨some 70, .callp 78 [(.t 68), (.t 69)], none⟩,
    ⟨some 71, .callp 77 [(.t 66), (.t 67), (.t 70)], none⟩,
    ⟨some 6, .mv (.t 65), none⟩,
    ⟨some 7, .mv (.t 71), none⟩]) (.ret))))))))) Q ⟨e, n, H⟩ := rfl
def c42_k2 : ACode := .kp [2, 3, 8] (.seq (.seq (.reg [⟨some 37, .faddr (.t 3) 0 none, none⟩,
    ⟨some 38, .load none (.t 37), none⟩,
    ⟨some 39, .bin .eql (.t 38) (.c (.int .i64 4)), none⟩]) (.kp [2, 8, 39] (.cond (.t 39) (.seq (.reg [⟨some 40, .faddr (.t 8) 0 none, none⟩,
    ⟨some 41, .load none (.t 40), none⟩,
    ⟨some 42, .mv (.t 2), none⟩,
    ⟨some 43, .bin .add (.t 41) (.t 42), none⟩,
    ⟨some 44, .callp 77 [(.t 43), (.c (.int .i64 1)), (.c (.int .i64 1))], none⟩,
    ⟨some 45, .faddr (.t 8) 0 none, none⟩,
    ⟨some 46, .load none (.t 45), none⟩,
    ⟨some 47, .mv (.t 2), none⟩,
    ⟨some 48, .bin .add (.t 46) (.t 47), none⟩,
    ⟨some 49, .callp 77 [(.t 48), (.c (.int .i64 12)), (.c (.int .i64 31))], none⟩,
    ⟨some 6, .mv (.t 44), none⟩,
    ⟨some 7, .mv (.t 49), none⟩]) (.ret)) (.skip)))) (c42_k1))
theorem c42_k2_go {Q : AExit → AS → Prop} {e : AEnv} {n : Nat} {H : AHeap} : aw Tryz.prog c42_k2 Q ⟨e, n, H⟩ = aw Tryz.prog (.kp [2, 3, 8] (.seq (.seq (.reg [⟨some 37, .faddr (.t 3) 0 none, none⟩,
    ⟨some 38, .load none (.t 37), none⟩,
    ⟨some 39, .bin .eql (.t 38) (.c (.int .i64 4)), none⟩]) (.kp [2, 8, 39] (.cond (.t 39) (.seq (.reg [⟨some 40, .faddr (.t 8) 0 none, none⟩,
    ⟨some 41, .load none (.t 40), none⟩,
    ⟨some 42, .mv (.t 2), none⟩,
    ⟨some 43, .bin .add (.t 41) (.t 42), none⟩,
    ⟨some 44, .callp 77 [(.t 43), (.c (.int .i64 1)), (.c (.int .i64 1))], none⟩,
    ⟨some 45, .faddr (.t 8) 0 none, none⟩,
    ⟨some 46, .load none (.t 45), none⟩,
    ⟨some 47, .mv (.t 2), none⟩,
    ⟨some 48, .bin .add (.t 46) (.t 47), none⟩,
    ⟨some 49, .callp 77 [(.t 48), (.c (.int .i64 12)), (.c (.int .i64 31))], none⟩,
    ⟨some 6, .mv (.t 44), none⟩,
    ⟨some 7, .mv (.t 49), none⟩]) (.ret)) (.skip)))) (c42_k1))) Q ⟨e, n, H⟩ := rfl
def c42_t3 : ACode := .kp [1, 2] (.seq (.reg [⟨some 27, .mv (.t 1), none⟩,
    ⟨some 28, .mv (.t 1), none⟩,
    ⟨some 29, .callp 76 [(.t 28)], none⟩,
    ⟨some 30, .bin .sub (.t 27) (.t 29), none⟩,
    ⟨some 31, .mv (.t 2), none⟩,
    ⟨some 32, .bin .mul (.c (.int .i64 7)) (.t 31), none⟩,
    ⟨some 33, .bin .add (.t 30) (.t 32), none⟩,
    ⟨some 9, .mv (.t 33), none⟩]) (.kp [9] (.seq (.reg [⟨some 34, .mv (.t 9), none⟩,
    ⟨some 35, .mv (.t 9), none⟩,
    ⟨some 36, .bin .add (.t 35) (.c (.int .i64 6)), none⟩,
    ⟨some 6, .mv (.t 34), none⟩,
    ⟨some 7, .mv (.t 36), none⟩]) (.ret))))
theorem c42_t3_go {Q : AExit → AS → Prop} {e : AEnv} {n : Nat} {H : AHeap} : aw Tryz.prog c42_t3 Q ⟨e, n, H⟩ = aw Tryz.prog (.kp [1, 2] (.seq (.reg [⟨some 27, .mv (.t 1), none⟩,
    ⟨some 28, .mv (.t 1), none⟩,
    ⟨some 29, .callp 76 [(.t 28)], none⟩,
    ⟨some 30, .bin .sub (.t 27) (.t 29), none⟩,
    ⟨some 31, .mv (.t 2), none⟩,
    ⟨some 32, .bin .mul (.c (.int .i64 7)) (.t 31), none⟩,
    ⟨some 33, .bin .add (.t 30) (.t 32), none⟩,
    ⟨some 9, .mv (.t 33), none⟩]) (.kp [9] (.seq (.reg [⟨some 34, .mv (.t 9), none⟩,
    ⟨some 35, .mv (.t 9), none⟩,
    ⟨some 36, .bin .add (.t 35) (.c (.int .i64 6)), none⟩,
    ⟨some 6, .mv (.t 34), none⟩,
    ⟨some 7, .mv (.t 36), none⟩]) (.ret))))) Q ⟨e, n, H⟩ := rfl
def c42_k4 : ACode := .kp [1, 2, 3, 8] (.seq (.seq (.reg [⟨some 24, .faddr (.t 3) 0 none, none⟩,
    ⟨some 25, .load none (.t 24), none⟩,
    ⟨some 26, .bin .eql (.t 25) (.c (.int .i64 2)), none⟩]) (.kp [1, 2, 3, 8, 26] (.cond (.t 26) (c42_t3) (.skip)))) (c42_k2))
theorem c42_k4_go {Q : AExit → AS → Prop} {e : AEnv} {n : Nat} {H : AHeap} : aw Tryz.prog c42_k4 Q ⟨e, n, H⟩ = aw Tryz.prog (.kp [1, 2, 3, 8] (.seq (.seq (.reg [⟨some 24, .faddr (.t 3) 0 none, none⟩,
    ⟨some 25, .load none (.t 24), none⟩,
    ⟨some 26, .bin .eql (.t 25) (.c (.int .i64 2)), none⟩]) (.kp [1, 2, 3, 8, 26] (.cond (.t 26) (c42_t3) (.skip)))) (c42_k2))) Q ⟨e, n, H⟩ := rfl
def c42 : AFun := { nargs := 3, nt := 72, res := [.tmp 6, .tmp 7], code := .seq (.reg [⟨some 3, .box 25 (some 8) (.t 0), none⟩,
    ⟨some 6, .mv (.c (.int .i64 0)), none⟩,
    ⟨some 7, .mv (.c (.int .i64 0)), none⟩]) (.kp [1, 2, 3] (.seq (.reg [⟨some 13, .mv (.t 1), none⟩,
    ⟨some 14, .callp 75 [(.t 13)], none⟩,
    ⟨some 8, .alloc 99 [(.int .i64 0), (.int .i64 0), (.int .i64 0), (.int .i64 0), (.int .i64 0), (.int .i64 0)], none⟩,
    ⟨none, .store (some 6) (.t 8) (.t 14), none⟩]) (.kp [1, 2, 3, 8] (.seq (.seq (.reg [⟨some 15, .faddr (.t 3) 0 none, none⟩,
    ⟨some 16, .load none (.t 15), none⟩,
    ⟨some 17, .bin .eql (.t 16) (.c (.int .i64 1)), none⟩]) (.kp [1, 2, 3, 8, 17] (.cond (.t 17) (.seq (.reg [⟨some 18, .mv (.t 1), none⟩,
    ⟨some 19, .mv (.t 2), none⟩,
    ⟨some 20, .bin .add (.t 18) (.t 19), none⟩,
    ⟨some 21, .mv (.t 1), none⟩,
    ⟨some 22, .mv (.t 2), none⟩,
    ⟨some 23, .bin .add (.t 21) (.t 22), none⟩,
    ⟨some 6, .mv (.t 20), none⟩,
    ⟨some 7, .mv (.t 23), none⟩]) (.ret)) (.skip)))) (c42_k4))))) }
theorem cmp42 : (cFun Tryz.prog efs Tryz.f42).map (fun x => (x.nargs, x.nt, x.res, x.code)) = some (c42.nargs, c42.nt, c42.res, bare c42.code) := by kernel_rfl
def c43_k1 : ACode := .kp [4, 7, 8] (.seq (.segs [⟨none, [⟨some 136, .faddr (.t 7) 2 none, none⟩,
      ⟨some 137, .load none (.t 136), none⟩,
      ⟨some 138, .faddr (.t 8) 2 none, none⟩,
      ⟨some 139, .load none (.t 138), none⟩,
      ⟨some 140, .bin .eql (.t 137) (.t 139), none⟩,
      ⟨some 141, .mv (.t 140), none⟩], none⟩,
    ⟨some (141, true), [⟨some 142, .faddr (.t 4) 0 none, none⟩,
      ⟨some 143, .load none (.t 142), none⟩,
      ⟨some 144, .bin .eql (.t 143) (.c (.int .i64 3)), none⟩,
      ⟨some 145, .mv (.t 144), none⟩], none⟩,
    ⟨some (145, false), [⟨some 146, .faddr (.t 4) 2 none, none⟩,
      ⟨some 147, .load none (.t 146), none⟩,
      ⟨some 148, .len (.t 147), none⟩,
      ⟨some 149, .bin .gtr (.t 148) (.c (.int .i64 0)), none⟩], none⟩,
    ⟨some (141, true), [⟨some 150, .pick (.t 145) (.c (.bool true)) (.t 149), none⟩,
      ⟨some 151, .mv (.t 150), none⟩], none⟩,
    ⟨some (151, false), [⟨some 152, .faddr (.t 7) 1 none, none⟩,
      ⟨some 153, .load none (.t 152), none⟩,
      ⟨some 154, .faddr (.t 8) 1 none, none⟩,
      ⟨some 155, .load none (.t 154), none⟩,
      ⟨some 156, .bin .eql (.t 153) (.t 155), none⟩], none⟩,
    ⟨some (141, true), [⟨some 157, .pick (.t 151) (.c (.bool true)) (.t 156), none⟩], some (158, 157)⟩,
    ⟨none, [⟨some 6, .mv (.t 158), none⟩], none⟩]) (.ret))
theorem c43_k1_go {Q : AExit → AS → Prop} {e : AEnv} {n : Nat} {H : AHeap} : aw Tryz.prog c43_k1 Q ⟨e, n, H⟩ = aw Tryz.prog (.kp [4, 7, 8] (.seq (.segs [⟨none, [⟨some 136, .faddr (.t 7) 2 none, none⟩,
      ⟨some 137, .load none (.t 136), none⟩,
      ⟨some 138, .faddr (.t 8) 2 none, none⟩,
      ⟨some 139, .load none (.t 138), none⟩,
      ⟨some 140, .bin .eql (.t 137) (.t 139), none⟩,
      ⟨some 141, .mv (.t 140), none⟩], none⟩,
    ⟨some (141, true), [⟨some 142, .faddr (.t 4) 0 none, none⟩,
      ⟨some 143, .load none (.t 142), none⟩,
      ⟨some 144, .bin .eql (.t 143) (.c (.int .i64 3)), none⟩,
      ⟨some 145, .mv (.t 144), none⟩], none⟩,
    ⟨some (145, false), [⟨some 146, .faddr (.t 4) 2 none, none⟩,
      ⟨some 147, .load none (.t 146), none⟩,
      ⟨some 148, .len (.t 147), none⟩,
      ⟨some 149, .bin .gtr (.t 148) (.c (.int .i64 0)), none⟩], none⟩,
    ⟨some (141, true), [⟨some 150, .pick (.t 145) (.c (.bool true)) (.t 149), none⟩,
      ⟨some 151, .mv (.t 150), none⟩], none⟩,
    ⟨some (151, false), [⟨some 152, .faddr (.t 7) 1 none, none⟩,
      ⟨some 153, .load none (.t 152), none⟩,
      ⟨some 154, .faddr (.t 8) 1 none, none⟩,
      ⟨some 155, .load none (.t 154), none⟩,
      ⟨some 156, .bin .eql (.t 153) (.t 155), none⟩], none⟩,
    ⟨some (141, true), [⟨some 157, .pick (.t 151) (.c (.bool true)) (.t 156), none⟩], some (158, 157)⟩,
    ⟨none, [⟨some 6, .mv (.t 158), none⟩], none⟩]) (.ret))) Q ⟨e, n, H⟩ := rfl
def c43_k2 : ACode := .kp [0, 2, 4, 7, 8] (.seq (.seq (.reg [⟨some 128, .faddr (.t 4) 0 none, none⟩,
    ⟨some 129, .load none (.t 128), none⟩,
    ⟨some 130, .bin .eql (.t 129) (.c (.int .i64 2)), none⟩]) (.kp [0, 2, 4, 7, 8, 130] (.cond (.t 130) (.seq (.reg [⟨some 131, .mv (.t 0), none⟩,
    ⟨some 132, .callp 76 [(.t 131)], none⟩,
    ⟨some 133, .mv (.t 2), none⟩,
    ⟨some 134, .callp 76 [(.t 133)], none⟩,
    ⟨some 135, .bin .eql (.t 132) (.t 134), none⟩,
    ⟨some 6, .mv (.t 135), none⟩]) (.ret)) (.skip)))) (c43_k1))
theorem c43_k2_go {Q : AExit → AS → Prop} {e : AEnv} {n : Nat} {H : AHeap} : aw Tryz.prog c43_k2 Q ⟨e, n, H⟩ = aw Tryz.prog (.kp [0, 2, 4, 7, 8] (.seq (.seq (.reg [⟨some 128, .faddr (.t 4) 0 none, none⟩,
    ⟨some 129, .load none (.t 128), none⟩,
    ⟨some 130, .bin .eql (.t 129) (.c (.int .i64 2)), none⟩]) (.kp [0, 2, 4, 7, 8, 130] (.cond (.t 130) (.seq (.reg [⟨some 131, .mv (.t 0), none⟩,
    ⟨some 132, .callp 76 [(.t 131)], none⟩,
    ⟨some 133, .mv (.t 2), none⟩,
    ⟨some 134, .callp 76 [(.t 133)], none⟩,
    ⟨some 135, .bin .eql (.t 132) (.t 134), none⟩,
    ⟨some 6, .mv (.t 135), none⟩]) (.ret)) (.skip)))) (c43_k1))) Q ⟨e, n, H⟩ := rfl
def c43_k3 : ACode := .kp [0, 2, 4, 7, 8, 10] (.seq (.seq (.segs [⟨none, [⟨some 108, .mv (.t 10), none⟩,
      ⟨some 109, .not (.t 108), none⟩,
      ⟨some 110, .mv (.t 109), none⟩], none⟩,
    ⟨some (110, false), [⟨some 111, .faddr (.t 4) 3 none, none⟩,
      ⟨some 112, .load none (.t 111), none⟩,
      ⟨some 113, .len (.t 112), none⟩,
      ⟨some 114, .bin .gtr (.t 113) (.c (.int .i64 0)), none⟩], some (115, 114)⟩,
    ⟨none, [⟨some 116, .mv (.t 115), none⟩], none⟩,
    ⟨some (116, false), [⟨some 117, .faddr (.t 4) 4 none, none⟩,
      ⟨some 118, .load none (.t 117), none⟩,
      ⟨some 119, .len (.t 118), none⟩,
      ⟨some 120, .bin .gtr (.t 119) (.c (.int .i64 0)), none⟩], some (121, 120)⟩,
    ⟨none, [⟨some 122, .mv (.t 121), none⟩], none⟩,
    ⟨some (122, false), [⟨some 123, .faddr (.t 4) 0 none, none⟩,
      ⟨some 124, .load none (.t 123), none⟩,
      ⟨some 125, .bin .eql (.t 124) (.c (.int .i64 1)), none⟩], some (126, 125)⟩]) (.kp [0, 2, 4, 7, 8, 10, 126] (.cond (.t 126) (.seq (.reg [⟨some 127, .mv (.t 10), none⟩,
    ⟨some 6, .mv (.t 127), none⟩]) (.ret)) (.skip)))) (c43_k2))
theorem c43_k3_go {Q : AExit → AS → Prop} {e : AEnv} {n : Nat} {H : AHeap} : aw Tryz.prog c43_k3 Q ⟨e, n, H⟩ = aw Tryz.prog (.kp [0, 2, 4, 7, 8, 10] (.seq (.seq (.segs [⟨none, [⟨some 108, .mv (.t 10), none⟩,
      ⟨some 109, .not (.t 108), none⟩,
      ⟨some 110, .mv (.t 109), none⟩], none⟩,
    ⟨some (110, false), [⟨some 111, .faddr (.t 4) 3 none, none⟩,
      ⟨some 112, .load none (.t 111), none⟩,
      ⟨some 113, .len (.t 112), none⟩,
      ⟨some 114, .bin .gtr (.t 113) (.c (.int .i64 0)), none⟩], some (115, 114)⟩,
    ⟨none, [⟨some 116, .mv (.t 115), none⟩], none⟩,
    ⟨some (116, false), [⟨some 117, .faddr (.t 4) 4 none, none⟩,
      ⟨some 118, .load none (.t 117), none⟩,
      ⟨some 119, .len (.t 118), none⟩,
      ⟨some 120, .bin .gtr (.t 119) (.c (.int .i64 0)), none⟩], some (121, 120)⟩,
    ⟨none, [⟨some 122, .mv (.t 121), none⟩], none⟩,
    ⟨some (122, false), [⟨some 123, .faddr (.t 4) 0 none, none⟩,
      ⟨some 124, .load none (.t 123), none⟩,
      ⟨some 125, .bin .eql (.t 124) (.c (.int .i64 1)), none⟩], some (126, 125)⟩]) (.kp [0, 2, 4, 7, 8, 10, 126] (.cond (.t 126) (.seq (.reg [⟨some 127, .mv (.t 10), none⟩,
    ⟨some 6, .mv (.t 127), none⟩]) (.ret)) (.skip)))) (c43_k2))) Q ⟨e, n, H⟩ := rfl
def c43_k4 : ACode := .kp [0, 2, 4, 7, 8, 9, 10, 11] (.reg [⟨some 68, .mv (.t 11), none⟩,
    ⟨some 69, .bin .add (.t 68) (.c (.int .i64 1)), none⟩,
    ⟨some 11, .mv (.t 69), none⟩])
theorem c43_k4_go {Q : AExit → AS → Prop} {e : AEnv} {n : Nat} {H : AHeap} : aw Tryz.prog c43_k4 Q ⟨e, n, H⟩ = aw Tryz.prog (.kp [0, 2, 4, 7, 8, 9, 10, 11] (.reg [⟨some 68, .mv (.t 11), none⟩,
    ⟨some 69, .bin .add (.t 68) (.c (.int .i64 1)), none⟩,
    ⟨some 11, .mv (.t 69), none⟩])) Q ⟨e, n, H⟩ := rfl
def c43_k5 : ACode := .kp [0, 2, 4, 7, 8, 9, 10, 11] (.seq (.block 1 (.seq (.reg [⟨some 70, .faddr (.t 4) 4 none, none⟩,
    ⟨some 71, .load none (.t 70), none⟩,
    ⟨some 72, .mv (.t 11), none⟩,
    ⟨some 73, .iaddr 2 (some 2) (.t 71) (.t 72), none⟩,
    ⟨some 74, .load (some 2) (.t 73), none⟩,
    ⟨some 12, .alloc 56 [(.int .i64 0), (.int .i64 0)], none⟩,
    ⟨none, .store (some 2) (.t 12) (.t 74), none⟩]) (.kp [0, 2, 4, 7, 8, 9, 10, 11, 12] (.seq (.reg [⟨some 75, .faddr (.t 7) 2 none, none⟩,
    ⟨some 76, .load none (.t 75), none⟩,
    ⟨some 77, .bin .add (.t 76) (.c (.int .i64 6)), none⟩,
    ⟨some 78, .bin .quo (.t 77) (.c (.int .i64 7)), none⟩,
    ⟨some 13, .mv (.t 78), none⟩]) (.kp [0, 2, 4, 7, 8, 9, 10, 11, 12, 13] (.seq (.reg [⟨some 79, .mv (.t 9), none⟩,
    ⟨some 80, .faddr (.t 7) 2 none, none⟩,
    ⟨some 81, .load none (.t 80), none⟩,
    ⟨some 82, .bin .sub (.t 79) (.t 81), none⟩,
    ⟨some 83, .bin .add (.t 82) (.c (.int .i64 7)), none⟩,
    ⟨some 84, .bin .quo (.t 83) (.c (.int .i64 7)), none⟩,
    ⟨some 85, .neg (.t 84), none⟩,
    ⟨some 14, .mv (.t 85), none⟩]) (.kp [0, 2, 4, 7, 8, 9, 10, 11, 12, 13, 14] (.seq (.segs [⟨none, [⟨some 86, .mv (.t 0), none⟩,
      ⟨some 87, .callp 76 [(.t 86)], none⟩,
      ⟨some 88, .faddr (.t 12) 0 none, none⟩,
      ⟨some 89, .load none (.t 88), none⟩,
      ⟨some 90, .bin .eql (.t 87) (.t 89), none⟩,
      ⟨some 91, .mv (.t 90), none⟩], none⟩,
    ⟨some (91, true), [⟨some 92, .faddr (.t 12) 1 none, none⟩,
      ⟨some 93, .load none (.t 92), none⟩,
      ⟨some 94, .bin .eql (.t 93) (.c (.int .i64 0)), none⟩,
      ⟨some 95, .mv (.t 94), none⟩], none⟩,
    ⟨some (95, false), [⟨some 96, .faddr (.t 12) 1 none, none⟩,
      ⟨some 97, .load none (.t 96), none⟩,
      ⟨some 98, .mv (.t 13), none⟩,
      ⟨some 99, .bin .eql (.t 97) (.t 98), none⟩], none⟩,
    ⟨some (91, true), [⟨some 100, .pick (.t 95) (.c (.bool true)) (.t 99), none⟩,
      ⟨some 101, .mv (.t 100), none⟩], none⟩,
    ⟨some (101, false), [⟨some 102, .faddr (.t 12) 1 none, none⟩,
      ⟨some 103, .load none (.t 102), none⟩,
      ⟨some 104, .mv (.t 14), none⟩,
      ⟨some 105, .bin .eql (.t 103) (.t 104), none⟩], none⟩,
    ⟨some (91, true), [⟨some 106, .pick (.t 101) (.c (.bool true)) (.t 105), none⟩], some (107, 106)⟩]) (.kp [0, 2, 4, 7, 8, 9, 10, 11, 107] (.cond (.t 107) (.reg [⟨some 10, .mv (.c (.bool true)), none⟩]) (.skip))))))))))) (c43_k4))
theorem c43_k5_go {Q : AExit → AS → Prop} {e : AEnv} {n : Nat} {H : AHeap} : aw Tryz.prog c43_k5 Q ⟨e, n, H⟩ = aw Tryz.prog (.kp [0, 2, 4, 7, 8, 9, 10, 11] (.seq (.block 1 (.seq (.reg [⟨some 70, .faddr (.t 4) 4 none, none⟩,
    ⟨some 71, .load none (.t 70), none⟩,
    ⟨some 72, .mv (.t 11), none⟩,
    ⟨some 73, .iaddr 2 (some 2) (.t 71) (.t 72), none⟩,
    ⟨some 74, .load (some 2) (.t 73), none⟩,
    ⟨some 12, .alloc 56 [(.int .i64 0), (.int .i64 0)], none⟩,
    ⟨none, .store (some 2) (.t 12) (.t 74), none⟩]) (.kp [0, 2, 4, 7, 8, 9, 10, 11, 12] (.seq (.reg [⟨some 75, .faddr (.t 7) 2 none, none⟩,
    ⟨some 76, .load none (.t 75), none⟩,
    ⟨some 77, .bin .add (.t 76) (.c (.int .i64 6)), none⟩,
    ⟨some 78, .bin .quo (.t 77) (.c (.int .i64 7)), none⟩,
    ⟨some 13, .mv (.t 78), none⟩]) (.kp [0, 2, 4, 7, 8, 9, 10, 11, 12, 13] (.seq (.reg [⟨some 79, .mv (.t 9), none⟩,
    ⟨some 80, .faddr (.t 7) 2 none, none⟩,
    ⟨some 81, .load none (.t 80), none⟩,
    ⟨some 82, .bin .sub (.t 79) (.t 81), none⟩,
    ⟨some 83, .bin .add (.t 82) (.c (.int .i64 7)), none⟩,
    ⟨some 84, .bin .quo (.t 83) (.c (.int .i64 7)), none⟩,
    ⟨some 85, .neg (.t 84), none⟩,
    ⟨some 14, .mv (.t 85), none⟩]) (.kp [0, 2, 4, 7, 8, 9, 10, 11, 12, 13, 14] (.seq (.segs [⟨none, [⟨some 86, .mv (.t 0), none⟩,
      ⟨some 87, .callp 76 [(.t 86)], none⟩,
      ⟨some 88, .faddr (.t 12) 0 none, none⟩,
      ⟨some 89, .load none (.t 88), none⟩,
      ⟨some 90, .bin .eql (.t 87) (.t 89), none⟩,
      ⟨some 91, .mv (.t 90), none⟩], none⟩,
    ⟨some (91, true), [⟨some 92, .faddr (.t 12) 1 none, none⟩,
      ⟨some 93, .load none (.t 92), none⟩,
      ⟨some 94, .bin .eql (.t 93) (.c (.int .i64 0)), none⟩,
      ⟨some 95, .mv (.t 94), none⟩], none⟩,
    ⟨some (95, false), [⟨some 96, .faddr (.t 12) 1 none, none⟩,
      ⟨some 97, .load none (.t 96), none⟩,
      ⟨some 98, .mv (.t 13), none⟩,
      ⟨some 99, .bin .eql (.t 97) (.t 98), none⟩], none⟩,
    ⟨some (91, true), [⟨some 100, .pick (.t 95) (.c (.bool true)) (.t 99), none⟩,
      ⟨some 101, .mv (.t 100), none⟩], none⟩,
    ⟨some (101, false), [⟨some 102, .faddr (.t 12) 1 none, none⟩,
      ⟨some 103, .load none (.t 102), none⟩,
      ⟨some 104, .mv (.t 14), none⟩,
      ⟨some 105, .bin .eql (.t 103) (.t 104), none⟩], none⟩,
    ⟨some (91, true), [⟨some 106, .pick (.t 101) (.c (.bool true)) (.t 105), none⟩], some (107, 106)⟩]) (.kp [0, 2, 4, 7, 8, 9, 10, 11, 107] (.cond (.t 107) (.reg [⟨some 10, .mv (.c (.bool true)), none⟩]) (.skip))))))))))) (c43_k4))) Q ⟨e, n, H⟩ := rfl
def c43_L6 : ACode := .ke [0, 2, 4, 7, 8, 9, 10, 11] (.seq (.seq (.reg [⟨some 63, .mv (.t 11), none⟩,
    ⟨some 64, .faddr (.t 4) 4 none, none⟩,
    ⟨some 65, .load none (.t 64), none⟩,
    ⟨some 66, .len (.t 65), none⟩,
    ⟨some 67, .bin .lss (.t 63) (.t 66), none⟩]) (.kp [0, 2, 4, 7, 8, 9, 10, 11, 67] (.cond (.t 67) (.skip) (.exit 0)))) (c43_k5))
theorem c43_L6_go {Q : AExit → AS → Prop} {e : AEnv} {n : Nat} {H : AHeap} : aw Tryz.prog c43_L6 Q ⟨e, n, H⟩ = aw Tryz.prog (.ke [0, 2, 4, 7, 8, 9, 10, 11] (.seq (.seq (.reg [⟨some 63, .mv (.t 11), none⟩,
    ⟨some 64, .faddr (.t 4) 4 none, none⟩,
    ⟨some 65, .load none (.t 64), none⟩,
    ⟨some 66, .len (.t 65), none⟩,
    ⟨some 67, .bin .lss (.t 63) (.t 66), none⟩]) (.kp [0, 2, 4, 7, 8, 9, 10, 11, 67] (.cond (.t 67) (.skip) (.exit 0)))) (c43_k5))) Q ⟨e, n, H⟩ := rfl
def c43_k7 : ACode := .kp [0, 2, 4, 7, 8, 9] (.seq (.reg [⟨some 59, .faddr (.t 4) 4 none, none⟩,
    ⟨some 60, .load none (.t 59), none⟩,
    ⟨some 61, .len (.t 60), none⟩,
    ⟨some 62, .bin .eql (.t 61) (.c (.int .i64 0)), none⟩,
    ⟨some 10, .mv (.t 62), none⟩]) (.kp [0, 2, 4, 7, 8, 9, 10] (.seq (.seq (.reg [⟨some 11, .mv (.c (.int .i64 0)), none⟩]) (.kp [0, 2, 4, 7, 8, 9, 10, 11] (.block 0 (.kp [0, 2, 4, 7, 8, 9, 10, 11] (.loop c43_L6))))) (c43_k3))))
theorem c43_k7_go {Q : AExit → AS → Prop} {e : AEnv} {n : Nat} {H : AHeap} : aw Tryz.prog c43_k7 Q ⟨e, n, H⟩ = aw Tryz.prog (.kp [0, 2, 4, 7, 8, 9] (.seq (.reg [⟨some 59, .faddr (.t 4) 4 none, none⟩,
    ⟨some 60, .load none (.t 59), none⟩,
    ⟨some 61, .len (.t 60), none⟩,
    ⟨some 62, .bin .eql (.t 61) (.c (.int .i64 0)), none⟩,
    ⟨some 10, .mv (.t 62), none⟩]) (.kp [0, 2, 4, 7, 8, 9, 10] (.seq (.seq (.reg [⟨some 11, .mv (.c (.int .i64 0)), none⟩]) (.kp [0, 2, 4, 7, 8, 9, 10, 11] (.block 0 (.kp [0, 2, 4, 7, 8, 9, 10, 11] (.loop c43_L6))))) (c43_k3))))) Q ⟨e, n, H⟩ := rfl
def c43_k8 : ACode := .kp [0, 2, 4, 7, 8, 9] (.seq (.seq (.segs [⟨none, [⟨some 36, .faddr (.t 4) 3 none, none⟩,
      ⟨some 37, .load none (.t 36), none⟩,
      ⟨some 38, .len (.t 37), none⟩,
      ⟨some 39, .bin .gtr (.t 38) (.c (.int .i64 0)), none⟩,
      ⟨some 40, .mv (.t 39), none⟩], none⟩,
    ⟨some (40, true), [⟨some 41, .faddr (.t 4) 3 none, none⟩,
      ⟨some 42, .load none (.t 41), none⟩,
      ⟨some 43, .faddr (.t 7) 2 none, none⟩,
      ⟨some 44, .load none (.t 43), none⟩,
      ⟨some 45, .callp 44 [(.t 42), (.t 44)], none⟩,
      ⟨some 46, .not (.t 45), none⟩], none⟩,
    ⟨none, [⟨some 47, .pick (.t 40) (.t 46) (.c (.bool false)), none⟩,
      ⟨some 48, .mv (.t 47), none⟩], none⟩,
    ⟨some (48, true), [⟨some 49, .faddr (.t 4) 3 none, none⟩,
      ⟨some 50, .load none (.t 49), none⟩,
      ⟨some 51, .faddr (.t 7) 2 none, none⟩,
      ⟨some 52, .load none (.t 51), none⟩,
      ⟨some 53, .mv (.t 9), none⟩,
      ⟨some 54, .bin .sub (.t 52) (.t 53), none⟩,
      ⟨some 55, .bin .sub (.t 54) (.c (.int .i64 1)), none⟩,
      ⟨some 56, .callp 44 [(.t 50), (.t 55)], none⟩,
      ⟨some 57, .not (.t 56), none⟩], none⟩,
    ⟨none, [⟨some 58, .pick (.t 48) (.t 57) (.c (.bool false)), none⟩], none⟩]) (.kp [0, 2, 4, 7, 8, 9, 58] (.cond (.t 58) (.seq (.reg [⟨some 6, .mv (.c (.bool false)), none⟩]) (.ret)) (.skip)))) (c43_k7))
theorem c43_k8_go {Q : AExit → AS → Prop} {e : AEnv} {n : Nat} {H : AHeap} : aw Tryz.prog c43_k8 Q ⟨e, n, H⟩ = aw Tryz.prog (.kp [0, 2, 4, 7, 8, 9] (.seq (.seq (.segs [⟨none, [⟨some 36, .faddr (.t 4) 3 none, none⟩,
      ⟨some 37, .load none (.t 36), none⟩,
      ⟨some 38, .len (.t 37), none⟩,
      ⟨some 39, .bin .gtr (.t 38) (.c (.int .i64 0)), none⟩,
      ⟨some 40, .mv (.t 39), none⟩], none⟩,
    ⟨some (40, true), [⟨some 41, .faddr (.t 4) 3 none, none⟩,
      ⟨some 42, .load none (.t 41), none⟩,
      ⟨some 43, .faddr (.t 7) 2 none, none⟩,
      ⟨some 44, .load none (.t 43), none⟩,
      ⟨some 45, .callp 44 [(.t 42), (.t 44)], none⟩,
      ⟨some 46, .not (.t 45), none⟩], none⟩,
    ⟨none, [⟨some 47, .pick (.t 40) (.t 46) (.c (.bool false)), none⟩,
      ⟨some 48, .mv (.t 47), none⟩], none⟩,
    ⟨some (48, true), [⟨some 49, .faddr (.t 4) 3 none, none⟩,
      ⟨some 50, .load none (.t 49), none⟩,
      ⟨some 51, .faddr (.t 7) 2 none, none⟩,
      ⟨some 52, .load none (.t 51), none⟩,
      ⟨some 53, .mv (.t 9), none⟩,
      ⟨some 54, .bin .sub (.t 52) (.t 53), none⟩,
      ⟨some 55, .bin .sub (.t 54) (.c (.int .i64 1)), none⟩,
      ⟨some 56, .callp 44 [(.t 50), (.t 55)], none⟩,
      ⟨some 57, .not (.t 56), none⟩], none⟩,
    ⟨none, [⟨some 58, .pick (.t 48) (.t 57) (.c (.bool false)), none⟩], none⟩]) (.kp [0, 2, 4, 7, 8, 9, 58] (.cond (.t 58) (.seq (.reg [⟨some 6, .mv (.c (.bool false)), none⟩]) (.ret)) (.skip)))) (c43_k7))) Q ⟨e, n, H⟩ := rfl
def c43 : AFun := { nargs := 3, nt := 159, res := [.tmp 6], code := .seq (.reg [⟨some 4, .box 25 (some 8) (.t 1), none⟩,
    ⟨some 6, .mv (.c (.bool false)), none⟩]) (.kp [0, 2, 4] (.seq (.reg [⟨some 15, .mv (.t 0), none⟩,
    ⟨some 16, .callp 75 [(.t 15)], none⟩,
    ⟨some 7, .alloc 99 [(.int .i64 0), (.int .i64 0), (.int .i64 0), (.int .i64 0), (.int .i64 0), (.int .i64 0)], none⟩,
    ⟨none, .store (some 6) (.t 7) (.t 16), none⟩]) (.kp [0, 2, 4, 7] (.seq (.reg [⟨some 17, .mv (.t 2), none⟩,
    ⟨some 18, .callp 75 [(.t 17)], none⟩,
    ⟨some 8, .alloc 99 [(.int .i64 0), (.int .i64 0), (.int .i64 0), (.int .i64 0), (.int .i64 0), (.int .i64 0)], none⟩,
    ⟨none, .store (some 6) (.t 8) (.t 18), none⟩]) (.kp [0, 2, 4, 7, 8] (.seq (.reg [⟨some 19, .faddr (.t 7) 0 none, none⟩,
    ⟨some 20, .load none (.t 19), none⟩,
    ⟨some 21, .faddr (.t 7) 1 none, none⟩,
    ⟨some 22, .load none (.t 21), none⟩,
    ⟨some 23, .callp 78 [(.t 20), (.t 22)], none⟩,
    ⟨some 9, .mv (.t 23), none⟩]) (.kp [0, 2, 4, 7, 8, 9] (.seq (.seq (.segs [⟨none, [⟨some 24, .faddr (.t 4) 2 none, none⟩,
      ⟨some 25, .load none (.t 24), none⟩,
      ⟨some 26, .len (.t 25), none⟩,
      ⟨some 27, .bin .gtr (.t 26) (.c (.int .i64 0)), none⟩,
      ⟨some 28, .mv (.t 27), none⟩], none⟩,
    ⟨some (28, true), [⟨some 29, .faddr (.t 4) 2 none, none⟩,
      ⟨some 30, .load none (.t 29), none⟩,
      ⟨some 31, .faddr (.t 7) 1 none, none⟩,
      ⟨some 32, .load none (.t 31), none⟩,
      ⟨some 33, .callp 44 [(.t 30), (.t 32)], none⟩,
      ⟨some 34, .not (.t 33), none⟩], none⟩,
    ⟨none, [⟨some 35, .pick (.t 28) (.t 34) (.c (.bool false)), none⟩], none⟩]) (.kp [0, 2, 4, 7, 8, 9, 35] (.cond (.t 35) (.seq (.reg [⟨some 6, .mv (.c (.bool false)), none⟩]) (.ret)) (.skip)))) (c43_k8))))))))) }
theorem cmp43 : (cFun Tryz.prog efs Tryz.f43).map (fun x => (x.nargs, x.nt, x.res, x.code)) = some (c43.nargs, c43.nt, c43.res, bare c43.code) := by kernel_rfl
end Go.Proofs.YtecpfmhminkalaaGreatDoor
namespace Go.Proofs.YtecpfmhminkalaaGreatDoor
theorem dayN_first (y : Int) : dayN y 1 1 = bef y + 1 := by unfold dayN doy cumD; simp [cumD]
theorem dayN_last (y : Int) : dayN y 12 31 = bef (y + 1) := by
  have h := dayN_moB y 12 31 (by omega) (by omega)
  have h2 := moB_succ (12 * y + 12 - 1)
  have e1 : (12 * y + 12 - 1) / 12 = y := by omega
  have e2 : (12 * y + 12 - 1) % 12 + 1 = 12 := by omega
  have e3 : moB (12 * y + 12 - 1 + 1) = bef (y + 1) := by
    unfold moB
    have e4 : (12 * y + 12 - 1 + 1) / 12 = y + 1 := by omega
    have e5 : (12 * y + 12 - 1 + 1) % 12 = 0 := by omega
    rw [e4, e5]; simp [cumD]
  rw [e1, e2, e3] at h2
  have e6 : dom y 12 = 31 := by unfold dom; simp
  omega
theorem dayN_month (y n d : Int) (h : 0 ≤ n) : dayN (y + n / 12) (n % 12 + 1) d = moB (12 * y + n) + d := by
  rw [dayN_moB _ _ _ (by omega) (by omega)]
  congr 2
  omega
theorem dayN_mlast (y n : Int) (h : 0 ≤ n) : dayN (y + n / 12) (n % 12 + 1) (dom (y + n / 12) (n % 12 + 1)) = moB (12 * y + n + 1) := by
  rw [dayN_month y n _ h, moB_succ]
  have e1 : (12 * y + n) / 12 = y + n / 12 := by omega
  have e2 : (12 * y + n) % 12 + 1 = n % 12 + 1 := by omega
  rw [e1, e2]
theorem simI {a b : Int} (h : a = b) : simA (aI a) (aI b) := by rw [h]; exact simA_refl _
theorem simB {a b : Bool} (h : a = b) : simA (.bool a) (.bool b) := by rw [h]; exact simA_refl _
set_option maxHeartbeats 4000000 in
theorem refPeriod_a (r : Rule) (s k : Int) (h : 1 ≤ s ∧ s ≤ 3652059) (hu : 1 ≤ r.unit ∧ r.unit ≤ 4) (hk : 0 ≤ k ∧ k ≤ 10000000) (h4 : r.unit = 4 → (dateM s).y + k ≤ 15000) (h3 : r.unit = 3 → 12 * (dateM s).y + (dateM s).m + k ≤ 180000) :
    APure Tryz.prog 42 [aR r, aI s, aI k] (.tup [aI (fiF r.unit s k), aI (fiF r.unit s (k + 1) - 1)]) := by
  have hd := date_a s h
  obtain ⟨h1, h2, h3', h4', h5, h6⟩ := date_b h.1 h.2
  have hw := weekdayOf_a s (by omega)
  obtain ⟨V1, hV1⟩ : ∃ V, V = fiF r.unit s k := ⟨_, rfl⟩
  obtain ⟨V2, hV2⟩ : ∃ V, V = fiF r.unit s (k + 1) - 1 := ⟨_, rfl⟩
  rw [← hV1, ← hV2]
  unfold fiF wdF at hV1 hV2
  have hy := dayN_first ((dateM s).y + k)
  have hy2 := dayN_last ((dateM s).y + k)
  have hm := dayN_month (dateM s).y ((dateM s).m - 1 + k) 1 (by omega)
  have hm2 := dayN_mlast (dateM s).y ((dateM s).m - 1 + k) (by omega)
  have e3 : 12 * (dateM s).y + ((dateM s).m - 1 + k) = 12 * (dateM s).y + (dateM s).m - 1 + k := by omega
  have e4 : 12 * (dateM s).y + ((dateM s).m - 1 + k) + 1 = 12 * (dateM s).y + (dateM s).m - 1 + (k + 1) := by omega
  have e5 : (dateM s).y + k + 1 = (dateM s).y + (k + 1) := by omega
  rw [e4] at hm2
  rw [e3] at hm
  rw [e5] at hy2
  generalize dateM s = D at *
  refine apure_intro Tryz.func42 cmp42 rfl fun n H hH => ?_
  by_cases u1 : r.unit = 1
  · rw [u1] at hV1 hV2
    simp at hV1 hV2
    repeat' (first | (simp -implicitDefEqProofs [c42_k1_go, c42_k2_go, c42_t3_go, c42_k4_go, c42, Z0, XN, XP, Z1, Z2, Z3, Z4, XO, XJ, XL, XK, Z5, Z6, Z7, Z8, Z9, ZA, ZB, ZC, ZD, ZE, ZF, ZG, ZH, ZI, scV, pe, ZJ, ZK, ZL, ZM, ZN, ZO, ZP, ZQ, ZR, ZS, ZT, QW, ZU, ZV, ZW, ZX, ZY, ZZ, Za, Zb, Zc, Zd, Ze, Zf, Zg, Zh, Zi, Zj, Zk, Zl, Zm, Zn, Zo, Zp, Zq, Zr, Zs, QV, Zt, Zu, Zv, Zw, Zx, Zy, Zz, Y0, Y1, Y2, Y3, Y4, Y5, Y6, Y7, Y8, Y9, YA, YB, YC, YD, YE, YF, YG, List.mem_cons, Xe, Xd, XH, QZ, QB, YH, Xy, Q8, Q4, Q6, Q7, Q5, QC, QD, Q2, YI, YJ, Q1, YK, YL, YM, YN, YO, YP, Q9, YQ, YR, YS, YT, YU, YV, QA, Xx, QE, QI, QJ, YW, YX, QK, YY, Xz, YZ, Q0, Xw, Ya, QF, QG, Yb, Yc, Yd, Ye, Yf, Yg, Yh, Yi, Xt, Xa, XY, Xs, Xv, XX, Xc, QU, XG, Yj, Xl, Xb, Xu, XS, Xp, XQ, QN, XZ, QR, QS, Xr, Xo, Xk, Xn, Xq, Xj, XT, ev, get, put, QM, Xi, Yk, Yl, Ym, Yn, Yo, Yp, XU, part, Xm, Yq, Yr, Ys, isNil, Xh, Xg, XR, Xf, QX, Yt, Yu, Yv, Yw, Yx, Yy, Yz, X0, X1, X2, X3, X4, X5, X6, X7, X8, AV.fits, AV.cells, ones, AV.one, Qb, Qc, Qd, Qe, XV, XW, X9, XA, XB, XC, QO, QP, resV, XI, XD, QT, u8e, QY, XE, XF, List.getElem?_cons_zero, List.getElem?_cons_succ, -getElem?_pos, splice, u1]) | (simp (disch := omega) only [upd_ne, XD, if_pos, if_neg, IntWalk.i64_in, Int.tdiv_eq_ediv_of_nonneg, Int.tmod_eq_emod_of_nonneg]) | ((with_reducible refine CallP.chk (f := 75) ?_); (refine' CallP.sf ?_ (hd) ?_); (focus first | (with_reducible exact simL_refl _) | (exact Owns.simC0 (by assumption)) | (exact Owns.simC1 (by assumption)) | (simp [simL, simA, simA_refl, simL_refl]; done))) | (with_reducible refine fin_r ?_ ?_ ?_) | (with_reducible exact SameB.rfl_ _ _) | (with_reducible refine SameB.upd ?_ ?_ _) | (with_reducible assumption) | (with_reducible refine newPM_of ?_) | (with_reducible refine newSM_of ?_) | (with_reducible refine newP_go ?_) | (with_reducible refine newS_go ?_) | (with_reducible refine newM_go ?_) | (with_reducible intro _g _hg) | (with_reducible refine And.intro ?_ ?_) | (with_reducible intro _hc) | omega)
    all_goals exact simA_tup (simL_cons (simI (by omega)) (simL_cons (simI (by omega)) rfl))
  by_cases u2 : r.unit = 2
  · rw [u2] at hV1 hV2
    simp at hV1 hV2
    repeat' (first | (simp -implicitDefEqProofs [c42_k1_go, c42_k2_go, c42_t3_go, c42_k4_go, c42, Z0, XN, XP, Z1, Z2, Z3, Z4, XO, XJ, XL, XK, Z5, Z6, Z7, Z8, Z9, ZA, ZB, ZC, ZD, ZE, ZF, ZG, ZH, ZI, scV, pe, ZJ, ZK, ZL, ZM, ZN, ZO, ZP, ZQ, ZR, ZS, ZT, QW, ZU, ZV, ZW, ZX, ZY, ZZ, Za, Zb, Zc, Zd, Ze, Zf, Zg, Zh, Zi, Zj, Zk, Zl, Zm, Zn, Zo, Zp, Zq, Zr, Zs, QV, Zt, Zu, Zv, Zw, Zx, Zy, Zz, Y0, Y1, Y2, Y3, Y4, Y5, Y6, Y7, Y8, Y9, YA, YB, YC, YD, YE, YF, YG, List.mem_cons, Xe, Xd, XH, QZ, QB, YH, Xy, Q8, Q4, Q6, Q7, Q5, QC, QD, Q2, YI, YJ, Q1, YK, YL, YM, YN, YO, YP, Q9, YQ, YR, YS, YT, YU, YV, QA, Xx, QE, QI, QJ, YW, YX, QK, YY, Xz, YZ, Q0, Xw, Ya, QF, QG, Yb, Yc, Yd, Ye, Yf, Yg, Yh, Yi, Xt, Xa, XY, Xs, Xv, XX, Xc, QU, XG, Yj, Xl, Xb, Xu, XS, Xp, XQ, QN, XZ, QR, QS, Xr, Xo, Xk, Xn, Xq, Xj, XT, ev, get, put, QM, Xi, Yk, Yl, Ym, Yn, Yo, Yp, XU, part, Xm, Yq, Yr, Ys, isNil, Xh, Xg, XR, Xf, QX, Yt, Yu, Yv, Yw, Yx, Yy, Yz, X0, X1, X2, X3, X4, X5, X6, X7, X8, AV.fits, AV.cells, ones, AV.one, Qb, Qc, Qd, Qe, XV, XW, X9, XA, XB, XC, QO, QP, resV, XI, XD, QT, u8e, QY, XE, XF, List.getElem?_cons_zero, List.getElem?_cons_succ, -getElem?_pos, splice, u2]) | (simp (disch := omega) only [upd_ne, XD, if_pos, if_neg, IntWalk.i64_in, Int.tdiv_eq_ediv_of_nonneg, Int.tmod_eq_emod_of_nonneg]) | ((with_reducible refine CallP.chk (f := 75) ?_); (refine' CallP.sf ?_ (hd) ?_); (focus first | (with_reducible exact simL_refl _) | (exact Owns.simC0 (by assumption)) | (exact Owns.simC1 (by assumption)) | (simp [simL, simA, simA_refl, simL_refl]; done))) | ((with_reducible refine CallP.chk (f := 76) ?_); (refine' CallP.sf ?_ (hw) ?_); (focus first | (with_reducible exact simL_refl _) | (exact Owns.simC0 (by assumption)) | (exact Owns.simC1 (by assumption)) | (simp [simL, simA, simA_refl, simL_refl]; done))) | (with_reducible refine fin_r ?_ ?_ ?_) | (with_reducible exact SameB.rfl_ _ _) | (with_reducible refine SameB.upd ?_ ?_ _) | (with_reducible assumption) | (with_reducible refine newPM_of ?_) | (with_reducible refine newSM_of ?_) | (with_reducible refine newP_go ?_) | (with_reducible refine newS_go ?_) | (with_reducible refine newM_go ?_) | (with_reducible intro _g _hg) | (with_reducible refine And.intro ?_ ?_) | (with_reducible intro _hc) | omega)
    all_goals exact simA_tup (simL_cons (simI (by omega)) (simL_cons (simI (by omega)) rfl))
  by_cases u4 : r.unit = 4
  · have h4 := h4 u4
    rw [u4] at hV1 hV2
    simp at hV1 hV2
    repeat' (first | (simp -implicitDefEqProofs [c42_k1_go, c42_k2_go, c42_t3_go, c42_k4_go, c42, Z0, XN, XP, Z1, Z2, Z3, Z4, XO, XJ, XL, XK, Z5, Z6, Z7, Z8, Z9, ZA, ZB, ZC, ZD, ZE, ZF, ZG, ZH, ZI, scV, pe, ZJ, ZK, ZL, ZM, ZN, ZO, ZP, ZQ, ZR, ZS, ZT, QW, ZU, ZV, ZW, ZX, ZY, ZZ, Za, Zb, Zc, Zd, Ze, Zf, Zg, Zh, Zi, Zj, Zk, Zl, Zm, Zn, Zo, Zp, Zq, Zr, Zs, QV, Zt, Zu, Zv, Zw, Zx, Zy, Zz, Y0, Y1, Y2, Y3, Y4, Y5, Y6, Y7, Y8, Y9, YA, YB, YC, YD, YE, YF, YG, List.mem_cons, Xe, Xd, XH, QZ, QB, YH, Xy, Q8, Q4, Q6, Q7, Q5, QC, QD, Q2, YI, YJ, Q1, YK, YL, YM, YN, YO, YP, Q9, YQ, YR, YS, YT, YU, YV, QA, Xx, QE, QI, QJ, YW, YX, QK, YY, Xz, YZ, Q0, Xw, Ya, QF, QG, Yb, Yc, Yd, Ye, Yf, Yg, Yh, Yi, Xt, Xa, XY, Xs, Xv, XX, Xc, QU, XG, Yj, Xl, Xb, Xu, XS, Xp, XQ, QN, XZ, QR, QS, Xr, Xo, Xk, Xn, Xq, Xj, XT, ev, get, put, QM, Xi, Yk, Yl, Ym, Yn, Yo, Yp, XU, part, Xm, Yq, Yr, Ys, isNil, Xh, Xg, XR, Xf, QX, Yt, Yu, Yv, Yw, Yx, Yy, Yz, X0, X1, X2, X3, X4, X5, X6, X7, X8, AV.fits, AV.cells, ones, AV.one, Qb, Qc, Qd, Qe, XV, XW, X9, XA, XB, XC, QO, QP, resV, XI, XD, QT, u8e, QY, XE, XF, List.getElem?_cons_zero, List.getElem?_cons_succ, -getElem?_pos, splice, u4]) | (simp (disch := omega) only [upd_ne, XD, if_pos, if_neg, IntWalk.i64_in, Int.tdiv_eq_ediv_of_nonneg, Int.tmod_eq_emod_of_nonneg]) | ((with_reducible refine CallP.chk (f := 75) ?_); (refine' CallP.sf ?_ (hd) ?_); (focus first | (with_reducible exact simL_refl _) | (exact Owns.simC0 (by assumption)) | (exact Owns.simC1 (by assumption)) | (simp [simL, simA, simA_refl, simL_refl]; done))) | ((with_reducible refine CallP.chk (f := 77) ?_); (refine' CallP.sf ?_ (day_a _ _ _ ?_ ?_ ?_) ?_); (focus first | (with_reducible exact simL_refl _) | (exact Owns.simC0 (by assumption)) | (exact Owns.simC1 (by assumption)) | (simp [simL, simA, simA_refl, simL_refl]; done))) | (with_reducible refine fin_r ?_ ?_ ?_) | (with_reducible exact SameB.rfl_ _ _) | (with_reducible refine SameB.upd ?_ ?_ _) | (with_reducible assumption) | (with_reducible refine newPM_of ?_) | (with_reducible refine newSM_of ?_) | (with_reducible refine newP_go ?_) | (with_reducible refine newS_go ?_) | (with_reducible refine newM_go ?_) | (with_reducible intro _g _hg) | (with_reducible refine And.intro ?_ ?_) | (with_reducible intro _hc) | omega)
    all_goals exact simA_tup (simL_cons (simI (by omega)) (simL_cons (simI (by omega)) rfl))
  have u3 : r.unit = 3 := by omega
  have h3 := h3 u3
  rw [u3] at hV1 hV2
  simp at hV1 hV2
  have hdb := dom_pos (D.y + (D.m - 1 + k) / 12) ((D.m - 1 + k) % 12 + 1)
  repeat' (first | (simp -implicitDefEqProofs [c42_k1_go, c42_k2_go, c42_t3_go, c42_k4_go, c42, Z0, XN, XP, Z1, Z2, Z3, Z4, XO, XJ, XL, XK, Z5, Z6, Z7, Z8, Z9, ZA, ZB, ZC, ZD, ZE, ZF, ZG, ZH, ZI, scV, pe, ZJ, ZK, ZL, ZM, ZN, ZO, ZP, ZQ, ZR, ZS, ZT, QW, ZU, ZV, ZW, ZX, ZY, ZZ, Za, Zb, Zc, Zd, Ze, Zf, Zg, Zh, Zi, Zj, Zk, Zl, Zm, Zn, Zo, Zp, Zq, Zr, Zs, QV, Zt, Zu, Zv, Zw, Zx, Zy, Zz, Y0, Y1, Y2, Y3, Y4, Y5, Y6, Y7, Y8, Y9, YA, YB, YC, YD, YE, YF, YG, List.mem_cons, Xe, Xd, XH, QZ, QB, YH, Xy, Q8, Q4, Q6, Q7, Q5, QC, QD, Q2, YI, YJ, Q1, YK, YL, YM, YN, YO, YP, Q9, YQ, YR, YS, YT, YU, YV, QA, Xx, QE, QI, QJ, YW, YX, QK, YY, Xz, YZ, Q0, Xw, Ya, QF, QG, Yb, Yc, Yd, Ye, Yf, Yg, Yh, Yi, Xt, Xa, XY, Xs, Xv, XX, Xc, QU, XG, Yj, Xl, Xb, Xu, XS, Xp, XQ, QN, XZ, QR, QS, Xr, Xo, Xk, Xn, Xq, Xj, XT, ev, get, put, QM, Xi, Yk, Yl, Ym, Yn, Yo, Yp, XU, part, Xm, Yq, Yr, Ys, isNil, Xh, Xg, XR, Xf, QX, Yt, Yu, Yv, Yw, Yx, Yy, Yz, X0, X1, X2, X3, X4, X5, X6, X7, X8, AV.fits, AV.cells, ones, AV.one, Qb, Qc, Qd, Qe, XV, XW, X9, XA, XB, XC, QO, QP, resV, XI, XD, QT, u8e, QY, XE, XF, List.getElem?_cons_zero, List.getElem?_cons_succ, -getElem?_pos, splice, u3]) | (simp (disch := omega) only [upd_ne, XD, if_pos, if_neg, IntWalk.i64_in, Int.tdiv_eq_ediv_of_nonneg, Int.tmod_eq_emod_of_nonneg]) | ((with_reducible refine CallP.chk (f := 75) ?_); (refine' CallP.sf ?_ (hd) ?_); (focus first | (with_reducible exact simL_refl _) | (exact Owns.simC0 (by assumption)) | (exact Owns.simC1 (by assumption)) | (simp [simL, simA, simA_refl, simL_refl]; done))) | ((with_reducible refine CallP.chk (f := 77) ?_); (refine' CallP.sf ?_ (day_a _ _ _ ?_ ?_ ?_) ?_); (focus first | (with_reducible exact simL_refl _) | (exact Owns.simC0 (by assumption)) | (exact Owns.simC1 (by assumption)) | (simp [simL, simA, simA_refl, simL_refl]; done))) | ((with_reducible refine CallP.chk (f := 78) ?_); (refine' CallP.sf ?_ (daysOf_a _ _ ?_ ?_) ?_); (focus first | (with_reducible exact simL_refl _) | (exact Owns.simC0 (by assumption)) | (exact Owns.simC1 (by assumption)) | (simp [simL, simA, simA_refl, simL_refl]; done))) | (with_reducible refine fin_r ?_ ?_ ?_) | (with_reducible exact SameB.rfl_ _ _) | (with_reducible refine SameB.upd ?_ ?_ _) | (with_reducible assumption) | (with_reducible refine newPM_of ?_) | (with_reducible refine newSM_of ?_) | (with_reducible refine newP_go ?_) | (with_reducible refine newS_go ?_) | (with_reducible refine newM_go ?_) | (with_reducible intro _g _hg) | (with_reducible refine And.intro ?_ ?_) | (with_reducible intro _hc) | omega)
  all_goals exact simA_tup (simL_cons (simI (by omega)) (simL_cons (simI (by omega)) rfl))
set_option maxHeartbeats 8000000 in
theorem refFits_a (x s : Int) (r : Rule) (h : 1 ≤ x ∧ x ≤ 3652059) (hs : 1 ≤ s ∧ s ≤ 3652059) (hr : okR r) : APure Tryz.prog 43 [aI x, aR r, aI s] (.bool (fitsF r s x)) := by
  obtain ⟨h1, h2, h3, h4, h5, h6⟩ := date_b h.1 h.2
  obtain ⟨s1, s2, s3, s4, s5, s6⟩ := date_b hs.1 hs.2
  have hdx := date_a x h
  have hds := date_a s hs
  have hdo := daysOf_a (dateM x).y (dateM x).m (by omega) (by omega)
  have hdb := dom_pos (dateM x).y (dateM x).m
  have hm := has_a r.months (dateM x).m (by have := hr.mo; omega)
  have hd := has_a r.mdays (dateM x).d (by have := hr.md; omega)
  have hd2 := has_a r.mdays ((dateM x).d - dom (dateM x).y (dateM x).m - 1) (by have := hr.md; omega)
  have hwx := weekdayOf_a x (by omega)
  have hws := weekdayOf_a s (by omega)
  have lm := hr.mo
  have ld := hr.md
  have lw := hr.wl
  have hu := hr.u
  have hwd := hr.wd
  have hV := fits_ref r s x
  have hN := fun w => named_ref x w h.1
  have ex : wdF x = (x + 6) % 7 := by unfold wdF; omega
  have es : wdF s = (s + 6) % 7 := by unfold wdF; omega
  rw [ex, es] at hV
  generalize fitsF r s x = V at *
  generalize dom (dateM x).y (dateM x).m = last at *
  generalize dateM x = D at *
  generalize dateM s = E at *
  have hV := hV.resolve_right (by omega)
  refine apure_intro Tryz.func43 cmp43 rfl fun n H hH => ?_
  have e0 : ((r.wdays.length : Int) == 0) = decide (r.wdays.length = 0) := by rw [Bool.eq_iff_iff]; simp
  have rest : ∀ g4 g7 g8 n1 H1, n ≤ n1 → (∀ k, n1 ≤ k → H1 k = none) → SameB n H H1 → H1 g4 = some (.cells 25 (aRc r)) →
      H1 g7 = some (.cells 99 [.int .i64 D.y, .int .i64 D.m, .int .i64 D.d, .int .i64 D.h, .int .i64 D.mi, .int .i64 D.s]) → H1 g8 = some (.cells 99 [.int .i64 E.y, .int .i64 E.m, .int .i64 E.d, .int .i64 E.h, .int .i64 E.mi, .int .i64 E.s]) →
      ¬ (0 < r.months.length ∧ D.m ∉ r.months) → ¬ (0 < r.mdays.length ∧ D.d ∉ r.mdays ∧ D.d - last - 1 ∉ r.mdays) →
      LoopK (fun Q s => aw Tryz.prog c43_L6 Q s) (blockA 0 (thenA (aw Tryz.prog c43_k3 (finP (.bool V) n H [.tmp 6])) (finP (.bool V) n H [.tmp 6])))
        ⟨[(0, aI x), (2, aI s), (4, .ptr g4 0), (7, .ptr g7 0), (8, .ptr g8 0), (9, aI last), (10, .bool ((r.wdays.length : Int) == 0)), (11, .int .i64 0)], n1, H1⟩ := by
    intro g4 g7 g8 n1 H1 hn1 hs1 hS1 f4 f7 f8 c1 c2
    rw [if_neg c1, if_neg c2] at hV
    clear c1 c2
    have l4 := upd_cells hs1 f4
    have l7 := upd_cells hs1 f7
    have l8 := upd_cells hs1 f8
    refine LoopK.go (fun q st => ∃ (k n' : Nat) (H' : AHeap) (b : Bool), k + q = r.wdays.length ∧ st = ⟨[(0, aI x), (2, aI s), (4, .ptr g4 0), (7, .ptr g7 0), (8, .ptr g8 0), (9, aI last), (10, .bool b), (11, aI k)], n', H'⟩ ∧ Owns n1 H1 [] [] n' H' ∧ b = (decide (r.wdays.length = 0) || (r.wdays.take k).any (namedF x))) r.wdays.length ⟨0, _, _, _, by omega, rfl, Owns.start hs1, by rw [e0]; simp⟩ ?_
    rintro q st ⟨k, n2, H2, b, hkq, rfl, _hO, hb⟩ J hJ
    have _hb : True := trivial
    have k4 := (_hO.same g4 l4).trans f4
    have k7 := (_hO.same g7 l7).trans f7
    have k8 := (_hO.same g8 l8).trans f8
    have hle := _hO.le
    have hS2 : SameB n H H2 := fun j hj => (_hO.same j (by omega)).trans (hS1 j hj)
    
    by_cases hk : k < r.wdays.length
    · obtain ⟨w, hw⟩ : ∃ w, r.wdays[k]? = some w := ⟨_, List.getElem?_eq_getElem hk⟩
      have hwb := hwd w (List.mem_of_getElem? hw)
      have hNw := hN w
      have htk : (r.wdays.take (k + 1)).any (namedF x) = ((r.wdays.take k).any (namedF x) || namedF x w) := by rw [take_at hw, List.any_append]; simp
      repeat' (first | (simp -implicitDefEqProofs [c43_k1_go, c43_k2_go, c43_k3_go, c43_k4_go, c43_k5_go, c43_L6_go, c43_k7_go, c43_k8_go, c43, Z0, XN, XP, Z1, Z2, Z3, Z4, XO, XJ, XL, XK, Z5, Z6, Z7, Z8, Z9, ZA, ZB, ZC, ZD, ZE, ZF, ZG, ZH, ZI, scV, pe, ZJ, ZK, ZL, ZM, ZN, ZO, ZP, ZQ, ZR, ZS, ZT, QW, ZU, ZV, ZW, ZX, ZY, ZZ, Za, Zb, Zc, Zd, Ze, Zf, Zg, Zh, Zi, Zj, Zk, Zl, Zm, Zn, Zo, Zp, Zq, Zr, Zs, QV, Zt, Zu, Zv, Zw, Zx, Zy, Zz, Y0, Y1, Y2, Y3, Y4, Y5, Y6, Y7, Y8, Y9, YA, YB, YC, YD, YE, YF, YG, List.mem_cons, Xe, Xd, XH, QZ, QB, YH, Xy, Q8, Q4, Q6, Q7, Q5, QC, QD, Q2, YI, YJ, Q1, YK, YL, YM, YN, YO, YP, Q9, YQ, YR, YS, YT, YU, YV, QA, Xx, QE, QI, QJ, YW, YX, QK, YY, Xz, YZ, Q0, Xw, Ya, QF, QG, Yb, Yc, Yd, Ye, Yf, Yg, Yh, Yi, Xt, Xa, XY, Xs, Xv, XX, Xc, QU, XG, Yj, Xl, Xb, Xu, XS, Xp, XQ, QN, XZ, QR, QS, Xr, Xo, Xk, Xn, Xq, Xj, XT, ev, get, put, QM, Xi, Yk, Yl, Ym, Yn, Yo, Yp, XU, part, Xm, Yq, Yr, Ys, isNil, Xh, Xg, XR, Xf, QX, Yt, Yu, Yv, Yw, Yx, Yy, Yz, X0, X1, X2, X3, X4, X5, X6, X7, X8, AV.fits, AV.cells, ones, AV.one, Qb, Qc, Qd, Qe, XV, XW, X9, XA, XB, XC, QO, QP, resV, XI, XD, QT, u8e, QY, XE, XF, List.getElem?_cons_zero, List.getElem?_cons_succ, -getElem?_pos, k4, k7, k8, hw, hk, splice, _hb]) | (simp (disch := omega) only [upd_ne, XD, if_pos, if_neg, IntWalk.i64_in, Int.tdiv_eq_ediv_of_nonneg, Int.tmod_eq_emod_of_nonneg]) | ((with_reducible refine CallP.chk (f := 76) ?_); (refine' CallP.sf ?_ (hwx) ?_); (focus first | (with_reducible exact simL_refl _) | (exact Owns.simC0 (by assumption)) | (exact Owns.simC1 (by assumption)) | (simp [simL, simA, simA_refl, simL_refl]; done))) | (with_reducible refine fin_r ?_ ?_ ?_) | (with_reducible exact SameB.rfl_ _ _) | (with_reducible refine SameB.upd ?_ ?_ _) | (with_reducible assumption) | (with_reducible refine newPM_of ?_) | (with_reducible refine newSM_of ?_) | ((with_reducible refine newM_own (by assumption) (fun _g _hg _hO => ?_)); (have _hb := And.intro _hb _hO.boxF); dsimp only [BoxF, BoxF0, RowF] at _hb) | ((with_reducible refine newP_own (by assumption) (fun _g _hg _hO => ?_)); (have _hb := And.intro _hb _hO.boxF); dsimp only [BoxF, BoxF0, RowF] at _hb) | ((with_reducible refine newS_own (by assumption) (fun _g _hg _hO => ?_))) | ((with_reducible refine appKS.chk ?_); first | ((refine Owns.app (by assumption) (.inl rfl) (by first | (exact Owns.simL0 (by assumption)) | (exact Owns.simL1 (by assumption)) | (with_reducible exact simL_refl _) | assumption | (simp [simL, simA, simA_refl, simL_refl]; done)) ?_ ?_ (fun _x _n _H _hle _hO _hb => ?_)); rotate_left 2; dsimp only [BoxF, BoxF0, RowF] at _hb) | ((refine Owns.app1 (by assumption) (.inl rfl) (by first | (exact Owns.simL0 (by assumption)) | (exact Owns.simL1 (by assumption)) | (with_reducible exact simL_refl _) | assumption | (simp [simL, simA, simA_refl, simL_refl]; done)) ?_ ?_ (fun _x _n _H _hle _hO _hb => ?_)); rotate_left 2; dsimp only [BoxF, BoxF0, RowF] at _hb)) | (first | (with_reducible exact Owns.fit0 (by assumption)) | (with_reducible exact Owns.fit1 (by assumption))) | (with_reducible exact Owns.le (by assumption)) | (with_reducible exact Owns.same (by assumption)) | (with_reducible refine newPM_of ?_) | (with_reducible refine newSM_of ?_) | (with_reducible refine newP_go ?_) | (with_reducible refine newS_go ?_) | (with_reducible refine newM_go ?_) | (with_reducible intro _g _hg) | (with_reducible refine And.intro ?_ ?_) | (with_reducible intro _hc) | omega)
      all_goals exact hJ (q - 1) _ (by omega) ⟨k + 1, _, _, _, by omega, rfl, (_hO.set0 (by simp) _ _).dropBox, by rw [htk, ← Bool.or_assoc, ← hb, hNw]; clear hJ _hO hV hN; simp_all⟩
    · have hk0 : k = r.wdays.length := by omega
      subst hk0
      rw [List.take_length] at hb
      rw [← hb] at hV
      clear hb
      repeat' (first | (simp -implicitDefEqProofs [c43_k1_go, c43_k2_go, c43_k3_go, c43_k4_go, c43_k5_go, c43_L6_go, c43_k7_go, c43_k8_go, c43, Z0, XN, XP, Z1, Z2, Z3, Z4, XO, XJ, XL, XK, Z5, Z6, Z7, Z8, Z9, ZA, ZB, ZC, ZD, ZE, ZF, ZG, ZH, ZI, scV, pe, ZJ, ZK, ZL, ZM, ZN, ZO, ZP, ZQ, ZR, ZS, ZT, QW, ZU, ZV, ZW, ZX, ZY, ZZ, Za, Zb, Zc, Zd, Ze, Zf, Zg, Zh, Zi, Zj, Zk, Zl, Zm, Zn, Zo, Zp, Zq, Zr, Zs, QV, Zt, Zu, Zv, Zw, Zx, Zy, Zz, Y0, Y1, Y2, Y3, Y4, Y5, Y6, Y7, Y8, Y9, YA, YB, YC, YD, YE, YF, YG, List.mem_cons, Xe, Xd, XH, QZ, QB, YH, Xy, Q8, Q4, Q6, Q7, Q5, QC, QD, Q2, YI, YJ, Q1, YK, YL, YM, YN, YO, YP, Q9, YQ, YR, YS, YT, YU, YV, QA, Xx, QE, QI, QJ, YW, YX, QK, YY, Xz, YZ, Q0, Xw, Ya, QF, QG, Yb, Yc, Yd, Ye, Yf, Yg, Yh, Yi, Xt, Xa, XY, Xs, Xv, XX, Xc, QU, XG, Yj, Xl, Xb, Xu, XS, Xp, XQ, QN, XZ, QR, QS, Xr, Xo, Xk, Xn, Xq, Xj, XT, ev, get, put, QM, Xi, Yk, Yl, Ym, Yn, Yo, Yp, XU, part, Xm, Yq, Yr, Ys, isNil, Xh, Xg, XR, Xf, QX, Yt, Yu, Yv, Yw, Yx, Yy, Yz, X0, X1, X2, X3, X4, X5, X6, X7, X8, AV.fits, AV.cells, ones, AV.one, Qb, Qc, Qd, Qe, XV, XW, X9, XA, XB, XC, QO, QP, resV, XI, XD, QT, u8e, QY, XE, XF, List.getElem?_cons_zero, List.getElem?_cons_succ, -getElem?_pos, k4, k7, k8, splice, _hb]) | (simp (disch := omega) only [upd_ne, XD, if_pos, if_neg, IntWalk.i64_in, Int.tdiv_eq_ediv_of_nonneg, Int.tmod_eq_emod_of_nonneg]) | ((with_reducible refine CallP.chk (f := 76) ?_); (refine' CallP.sf ?_ (hwx) ?_); (focus first | (with_reducible exact simL_refl _) | (exact Owns.simC0 (by assumption)) | (exact Owns.simC1 (by assumption)) | (simp [simL, simA, simA_refl, simL_refl]; done))) | ((with_reducible refine CallP.chk (f := 76) ?_); (refine' CallP.sf ?_ (hws) ?_); (focus first | (with_reducible exact simL_refl _) | (exact Owns.simC0 (by assumption)) | (exact Owns.simC1 (by assumption)) | (simp [simL, simA, simA_refl, simL_refl]; done))) | (with_reducible refine fin_r ?_ ?_ ?_) | (with_reducible exact SameB.rfl_ _ _) | (with_reducible refine SameB.upd ?_ ?_ _) | (with_reducible assumption) | (with_reducible refine newPM_of ?_) | (with_reducible refine newSM_of ?_) | ((with_reducible refine newM_own (by assumption) (fun _g _hg _hO => ?_)); (have _hb := And.intro _hb _hO.boxF); dsimp only [BoxF, BoxF0, RowF] at _hb) | ((with_reducible refine newP_own (by assumption) (fun _g _hg _hO => ?_)); (have _hb := And.intro _hb _hO.boxF); dsimp only [BoxF, BoxF0, RowF] at _hb) | ((with_reducible refine newS_own (by assumption) (fun _g _hg _hO => ?_))) | ((with_reducible refine appKS.chk ?_); first | ((refine Owns.app (by assumption) (.inl rfl) (by first | (exact Owns.simL0 (by assumption)) | (exact Owns.simL1 (by assumption)) | (with_reducible exact simL_refl _) | assumption | (simp [simL, simA, simA_refl, simL_refl]; done)) ?_ ?_ (fun _x _n _H _hle _hO _hb => ?_)); rotate_left 2; dsimp only [BoxF, BoxF0, RowF] at _hb) | ((refine Owns.app1 (by assumption) (.inl rfl) (by first | (exact Owns.simL0 (by assumption)) | (exact Owns.simL1 (by assumption)) | (with_reducible exact simL_refl _) | assumption | (simp [simL, simA, simA_refl, simL_refl]; done)) ?_ ?_ (fun _x _n _H _hle _hO _hb => ?_)); rotate_left 2; dsimp only [BoxF, BoxF0, RowF] at _hb)) | (first | (with_reducible exact Owns.fit0 (by assumption)) | (with_reducible exact Owns.fit1 (by assumption))) | (with_reducible exact Owns.le (by assumption)) | (with_reducible exact Owns.same (by assumption)) | (with_reducible refine newPM_of ?_) | (with_reducible refine newSM_of ?_) | (with_reducible refine newP_go ?_) | (with_reducible refine newS_go ?_) | (with_reducible refine newM_go ?_) | (with_reducible intro _g _hg) | (with_reducible refine And.intro ?_ ?_) | (with_reducible intro _hc) | omega)
      all_goals (refine simB ?_; rw [hV]; clear hJ _hO hV hN; first | (simp_all; done) | (rw [Bool.eq_iff_iff]; simp_all; done) | (split <;> first | rfl | (exfalso; simp_all; done) | (simp_all; done) | (simp_all [List.length_pos_iff]; done)))
  repeat' (first | (simp -implicitDefEqProofs [c43_k1_go, c43_k2_go, c43_k3_go, c43_k4_go, c43_k5_go, c43_L6_go, c43_k7_go, c43_k8_go, c43, Z0, XN, XP, Z1, Z2, Z3, Z4, XO, XJ, XL, XK, Z5, Z6, Z7, Z8, Z9, ZA, ZB, ZC, ZD, ZE, ZF, ZG, ZH, ZI, scV, pe, ZJ, ZK, ZL, ZM, ZN, ZO, ZP, ZQ, ZR, ZS, ZT, QW, ZU, ZV, ZW, ZX, ZY, ZZ, Za, Zb, Zc, Zd, Ze, Zf, Zg, Zh, Zi, Zj, Zk, Zl, Zm, Zn, Zo, Zp, Zq, Zr, Zs, QV, Zt, Zu, Zv, Zw, Zx, Zy, Zz, Y0, Y1, Y2, Y3, Y4, Y5, Y6, Y7, Y8, Y9, YA, YB, YC, YD, YE, YF, YG, List.mem_cons, Xe, Xd, XH, QZ, QB, YH, Xy, Q8, Q4, Q6, Q7, Q5, QC, QD, Q2, YI, YJ, Q1, YK, YL, YM, YN, YO, YP, Q9, YQ, YR, YS, YT, YU, YV, QA, Xx, QE, QI, QJ, YW, YX, QK, YY, Xz, YZ, Q0, Xw, Ya, QF, QG, Yb, Yc, Yd, Ye, Yf, Yg, Yh, Yi, Xt, Xa, XY, Xs, Xv, XX, Xc, QU, XG, Yj, Xl, Xb, Xu, XS, Xp, XQ, QN, XZ, QR, QS, Xr, Xo, Xk, Xn, Xq, Xj, XT, ev, get, put, QM, Xi, Yk, Yl, Ym, Yn, Yo, Yp, XU, part, Xm, Yq, Yr, Ys, isNil, Xh, Xg, XR, Xf, QX, Yt, Yu, Yv, Yw, Yx, Yy, Yz, X0, X1, X2, X3, X4, X5, X6, X7, X8, AV.fits, AV.cells, ones, AV.one, Qb, Qc, Qd, Qe, XV, XW, X9, XA, XB, XC, QO, QP, resV, XI, XD, QT, u8e, QY, XE, XF, List.getElem?_cons_zero, List.getElem?_cons_succ, -getElem?_pos, splice]) | (simp (disch := omega) only [upd_ne, XD, if_pos, if_neg, IntWalk.i64_in, Int.tdiv_eq_ediv_of_nonneg, Int.tmod_eq_emod_of_nonneg]) | ((with_reducible refine CallP.chk (f := 75) ?_); (refine' CallP.sf ?_ (hdx) ?_); (focus first | (with_reducible exact simL_refl _) | (exact Owns.simC0 (by assumption)) | (exact Owns.simC1 (by assumption)) | (simp [simL, simA, simA_refl, simL_refl]; done))) | ((with_reducible refine CallP.chk (f := 75) ?_); (refine' CallP.sf ?_ (hds) ?_); (focus first | (with_reducible exact simL_refl _) | (exact Owns.simC0 (by assumption)) | (exact Owns.simC1 (by assumption)) | (simp [simL, simA, simA_refl, simL_refl]; done))) | ((with_reducible refine CallP.chk (f := 78) ?_); (refine' CallP.sf ?_ (hdo) ?_); (focus first | (with_reducible exact simL_refl _) | (exact Owns.simC0 (by assumption)) | (exact Owns.simC1 (by assumption)) | (simp [simL, simA, simA_refl, simL_refl]; done))) | ((with_reducible refine CallP.chk (f := 44) ?_); (refine' CallP.sf ?_ (hm) ?_); (focus first | (with_reducible exact simL_refl _) | (exact Owns.simC0 (by assumption)) | (exact Owns.simC1 (by assumption)) | (simp [simL, simA, simA_refl, simL_refl]; done))) | ((with_reducible refine CallP.chk (f := 44) ?_); (refine' CallP.sf ?_ (hd) ?_); (focus first | (with_reducible exact simL_refl _) | (exact Owns.simC0 (by assumption)) | (exact Owns.simC1 (by assumption)) | (simp [simL, simA, simA_refl, simL_refl]; done))) | ((with_reducible refine CallP.chk (f := 44) ?_); (refine' CallP.sf ?_ (hd2) ?_); (focus first | (with_reducible exact simL_refl _) | (exact Owns.simC0 (by assumption)) | (exact Owns.simC1 (by assumption)) | (simp [simL, simA, simA_refl, simL_refl]; done))) | (with_reducible refine fin_r ?_ ?_ ?_) | (with_reducible exact SameB.rfl_ _ _) | (with_reducible refine SameB.upd ?_ ?_ _) | (with_reducible assumption) | (with_reducible refine newPM_of ?_) | (with_reducible refine newSM_of ?_) | (with_reducible refine newP_go ?_) | (with_reducible refine newS_go ?_) | (with_reducible refine newM_go ?_) | (with_reducible intro _g _hg) | (with_reducible refine And.intro ?_ ?_) | (with_reducible intro _hc) | omega)
  all_goals first
    | (refine rest _ _ _ _ _ (by omega) (fun k hk => by simp (disch := omega) only [upd_ne]; exact hH k (by omega)) (by repeat' (first | exact SameB.rfl_ _ _ | refine SameB.upd ?_ (by omega) _)) (by simp (disch := omega) only [upd_ne, XD]) (by simp (disch := omega) only [upd_ne, XD]) (by simp (disch := omega) only [upd_ne, XD]) (by clear rest hV hN; simp_all) (by clear rest hV hN; simp_all))
    | (refine simB ?_; rw [hV]; simp_all; done)
end Go.Proofs.YtecpfmhminkalaaGreatDoor

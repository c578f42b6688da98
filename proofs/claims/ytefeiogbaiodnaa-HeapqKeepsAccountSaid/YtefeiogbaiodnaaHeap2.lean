/- The plain law of queues, further: settling, removing, draining; no condition. -/
import Derived.Test.YtefeiogbaiodnaaHeap
namespace Go.Proofs.Ytefeiogbaiodnaa

theorem upL_heap (f : Nat) (l : List Ent) (j : Nat) (hf : j < f) (hj : j < l.length) (h1 : ∀ c, c ≠ j → 0 < c → c < l.length → OkE l c)
    (h2 : ∀ c, 0 < c → c < l.length → (c - 1) / 2 = j → 0 < j → lt (nth l c) (nth l ((j - 1) / 2)) = false) : HeapL (upL f l j) := by
  induction f generalizing l j with
  | zero => omega
  | succ f ih =>
    rw [upL]
    split
    · rename_i h
      obtain ⟨h0, hlt⟩ := h
      generalize hp : (j - 1) / 2 = p at *
      have hpj : p < j := by omega
      have hpl : p < l.length := by omega
      apply ih
      · omega
      · rw [swp_len]; exact hpl
      · intro c hc h0' hcl
        rw [swp_len] at hcl
        unfold OkE
        rw [nth_swp hj hpl, nth_swp hj hpl, if_neg hc]
        by_cases e1 : c = j
        · subst e1
          rw [if_pos rfl, hp, if_pos rfl]
          exact lt_asymm hlt
        · rw [if_neg e1]
          by_cases e2 : (c - 1) / 2 = p
          · rw [if_pos e2]
            have := h1 c e1 h0' hcl
            unfold OkE at this
            rw [e2] at this
            exact ge_trans (lt_asymm hlt) this
          · rw [if_neg e2]
            by_cases e3 : (c - 1) / 2 = j
            · rw [if_pos e3]
              exact h2 c h0' hcl e3 h0
            · rw [if_neg e3]
              exact h1 c e1 h0' hcl
      · intro c h0' hcl hcp hp0
        rw [swp_len] at hcl
        rw [nth_swp hj hpl, nth_swp hj hpl, if_neg (show c ≠ p by omega), if_neg (show (p - 1) / 2 ≠ p by omega), if_neg (show (p - 1) / 2 ≠ j by omega)]
        have hpo := h1 p (by omega) hp0 hpl
        unfold OkE at hpo
        by_cases e1 : c = j
        · rw [if_pos e1]; exact hpo
        · rw [if_neg e1]
          have := h1 c e1 h0' hcl
          unfold OkE at this
          rw [hcp] at this
          exact ge_trans hpo this
    · rename_i h
      intro c h0 hc
      by_cases e : c = j
      · subst e
        unfold OkE
        cases hh : lt (nth l c) (nth l ((c - 1) / 2)) with
        | false => rfl
        | true => exact absurd ⟨h0, hh⟩ h
      · exact h1 c e h0 hc
theorem up_heap {l : List Ent} {j : Nat} (hj : j < l.length) (h1 : ∀ c, c ≠ j → 0 < c → c < l.length → OkE l c)
    (h2 : ∀ c, 0 < c → c < l.length → (c - 1) / 2 = j → 0 < j → lt (nth l c) (nth l ((j - 1) / 2)) = false) : HeapL (up l j) := upL_heap _ l j (by omega) hj h1 h2

theorem downL_noop {l : List Ent} (h : HeapL l) (f i : Nat) : downL f l i = l := by
  cases f with
  | zero => rfl
  | succ f =>
    rw [downL]
    split
    · rfl
    · rename_i hk
      obtain ⟨h1, h2, h3⟩ := kid_lt hk
      have := h (kid l i) (by omega) h1
      unfold OkE at this
      rw [h2] at this
      rw [if_neg (by rw [this]; simp)]
theorem upL_noop {l : List Ent} {i : Nat} (h : ¬ (0 < i ∧ lt (nth l i) (nth l ((i - 1) / 2)) = true)) (f : Nat) : upL f l i = l := by
  cases f with
  | zero => rfl
  | succ f => rw [upL, if_neg h]

theorem settle_heap {l : List Ent} {i : Nat} (hi : i < l.length) (h1 : ∀ c, 0 < c → c < l.length → c ≠ i → (c - 1) / 2 ≠ i → OkE l c)
    (h2 : ∀ c, 0 < c → c < l.length → (c - 1) / 2 = i → 0 < i → lt (nth l c) (nth l ((i - 1) / 2)) = false) : HeapL (settle l i) := by
  by_cases h : 0 < i ∧ lt (nth l i) (nth l ((i - 1) / 2)) = true
  · have hu : HeapL (up l i) := by
      apply up_heap hi
      · intro c hc h0 hcl
        by_cases e : (c - 1) / 2 = i
        · unfold OkE
          rw [e]
          exact ge_trans (lt_asymm h.2) (h2 c h0 hcl e h.1)
        · exact h1 c h0 hcl hc e
      · exact h2
    unfold settle down
    rw [downL_noop hu]
    exact hu
  · unfold settle up
    rw [upL_noop h]
    have := downL_heap l.length l 0 i (by omega) (Nat.zero_le _) hi (fun c h0 hc _ hne => by
      by_cases e : c = i
      · subst e
        unfold OkE
        cases hh : lt (nth l c) (nth l ((c - 1) / 2)) with
        | false => rfl
        | true => exact absurd ⟨h0, hh⟩ h
      · exact h1 c h0 hc e hne) (fun c h0 hc hp h0' _ => h2 c h0 hc hp h0')
    exact fun c h0 hc => this c h0 hc (Nat.zero_le _)

/-- a heap in which element i is another one -/
theorem settle_set {l : List Ent} {i : Nat} (e : Ent) (h : HeapL l) (hi : i < l.length) : HeapL (settle (l.set i e) i) := by
  apply settle_heap (by simpa using hi)
  · intro c h0 hc hne hp
    have := h c h0 (by simpa using hc)
    unfold OkE at this ⊢
    rw [nth_set hi, nth_set hi, if_neg hne, if_neg hp]
    exact this
  · intro c h0 hc hp hi0
    rw [nth_set hi, nth_set hi, if_neg (show c ≠ i by omega), if_neg (show (i - 1) / 2 ≠ i by omega)]
    have g1 := h c h0 (by simpa using hc)
    have g2 := h i hi0 hi
    unfold OkE at g1 g2
    rw [hp] at g1
    exact ge_trans g2 g1

theorem HeapL.front {l : List Ent} (h : HeapL l) (n : Nat) : HeapL (l.take n) := by
  intro c h0 hc
  simp at hc
  have := h c h0 (by omega)
  unfold OkE at this ⊢
  rw [nth_take (by omega), nth_take (by omega)]
  exact this
theorem set_take {l : List Ent} {i n : Nat} (e : Ent) : (l.set i e).take n = (l.take n).set i e := by rw [List.take_set]

theorem woutQ_heap {l : List Ent} {i : Nat} (h : HeapL l) (_hi : i < l.length) : HeapL (woutQ l i) := by
  unfold woutQ
  split
  · rename_i hlt
    rw [set_take]
    exact settle_set _ (h.front _) (by simp; omega)
  · rename_i hlt
    rw [set_take, List.set_eq_of_length_le (by simp; omega)]
    exact h.front _

theorem count_wout {l : List Ent} {i : Nat} (hi : i < l.length) (b : Ent) : (wout l i).count b + (if nth l i = b then 1 else 0) = l.count b := by
  have := (wout_perm hi).count_eq b
  rw [List.count_cons] at this
  simp only [beq_iff_eq] at this
  exact this
theorem last_perm {l : List Ent} {i : Nat} (hi : i < l.length) : ((l.set i (nth l (l.length - 1))).take (l.length - 1)).Perm (wout l i) := by
  rw [List.perm_iff_count]
  intro b
  have h1 := count_set' l i (nth l (l.length - 1)) b hi
  have h2 := count_wout hi b
  have h3 : (l.set i (nth l (l.length - 1))) = (l.set i (nth l (l.length - 1))).take (l.length - 1) ++ [nth l (l.length - 1)] := by
    have := List.take_succ_eq_append_getElem (l := l.set i (nth l (l.length - 1))) (i := l.length - 1) (by simp; omega)
    rw [List.take_of_length_le (by simp; omega)] at this
    have he : (l.set i (nth l (l.length - 1)))[l.length - 1]'(by simp; omega) = nth l (l.length - 1) := by
      rw [List.getElem_set]
      split
      · rfl
      · rw [nth_eq (by omega)]
    rw [he] at this
    exact this
  have h4 := congrArg (List.count b) h3
  rw [List.count_append, List.count_cons, List.count_nil] at h4
  simp only [beq_iff_eq] at h4
  omega
theorem woutQ_perm {l : List Ent} {i : Nat} (hi : i < l.length) : (woutQ l i).Perm (wout l i) := by
  unfold woutQ
  split
  · rename_i hlt
    exact (settle_perm (by simp; omega)).trans (last_perm hi)
  · exact last_perm hi

theorem root_min {l : List Ent} (h : HeapL l) (j : Nat) (hj : j < l.length) : lt (nth l j) (nth l 0) = false := by
  induction j using Nat.strongRecOn with
  | _ j ih =>
    by_cases h0 : j = 0
    · subst h0; exact lt_irrefl _
    · have g := h j (by omega) hj
      unfold OkE at g
      exact ge_trans (ih ((j - 1) / 2) (by omega) (by omega)) g
theorem root_first {l : List Ent} (h : HeapL l) (hne : l ≠ []) : nth l (first l) = nth l 0 := by
  have h0 : 0 < l.length := List.length_pos_iff.2 hne
  have h1 := root_min h (first l) (first_lt hne)
  have h2 : lt (nth l 0) (nth l (first l)) = false := first_min (by rw [nth_eq h0]; exact List.getElem_mem h0)
  rcases lt_tri (nth l (first l)) (nth l 0) with e | e | e
  · rw [e] at h1; cases h1
  · exact e
  · rw [e] at h2; cases h2
theorem wout_perm_of {l : List Ent} {i j : Nat} (hi : i < l.length) (hj : j < l.length) (h : nth l i = nth l j) : (wout l i).Perm (wout l j) := by
  rw [List.perm_iff_count]
  intro b
  have h1 := count_wout hi b
  have h2 := count_wout hj b
  rw [h] at h1
  omega

/-- the law of Pop -/
theorem pop_law {l : List Ent} (h : (qf l true).1 = 0) (hne : l ≠ []) : nth l 0 = nth l (first l) ∧ (qf (woutQ l 0) true).1 = 0 ∧ sorted (woutQ l 0) = sorted (wout l (first l)) := by
  obtain ⟨hg, hh⟩ := (qf_iff l true).1 h
  have hp := hh rfl
  have h0 : 0 < l.length := List.length_pos_iff.2 hne
  have hr := root_first hp hne
  have hperm := woutQ_perm h0
  have hgw : Good (wout l 0) := ⟨by rw [wout_len h0]; have := hg.1; omega, fun e he => hg.2.1 e ((wout_perm h0).mem_iff.1 (List.mem_cons_of_mem _ he)), by
    have := ((wout_perm h0).map (·.name)).nodup_iff.2 hg.2.2
    exact (List.nodup_cons.1 this).2⟩
  exact ⟨hr.symm, (qf_iff _ true).2 ⟨hgw.perm hperm, fun _ => woutQ_heap hp h0⟩, sorted_of_perm (hperm.trans (wout_perm_of h0 (first_lt hne) hr.symm))⟩

theorem drainF_sorted (f : Nat) (l : List Ent) (hf : l.length = f) (h : HeapL l) : drainF f l = sorted l := by
  induction f generalizing l with
  | zero => rw [List.length_eq_zero_iff.1 hf]; rfl
  | succ f ih =>
    have hne : l ≠ [] := by intro e; subst e; simp at hf
    have h0 : 0 < l.length := by omega
    rw [drainF, if_neg hne, ih _ (by rw [woutQ_len]; omega) (woutQ_heap h h0)]
    unfold sorted
    rw [hf, sortF, if_neg hne, root_first h hne]
    congr 1
    have hp : (woutQ l 0).Perm (wout l (first l)) := (woutQ_perm h0).trans (wout_perm_of h0 (first_lt hne) (root_first h hne).symm)
    have := sorted_of_perm hp
    unfold sorted at this
    rw [this, wout_len (first_lt hne)]
    congr 1
    omega
theorem drain_law {l : List Ent} (h : HeapL l) : drain l = sorted l := drainF_sorted _ l rfl h
end Go.Proofs.Ytefeiogbaiodnaa

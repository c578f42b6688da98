/- The plain law of queues: the moves permute, and leave a heap; sorting is one and the same for permutations; no condition. -/
import Derived.Test.YtefeiogbaiodnaaEnt
namespace Go.Proofs.Ytefeiogbaiodnaa

theorem nth_set {l : List Ent} {i j : Nat} {e : Ent} (h : i < l.length) : nth (l.set i e) j = if j = i then e else nth l j := by
  unfold nth
  by_cases hj : j = i
  · subst hj; simp [h]
  · rw [if_neg hj]; simp [List.getElem?_set_ne (Ne.symm hj)]
theorem nth_swp {l : List Ent} {i k j : Nat} (hi : i < l.length) (hk : k < l.length) : nth (swp l i k) j = if j = k then nth l i else if j = i then nth l k else nth l j := by
  unfold swp
  rw [nth_set (by simpa using hk), nth_set hi]
theorem nth_take {l : List Ent} {n j : Nat} (h : j < n) : nth (l.take n) j = nth l j := by simp [nth, h]

theorem count_set' (l : List Ent) (i : Nat) (e b : Ent) (h : i < l.length) : (l.set i e).count b + (if nth l i = b then 1 else 0) = l.count b + (if e = b then 1 else 0) := by
  induction l generalizing i with
  | nil => simp at h
  | cons x l ih =>
    cases i with
    | zero => simp only [List.set_cons_zero, List.count_cons, nth, List.getD_cons_zero, beq_iff_eq]; omega
    | succ i =>
      have := ih i (by simpa using h)
      rw [show nth (x :: l) (i + 1) = nth l i by simp [nth]]
      simp only [List.set_cons_succ, List.count_cons]
      omega
theorem swp_perm {l : List Ent} {i k : Nat} (hi : i < l.length) (hk : k < l.length) : (swp l i k).Perm l := by
  rw [List.perm_iff_count]
  intro b
  have h1 := count_set' l i (nth l k) b hi
  have h2 := count_set' (l.set i (nth l k)) k (nth l i) b (by simpa using hk)
  rw [nth_set hi] at h2
  unfold swp
  by_cases e : k = i
  · subst e
    rw [if_pos rfl] at h2
    omega
  · rw [if_neg e] at h2
    omega

theorem kid_lt {l : List Ent} {i : Nat} (h : ¬ l.length ≤ 2 * i + 1) : kid l i < l.length ∧ (kid l i - 1) / 2 = i ∧ i < kid l i := by
  unfold kid
  split <;> omega
theorem downL_perm (f : Nat) (l : List Ent) (i : Nat) (hi : i < l.length) : (downL f l i).Perm l := by
  induction f generalizing l i with
  | zero => exact List.Perm.refl _
  | succ f ih =>
    rw [downL]
    split
    · exact List.Perm.refl _
    · rename_i h
      have hk := kid_lt h
      split
      · exact (ih _ _ (by rw [swp_len]; exact hk.1)).trans (swp_perm hi hk.1)
      · exact List.Perm.refl _
theorem down_perm {l : List Ent} {i : Nat} (hi : i < l.length) : (down l i).Perm l := downL_perm _ _ _ hi
theorem upL_perm (f : Nat) (l : List Ent) (i : Nat) (hi : i < l.length) : (upL f l i).Perm l := by
  induction f generalizing l i with
  | zero => exact List.Perm.refl _
  | succ f ih =>
    rw [upL]
    split
    · exact (ih _ _ (by rw [swp_len]; omega)).trans (swp_perm hi (by omega))
    · exact List.Perm.refl _
theorem up_perm {l : List Ent} {i : Nat} (hi : i < l.length) : (up l i).Perm l := upL_perm _ _ _ hi
theorem settle_perm {l : List Ent} {i : Nat} (hi : i < l.length) : (settle l i).Perm l := (down_perm (by rw [up_len]; exact hi)).trans (up_perm hi)

/-- element c is not ahead of the one above it -/
def OkE (l : List Ent) (c : Nat) : Prop := lt (nth l c) (nth l ((c - 1) / 2)) = false
def HeapFrom (l : List Ent) (k : Nat) : Prop := ∀ c, 0 < c → c < l.length → k ≤ (c - 1) / 2 → OkE l c
def HeapL (l : List Ent) : Prop := ∀ c, 0 < c → c < l.length → OkE l c

/-- the lesser child is ahead of neither -/
theorem kid_min {l : List Ent} {i c : Nat} (hc : c < l.length) (h0 : 0 < c) (hp : (c - 1) / 2 = i) : lt (nth l c) (nth l (kid l i)) = false := by
  unfold kid
  have hcc : c = 2 * i + 1 ∨ c = 2 * i + 2 := by omega
  by_cases h : 2 * i + 2 < l.length ∧ lt (nth l (2 * i + 2)) (nth l (2 * i + 1)) = true
  · rw [if_pos h]
    rcases hcc with rfl | rfl
    · exact lt_asymm h.2
    · exact lt_irrefl _
  · rw [if_neg h]
    rcases hcc with rfl | rfl
    · exact lt_irrefl _
    · cases hh : lt (nth l (2 * i + 2)) (nth l (2 * i + 1)) with
      | false => rfl
      | true => exact absurd ⟨hc, hh⟩ h

theorem downL_heap (f : Nat) (l : List Ent) (k i : Nat) (hf : l.length ≤ f + i) (hki : k ≤ i) (hi : i < l.length)
    (h1 : ∀ c, 0 < c → c < l.length → k ≤ (c - 1) / 2 → (c - 1) / 2 ≠ i → OkE l c)
    (h2 : ∀ c, 0 < c → c < l.length → (c - 1) / 2 = i → 0 < i → k ≤ (i - 1) / 2 → lt (nth l c) (nth l ((i - 1) / 2)) = false) : HeapFrom (downL f l i) k := by
  induction f generalizing l i with
  | zero => omega
  | succ f ih =>
    rw [downL]
    split
    · intro c h0 hc hk
      exact h1 c h0 hc hk (by omega)
    · rename_i h
      obtain ⟨hk1, hk2, hk3⟩ := kid_lt h
      split
      · rename_i hlt
        generalize hkd : kid l i = kd at *
        have hmin : ∀ c, 0 < c → c < l.length → (c - 1) / 2 = i → lt (nth l c) (nth l kd) = false := fun c a b d => by rw [← hkd]; exact kid_min b a d
        apply ih
        · rw [swp_len]; omega
        · omega
        · rw [swp_len]; exact hk1
        · intro c h0 hc hk hne
          rw [swp_len] at hc
          unfold OkE
          rw [nth_swp hi hk1, nth_swp hi hk1]
          by_cases e1 : c = kd
          · subst e1
            rw [if_pos rfl, hk2, if_neg (by omega), if_pos rfl]
            exact lt_asymm hlt
          · rw [if_neg e1]
            by_cases e2 : c = i
            · subst e2
              rw [if_pos rfl, if_neg (by omega), if_neg (by omega)]
              exact h2 kd (by omega) hk1 hk2 h0 hk
            · rw [if_neg e2, if_neg hne]
              by_cases e3 : (c - 1) / 2 = i
              · rw [if_pos e3]
                exact hmin c h0 hc e3
              · rw [if_neg e3]
                exact h1 c h0 hc hk e3
        · intro c h0 hc hp _ hk
          rw [swp_len] at hc
          rw [nth_swp hi hk1, nth_swp hi hk1]
          rw [if_neg (by omega), if_neg (by omega), hk2, if_neg (by omega), if_pos rfl]
          have := h1 c h0 hc (by omega) (by omega)
          unfold OkE at this
          rw [hp] at this
          exact this
      · rename_i hlt
        have hlt' : lt (nth l (kid l i)) (nth l i) = false := by simpa using hlt
        intro c h0 hc hk
        by_cases e : (c - 1) / 2 = i
        · unfold OkE
          rw [e]
          exact ge_trans hlt' (kid_min hc h0 e)
        · exact h1 c h0 hc hk e
theorem down_heap {l : List Ent} {i : Nat} (hi : i < l.length) (h : HeapFrom l (i + 1)) : HeapFrom (down l i) i :=
  downL_heap _ l i i (by omega) (Nat.le_refl _) hi (fun c h0 hc hk hne => h c h0 hc (by omega)) (fun c h0 hc hp h1 h2 => by omega)

theorem buildF_spec (j : Nat) (l : List Ent) (hj : j ≤ l.length) (h : HeapFrom l j) : HeapFrom (buildF j l) 0 ∧ (buildF j l).Perm l := by
  induction j generalizing l with
  | zero => exact ⟨h, List.Perm.refl _⟩
  | succ j ih =>
    rw [buildF]
    obtain ⟨h1, h2⟩ := ih (down l j) (by rw [down_len]; omega) (down_heap (by omega) h)
    exact ⟨h1, h2.trans (down_perm (by omega))⟩
theorem build_spec (l : List Ent) : HeapL (build l) ∧ (build l).Perm l := by
  obtain ⟨h1, h2⟩ := buildF_spec (l.length / 2) l (by omega) (fun c h0 hc hk => by omega)
  exact ⟨fun c h0 hc => h1 c h0 hc (Nat.zero_le _), h2⟩

/-! sorting -/
theorem wout_perm {l : List Ent} {k : Nat} (h : k < l.length) : (nth l k :: wout l k).Perm l := by
  unfold wout
  have h1 : l = l.take k ++ nth l k :: l.drop (k + 1) := by
    rw [nth_eq h, ← List.drop_eq_getElem_cons h, List.take_append_drop]
  have h2 : (nth l k :: (l.take k ++ l.drop (k + 1))).Perm (l.take k ++ nth l k :: l.drop (k + 1)) := List.perm_middle.symm
  rw [← h1] at h2
  exact h2
theorem firstTo_min (l : List Ent) (i j : Nat) (hj : j ≤ i) : lt (nth l j) (nth l (firstTo l i)) = false := by
  induction i generalizing j with
  | zero => obtain rfl : j = 0 := by omega
            exact lt_irrefl _
  | succ i ih =>
    rw [firstTo]
    split
    · rename_i h
      by_cases e : j = i + 1
      · subst e; exact lt_irrefl _
      · exact ge_trans (lt_asymm h) (ih j (by omega))
    · rename_i h
      by_cases e : j = i + 1
      · subst e; simpa using h
      · exact ih j (by omega)
theorem first_min {l : List Ent} {e : Ent} (h : e ∈ l) : lt e (nth l (first l)) = false := by
  obtain ⟨j, hj, rfl⟩ := List.mem_iff_getElem.1 h
  rw [← nth_eq hj]
  exact firstTo_min l (l.length - 1) j (by omega)

def SortedL (l : List Ent) : Prop := l.Pairwise fun a b => lt b a = false
theorem sortF_spec (f : Nat) (l : List Ent) (hf : l.length ≤ f) : SortedL (sortF f l) ∧ (sortF f l).Perm l := by
  induction f generalizing l with
  | zero =>
    have : l = [] := List.length_eq_zero_iff.1 (by omega)
    subst this
    exact ⟨List.Pairwise.nil, List.Perm.refl _⟩
  | succ f ih =>
    rw [sortF]
    split
    · rename_i h; subst h; exact ⟨List.Pairwise.nil, List.Perm.refl _⟩
    · rename_i h
      have hk := first_lt h
      obtain ⟨h1, h2⟩ := ih (wout l (first l)) (by rw [wout_len hk]; omega)
      have hp := wout_perm hk
      refine ⟨List.Pairwise.cons (fun b hb => ?_) h1, (h2.cons _).trans hp⟩
      have : b ∈ l := hp.mem_iff.1 (List.mem_cons_of_mem _ (h2.mem_iff.1 hb))
      exact first_min this
theorem sorted_pw (l : List Ent) : SortedL (sorted l) := (sortF_spec _ l (Nat.le_refl _)).1
theorem sorted_perm (l : List Ent) : (sorted l).Perm l := (sortF_spec _ l (Nat.le_refl _)).2
theorem sorted_unique {a b : List Ent} (hp : a.Perm b) (ha : SortedL a) (hb : SortedL b) : a = b := by
  induction a generalizing b with
  | nil => exact (List.nil_perm.1 hp).symm
  | cons x a ih =>
    cases b with
    | nil => exact absurd hp.symm (by simp)
    | cons y b =>
      have hxy : x = y := by
        have h1 : x ∈ y :: b := hp.mem_iff.1 (List.mem_cons_self)
        have h2 : y ∈ x :: a := hp.mem_iff.2 (List.mem_cons_self)
        rcases List.mem_cons.1 h1 with e | e
        · exact e
        · rcases List.mem_cons.1 h2 with e' | e'
          · exact e'.symm
          · have g1 := (List.pairwise_cons.1 hb).1 x e
            have g2 := (List.pairwise_cons.1 ha).1 y e'
            rcases lt_tri x y with h | h | h
            · rw [h] at g1; cases g1
            · exact h
            · rw [h] at g2; cases g2
      subst hxy
      rw [ih (List.Perm.cons_inv hp) (List.pairwise_cons.1 ha).2 (List.pairwise_cons.1 hb).2]
theorem sorted_of_perm {a b : List Ent} (hp : a.Perm b) : sorted a = sorted b :=
  sorted_unique ((sorted_perm a).trans (hp.trans (sorted_perm b).symm)) (sorted_pw a) (sorted_pw b)
theorem sorted_eq {a b : List Ent} (hp : a.Perm b) (ha : SortedL a) : a = sorted b := sorted_unique (hp.trans (sorted_perm b).symm) ha (sorted_pw b)

/-! faults -/
/-- what is asked of entries but for their order -/
def Good (l : List Ent) : Prop := l.length ≤ 200 ∧ (∀ e ∈ l, efault e = 0) ∧ (l.map (·.name)).Nodup

theorem Good.perm {a b : List Ent} (h : Good b) (hp : a.Perm b) : Good a :=
  ⟨by rw [hp.length_eq]; exact h.1, fun e he => h.2.1 e (hp.mem_iff.1 he), (hp.map _).nodup_iff.2 h.2.2⟩

theorem idxFrom_spec (l : List Ent) (nm : ByteArray) (i : Nat) : (idxFrom l nm i = -1 ∧ ∀ e ∈ l, e.name ≠ nm) ∨ ∃ j, idxFrom l nm i = (i + j : Nat) ∧ j < l.length ∧ (nth l j).name = nm ∧ ∀ k, k < j → (nth l k).name ≠ nm := by
  induction l generalizing i with
  | nil => left; exact ⟨rfl, by simp⟩
  | cons e l ih =>
    rw [idxFrom]
    by_cases h : e.name = nm
    · rw [if_pos h]
      right
      exact ⟨0, by simp, by simp, by simpa [nth] using h, by omega⟩
    · rw [if_neg h]
      rcases ih (i + 1) with ⟨h1, h2⟩ | ⟨j, h1, h2, h3, h4⟩
      · left
        refine ⟨h1, fun x hx => ?_⟩
        rcases List.mem_cons.1 hx with rfl | hx
        · exact h
        · exact h2 x hx
      · right
        refine ⟨j + 1, by rw [h1]; congr 1; omega, by simpa using h2, by simpa [nth] using h3, fun k hk => ?_⟩
        cases k with
        | zero => simpa [nth] using h
        | succ k => simpa [nth] using h4 k (by omega)
theorem idx_spec (l : List Ent) (nm : ByteArray) : (idx l nm = -1 ∧ ∀ e ∈ l, e.name ≠ nm) ∨ ∃ j : Nat, idx l nm = j ∧ j < l.length ∧ (nth l j).name = nm ∧ ∀ k, k < j → (nth l k).name ≠ nm := by
  rcases idxFrom_spec l nm 0 with h | ⟨j, h1, h2⟩
  · exact .inl h
  · exact .inr ⟨j, by rw [idx, h1]; simp, h2⟩

theorem nodup_nth {l : List Ent} (h : (l.map (·.name)).Nodup) {i j : Nat} (hi : i < l.length) (hj : j < l.length) (he : (nth l i).name = (nth l j).name) : i = j := by
  rw [nth_eq hi, nth_eq hj] at he
  rcases Nat.lt_trichotomy i j with hlt | he' | hlt
  · exact absurd he (by
      have := List.pairwise_iff_getElem.1 h i j (by simpa using hi) (by simpa using hj) hlt
      simpa using this)
  · exact he'
  · exact absurd he.symm (by
      have := List.pairwise_iff_getElem.1 h j i (by simpa using hj) (by simpa using hi) hlt
      simpa using this)
theorem nodup_of_nth {l : List Ent} (h : ∀ i j, i < j → j < l.length → (nth l i).name ≠ (nth l j).name) : (l.map (·.name)).Nodup := by
  apply List.pairwise_iff_getElem.2
  intro i j hi hj hlt
  have := h i j hlt (by simpa using hj)
  rw [nth_eq (by simp at hi; omega), nth_eq (by simpa using hj)] at this
  simpa using this

/-- no code: the names before differ -/
theorem idx_ge_iff {l : List Ent} {i : Nat} (hi : i < l.length) : ¬ idx l (nth l i).name < i ↔ ∀ j, j < i → (nth l j).name ≠ (nth l i).name := by
  rcases idx_spec l (nth l i).name with ⟨_, h2⟩ | ⟨j, h1, h2, h3, h4⟩
  · exact absurd rfl (h2 (nth l i) (by rw [nth_eq hi]; exact List.getElem_mem hi))
  · rw [h1]
    constructor
    · intro h k hk
      exact h4 k (by omega)
    · intro h hlt
      exact h j (by omega) h3

theorem codes_good {l : List Ent} {ord : Bool} (hl : l.length ≤ 200) (h : ∀ i, i < l.length → codeAt l ord i = 0) : Good l ∧ (ord = true → HeapL l) := by
  have hp : ∀ i, i < l.length → efault (nth l i) = 0 ∧ (∀ j, j < i → (nth l j).name ≠ (nth l i).name) ∧ (ord = true → 0 < i → OkE l i) := by
    intro i hi
    have hc := h i hi
    unfold codeAt at hc
    split at hc
    · rename_i h1; exact absurd hc h1
    · rename_i h1
      split at hc
      · cases hc
      · rename_i h2
        split at hc
        · cases hc
        · rename_i h3
          refine ⟨by simpa using h1, (idx_ge_iff hi).1 h2, fun ho h0 => ?_⟩
          unfold OkE
          cases hh : lt (nth l i) (nth l ((i - 1) / 2)) with
          | false => rfl
          | true => exact absurd ⟨ho, h0, hh⟩ h3
  refine ⟨⟨hl, fun e he => ?_, nodup_of_nth fun i j hij hj => (hp j hj).2.1 i hij⟩, fun ho c h0 hc => (hp c hc).2.2 ho h0⟩
  obtain ⟨j, hj, rfl⟩ := List.mem_iff_getElem.1 he
  rw [← nth_eq hj]
  exact (hp j hj).1
theorem good_codes {l : List Ent} {ord : Bool} (hg : Good l) (hh : ord = true → HeapL l) : ∀ i, i < l.length → codeAt l ord i = 0 := by
  intro i hi
  have h1 : efault (nth l i) = 0 := hg.2.1 _ (by rw [nth_eq hi]; exact List.getElem_mem hi)
  have h2 : ¬ idx l (nth l i).name < i := (idx_ge_iff hi).2 fun j hj e => by
    have := nodup_nth hg.2.2 (by omega) hi e
    omega
  unfold codeAt
  rw [if_neg (by simp [h1]), if_neg h2, if_neg (fun h => by have := hh h.1 i h.2.1 hi; unfold OkE at this; rw [this] at h; exact absurd h.2.2 (by simp))]

theorem scan_codes (l : List Ent) (ord : Bool) (f i : Nat) (h : (scan l ord f i).1 = 0) : ∀ j, i ≤ j → j < i + f → codeAt l ord j = 0 := by
  induction f generalizing i with
  | zero => omega
  | succ f ih =>
    rw [scan] at h
    split at h
    · rename_i hc; exact absurd h hc
    · rename_i hc
      intro j h1 h2
      by_cases e : j = i
      · subst e; simpa using hc
      · exact ih (i + 1) h j (by omega) (by omega)
theorem qf_iff (l : List Ent) (ord : Bool) : (qf l ord).1 = 0 ↔ Good l ∧ (ord = true → HeapL l) := by
  constructor
  · intro h
    rcases Nat.lt_or_ge 200 l.length with h' | h'
    · rw [qf_many h'] at h; cases h
    · rw [qf, if_neg (by omega)] at h
      exact codes_good h' fun i hi => scan_codes l ord _ 0 h i (Nat.zero_le _) (by omega)
  · intro ⟨hg, hh⟩
    rw [qf_none hg.1 (good_codes hg hh)]

/-- the law of Build -/
theorem build_law {l : List Ent} (h : (qf l false).1 = 0) : (qf (build l) true).1 = 0 ∧ sorted (build l) = sorted l := by
  obtain ⟨hg, _⟩ := (qf_iff l false).1 h
  obtain ⟨h1, h2⟩ := build_spec l
  exact ⟨(qf_iff _ true).2 ⟨hg.perm h2, fun _ => h1⟩, sorted_of_perm h2⟩
end Go.Proofs.Ytefeiogbaiodnaa

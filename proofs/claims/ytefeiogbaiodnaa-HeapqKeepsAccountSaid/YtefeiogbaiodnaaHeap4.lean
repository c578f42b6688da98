/- What one step of the account does to the queue and to its entries; plain, no condition. -/
import Derived.Test.YtefeiogbaiodnaaHeap3
import Derived.Test.YtefeiogbaiodnaaAddL
namespace Go.Proofs.Ytefeiogbaiodnaa

theorem idx_of_perm {q l : List Ent} (hp : q.Perm l) (nm : ByteArray) (h : idx l nm < 0) : idx q nm < 0 := by
  rcases idx_spec l nm with ⟨_, h2⟩ | ⟨j, h1, _⟩
  · rcases idx_spec q nm with ⟨h3, _⟩ | ⟨k, _, h4, h5, _⟩
    · omega
    · refine absurd h5 (h2 _ (hp.subset ?_))
      rw [nth_eq h4]
      exact List.getElem_mem _
  · omega

theorem nth_mem {l : List Ent} {k : Nat} (h : k < l.length) : nth l k ∈ l := by
  rw [nth_eq h]
  exact List.getElem_mem _

theorem eq_of_name {l : List Ent} (hn : (l.map (·.name)).Nodup) {a b : Ent} (ha : a ∈ l) (hb : b ∈ l) (h : a.name = b.name) : a = b := by
  induction l with
  | nil => cases ha
  | cons x l ih =>
    rw [List.map_cons, List.nodup_cons] at hn
    rcases List.mem_cons.1 ha with rfl | ha'
    · rcases List.mem_cons.1 hb with rfl | hb'
      · rfl
      · exact absurd (List.mem_map.2 ⟨b, hb', h.symm⟩) hn.1
    · rcases List.mem_cons.1 hb with rfl | hb'
      · exact absurd (List.mem_map.2 ⟨a, ha', h⟩) hn.1
      · exact ih hn.2 ha' hb'

/-- the place of the name in the queue, and what is left without it -/
theorem idx_both {q l : List Ent} (hp : q.Perm l) (hg : Good q) {nm : ByteArray} {k : Nat} (hk : idx l nm = k) : k < l.length ∧ ∃ j : Nat, idx q nm = j ∧ j < q.length ∧ (nth q j).name = nm ∧ (wout q j).Perm (wout l k) := by
  rcases idx_spec l nm with ⟨h1, _⟩ | ⟨k', h1, h2, h3, _⟩
  · omega
  · obtain rfl : k' = k := by omega
    refine ⟨h2, ?_⟩
    rcases idx_spec q nm with ⟨_, h5⟩ | ⟨j, h5, h6, h7, _⟩
    · exact absurd h3 (h5 _ (hp.symm.subset (nth_mem h2)))
    · refine ⟨j, h5, h6, h7, ?_⟩
      have he : nth q j = nth l k' := eq_of_name hg.2.2 (nth_mem h6) (hp.symm.subset (nth_mem h2)) (by rw [h7, h3])
      have h8 : (nth q j :: wout q j).Perm (nth q j :: wout l k') := ((wout_perm h6).trans hp).trans (by rw [he]; exact (wout_perm h2).symm)
      exact h8.cons_inv

theorem perm_of_sorted {a b : List Ent} (h : sorted a = sorted b) : a.Perm b := (sorted_perm a).symm.trans (h ▸ sorted_perm b)

theorem keep_add {q l : List Ent} {x : Ent} (hp : q.Perm l) (h : (qf q true).1 = 0) (hl : l.length < 200) (he : efault x = 0) (hi : idx l x.name < 0) :
    addCode q x = 0 ∧ (qf (up (q ++ [x]) q.length) true).1 = 0 ∧ (up (q ++ [x]) q.length).Perm (l ++ [x]) := by
  have hq := idx_of_perm hp _ hi
  have hc : addCode q x = 0 := by
    unfold addCode
    rw [if_neg (by have := hp.length_eq; omega), if_neg (by simp [he]), if_neg (by omega)]
  obtain ⟨h1, h2⟩ := add_law h hc
  exact ⟨hc, h1, (perm_of_sorted h2).trans (hp.append_right _)⟩

theorem keep_change {q l : List Ent} {nm : ByteArray} {r : Int} {k : Nat} (hp : q.Perm l) (h : (qf q true).1 = 0) (hk : idx l nm = k) (hr : ¬ (r < -1000000 ∨ 1000000 < r)) :
    k < l.length ∧ ∃ j : Nat, idx q nm = j ∧ j < q.length ∧ (qf (settle (q.set j ⟨(nth q j).name, r⟩) j) true).1 = 0 ∧ (settle (q.set j ⟨(nth q j).name, r⟩) j).Perm (wout l k ++ [⟨nm, r⟩]) := by
  obtain ⟨h0, j, h1, h2, h3, h4⟩ := idx_both hp ((qf_iff q true).1 h).1 hk
  obtain ⟨h5, h6⟩ := change_law h h2 hr
  refine ⟨h0, j, h1, h2, h5, (perm_of_sorted h6).trans ?_⟩
  rw [h3]
  exact h4.append_right _

theorem keep_remove {q l : List Ent} {nm : ByteArray} {k : Nat} (hp : q.Perm l) (h : (qf q true).1 = 0) (hk : idx l nm = k) :
    k < l.length ∧ ∃ j : Nat, idx q nm = j ∧ j < q.length ∧ (qf (woutQ q j) true).1 = 0 ∧ (woutQ q j).Perm (wout l k) := by
  obtain ⟨h0, j, h1, h2, h3, h4⟩ := idx_both hp ((qf_iff q true).1 h).1 hk
  obtain ⟨h5, h6⟩ := remove_law h h2
  exact ⟨h0, j, h1, h2, h5, (perm_of_sorted h6).trans h4⟩

theorem sorted_head {l : List Ent} (h : l ≠ []) : sorted l = nth l (first l) :: sortF (l.length - 1) (wout l (first l)) := by
  have h0 : 0 < l.length := List.length_pos_iff.2 h
  unfold sorted
  obtain ⟨n, hn⟩ : ∃ n, l.length = n + 1 := ⟨l.length - 1, by omega⟩
  rw [hn, sortF, if_neg h]
  rfl

theorem keep_pop {q l : List Ent} (hp : q.Perm l) (h : (qf q true).1 = 0) (hne : 0 < l.length) :
    0 < q.length ∧ first l < l.length ∧ nth q 0 = nth l (first l) ∧ (qf (woutQ q 0) true).1 = 0 ∧ (woutQ q 0).Perm (wout l (first l)) := by
  have hlen := hp.length_eq
  have hql : q ≠ [] := by rintro rfl; simp at hlen; omega
  have hll : l ≠ [] := by rintro rfl; simp at hne
  obtain ⟨h1, h2, h3⟩ := pop_law h hql
  have hs := sorted_of_perm hp
  rw [sorted_head hql, sorted_head hll] at hs
  injection hs with hs1 hs2
  have hf := first_lt hql
  have hf' := first_lt hll
  refine ⟨by omega, hf', h1.trans hs1, h2, (perm_of_sorted h3).trans ?_⟩
  have h8 : (nth q (first q) :: wout q (first q)).Perm (nth q (first q) :: wout l (first l)) := ((wout_perm hf).trans hp).trans (by rw [hs1]; exact (wout_perm hf').symm)
  exact h8.cons_inv
end Go.Proofs.Ytefeiogbaiodnaa

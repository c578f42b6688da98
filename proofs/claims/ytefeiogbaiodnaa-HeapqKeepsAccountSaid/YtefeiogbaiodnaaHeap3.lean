/- The plain laws of Change and Remove; no condition. -/
import Derived.Test.YtefeiogbaiodnaaHeap2
namespace Go.Proofs.Ytefeiogbaiodnaa

theorem Good.wout {l : List Ent} {k : Nat} (hg : Good l) (hk : k < l.length) : Good (wout l k) :=
  ⟨by rw [wout_len hk]; have := hg.1; omega, fun e he => hg.2.1 e ((wout_perm hk).mem_iff.1 (List.mem_cons_of_mem _ he)), by
    have := ((wout_perm hk).map (·.name)).nodup_iff.2 hg.2.2
    exact (List.nodup_cons.1 this).2⟩

theorem remove_law {l : List Ent} {k : Nat} (h : (qf l true).1 = 0) (hk : k < l.length) : (qf (woutQ l k) true).1 = 0 ∧ sorted (woutQ l k) = sorted (wout l k) := by
  obtain ⟨hg, hh⟩ := (qf_iff l true).1 h
  have hp := hh rfl
  have hperm := woutQ_perm hk
  exact ⟨(qf_iff _ true).2 ⟨(hg.wout hk).perm hperm, fun _ => woutQ_heap hp hk⟩, sorted_of_perm hperm⟩

theorem set_perm {l : List Ent} {k : Nat} (e : Ent) (hk : k < l.length) : (l.set k e).Perm (wout l k ++ [e]) := by
  rw [List.perm_iff_count]
  intro b
  have h1 := count_set' l k e b hk
  have h2 := count_wout hk b
  rw [List.count_append, List.count_cons, List.count_nil]
  simp only [beq_iff_eq]
  omega

theorem set_names {l : List Ent} {k : Nat} {e : Ent} (hk : k < l.length) (he : e.name = (nth l k).name) : (l.set k e).map (·.name) = l.map (·.name) := by
  apply List.ext_getElem
  · simp
  · intro i h1 h2
    simp only [List.getElem_map, List.getElem_set]
    split
    · rename_i hki
      subst hki
      rw [he, nth_eq hk]
    · rfl

theorem change_law {l : List Ent} {k : Nat} {r : Int} (h : (qf l true).1 = 0) (hk : k < l.length) (hr : ¬ (r < -1000000 ∨ 1000000 < r)) :
    (qf (settle (l.set k ⟨(nth l k).name, r⟩) k) true).1 = 0 ∧ sorted (settle (l.set k ⟨(nth l k).name, r⟩) k) = sorted (wout l k ++ [⟨(nth l k).name, r⟩]) := by
  obtain ⟨hg, hh⟩ := (qf_iff l true).1 h
  have hp := hh rfl
  have hl : k < (l.set k ⟨(nth l k).name, r⟩).length := by simpa using hk
  have hperm := settle_perm hl
  have hgs : Good (l.set k ⟨(nth l k).name, r⟩) := by
    refine ⟨by simpa using hg.1, fun e he => ?_, by rw [set_names (e := ⟨(nth l k).name, r⟩) hk rfl]; exact hg.2.2⟩
    rcases List.mem_or_eq_of_mem_set he with h1 | h1
    · exact hg.2.1 e h1
    · have hn := hg.2.1 (nth l k) (by rw [nth_eq hk]; exact List.getElem_mem hk)
      subst h1
      unfold efault at hn ⊢
      split at hn
      · cases hn
      · rename_i hs
        rw [if_neg hs, if_neg hr]
  exact ⟨(qf_iff _ true).2 ⟨hgs.perm hperm, fun _ => settle_set _ hp hk⟩, sorted_of_perm (hperm.trans (set_perm _ hk))⟩
end Go.Proofs.Ytefeiogbaiodnaa

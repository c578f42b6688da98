/- The law of Add, and its walk; no condition. -/
import Derived.Test.YtefeiogbaiodnaaW15
import Derived.Test.YtefeiogbaiodnaaHeap2
namespace Go.Proofs.Ytefeiogbaiodnaa
open Go.RowKit

theorem nth_append_lt {l a : List Ent} {j : Nat} (h : j < l.length) : nth (l ++ a) j = nth l j := by simp [nth, List.getElem?_append_left h]

theorem add_good_l {l : List Ent} {x : Ent} (hg : Good l) (hc : addCode l x = 0) : Good (l ++ [x]) := by
  unfold addCode at hc
  by_cases hlen : l.length = 200
  · rw [if_pos hlen] at hc; cases hc
  · rw [if_neg hlen] at hc
    by_cases he : efault x = 0
    · rw [if_neg (by simp [he])] at hc
      rcases idx_spec l x.name with ⟨_, h2⟩ | ⟨j, h1, _⟩
      · refine ⟨by have := hg.1; simp; omega, fun e hm => ?_, ?_⟩
        · rcases List.mem_append.1 hm with h | h
          · exact hg.2.1 e h
          · rw [List.mem_singleton.1 h]; exact he
        · rw [List.map_append]
          refine List.nodup_append.2 ⟨hg.2.2, by simp, ?_⟩
          intro a ha b hb hab
          obtain ⟨e, he1, he2⟩ := List.mem_map.1 ha
          simp at hb
          exact h2 e he1 (by rw [he2, hab, hb])
      · rw [if_pos (by omega)] at hc; cases hc
    · rw [if_pos he] at hc; exact absurd hc he

theorem add_law {l : List Ent} {x : Ent} (h : (qf l true).1 = 0) (hc : addCode l x = 0) : (qf (up (l ++ [x]) l.length) true).1 = 0 ∧ sorted (up (l ++ [x]) l.length) = sorted (l ++ [x]) := by
  obtain ⟨hg, hh⟩ := (qf_iff l true).1 h
  have hp := hh rfl
  have hlt : l.length < (l ++ [x]).length := by simp
  have hperm := up_perm hlt
  refine ⟨(qf_iff _ true).2 ⟨(add_good_l hg hc).perm hperm, fun _ => up_heap hlt ?_ ?_⟩, sorted_of_perm hperm⟩
  · intro c hne h0 hcl
    have hcl' : c < l.length := by simp at hcl; omega
    have := hp c h0 hcl'
    unfold OkE at this ⊢
    rw [nth_append_lt hcl', nth_append_lt (by omega)]
    exact this
  · intro c h0 hcl hpar _
    simp at hcl
    omega

theorem eqF_refl (a b : Int) : eqF a b a b = true := by simp [eqF]

set_option maxRecDepth 100000 in
set_option maxHeartbeats 2000000 in
theorem addLaw_bad (l : List Ent) (x : Ent) (v : Value) (w : World) (hl : EntS w v l) (hbad : (qf l true).1 ≠ 0) : Calls Try.prog 7 #[v, .agg #[.string x.name, .int .i64 x.rank]] w fun e w' => e = .returned (.bool true) ∧ Ext w w' := by
  have HL := Lib.hid hl
  clear hl
  have heq := run_eqlF
  have hes := eqF_refl
  obtain ⟨f, hf⟩ : ∃ f, f = qf l true := ⟨_, rfl⟩
  have HF := Lib.hid hf
  have hne : (f.1 != 0) = true := by rw [hf]; simpa using hbad
  have hne2 : (f.1 == 0) = false := by rw [hf]; simpa using hbad
  have HBad := Lib.hid hbad
  clear hf hbad
  go_enter Try.func7, Try.ntmps7
  go_wp2_with fail
  refine (add_bad l x _ _ (HL.out.ext (Ext.new _ _)) HBad.out).mono ?_
  rw [← HF.out]
  rintro e w1 ⟨v1, rfl, hs1, hb1⟩
  obtain ⟨A1, c1, rfl, _, _⟩ := hs1.out
  have HB1 := Lib.hid ((Ext.new w _).tr hb1)
  clear hb1 hs1
  go_wp2_with fail
  refine (queueFault_any l true _ _ (HL.out.ext (HB1.out.alloc' _))).mono ?_
  rw [← HF.out]
  rintro e w2 ⟨rfl, hb2⟩
  have k0 := hb2.cellAt (b := w1.heap.size) (o := 0) (v := .int .i64 f.1) (by simp)
  have k1 := hb2.cellAt (b := w1.heap.size) (o := 1) (v := .int .i64 f.2) (by simp)
  have q1 : w1.heap.size < w2.heap.size := World.block_lt_of_cell? w2 _ k0
  have HB2 := Lib.hid ((HB1.out.alloc' _).tr hb2)
  clear hb2
  go_wp2_with fail
  refine (queued_t _).mono ?_
  rintro e w5 ⟨rfl, hb5⟩
  have HB5 := Lib.hid ((HB2.out.alloc' _).tr hb5)
  clear hb5
  go_wp2
  go_ret
  exact ⟨rfl, HB5.out⟩
end Go.Proofs.Ytefeiogbaiodnaa

/- Walks of Validate, Build. -/
import Derived.Test.YtefeiogbaiodnaaW7
namespace Go.Proofs.Ytefeiogbaiodnaa
open Go.RowKit

theorem check_any (l : List Ent) (ord : Bool) (v : Value) (w : World) (hl : EntS w v l) : Calls Try.prog 33 #[v, .bool ord] w (RetF (qf l ord) w) := by
  by_cases h : 200 < l.length
  · rw [qf_many h]; exact check_many l ord v w hl h
  · exact check_few l ord v w hl (by omega)
theorem queueFault_any (l : List Ent) (ord : Bool) (v : Value) (w : World) (hl : EntS w v l) : Calls Try.prog 11 #[v, .bool ord] w (RetF (qf l ord) w) := by
  by_cases h : 200 < l.length
  · rw [qf_many h]; exact queueFault_many l ord v w hl h
  · exact queueFault_few l ord v w hl (by omega)

theorem qf_len {l : List Ent} {ord : Bool} (h : (qf l ord).1 = 0) : l.length ≤ 200 := by
  rcases Nat.lt_or_ge 200 l.length with h' | h'
  · rw [qf_many h'] at h; cases h
  · exact h'

set_option maxHeartbeats 400000 in
theorem validate_any (l : List Ent) (v : Value) (w : World) (hl : EntS w v l) : Calls Try.prog 10 #[v] w (RetF (qf l true) w) := by
  have HL := Lib.hid hl
  clear hl
  obtain ⟨f, hf⟩ : ∃ f, f = qf l true := ⟨_, rfl⟩
  rw [← hf]
  go_enter Try.func10, Try.ntmps10
  go_wp2_with fail
  refine (check_any l true v _ (HL.out.ext (Ext.new _ _))).mono ?_
  rintro e w1 ⟨rfl, hb⟩
  rw [← hf]
  obtain ⟨hc, hz⟩ := bcell hb
  have HB := Lib.hid hb
  clear hb hf
  go_wp2
  exact bodyPost_ret (v := .agg #[.int .i64 f.1, .int .i64 f.2]) (by simp [results, Try.results10, go_sem, hc]) rfl ⟨rfl, ((((Ext.new w _).tr HB.out).set (by simp) _).set (by simp) _)⟩

/-- a queue and a fault are handed back -/
def RetLF (r : List Ent) (f : Int × Int) (w : World) (e : Ending) (w' : World) : Prop := ∃ v', e = .returned (.tuple #[v', .agg #[.int .i64 f.1, .int .i64 f.2]]) ∧ EntS w' v' r ∧ Ext w w'

theorem OwnE.ents {w : World} {base : Nat} {v : Value} {l : List Ent} (h : OwnE w base v l) : EntS w v l := Rd.own h

set_option maxRecDepth 100000 in
set_option maxHeartbeats 1000000 in
theorem build_bad (l : List Ent) (v : Value) (w : World) (hl : EntS w v l) (h : (qf l false).1 ≠ 0) : Calls Try.prog 12 #[v] w (RetLF [] (qf l false) w) := by
  have HL := Lib.hid hl
  clear hl
  obtain ⟨f, hf⟩ : ∃ f, f = qf l false := ⟨_, rfl⟩
  rw [← hf] at h ⊢
  have hne : (f.1 != 0) = true := by simpa using h
  go_enter Try.func12, Try.ntmps12
  go_wp2_with fail
  refine (check_any l false v _ (HL.out.ext (Ext.new _ _))).mono ?_
  rintro e w1 ⟨rfl, hb⟩
  rw [← hf]
  obtain ⟨hc, hz⟩ := bcell hb
  have hs : w.heap.size < w1.heap.size := by have := hb.size; simp at this; omega
  have HB := Lib.hid hb
  clear hb hf
  go_wp2_with fail
  go_region
  go_wp2
  refine bodyPost_ret (v := .tuple #[.slice none 0 0, .agg #[.int .i64 f.1, .int .i64 f.2]]) (by simp [results, Try.results12, go_sem, hc, hs]) rfl ?_
  refine ⟨_, rfl, EntS.nil_ _, ?_⟩
  exact (((((Ext.new w _).tr HB.out).set (by simp) _).set (by simp) _).alloc' _).drew'
theorem RowE.far {w : World} {g cap : Nat} {l : List Ent} (h : RowE w g cap l) {p : Addr} (hp : g ≠ p.block) (u : Value) : RowE (w.setCell p u) g cap l := h.keep (Below.heap_setCell w p u g hp)

theorem build_zero {l l' : List Ent} (h : buildF 0 l' = build l) : l' = build l := h

set_option maxRecDepth 100000 in
set_option maxHeartbeats 1000000 in
theorem build_good (l : List Ent) (v : Value) (w : World) (hl : EntS w v l) (h : qf l false = (0, 0)) : Calls Try.prog 12 #[v] w (RetLF (build l) (0, 0) w) := by
  have h200 : l.length ≤ 200 := qf_len (ord := false) (by rw [h])
  have HL := Lib.hid hl
  have HF := Lib.hid h
  clear hl h
  go_enter Try.func12, Try.ntmps12
  go_wp2_with fail
  refine (check_any l false v _ (HL.out.ext (Ext.new _ _))).mono ?_
  rw [HF.out]
  rintro e w1 ⟨rfl, hb⟩
  have hs : w.heap.size < w1.heap.size := by have := hb.size; simp at this; omega
  have HB := Lib.hid hb
  clear hb
  go_wp2_with fail
  refine (clone_t l v _ (HL.out.ext (((Ext.new _ _).tr HB.out).alloc' _)) (by omega)).mono ?_
  rintro e w2 ⟨v', rfl, ho, hb2⟩
  have HB2 := Lib.hid (((HB.out).alloc' _).tr hb2)
  have hbase : w.heap.size + 1 ≤ w1.heap.size + 1 := by omega
  clear hb2
  by_cases h0 : l.length = 0
  · have hl0 : l = [] := List.length_eq_zero_iff.1 h0
    subst hl0
    obtain ⟨A, c, rfl, _, _⟩ := ho.ents.out
    have HO := Lib.hid ho
    obtain ⟨hc, hz⟩ := bcell HB2.out
    clear ho
    go_wp2
    refine wp_loop_rounds 1 ?_
    rw [rounds_succ]
    go_wp2
    refine bodyPost_ret (v := .tuple #[.slice A 0 c, .agg #[.int .i64 0, .int .i64 0]]) (by simp [results, Try.results12, go_sem, hc]) rfl ?_
    refine ⟨_, rfl, ?_, (((Ext.new w _).tr HB2.out).set (by simp) _).set (by simp) _⟩
    exact ⟨A, c, rfl, by simp [build, buildF, flatE_nil], Nat.zero_le _, by obtain ⟨A', c', hv, _, _, hm, _⟩ := HO.out.ents; injection hv with _ _ h3; rw [h3]; exact hm, by simp [build, buildF]⟩
  · obtain ⟨g, cap, rfl, hg, hr⟩ := ho.row (by omega)
    have HR := Lib.hid hr
    have HG := Lib.hid hg
    clear ho hr hg
    obtain ⟨n, hn⟩ : ∃ n, n = l.length / 2 := ⟨_, rfl⟩
    have e1 : (l.length : Int) / 2 = (n : Int) := by omega
    have hn2 : n ≤ l.length := by omega
    have HBu := Lib.hid (show buildF n l = build l by rw [hn]; rfl)
    clear hn
    go_wp2
    go_loopw [6] (fun t wr => ∃ (j : Nat) (l' : List Ent), j ≤ n ∧ t = .int .i64 ((j : Int) - 1) ∧ l'.length = l.length ∧ buildF j l' = build l ∧ RowE wr g cap l' ∧ Ext (w.alloc (.cells #[.int .i64 0, .int .i64 0] 24)) wr) (fun t _ => (intOf t + 1).toNat)
    case atStart => exact ⟨n, l, Nat.le_refl _, rfl, rfl, HBu.out, HR.out, HB2.out⟩
    case round =>
      obtain ⟨j, l', hj, rfl, hl', hbu, hr, hb⟩ := hrel
      have HL' := Lib.hid hl'
      have HBu' := Lib.hid hbu
      have HR' := Lib.hid hr
      have HB' := Lib.hid hb
      clear hl' hbu hr hb
      rcases j with _ | j
      · obtain ⟨hc, hz⟩ := bcell HB'.out
        go_wp2
        refine bodyPost_ret (v := .tuple #[.slice (some ⟨g, 0, none⟩) l.length cap, .agg #[.int .i64 0, .int .i64 0]]) (by simp [results, Try.results12, go_sem, hc]) rfl ?_
        refine ⟨_, rfl, ?_, (((Ext.new w _).tr HB'.out).set (by simp) _).set (by simp) _⟩
        rw [← build_zero HBu'.out, ← HL'.out]
        have hne : g ≠ w.heap.size := by have := HG.out; simp at this; omega
        exact OwnE.ents (RowE.own (RowE.far (RowE.far HR'.out hne _) hne _) (Nat.zero_le _))
      · have b0 : (0 : Int) ≤ ((j + 1 : Nat) : Int) - 1 := by omega
        have e2 : ((j + 1 : Nat) : Int) - 1 = (j : Int) := by omega
        rw [e2]
        go_wp2_with fail
        have hd := down_t l' j g cap wr HR'.out (by have := HL'.out; omega) (by have := HL'.out; omega)
        rw [HL'.out] at hd
        refine hd.mono ?_
        rintro e w3 ⟨rfl, hr3, hg3⟩
        have HR3 := Lib.hid hr3
        have HG3 := Lib.hid hg3
        clear hd hr3 hg3 b0 e2
        go_wp2
        go_roundw
        case rel => exact ⟨j, down l' j, by omega, rfl, by rw [down_len, HL'.out], HBu'.out, HR3.out, HB'.out.grow HG3.out (by intro k hk; injection hk with hk; subst hk; have := HG.out; simp at this ⊢; omega)⟩
        case measure => simp [intOf]
end Go.Proofs.Ytefeiogbaiodnaa

/- Walks of Pop. -/
import Derived.Test.YtefeiogbaiodnaaW8
namespace Go.Proofs.Ytefeiogbaiodnaa
open Go.RowKit

theorem without_0 (l : List Ent) (g cap : Nat) (w : World) (hr : RowE w g cap l) (hi : 0 < l.length) (hm : l.length ≤ 1000) :
    Calls Try.prog 41 #[.slice (some ⟨g, 0, none⟩) l.length cap, .int .i64 0] w fun e w' => e = .returned (.slice (some ⟨g, 0, none⟩) (l.length - 1) cap) ∧ RowE w' g cap (woutQ l 0) ∧ w.grownBy w' (some g) :=
  without_t l 0 g cap w hr hi hm

theorem Ext.frozAt {W w1 : World} (hb : Ext W w1) {b o : Nat} {v : Value} (h : W.cell? ⟨b, o, none⟩ = some v) (hf : W.frozen? ⟨b, o, none⟩ = false) : w1.frozen? ⟨b, o, none⟩ = false :=
  (Below.frozen hb (p := ⟨b, o, none⟩) (World.block_lt_of_cell? W _ h)).trans hf
theorem G.frozAt {W w1 : World} {g : Nat} (hb : W.grownBy w1 (some g)) {b o : Nat} {v : Value} (h : W.cell? ⟨b, o, none⟩ = some v) (hne : b ≠ g) (hf : W.frozen? ⟨b, o, none⟩ = false) : w1.frozen? ⟨b, o, none⟩ = false :=
  (World.frozen?_of_block (w := W) (a := ⟨b, o, none⟩) (hb.block b (World.block_lt_of_cell? W _ h) (by simpa using hne))).trans hf
theorem cfar {w : World} {p : Addr} {u v : Value} {b o : Nat} (h : w.cell? ⟨b, o, none⟩ = some v) (hne : b ≠ p.block) : (w.setCell p u).cell? ⟨b, o, none⟩ = some v :=
  (World.cell?_setCell_other w p ⟨b, o, none⟩ u (fun e => hne (by rw [e]))).trans h
/-- a cell that may be read and written -/
def Cel (w : World) (b o : Nat) (v : Value) : Prop := w.cell? ⟨b, o, none⟩ = some v ∧ w.frozen? ⟨b, o, none⟩ = false
theorem Cel.ext {W w1 : World} {b o : Nat} {v : Value} (h : Cel W b o v) (hb : Ext W w1) : Cel w1 b o v := ⟨hb.cellAt h.1, hb.frozAt h.1 h.2⟩
theorem Cel.g {W w1 : World} {b o g : Nat} {v : Value} (h : Cel W b o v) (hb : W.grownBy w1 (some g)) (hne : b ≠ g) : Cel w1 b o v := ⟨G.cellAt hb h.1 hne, G.frozAt hb h.1 hne h.2⟩

theorem scan_zero (l : List Ent) (ord : Bool) (f i : Nat) (h : (scan l ord f i).1 = 0) : scan l ord f i = (0, 0) := by
  induction f generalizing i with
  | zero => rfl
  | succ f ih =>
    rw [scan] at h ⊢
    split
    · rename_i hc
      rw [if_pos hc] at h
      exact absurd h hc
    · rename_i hc
      rw [if_neg hc] at h
      exact ih _ h
theorem qf_zero {l : List Ent} {ord : Bool} (h : (qf l ord).1 = 0) : qf l ord = (0, 0) := by
  unfold qf at h ⊢
  split
  · rename_i hc
    rw [if_pos hc] at h
    cases h
  · rename_i hc
    rw [if_neg hc] at h
    exact scan_zero _ _ _ _ h

/-- a queue, an entry and a fault are handed back -/
def RetPop (r : List Ent) (x : Ent) (f : Int × Int) (w : World) (e : Ending) (w' : World) : Prop :=
  ∃ v', e = .returned (.tuple #[v', .agg #[.string x.name, .int .i64 x.rank], .agg #[.int .i64 f.1, .int .i64 f.2]]) ∧ EntS w' v' r ∧ Ext w w'

set_option maxRecDepth 100000 in
set_option maxHeartbeats 1000000 in
theorem pop_bad (l : List Ent) (v : Value) (w : World) (hl : EntS w v l) (h : (qf l true).1 ≠ 0) : Calls Try.prog 18 #[v] w (RetPop [] E0 (qf l true) w) := by
  have HL := Lib.hid hl
  clear hl
  obtain ⟨f, hf⟩ : ∃ f, f = qf l true := ⟨_, rfl⟩
  rw [← hf] at h ⊢
  have hne : (f.1 != 0) = true := by simpa using h
  go_enter Try.func18, Try.ntmps18
  go_wp2_with fail
  refine (validate_any l v _ (HL.out.ext ((Ext.new _ _).alloc' _))).mono ?_
  rintro e w1 ⟨rfl, hb⟩
  rw [← hf]
  obtain ⟨hc, hz⟩ := bcell hb
  have hs : w.heap.size < w1.heap.size := by have := hb.size; simp at this; omega
  have hs2 : w.heap.size + 1 < w1.heap.size := by have := hb.size; simp at this; omega
  have HB := Lib.hid hb
  clear hb hf
  have k0 : w1.cell? ⟨w.heap.size, 0, none⟩ = some (.string ⟨#[]⟩) := HB.out.cellAt (by simp)
  have k1 : w1.cell? ⟨w.heap.size, 1, none⟩ = some (.int .i64 0) := HB.out.cellAt (by simp)
  have k2 : w1.cell? ⟨w.heap.size + 1, 0, none⟩ = some (.int .i64 0) := HB.out.cellAt (by simp)
  have k3 : w1.cell? ⟨w.heap.size + 1, 1, none⟩ = some (.int .i64 0) := HB.out.cellAt (by simp)
  clear hc
  go_wp2_with fail
  go_region
  go_wp2
  refine bodyPost_ret (v := .tuple #[.slice none 0 0, .agg #[.string ⟨#[]⟩, .int .i64 0], .agg #[.int .i64 f.1, .int .i64 f.2]]) (by simp [results, Try.results18, go_sem, k0, k1, k2, k3, hs, hs2]) rfl ?_
  refine ⟨_, rfl, EntS.nil_ _, ?_⟩
  exact ((((((((Ext.new w _).alloc' _).tr HB.out).set (by simp) _).set (by simp) _).set (by simp) _).set (by simp) _).alloc' _).drew'

set_option maxRecDepth 100000 in
set_option maxHeartbeats 1000000 in
theorem pop_none (v : Value) (w : World) (hl : EntS w v []) : Calls Try.prog 18 #[v] w (RetPop [] E0 (10, -1) w) := by
  obtain ⟨A, c, rfl, _, _⟩ := hl.out
  have HL := Lib.hid hl
  clear hl
  go_enter Try.func18, Try.ntmps18
  go_wp2_with fail
  refine (validate_any [] _ _ (HL.out.ext ((Ext.new _ _).alloc' _))).mono ?_
  rintro e w1 ⟨rfl, hb⟩
  rw [show qf [] true = (0, 0) from rfl]
  obtain ⟨hc, hz⟩ := bcell hb
  have hs : w.heap.size < w1.heap.size := by have := hb.size; simp at this; omega
  have hs2 : w.heap.size + 1 < w1.heap.size := by have := hb.size; simp at this; omega
  have HB := Lib.hid hb
  clear hb
  have k0 : w1.cell? ⟨w.heap.size, 0, none⟩ = some (.string ⟨#[]⟩) := HB.out.cellAt (by simp)
  have k1 : w1.cell? ⟨w.heap.size, 1, none⟩ = some (.int .i64 0) := HB.out.cellAt (by simp)
  have k2 : w1.cell? ⟨w.heap.size + 1, 0, none⟩ = some (.int .i64 0) := HB.out.cellAt (by simp)
  have k3 : w1.cell? ⟨w.heap.size + 1, 1, none⟩ = some (.int .i64 0) := HB.out.cellAt (by simp)
  clear hc
  go_wp2
  refine bodyPost_ret (v := .tuple #[.slice none 0 0, .agg #[.string ⟨#[]⟩, .int .i64 0], .agg #[.int .i64 10, .int .i64 (-1)]]) (by simp [results, Try.results18, go_sem, k0, k1, k2, k3, hs, hs2]) rfl ?_
  refine ⟨_, rfl, EntS.nil_ _, ?_⟩
  exact (((((((Ext.new w _).alloc' _).tr HB.out).set (by simp) _).set (by simp) _).set (by simp) _).set (by simp) _).alloc' _

set_option maxRecDepth 100000 in
set_option maxHeartbeats 1000000 in
theorem pop_good (l : List Ent) (v : Value) (w : World) (hl : EntS w v l) (h : qf l true = (0, 0)) (h0 : 0 < l.length) : Calls Try.prog 18 #[v] w (RetPop (woutQ l 0) (nth l 0) (0, 0) w) := by
  have h200 : l.length ≤ 200 := qf_len (ord := true) (by rw [h])
  have HL := Lib.hid hl
  have HF := Lib.hid h
  obtain ⟨A, c, rfl, hm, hA⟩ := hl.out
  obtain ⟨g, off, rfl, hcl⟩ := hA h0
  have HC := Lib.hid hcl
  have hl0 : ((l.length : Int) == 0) = false := beq_eq_false_iff_ne.2 (by omega)
  clear hl h hA hcl hm
  go_enter Try.func18, Try.ntmps18
  go_wp2_with fail
  refine (validate_any l _ _ (HL.out.ext ((Ext.new _ _).alloc' _))).mono ?_
  rw [HF.out]
  rintro e w1 ⟨rfl, hb⟩
  have hs : w.heap.size < w1.heap.size := by have := hb.size; simp at this; omega
  have hs2 : w.heap.size + 1 < w1.heap.size := by have := hb.size; simp at this; omega
  have HB0 := Lib.hid hb
  have HB := Lib.hid (hb.alloc' (.cells #[.int .i64 0, .int .i64 0] 24))
  have hcc := HC.out.ext (((Ext.new w _).alloc' _).tr HB.out)
  have c0 := (hcc 0 h0).1
  have c1 := (hcc 0 h0).2
  simp only [Nat.zero_mul, Nat.add_zero] at c0 c1
  have b1 : (0 : Int) < (l.length : Int) := by omega
  have HL1 := Lib.hid (HL.out.ext (((Ext.new w _).alloc' _).tr HB.out))
  clear hb hcc
  have gl : g < w.heap.size := by
    have := (HC.out 0 h0).1
    exact World.block_lt_of_cell? w _ this
  have n0 : g ≠ w.heap.size := by omega
  have n1 : g ≠ w.heap.size + 1 := by omega
  have K0 : Hid (Cel (w1.alloc (.cells #[.int .i64 0, .int .i64 0] 24)) w.heap.size 0 (.string ⟨#[]⟩)) := Lib.hid (Cel.ext ⟨by simp, by simp⟩ HB.out)
  have K1 : Hid (Cel (w1.alloc (.cells #[.int .i64 0, .int .i64 0] 24)) w.heap.size 1 (.int .i64 0)) := Lib.hid (Cel.ext ⟨by simp, by simp⟩ HB.out)
  have K2 : Hid (Cel (w1.alloc (.cells #[.int .i64 0, .int .i64 0] 24)) (w.heap.size + 1) 0 (.int .i64 0)) := Lib.hid (Cel.ext ⟨by simp, by simp⟩ HB.out)
  have K3 : Hid (Cel (w1.alloc (.cells #[.int .i64 0, .int .i64 0] 24)) (w.heap.size + 1) 1 (.int .i64 0)) := Lib.hid (Cel.ext ⟨by simp, by simp⟩ HB.out)
  go_wp2_with fail
  go_region_held3 (fun w' => w'.cell? ⟨g, off, none⟩ = some (.string (nth l 0).name) ∧ w'.cell? ⟨g, off + 1, none⟩ = some (.int .i64 (nth l 0).rank))
    (first | (refine ⟨?_, ?_⟩; (repeat (first | with_reducible refine cfar ?_ n0 | with_reducible refine cfar ?_ n1)); exact G.cellAt hg3 (hb2.cellAt c0) ng; (repeat (first | with_reducible refine cfar ?_ n0 | with_reducible refine cfar ?_ n1)); exact G.cellAt hg3 (hb2.cellAt c1) ng) | exact ⟨hb2.cellAt c0, hb2.cellAt c1⟩ | exact ⟨c0, c1⟩ | go_keep)
    (first | (go_at_call 34; refine (clone_t l _ _ (by exact HL1.out) (by omega)).mono ?_; rintro e w2 ⟨v2, rfl, ho2, hb2⟩; obtain ⟨g2, cap2, rfl, hg2, hr2⟩ := ho2.row h0) | (go_at_call 41; refine (without_0 l g2 cap2 _ (by exact hr2) h0 (by omega)).mono ?_; rintro e w3 ⟨rfl, hr3, hg3⟩; have ng : g ≠ g2 := (by simp at hg2; omega); have ng0 : w.heap.size ≠ g2 := (by simp at hg2; omega); have ng1 : w.heap.size + 1 ≠ g2 := (by simp at hg2; omega); obtain ⟨q0, f0⟩ := (Cel.ext (by exact K0.out) hb2).g hg3 ng0; obtain ⟨q1, f1⟩ := (Cel.ext (by exact K1.out) hb2).g hg3 ng0; obtain ⟨q2, f2⟩ := (Cel.ext (by exact K2.out) hb2).g hg3 ng1; obtain ⟨q3, f3⟩ := (Cel.ext (by exact K3.out) hb2).g hg3 ng1))
  have HR3 := Lib.hid hr3
  have HX := Lib.hid ((((Ext.new w _).alloc' _).tr (HB.out.tr hb2.re)).grow hg3 (by intro k hk; injection hk with hk; subst hk; simp at hg2; omega))
  clear hr3 hg3 hb2 hr2 ho2
  go_wp2
  refine bodyPost_ret (v := .tuple #[.slice (some ⟨g2, 0, none⟩) (l.length - 1) cap2, .agg #[.string (nth l 0).name, .int .i64 (nth l 0).rank], .agg #[.int .i64 0, .int .i64 0]]) (by simp [results, Try.results18, go_sem, q0, q1, q2, q3]) rfl ?_
  refine ⟨_, rfl, ?_, (((HX.out.set (by simp) _).set (by simp) _).set (by simp) _).set (by simp) _⟩
  have hr4 := RowE.far (RowE.far (RowE.far (RowE.far HR3.out (p := ⟨w.heap.size, 0, none⟩) (Ne.symm ng0) (.string (nth l 0).name)) (p := ⟨w.heap.size, 1, none⟩) (Ne.symm ng0) (.int .i64 (nth l 0).rank)) (p := ⟨w.heap.size + 1, 0, none⟩) (Ne.symm ng1) (.int .i64 0)) (p := ⟨w.heap.size + 1, 1, none⟩) (Ne.symm ng1) (.int .i64 0)
  have he := (hr4.own (Nat.zero_le _)).ents
  rw [woutQ_len] at he
  exact he

theorem pop_any (l : List Ent) (v : Value) (w : World) (hl : EntS w v l) : Calls Try.prog 18 #[v] w (if (qf l true).1 ≠ 0 then RetPop [] E0 (qf l true) w else if l = [] then RetPop [] E0 (10, -1) w else RetPop (woutQ l 0) (nth l 0) (0, 0) w) := by
  split
  · exact pop_bad l v w hl (by assumption)
  · rename_i h
    split
    · rename_i h'; subst h'; exact pop_none v w hl
    · rename_i h'
      exact pop_good l v w hl (qf_zero (by simpa using h)) (List.length_pos_iff.2 h')
end Go.Proofs.Ytefeiogbaiodnaa

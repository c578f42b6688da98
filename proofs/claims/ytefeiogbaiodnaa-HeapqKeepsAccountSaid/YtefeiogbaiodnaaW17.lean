/- Walks of Change and Remove where they succeed; no condition. -/
import Derived.Test.YtefeiogbaiodnaaW16
namespace Go.Proofs.Ytefeiogbaiodnaa
open Go.RowKit

theorem flatE_set_name (l : List Ent) (k : Nat) (h : k < l.length) : (flatE l).set (k * 2) (.string (nth l k).name) = flatE l := by
  induction l generalizing k with
  | nil => simp at h
  | cons x l ih =>
    cases k with
    | zero => simp [flatE_cons, nth]
    | succ k =>
      have := ih k (by simpa using h)
      rw [flatE_cons, show (k + 1) * 2 = k * 2 + 1 + 1 by omega]
      simp only [List.set_cons_succ]
      rw [show nth (x :: l) (k + 1) = nth l k by simp [nth], this]
theorem RowE.putRank {w : World} {g cap : Nat} {l : List Ent} (h : RowE w g cap l) {i : Nat} (hi : i < l.length) (r : Int) :
    RowE (w.setCell ⟨g, i * 2 + 1, none⟩ (.int .i64 r)) g cap (l.set i ⟨(nth l i).name, r⟩) := by
  obtain ⟨cur, h1, h2, h3, h4, h5⟩ := h
  refine ⟨cur.setIfInBounds (i * 2 + 1) (.int .i64 r), ?_, by simpa using h2, by simpa using h3, h4, ?_⟩
  · simp [World.setCell, Array.getElem?_modify, h1]
  · rw [flatE_set, flatE_set_name l i hi, ← h5]
    simp only [Array.toList_setIfInBounds, List.length_set]
    rw [List.take_set]

set_option maxRecDepth 100000 in
set_option maxHeartbeats 1000000 in
theorem change_good (l : List Ent) (nm : ByteArray) (r : Int) (k : Nat) (v : Value) (w : World) (hl : EntS w v l) (h : qf l true = (0, 0)) (hk : idx l nm = k) (hkl : k < l.length) (hr : ¬ (r < -1000000 ∨ 1000000 < r)) : Calls Try.prog 31 #[v, .string nm, .int .i64 r] w (RetLF (settle (l.set k ⟨(nth l k).name, r⟩) k) (0, 0) w) := by
  have h200 : l.length ≤ 200 := qf_len (ord := true) (by rw [h])
  have HZ := Lib.hid h
  have HL := Lib.hid hl
  have HK := Lib.hid hk
  have hr1 : ¬ r < -1000000 := by omega
  have hr2 : ¬ 1000000 < r := by omega
  clear hl h hk hr
  go_enter Try.func31, Try.ntmps31
  go_wp2_with fail
  refine (validate_any l v _ (HL.out.ext (Ext.new _ _))).mono ?_
  rw [HZ.out]
  rintro e w1 ⟨rfl, hb⟩
  have K2 : Cel _ w.heap.size 0 (.int .i64 0) := Cel.ext (b := w.heap.size) (o := 0) (v := .int .i64 0) ⟨by simp, by simp⟩ hb
  have K3 : Cel _ w.heap.size 1 (.int .i64 0) := Cel.ext (b := w.heap.size) (o := 1) (v := .int .i64 0) ⟨by simp, by simp⟩ hb
  have HB := Lib.hid ((Ext.new w _).tr hb)
  clear hb
  go_wp2_with fail
  refine (find_t l nm _ _ (HL.out.ext (HB.out.alloc' _))).mono ?_
  rw [HK.out]
  rintro e w2 ⟨rfl, hb2⟩
  have hx := (Ext.new w1 (.cells #[.int .i64 0, .int .i64 0] 24)).tr hb2
  have K2' := Lib.hid (K2.ext hx)
  have K3' := Lib.hid (K3.ext hx)
  have HB2 := Lib.hid (HB.out.tr hx)
  have b0 : ¬ (k : Int) < 0 := by omega
  have b1 : (0 : Int) ≤ (k : Int) := by omega
  have b2 : (k : Int) < (l.length : Int) := by omega
  clear hx hb2 K2 K3
  go_wp2_with fail
  refine (clone_t l _ _ (HL.out.ext HB2.out) (by omega)).mono ?_
  rintro e w3 ⟨v3, rfl, ho3, hb3⟩
  obtain ⟨g, cap, rfl, hg, hr3⟩ := ho3.row (by omega)
  have hcc := hr3.cells k hkl
  rw [Nat.zero_add] at hcc
  have hc1 := hcc.2
  have hfz := hr3.froz (k * 2 + 1)
  have N2 := Lib.hid (K2'.out.ext hb3)
  have N3 := Lib.hid (K3'.out.ext hb3)
  have hlt : w.heap.size < w2.heap.size := World.block_lt_of_cell? w2 _ K2'.out.1
  have HB3 := Lib.hid (HB2.out.tr hb3)
  have HR3 := Lib.hid (hr3.putRank hkl r)
  have HLx := Lib.hid (show (l.set k ⟨(nth l k).name, r⟩).length = l.length by simp)
  clear hb3 ho3 hr3 hcc K2' K3'
  go_wp2_with fail
  have hu := settle_t (l.set k ⟨(nth l k).name, r⟩) k g cap _ HR3.out (by rw [HLx.out]; exact hkl) (by rw [HLx.out]; omega)
  rw [HLx.out] at hu
  refine hu.mono ?_
  rintro e w6 ⟨rfl, hr6, hg6⟩
  have hne : w.heap.size ≠ g := by omega
  have hgg : w3.grownBy w6 (some g) := G.tr (setCell_G ((Ext.rfl_ w3).toG _) _ _) hg6
  obtain ⟨p2, u2⟩ := N2.out.g hgg hne
  obtain ⟨p3, u3⟩ := N3.out.g hgg hne
  have HR6 := Lib.hid hr6
  have HB6 := Lib.hid (HB3.out.grow hgg (fun q hq => by injection hq with hq; subst hq; omega))
  clear hu hr6 hg6 hgg hc1 hfz
  go_wp2
  refine bodyPost_ret (v := .tuple #[.slice (some ⟨g, 0, none⟩) l.length cap, .agg #[.int .i64 0, .int .i64 0]]) (by simp [results, Try.results31, go_sem, p2, p3]) rfl ?_
  refine ⟨_, rfl, ?_, (HB6.out.set (by simp) _).set (by simp) _⟩
  have he := ((RowE.far (RowE.far HR6.out (p := ⟨w.heap.size, 0, none⟩) (Ne.symm hne) (.int .i64 0)) (p := ⟨w.heap.size, 1, none⟩) (Ne.symm hne) (.int .i64 0)).own (Nat.zero_le _)).ents
  rw [settle_len, HLx.out] at he
  exact he

set_option maxRecDepth 100000 in
set_option maxHeartbeats 1000000 in
theorem remove_good (l : List Ent) (nm : ByteArray) (k : Nat) (v : Value) (w : World) (hl : EntS w v l) (h : qf l true = (0, 0)) (hk : idx l nm = k) (hkl : k < l.length) : Calls Try.prog 32 #[v, .string nm] w (RetLF (woutQ l k) (0, 0) w) := by
  have h200 : l.length ≤ 200 := qf_len (ord := true) (by rw [h])
  have HZ := Lib.hid h
  have HL := Lib.hid hl
  have HK := Lib.hid hk
  clear hl h hk
  go_enter Try.func32, Try.ntmps32
  go_wp2_with fail
  refine (validate_any l v _ (HL.out.ext (Ext.new _ _))).mono ?_
  rw [HZ.out]
  rintro e w1 ⟨rfl, hb⟩
  have K2 : Cel _ w.heap.size 0 (.int .i64 0) := Cel.ext (b := w.heap.size) (o := 0) (v := .int .i64 0) ⟨by simp, by simp⟩ hb
  have K3 : Cel _ w.heap.size 1 (.int .i64 0) := Cel.ext (b := w.heap.size) (o := 1) (v := .int .i64 0) ⟨by simp, by simp⟩ hb
  have HB := Lib.hid ((Ext.new w _).tr hb)
  clear hb
  go_wp2_with fail
  refine (find_t l nm _ _ (HL.out.ext (HB.out.alloc' _))).mono ?_
  rw [HK.out]
  rintro e w2 ⟨rfl, hb2⟩
  have hx := (Ext.new w1 (.cells #[.int .i64 0, .int .i64 0] 24)).tr hb2
  have K2' := Lib.hid (K2.ext hx)
  have K3' := Lib.hid (K3.ext hx)
  have HB2 := Lib.hid (HB.out.tr hx)
  have b0 : ¬ (k : Int) < 0 := by omega
  clear hx hb2 K2 K3
  go_wp2_with fail
  refine (clone_t l _ _ (HL.out.ext HB2.out) (by omega)).mono ?_
  rintro e w3 ⟨v3, rfl, ho3, hb3⟩
  obtain ⟨g, cap, rfl, hg, hr3⟩ := ho3.row (by omega)
  have N2 := Lib.hid (K2'.out.ext hb3)
  have N3 := Lib.hid (K3'.out.ext hb3)
  have hlt : w.heap.size < w2.heap.size := World.block_lt_of_cell? w2 _ K2'.out.1
  have HB3 := Lib.hid (HB2.out.tr hb3)
  have HR3 := Lib.hid hr3
  clear hb3 ho3 hr3 K2' K3'
  go_wp2_with fail
  refine (without_t l k g cap _ HR3.out hkl (by omega)).mono ?_
  rintro e w6 ⟨rfl, hr6, hg6⟩
  have hne : w.heap.size ≠ g := by omega
  obtain ⟨p2, u2⟩ := N2.out.g hg6 hne
  obtain ⟨p3, u3⟩ := N3.out.g hg6 hne
  have HR6 := Lib.hid hr6
  have HB6 := Lib.hid (HB3.out.grow hg6 (fun q hq => by injection hq with hq; subst hq; omega))
  clear hr6 hg6
  go_wp2
  refine bodyPost_ret (v := .tuple #[.slice (some ⟨g, 0, none⟩) (l.length - 1) cap, .agg #[.int .i64 0, .int .i64 0]]) (by simp [results, Try.results32, go_sem, p2, p3]) rfl ?_
  refine ⟨_, rfl, ?_, (HB6.out.set (by simp) _).set (by simp) _⟩
  have he := ((RowE.far (RowE.far HR6.out (p := ⟨w.heap.size, 0, none⟩) (Ne.symm hne) (.int .i64 0)) (p := ⟨w.heap.size, 1, none⟩) (Ne.symm hne) (.int .i64 0)).own (Nat.zero_le _)).ents
  rw [woutQ_len] at he
  exact he
end Go.Proofs.Ytefeiogbaiodnaa

/- Walks of Change and Remove where they refuse; no condition. -/
import Derived.Test.YtefeiogbaiodnaaW15
namespace Go.Proofs.Ytefeiogbaiodnaa
open Go.RowKit

set_option maxRecDepth 100000 in
set_option maxHeartbeats 1000000 in
theorem change_bad (l : List Ent) (nm : ByteArray) (r : Int) (v : Value) (w : World) (hl : EntS w v l) (h : (qf l true).1 ≠ 0) : Calls Try.prog 31 #[v, .string nm, .int .i64 r] w (RetLF [] (qf l true) w) := by
  have HL := Lib.hid hl
  clear hl
  obtain ⟨f, hf⟩ : ∃ f, f = qf l true := ⟨_, rfl⟩
  rw [← hf] at h ⊢
  have hne : (f.1 != 0) = true := by simpa using h
  go_enter Try.func31, Try.ntmps31
  go_wp2_with fail
  refine (validate_any l v _ (HL.out.ext (Ext.new _ _))).mono ?_
  rintro e w1 ⟨rfl, hb⟩
  rw [← hf]
  obtain ⟨k2, z2⟩ := Cel.ext (b := w.heap.size) (o := 0) (v := .int .i64 0) ⟨by simp, by simp⟩ hb
  obtain ⟨k3, z3⟩ := Cel.ext (b := w.heap.size) (o := 1) (v := .int .i64 0) ⟨by simp, by simp⟩ hb
  have hs2 : w.heap.size < w1.heap.size := World.block_lt_of_cell? w1 _ k2
  have HB := Lib.hid ((Ext.new w _).tr hb)
  clear hb hf
  go_wp2_with fail
  go_region
  go_wp2
  refine bodyPost_ret (v := .tuple #[.slice none 0 0, .agg #[.int .i64 f.1, .int .i64 f.2]]) (by simp [results, Try.results31, go_sem, k2, k3, hs2]) rfl ?_
  exact ⟨_, rfl, EntS.nil_ _, (((HB.out.set (by simp) _).set (by simp) _).alloc' _).drew'⟩

set_option maxRecDepth 100000 in
set_option maxHeartbeats 1000000 in
theorem remove_bad (l : List Ent) (nm : ByteArray) (v : Value) (w : World) (hl : EntS w v l) (h : (qf l true).1 ≠ 0) : Calls Try.prog 32 #[v, .string nm] w (RetLF [] (qf l true) w) := by
  have HL := Lib.hid hl
  clear hl
  obtain ⟨f, hf⟩ : ∃ f, f = qf l true := ⟨_, rfl⟩
  rw [← hf] at h ⊢
  have hne : (f.1 != 0) = true := by simpa using h
  go_enter Try.func32, Try.ntmps32
  go_wp2_with fail
  refine (validate_any l v _ (HL.out.ext (Ext.new _ _))).mono ?_
  rintro e w1 ⟨rfl, hb⟩
  rw [← hf]
  obtain ⟨k2, z2⟩ := Cel.ext (b := w.heap.size) (o := 0) (v := .int .i64 0) ⟨by simp, by simp⟩ hb
  obtain ⟨k3, z3⟩ := Cel.ext (b := w.heap.size) (o := 1) (v := .int .i64 0) ⟨by simp, by simp⟩ hb
  have hs2 : w.heap.size < w1.heap.size := World.block_lt_of_cell? w1 _ k2
  have HB := Lib.hid ((Ext.new w _).tr hb)
  clear hb hf
  go_wp2_with fail
  go_region
  go_wp2
  refine bodyPost_ret (v := .tuple #[.slice none 0 0, .agg #[.int .i64 f.1, .int .i64 f.2]]) (by simp [results, Try.results32, go_sem, k2, k3, hs2]) rfl ?_
  exact ⟨_, rfl, EntS.nil_ _, (((HB.out.set (by simp) _).set (by simp) _).alloc' _).drew'⟩

set_option maxRecDepth 100000 in
set_option maxHeartbeats 1000000 in
theorem change_none (l : List Ent) (nm : ByteArray) (r : Int) (v : Value) (w : World) (hl : EntS w v l) (h : qf l true = (0, 0)) (hi : idx l nm < 0) : Calls Try.prog 31 #[v, .string nm, .int .i64 r] w (RetLF [] (12, -2) w) := by
  have HZ := Lib.hid h
  have HL := Lib.hid hl
  clear hl h
  go_enter Try.func31, Try.ntmps31
  go_wp2_with fail
  refine (validate_any l v _ (HL.out.ext (Ext.new _ _))).mono ?_
  rw [HZ.out]
  rintro e w1 ⟨rfl, hb⟩
  have K2 : Cel _ w.heap.size 0 (.int .i64 0) := Cel.ext (b := w.heap.size) (o := 0) (v := .int .i64 0) ⟨by simp, by simp⟩ hb
  have K3 : Cel _ w.heap.size 1 (.int .i64 0) := Cel.ext (b := w.heap.size) (o := 1) (v := .int .i64 0) ⟨by simp, by simp⟩ hb
  have HB := Lib.hid ((Ext.new w _).tr hb)
  clear hb
  go_wp2_with fail
  refine (find_t l nm _ _ (HL.out.ext (HB.out.alloc' _))).mono ?_
  rintro e w2 ⟨rfl, hb2⟩
  have hx := (Ext.new w1 (.cells #[.int .i64 0, .int .i64 0] 24)).tr hb2
  obtain ⟨k2, z2⟩ := K2.ext hx
  obtain ⟨k3, z3⟩ := K3.ext hx
  have HB2 := Lib.hid (HB.out.tr hx)
  clear hx hb2 K2 K3
  go_wp2
  refine bodyPost_ret (v := .tuple #[.slice none 0 0, .agg #[.int .i64 12, .int .i64 (-2)]]) (by simp [results, Try.results31, go_sem, k2, k3]) rfl ?_
  exact ⟨_, rfl, EntS.nil_ _, (HB2.out.set (by simp) _).set (by simp) _⟩

set_option maxRecDepth 100000 in
set_option maxHeartbeats 1000000 in
theorem remove_none (l : List Ent) (nm : ByteArray) (v : Value) (w : World) (hl : EntS w v l) (h : qf l true = (0, 0)) (hi : idx l nm < 0) : Calls Try.prog 32 #[v, .string nm] w (RetLF [] (12, -2) w) := by
  have HZ := Lib.hid h
  have HL := Lib.hid hl
  clear hl h
  go_enter Try.func32, Try.ntmps32
  go_wp2_with fail
  refine (validate_any l v _ (HL.out.ext (Ext.new _ _))).mono ?_
  rw [HZ.out]
  rintro e w1 ⟨rfl, hb⟩
  have K2 : Cel _ w.heap.size 0 (.int .i64 0) := Cel.ext (b := w.heap.size) (o := 0) (v := .int .i64 0) ⟨by simp, by simp⟩ hb
  have K3 : Cel _ w.heap.size 1 (.int .i64 0) := Cel.ext (b := w.heap.size) (o := 1) (v := .int .i64 0) ⟨by simp, by simp⟩ hb
  have HB := Lib.hid ((Ext.new w _).tr hb)
  clear hb
  go_wp2_with fail
  refine (find_t l nm _ _ (HL.out.ext (HB.out.alloc' _))).mono ?_
  rintro e w2 ⟨rfl, hb2⟩
  have hx := (Ext.new w1 (.cells #[.int .i64 0, .int .i64 0] 24)).tr hb2
  obtain ⟨k2, z2⟩ := K2.ext hx
  obtain ⟨k3, z3⟩ := K3.ext hx
  have HB2 := Lib.hid (HB.out.tr hx)
  clear hx hb2 K2 K3
  go_wp2
  refine bodyPost_ret (v := .tuple #[.slice none 0 0, .agg #[.int .i64 12, .int .i64 (-2)]]) (by simp [results, Try.results32, go_sem, k2, k3]) rfl ?_
  exact ⟨_, rfl, EntS.nil_ _, (HB2.out.set (by simp) _).set (by simp) _⟩

set_option maxRecDepth 100000 in
set_option maxHeartbeats 1000000 in
theorem change_rank (l : List Ent) (nm : ByteArray) (r : Int) (v : Value) (w : World) (hl : EntS w v l) (h : qf l true = (0, 0)) (hi : ¬ idx l nm < 0) (hr : r < -1000000 ∨ 1000000 < r) : Calls Try.prog 31 #[v, .string nm, .int .i64 r] w (RetLF [] (4, -3) w) := by
  have HZ := Lib.hid h
  have HL := Lib.hid hl
  clear hl h
  go_enter Try.func31, Try.ntmps31
  go_wp2_with fail
  refine (validate_any l v _ (HL.out.ext (Ext.new _ _))).mono ?_
  rw [HZ.out]
  rintro e w1 ⟨rfl, hb⟩
  have K2 : Cel _ w.heap.size 0 (.int .i64 0) := Cel.ext (b := w.heap.size) (o := 0) (v := .int .i64 0) ⟨by simp, by simp⟩ hb
  have K3 : Cel _ w.heap.size 1 (.int .i64 0) := Cel.ext (b := w.heap.size) (o := 1) (v := .int .i64 0) ⟨by simp, by simp⟩ hb
  have HB := Lib.hid ((Ext.new w _).tr hb)
  clear hb
  go_wp2_with fail
  refine (find_t l nm _ _ (HL.out.ext (HB.out.alloc' _))).mono ?_
  rintro e w2 ⟨rfl, hb2⟩
  have hx := (Ext.new w1 (.cells #[.int .i64 0, .int .i64 0] 24)).tr hb2
  obtain ⟨k2, z2⟩ := K2.ext hx
  obtain ⟨k3, z3⟩ := K3.ext hx
  have HB2 := Lib.hid (HB.out.tr hx)
  clear hx hb2 K2 K3
  by_cases hr1 : r < -1000000
  · clear hr
    go_wp2
    refine bodyPost_ret (v := .tuple #[.slice none 0 0, .agg #[.int .i64 4, .int .i64 (-3)]]) (by simp [results, Try.results31, go_sem, k2, k3]) rfl ?_
    exact ⟨_, rfl, EntS.nil_ _, (HB2.out.set (by simp) _).set (by simp) _⟩
  · have hr2 : 1000000 < r := by omega
    clear hr
    go_wp2
    refine bodyPost_ret (v := .tuple #[.slice none 0 0, .agg #[.int .i64 4, .int .i64 (-3)]]) (by simp [results, Try.results31, go_sem, k2, k3]) rfl ?_
    exact ⟨_, rfl, EntS.nil_ _, (HB2.out.set (by simp) _).set (by simp) _⟩
end Go.Proofs.Ytefeiogbaiodnaa

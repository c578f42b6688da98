/- The walk of HeapqChangeMatchesSpec where the calls refuse; no condition. -/
import Derived.Test.YtefeiogbaiodnaaW17
import Derived.Test.YtefeiogbaiodnaaHeap3
namespace Go.Proofs.Ytefeiogbaiodnaa
open Go.RowKit

theorem eqF_refl8 (a b : Int) : eqF a b a b = true := by simp [eqF]

set_option maxRecDepth 100000 in
set_option maxHeartbeats 2000000 in
theorem changeLaw_bad (l : List Ent) (nm : ByteArray) (r : Int) (v : Value) (w : World) (hl : EntS w v l) (hbad : (qf l true).1 ≠ 0) : Calls Try.prog 8 #[v, .string nm, .int .i64 r] w fun e w' => e = .returned (.bool true) ∧ Ext w w' := by
  have HL := Lib.hid hl
  clear hl
  have heq := run_eqlF
  have hes := eqF_refl8
  obtain ⟨f, hf⟩ : ∃ f, f = qf l true := ⟨_, rfl⟩
  have HF := Lib.hid hf
  have hne : (f.1 != 0) = true := by rw [hf]; simpa using hbad
  have hne2 : (f.1 == 0) = false := by rw [hf]; simpa using hbad
  have HBad := Lib.hid hbad
  clear hf hbad
  go_enter Try.func8, Try.ntmps8
  go_wp2_with fail
  refine (change_bad l nm r _ _ HL.out HBad.out).mono ?_
  rw [← HF.out]
  rintro e w1 ⟨v1, rfl, hs1, hb1⟩
  obtain ⟨A1, c1, rfl, _, _⟩ := hs1.out
  have HB1 := Lib.hid hb1
  clear hb1 hs1
  go_wp2_with fail
  refine (remove_bad l nm _ _ (HL.out.ext (HB1.out.alloc' _)) HBad.out).mono ?_
  rw [← HF.out]
  rintro e w2 ⟨v2, rfl, hs2, hb2⟩
  obtain ⟨A2, c2, rfl, _, _⟩ := hs2.out
  have k0 := hb2.cellAt (b := w1.heap.size) (o := 0) (v := .int .i64 f.1) (by simp)
  have k1 := hb2.cellAt (b := w1.heap.size) (o := 1) (v := .int .i64 f.2) (by simp)
  have HB2 := Lib.hid ((HB1.out.alloc' _).tr hb2)
  clear hb2 hs2
  go_wp2_with fail
  refine (queueFault_any l true _ _ (HL.out.ext (HB2.out.alloc' _))).mono ?_
  rw [← HF.out]
  rintro e w3 ⟨rfl, hb3⟩
  have hx := (Ext.new w2 (.cells #[.int .i64 f.1, .int .i64 f.2] 24)).tr hb3
  have m0 := hx.cellAt k0
  have m1 := hx.cellAt k1
  have m2 := hb3.cellAt (b := w2.heap.size) (o := 0) (v := .int .i64 f.1) (by simp)
  have m3 := hb3.cellAt (b := w2.heap.size) (o := 1) (v := .int .i64 f.2) (by simp)
  have q1 : w1.heap.size < w3.heap.size := World.block_lt_of_cell? w3 _ m0
  have q2 : w2.heap.size < w3.heap.size := World.block_lt_of_cell? w3 _ m2
  have HB3 := Lib.hid (HB2.out.tr hx)
  clear hb3 hx k0 k1
  go_wp2_with fail
  refine (entry_any l nm _ _ (HL.out.ext (HB3.out.alloc' _))).mono ?_
  rintro e w4 ⟨rfl, rfl⟩
  go_wp2_with fail
  refine (queued_t _).mono ?_
  rintro e w5 ⟨rfl, hb5⟩
  have HB5 := Lib.hid ((HB3.out.alloc' _).tr hb5)
  clear hb5
  go_wp2
  go_ret
  exact ⟨rfl, HB5.out⟩

set_option maxRecDepth 100000 in
set_option maxHeartbeats 2000000 in
theorem changeLaw_none (l : List Ent) (nm : ByteArray) (r : Int) (v : Value) (w : World) (hl : EntS w v l) (h : qf l true = (0, 0)) (hi : idx l nm < 0) : Calls Try.prog 8 #[v, .string nm, .int .i64 r] w fun e w' => e = .returned (.bool true) ∧ Ext w w' := by
  have HL := Lib.hid hl
  have HZ := Lib.hid h
  have HI := Lib.hid hi
  clear hl h
  have heq := run_eqlF
  have hes := eqF_refl8
  go_enter Try.func8, Try.ntmps8
  go_wp2_with fail
  refine (change_none l nm r _ _ HL.out HZ.out HI.out).mono ?_
  rintro e w1 ⟨v1, rfl, hs1, hb1⟩
  obtain ⟨A1, c1, rfl, _, _⟩ := hs1.out
  have HB1 := Lib.hid hb1
  clear hb1 hs1
  go_wp2_with fail
  refine (remove_none l nm _ _ (HL.out.ext (HB1.out.alloc' _)) HZ.out HI.out).mono ?_
  rintro e w2 ⟨v2, rfl, hs2, hb2⟩
  obtain ⟨A2, c2, rfl, _, _⟩ := hs2.out
  have k0 := hb2.cellAt (b := w1.heap.size) (o := 0) (v := .int .i64 12) (by simp)
  have k1 := hb2.cellAt (b := w1.heap.size) (o := 1) (v := .int .i64 (-2)) (by simp)
  have HB2 := Lib.hid ((HB1.out.alloc' _).tr hb2)
  clear hb2 hs2
  go_wp2_with fail
  refine (queueFault_any l true _ _ (HL.out.ext (HB2.out.alloc' _))).mono ?_
  rw [HZ.out]
  rintro e w3 ⟨rfl, hb3⟩
  have hx := (Ext.new w2 (.cells #[.int .i64 12, .int .i64 (-2)] 24)).tr hb3
  have m0 := hx.cellAt k0
  have m1 := hx.cellAt k1
  have m2 := hb3.cellAt (b := w2.heap.size) (o := 0) (v := .int .i64 12) (by simp)
  have m3 := hb3.cellAt (b := w2.heap.size) (o := 1) (v := .int .i64 (-2)) (by simp)
  have q1 : w1.heap.size < w3.heap.size := World.block_lt_of_cell? w3 _ m0
  have q2 : w2.heap.size < w3.heap.size := World.block_lt_of_cell? w3 _ m2
  have HB3 := Lib.hid (HB2.out.tr hx)
  clear hb3 hx k0 k1
  go_wp2_with fail
  refine (entry_any l nm _ _ (HL.out.ext (HB3.out.alloc' _))).mono ?_
  rintro e w4 ⟨rfl, rfl⟩
  go_wp2_with fail
  refine (at_any _ _ _).mono ?_
  rintro e w4 ⟨rfl, hb4⟩
  obtain ⟨n4, z4⟩ := Cel.ext (b := w3.heap.size) (o := 0) (v := .int .i64 0) ⟨by simp, by simp⟩ hb4
  obtain ⟨n5, z5⟩ := Cel.ext (b := w3.heap.size) (o := 1) (v := .int .i64 0) ⟨by simp, by simp⟩ hb4
  have hx := (Ext.new w3 (.cells #[.int .i64 0, .int .i64 0] 24)).tr hb4
  have n0 := hx.cellAt m0
  have n1 := hx.cellAt m1
  have n2 := hx.cellAt m2
  have n3 := hx.cellAt m3
  have hs : w.heap.size ≤ w3.heap.size := HB3.out.size
  have ne1 : w1.heap.size ≠ w3.heap.size := by omega
  have ne2 : w2.heap.size ≠ w3.heap.size := by omega
  have HB4 := Lib.hid (((HB3.out.tr hx).set hs (p := ⟨w3.heap.size, 0, none⟩) (.int .i64 12)).set hs (p := ⟨w3.heap.size, 1, none⟩) (.int .i64 (-2)))
  clear hx hb4 m0 m1 m2 m3
  go_wp2_with fail
  refine (queued_t _).mono ?_
  rintro e w5 ⟨rfl, hb5⟩
  have HB5 := Lib.hid (HB4.out.tr hb5)
  clear hb5
  go_wp2
  go_ret
  exact ⟨rfl, HB5.out⟩
end Go.Proofs.Ytefeiogbaiodnaa

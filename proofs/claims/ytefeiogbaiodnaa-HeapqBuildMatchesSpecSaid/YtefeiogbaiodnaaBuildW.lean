/- The walk of HeapqBuildMatchesSpec: it returns true; no condition. -/
import Derived.Test.YtefeiogbaiodnaaW12
namespace Go.Proofs.Ytefeiogbaiodnaa
open Go.RowKit

theorem eqF_self (a b : Int) : eqF a b a b = true := by simp [eqF]

set_option maxRecDepth 100000 in
set_option maxHeartbeats 2000000 in
theorem buildLaw_bad (l : List Ent) (v : Value) (w : World) (hl : EntS w v l) (hbad : (qf l false).1 ≠ 0) : Calls Try.prog 3 #[v] w fun e w' => e = .returned (.bool true) ∧ Ext w w' := by
  have HL := Lib.hid hl
  clear hl
  have hnq := run_neqF
  have heq := run_eqlF
  have hes := eqF_self
  obtain ⟨f, hf⟩ : ∃ f, f = qf l true := ⟨_, rfl⟩
  obtain ⟨h, hh⟩ : ∃ h, h = qf l false := ⟨_, rfl⟩
  have HF := Lib.hid hf
  have HH := Lib.hid hh
  have hne : (h.1 != 0) = true := by rw [hh]; simpa using hbad
  have hbad' : (qf l false).1 ≠ 0 := hbad
  have HBad := Lib.hid hbad'
  clear hf hh hbad hbad'
  go_enter Try.func3, Try.ntmps3
  go_wp2_with fail
  refine (validate_any l _ _ HL.out).mono ?_
  rw [← HF.out]
  rintro e w1 ⟨rfl, hb1⟩
  have HB1 := Lib.hid hb1
  clear hb1
  go_wp2_with fail
  refine (queueFault_any l true _ _ (HL.out.ext HB1.out)).mono ?_
  rw [← HF.out]
  rintro e w2 ⟨rfl, hb2⟩
  have HB2 := Lib.hid (HB1.out.tr hb2)
  clear hb2
  go_wp2_with fail
  refine (build_bad l _ _ (HL.out.ext HB2.out) HBad.out).mono ?_
  rw [← HH.out]
  rintro e w3 ⟨v3, rfl, hs3, hb3⟩
  obtain ⟨A3, c3, rfl, _, _⟩ := hs3.out
  have HB3 := Lib.hid (HB2.out.tr hb3)
  clear hb3 hs3
  go_wp2_with fail
  refine (queueFault_any l false _ _ (HL.out.ext (HB3.out.alloc' _))).mono ?_
  rw [← HH.out]
  rintro e w4 ⟨rfl, hb4⟩
  have c0 := hb4.cellAt (b := w3.heap.size) (o := 0) (v := .int .i64 h.1) (by simp)
  have c1 := hb4.cellAt (b := w3.heap.size) (o := 1) (v := .int .i64 h.2) (by simp)
  have hs4 : w3.heap.size < w4.heap.size := World.block_lt_of_cell? w4 _ c0
  have HB4 := Lib.hid ((HB3.out.alloc' _).tr hb4)
  clear hb4
  go_wp2_with fail
  refine (queued_t _).mono ?_
  rintro e w5 ⟨rfl, hb5⟩
  have HB5 := Lib.hid ((HB4.out.alloc' _).tr hb5)
  clear hb5
  go_wp2
  go_ret
  exact ⟨rfl, HB5.out⟩

set_option maxRecDepth 100000 in
set_option maxHeartbeats 2000000 in
theorem buildLaw_good (l : List Ent) (v : Value) (w : World) (hl : EntS w v l) (hgood : (qf l false).1 = 0) : Calls Try.prog 3 #[v] w fun e w' => e = .returned (.bool true) ∧ Ext w w' := by
  have HL := Lib.hid hl
  clear hl
  have hnq := run_neqF
  have heq := run_eqlF
  have hes := eqF_self
  obtain ⟨f, hf⟩ : ∃ f, f = qf l true := ⟨_, rfl⟩
  have HF := Lib.hid hf
  have HZ := Lib.hid (qf_zero hgood)
  have HLaw := Lib.hid (build_law hgood)
  have h200 : l.length ≤ 200 := qf_len hgood
  clear hf hgood
  go_enter Try.func3, Try.ntmps3
  go_wp2_with fail
  refine (validate_any l _ _ HL.out).mono ?_
  rw [← HF.out]
  rintro e w1 ⟨rfl, hb1⟩
  have HB1 := Lib.hid hb1
  clear hb1
  go_wp2_with fail
  refine (queueFault_any l true _ _ (HL.out.ext HB1.out)).mono ?_
  rw [← HF.out]
  rintro e w2 ⟨rfl, hb2⟩
  have HB2 := Lib.hid (HB1.out.tr hb2)
  clear hb2
  go_wp2_with fail
  refine (build_good l _ _ (HL.out.ext HB2.out) HZ.out).mono ?_
  rintro e w3 ⟨v3, rfl, hs3, hb3⟩
  have HS3 := Lib.hid hs3
  have HB3 := Lib.hid (HB2.out.tr hb3)
  clear hb3 hs3
  go_wp2_with fail
  refine (queueFault_any l false _ _ (HL.out.ext (HB3.out.alloc' _))).mono ?_
  rw [HZ.out]
  rintro e w4 ⟨rfl, hb4⟩
  have c0 := hb4.cellAt (b := w3.heap.size) (o := 0) (v := .int .i64 0) (by simp)
  have c1 := hb4.cellAt (b := w3.heap.size) (o := 1) (v := .int .i64 0) (by simp)
  have hs4 : w3.heap.size < w4.heap.size := World.block_lt_of_cell? w4 _ c0
  have HS4 := Lib.hid (HS3.out.ext (((Ext.new w3 _).tr hb4).alloc' (.cells #[.int .i64 0, .int .i64 0] 24)))
  have HB4 := Lib.hid ((HB3.out.alloc' _).tr hb4)
  clear hb4
  go_wp2_with fail
  refine (queue_t (build l) l _ _ _ HS4.out (HL.out.ext (HB4.out.alloc' _)) (by omega)).mono ?_
  rw [show (decide ((qf (build l) true).1 = 0) && decide (sorted (build l) = sorted l)) = true by simp [HLaw.out.1, HLaw.out.2]]
  rintro e w5 ⟨rfl, hb5⟩
  have HB5 := Lib.hid ((HB4.out.alloc' _).tr hb5)
  clear hb5
  go_wp2_with fail
  refine (queued_t _).mono ?_
  rintro e w6 ⟨rfl, hb6⟩
  have HB6 := Lib.hid (HB5.out.tr hb6)
  clear hb6
  go_wp2
  go_ret
  exact ⟨rfl, HB6.out⟩

theorem buildLaw_t (l : List Ent) (v : Value) (w : World) (hl : EntS w v l) : Calls Try.prog 3 #[v] w fun e w' => e = .returned (.bool true) ∧ Ext w w' := by
  by_cases h : (qf l false).1 = 0
  · exact buildLaw_good l v w hl h
  · exact buildLaw_bad l v w hl h
end Go.Proofs.Ytefeiogbaiodnaa

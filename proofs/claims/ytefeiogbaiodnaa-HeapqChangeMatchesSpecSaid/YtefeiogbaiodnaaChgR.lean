/- The walk of HeapqChangeMatchesSpec: it returns true; no condition. -/
import Derived.Test.YtefeiogbaiodnaaChgW
namespace Go.Proofs.Ytefeiogbaiodnaa
open Go.RowKit

set_option maxRecDepth 100000 in
set_option maxHeartbeats 4000000 in
theorem changeLaw_rank (l : List Ent) (nm : ByteArray) (r : Int) (k : Nat) (v : Value) (w : World) (hl : EntS w v l) (h : qf l true = (0, 0)) (hk : idx l nm = k) (hkl : k < l.length) (_hnm : (nth l k).name = nm) (hr : r < -1000000 ∨ 1000000 < r) : Calls Try.prog 8 #[v, .string nm, .int .i64 r] w fun e w' => e = .returned (.bool true) ∧ Ext w w' := by
  obtain ⟨i0, hi0, hz0, hz1, hz2⟩ := info_parts info40
  have h200 : l.length ≤ 200 := qf_len (ord := true) (by rw [h])
  have HL := Lib.hid hl
  have HZ := Lib.hid h
  have HK := Lib.hid hk
  have HR := Lib.hid hr
  have HQ1 := Lib.hid (remove_law (by rw [h]) hkl)
  have heq := run_eqlF
  have hes := eqF_refl8
  have hin : ¬ idx l nm < 0 := by omega
  have HI := Lib.hid hin
  obtain ⟨b, hb⟩ : ∃ b, b = decide ((-1000000 : Int) ≤ r ∧ r ≤ 1000000) := ⟨_, rfl⟩
  have hbt : b = false := by rw [hb]; simp; omega
  have HBb := Lib.hid hb
  have b0 : ¬ (k : Int) < 0 := by omega
  clear hl h hk hr hb hin
  go_enter Try.func8, Try.ntmps8
  go_wp2_with fail
  refine (change_rank l nm r _ _ HL.out HZ.out (by have := HI.out; omega) (by have := HR.out; omega)).mono ?_
  rintro e w1 ⟨v1, rfl, hs1, hb1⟩
  obtain ⟨A1, c1, rfl, _, _⟩ := hs1.out
  have HB1 := Lib.hid hb1
  have HS1 := Lib.hid hs1
  clear hb1 hs1
  go_wp2_with fail
  refine (remove_good l nm k _ _ (HL.out.ext (HB1.out.alloc' _)) HZ.out HK.out hkl).mono ?_
  rintro e w2 ⟨v2, rfl, hs2, hb2⟩
  have hx := (Ext.new w1 (.cells #[.int .i64 4, .int .i64 (-3)] 24)).tr hb2
  have k0 := hb2.cellAt (b := w1.heap.size) (o := 0) (v := .int .i64 4) (by simp)
  have k1 := hb2.cellAt (b := w1.heap.size) (o := 1) (v := .int .i64 (-3)) (by simp)
  have HB2 := Lib.hid (HB1.out.tr hx)
  have HS12 := Lib.hid (HS1.out.ext hx)
  have HS2 := Lib.hid hs2
  clear hb2 hs2 hx
  go_wp2_with fail
  refine (queueFault_any l true _ _ (HL.out.ext (HB2.out.alloc' _))).mono ?_
  rw [HZ.out]
  rintro e w3 ⟨rfl, hb3⟩
  have hx := (Ext.new w2 (.cells #[.int .i64 0, .int .i64 0] 24)).tr hb3
  have m0 := hx.cellAt k0
  have m1 := hx.cellAt k1
  have m2 := hb3.cellAt (b := w2.heap.size) (o := 0) (v := .int .i64 0) (by simp)
  have q1 : w1.heap.size < w3.heap.size := World.block_lt_of_cell? w3 _ m0
  have q2 : w2.heap.size < w3.heap.size := World.block_lt_of_cell? w3 _ m2
  have HB3 := Lib.hid (HB2.out.tr hx)
  have HS13 := Lib.hid (HS12.out.ext hx)
  have HS23 := Lib.hid (HS2.out.ext hx)
  clear hb3 hx k0 k1
  go_wp2_with fail
  refine (entry_any l nm _ _ (HL.out.ext (HB3.out.alloc' _))).mono ?_
  rw [HK.out]
  rintro e w4 ⟨rfl, rfl⟩
  go_wp2_with fail
  refine (refWithout_t l k _ _ (HL.out.ext (HB3.out.alloc' _)) hkl (by omega)).mono ?_
  rintro e w5 ⟨v5, rfl, ho5, hb5⟩
  have hx := (Ext.new w3 (.cells #[.int .i64 0, .int .i64 0] 24)).tr hb5
  have n0 := hx.cellAt m0
  have n1 := hx.cellAt m1
  have HB5 := Lib.hid (HB3.out.tr hx)
  have HS15 := Lib.hid (HS13.out.ext hx)
  have HS25 := Lib.hid (HS23.out.ext hx)
  have HO5 := Lib.hid ho5
  clear ho5 hb5 hx m0 m1 m2
  go_wp2_with fail
  refine (queue_t (woutQ l k) (wout l k) _ _ _ HS25.out HO5.out.ents (by rw [wout_len hkl]; omega)).mono ?_
  rw [show (decide ((qf (woutQ l k) true).1 = 0) && decide (sorted (woutQ l k) = sorted (wout l k))) = true by simp [HQ1.out.1, HQ1.out.2]]
  rintro e w6 ⟨rfl, hb6⟩
  have p0 := hb6.cellAt n0
  have p1 := hb6.cellAt n1
  have HB6 := Lib.hid (HB5.out.tr hb6)
  have HS16 := Lib.hid (HS15.out.ext hb6)
  clear hb6 n0 n1
  go_wp2_with fail
  refine (in_any _ _ _ _).mono ?_
  rw [← HBb.out]
  rintro e w7 ⟨rfl, rfl⟩
  subst hbt
  go_wp2_with fail
  go_region_held3 (fun w' => w'.cell? ⟨w1.heap.size, 0, none⟩ = some (.int .i64 4) ∧ w'.cell? ⟨w1.heap.size, 1, none⟩ = some (.int .i64 (-3)))
    (first | exact ⟨hz.cellAt p0, hz.cellAt p1⟩ | exact ⟨hy.cellAt p0, hy.cellAt p1⟩ | exact ⟨p0, p1⟩ | go_keep)
    (first | (go_at_call 22; refine (at_any _ _ _).mono ?_; rintro e w8 ⟨rfl, hb8⟩; have hy : Ext w6 w8 := hb8.re) | (go_at_call 13; refine (queued_t _).mono ?_; rintro e w9 ⟨rfl, hb9⟩; have hz : Ext w6 w9 := hy.tr hb9))
  all_goals
    have HB9 := Lib.hid (HB6.out.tr hz)
    clear hz hy hb8 hb9
    go_wp2
    go_ret
    exact ⟨by simp, HB9.out⟩

theorem changeLaw_t (l : List Ent) (nm : ByteArray) (r : Int) (v : Value) (w : World) (hl : EntS w v l) : Calls Try.prog 8 #[v, .string nm, .int .i64 r] w fun e w' => e = .returned (.bool true) ∧ Ext w w' := by
  by_cases h : (qf l true).1 = 0
  · rcases idx_spec l nm with ⟨h1, _⟩ | ⟨k, h1, h2, h3, _⟩
    · exact changeLaw_none l nm r v w hl (qf_zero h) (by omega)
    · by_cases hr : r < -1000000 ∨ 1000000 < r
      · exact changeLaw_rank l nm r k v w hl (qf_zero h) h1 h2 h3 hr
      · exact changeLaw_good l nm r k v w hl (qf_zero h) h1 h2 h3 hr
  · exact changeLaw_bad l nm r v w hl h
end Go.Proofs.Ytefeiogbaiodnaa

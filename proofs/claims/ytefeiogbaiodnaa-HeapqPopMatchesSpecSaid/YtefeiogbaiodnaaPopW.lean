/- The walk of HeapqPopMatchesSpec: it returns true; no condition. -/
import Derived.Test.YtefeiogbaiodnaaW13
namespace Go.Proofs.Ytefeiogbaiodnaa
open Go.RowKit

theorem eqF_self (a b : Int) : eqF a b a b = true := by simp [eqF]
theorem eqB_self (a : Ent) : eqB a a = true := by simp [eqB]

set_option maxRecDepth 100000 in
set_option maxHeartbeats 2000000 in
theorem popLaw_bad (l : List Ent) (v : Value) (w : World) (hl : EntS w v l) (hbad : (qf l true).1 ≠ 0) : Calls Try.prog 5 #[v] w fun e w' => e = .returned (.bool true) ∧ Ext w w' := by
  have HL := Lib.hid hl
  clear hl
  have hnq := run_neqF
  have heq := run_eqlF
  have hes := eqF_self
  have heB := run_eqlE
  have heBs : eqB { name := { data := #[] }, rank := 0 } { name := { data := #[] }, rank := 0 } = true := eqB_self _
  obtain ⟨f, hf⟩ : ∃ f, f = qf l true := ⟨_, rfl⟩
  have HF := Lib.hid hf
  have hne : (f.1 != 0) = true := by rw [hf]; simpa using hbad
  have hne2 : (f.1 == 0) = false := by rw [hf]; simpa using hbad
  have HBad := Lib.hid hbad
  clear hf hbad
  go_enter Try.func5, Try.ntmps5
  go_wp2_with fail
  refine (pop_bad l _ _ HL.out HBad.out).mono ?_
  rw [← HF.out]
  rintro e w1 ⟨v1, rfl, hs1, hb1⟩
  obtain ⟨A1, c1, rfl, _, _⟩ := hs1.out
  have HB1 := Lib.hid hb1
  clear hb1 hs1
  simp only [E0]
  go_wp2_with fail
  refine (drain_bad l _ _ (HL.out.ext ((HB1.out.alloc' _).alloc' _)) HBad.out).mono ?_
  rw [← HF.out]
  rintro e w2 ⟨v2, rfl, hs2, hb2⟩
  obtain ⟨A2, c2, rfl, _, _⟩ := hs2.out
  have k0 := hb2.cellAt (b := w1.heap.size) (o := 0) (v := .string ⟨#[]⟩) (by simp; rfl)
  have k1 := hb2.cellAt (b := w1.heap.size) (o := 1) (v := .int .i64 0) (by simp)
  have k2 := hb2.cellAt (b := w1.heap.size + 1) (o := 0) (v := .int .i64 f.1) (by simp)
  have k3 := hb2.cellAt (b := w1.heap.size + 1) (o := 1) (v := .int .i64 f.2) (by simp)
  have HB2 := Lib.hid (((HB1.out.alloc' _).alloc' _).tr hb2)
  clear hb2 hs2
  go_wp2_with fail
  refine (queueFault_any l true _ _ (HL.out.ext (HB2.out.alloc' _))).mono ?_
  rw [← HF.out]
  rintro e w3 ⟨rfl, hb3⟩
  have m0 := ((Ext.new w2 _).tr hb3).cellAt k0
  have m1 := ((Ext.new w2 _).tr hb3).cellAt k1
  have m2 := ((Ext.new w2 _).tr hb3).cellAt k2
  have m3 := ((Ext.new w2 _).tr hb3).cellAt k3
  have m4 := hb3.cellAt (b := w2.heap.size) (o := 0) (v := .int .i64 f.1) (by simp)
  have m5 := hb3.cellAt (b := w2.heap.size) (o := 1) (v := .int .i64 f.2) (by simp)
  have q1 : w1.heap.size < w3.heap.size := World.block_lt_of_cell? w3 _ m0
  have q2 : w1.heap.size + 1 < w3.heap.size := World.block_lt_of_cell? w3 _ m2
  have q3 : w2.heap.size < w3.heap.size := World.block_lt_of_cell? w3 _ m4
  have HB3 := Lib.hid ((HB2.out.alloc' _).tr hb3)
  clear hb3 k0 k1 k2 k3
  go_wp2_with fail
  refine (queued_t _).mono ?_
  rintro e w5 ⟨rfl, hb5⟩
  have HB5 := Lib.hid ((HB3.out.alloc' _).tr hb5)
  clear hb5
  go_wp2
  go_ret
  exact ⟨rfl, HB5.out⟩

set_option maxRecDepth 100000 in
set_option maxHeartbeats 2000000 in
theorem popLaw_none (v : Value) (w : World) (hl : EntS w v []) : Calls Try.prog 5 #[v] w fun e w' => e = .returned (.bool true) ∧ Ext w w' := by
  obtain ⟨A, c, rfl, _, _⟩ := hl.out
  have HL := Lib.hid hl
  clear hl
  have hnq := run_neqF
  have heq := run_eqlF
  have hes := eqF_self
  have heB := run_eqlE
  have heBs : eqB { name := { data := #[] }, rank := 0 } { name := { data := #[] }, rank := 0 } = true := eqB_self _
  go_enter Try.func5, Try.ntmps5
  go_wp2_with fail
  refine (pop_none _ _ HL.out).mono ?_
  rintro e w1 ⟨v1, rfl, hs1, hb1⟩
  obtain ⟨A1, c1, rfl, _, _⟩ := hs1.out
  have HB1 := Lib.hid hb1
  clear hb1 hs1
  simp only [E0]
  go_wp2_with fail
  refine (drain_good [] _ _ (HL.out.ext ((HB1.out.alloc' _).alloc' _)) rfl).mono ?_
  rintro e w2 ⟨v2, rfl, hs2, hb2⟩
  have HS2 := Lib.hid hs2
  have k0 := hb2.cellAt (b := w1.heap.size) (o := 0) (v := .string ⟨#[]⟩) (by simp; rfl)
  have k1 := hb2.cellAt (b := w1.heap.size) (o := 1) (v := .int .i64 0) (by simp)
  have k2 := hb2.cellAt (b := w1.heap.size + 1) (o := 0) (v := .int .i64 10) (by simp)
  have k3 := hb2.cellAt (b := w1.heap.size + 1) (o := 1) (v := .int .i64 (-1)) (by simp)
  have HB2 := Lib.hid (((HB1.out.alloc' _).alloc' _).tr hb2)
  clear hb2 hs2
  go_wp2_with fail
  refine (queueFault_any [] true _ _ (HL.out.ext (HB2.out.alloc' _))).mono ?_
  rw [show qf [] true = (0, 0) from rfl]
  rintro e w3 ⟨rfl, hb3⟩
  have m0 := ((Ext.new w2 _).tr hb3).cellAt k0
  have m1 := ((Ext.new w2 _).tr hb3).cellAt k1
  have m2 := ((Ext.new w2 _).tr hb3).cellAt k2
  have m3 := ((Ext.new w2 _).tr hb3).cellAt k3
  have m4 := hb3.cellAt (b := w2.heap.size) (o := 0) (v := .int .i64 0) (by simp)
  have m5 := hb3.cellAt (b := w2.heap.size) (o := 1) (v := .int .i64 0) (by simp)
  have q1 : w1.heap.size < w3.heap.size := World.block_lt_of_cell? w3 _ m0
  have q2 : w1.heap.size + 1 < w3.heap.size := World.block_lt_of_cell? w3 _ m2
  have q3 : w2.heap.size < w3.heap.size := World.block_lt_of_cell? w3 _ m4
  have HS3 := Lib.hid (HS2.out.ext (((Ext.new w2 _).tr hb3).alloc' (.cells #[.int .i64 0, .int .i64 0] 24)))
  have HB3 := Lib.hid ((HB2.out.alloc' _).tr hb3)
  clear hb3 k0 k1 k2 k3
  go_wp2_with fail
  refine (sorted_t [] _ _ (HL.out.ext (HB3.out.alloc' _)) (by decide)).mono ?_
  rintro e w4 ⟨v4, rfl, ho4, hb4⟩
  go_wp2_with fail
  refine (entries_any (drain []) (sorted []) _ _ _ (HS3.out.ext hb4) ho4.ents).mono ?_
  rw [show decide (drain [] = sorted []) = true from rfl]
  rintro e w5 ⟨rfl, hb5⟩
  have hx := hb4.tr hb5
  have n0 := ((Ext.new w3 _).tr hx).cellAt m0
  have n1 := ((Ext.new w3 _).tr hx).cellAt m1
  have n2 := ((Ext.new w3 _).tr hx).cellAt m2
  have n3 := ((Ext.new w3 _).tr hx).cellAt m3
  obtain ⟨n4, f4⟩ := Cel.ext (b := w3.heap.size) (o := 0) (v := .int .i64 0) ⟨by simp, by simp⟩ hx
  obtain ⟨n5, f5⟩ := Cel.ext (b := w3.heap.size) (o := 1) (v := .int .i64 0) ⟨by simp, by simp⟩ hx
  have HB5 := Lib.hid ((HB3.out.alloc' _).tr hx)
  clear hb4 hb5 hx m0 m1 m2 m3 m4 m5 ho4
  go_wp2_with fail
  refine (at_any _ _ _).mono ?_
  rintro e w6 ⟨rfl, hb6⟩
  have r0 := hb6.cellAt n0
  have r1 := hb6.cellAt n1
  have r2 := hb6.cellAt n2
  have r3 := hb6.cellAt n3
  obtain ⟨r4, g4⟩ := Cel.ext ⟨n4, f4⟩ hb6
  obtain ⟨r5, g5⟩ := Cel.ext ⟨n5, f5⟩ hb6
  have HB6 := Lib.hid (HB5.out.tr hb6)
  have hsz : w.heap.size ≤ w3.heap.size := HB3.out.size
  have ne1 : w1.heap.size ≠ w3.heap.size := by omega
  have ne2 : w1.heap.size + 1 ≠ w3.heap.size := by omega
  clear hb6 n0 n1 n2 n3 n4 n5 f4 f5
  go_wp2_with fail
  refine (queued_t _).mono ?_
  rintro e w7 ⟨rfl, hb7⟩
  have HB7 := Lib.hid (((HB6.out.set hsz _).set hsz _).tr hb7)
  clear hb7
  go_wp2
  go_ret
  exact ⟨rfl, HB7.out⟩

set_option maxRecDepth 100000 in
set_option maxHeartbeats 2000000 in
theorem popLaw_good (l : List Ent) (v : Value) (w : World) (hl : EntS w v l) (hgood : (qf l true).1 = 0) (hne : l ≠ []) : Calls Try.prog 5 #[v] w fun e w' => e = .returned (.bool true) ∧ Ext w w' := by
  have h0 : 0 < l.length := List.length_pos_iff.2 hne
  have HZ := Lib.hid (qf_zero hgood)
  have HLaw := Lib.hid (pop_law hgood hne)
  have HDr := Lib.hid (drain_law (((qf_iff l true).1 hgood).2 rfl))
  have h200 : l.length ≤ 200 := qf_len hgood
  obtain ⟨A, c, rfl, hm, hA⟩ := hl.out
  obtain ⟨g, off, rfl, hcl⟩ := hA h0
  have HC := Lib.hid hcl
  have HL := Lib.hid hl
  have hfl := first_lt hne
  obtain ⟨k, hk⟩ : ∃ k, k = first l := ⟨_, rfl⟩
  have HK := Lib.hid hk
  rw [← hk] at hfl
  have hnq := run_neqF
  have heq := run_eqlF
  have hes := eqF_self
  have heB := run_eqlE
  have hl0 : ((l.length : Int) == 0) = false := beq_eq_false_iff_ne.2 (by omega)
  clear hl hA hcl hgood hne hk
  go_enter Try.func5, Try.ntmps5
  go_wp2_with fail
  refine (pop_good l _ _ HL.out HZ.out h0).mono ?_
  rintro e w1 ⟨v1, rfl, hs1, hb1⟩
  have HS1 := Lib.hid hs1
  have HB1 := Lib.hid hb1
  obtain ⟨x, hx⟩ : ∃ x, x = nth l 0 := ⟨_, rfl⟩
  rw [← hx]
  have HX := Lib.hid hx
  clear hb1 hs1 hx
  go_wp2_with fail
  refine (drain_good l _ _ (HL.out.ext ((HB1.out.alloc' _).alloc' _)) HZ.out).mono ?_
  rintro e w2 ⟨v2, rfl, hs2, hb2⟩
  have HS2 := Lib.hid hs2
  have k0 := hb2.cellAt (b := w1.heap.size) (o := 0) (v := .string x.name) (by simp)
  have k1 := hb2.cellAt (b := w1.heap.size) (o := 1) (v := .int .i64 x.rank) (by simp)
  have k2 := hb2.cellAt (b := w1.heap.size + 1) (o := 0) (v := .int .i64 0) (by simp)
  have HS1' := Lib.hid (HS1.out.ext (((Ext.new w1 (.cells #[.string x.name, .int .i64 x.rank] 40)).alloc' (.cells #[.int .i64 0, .int .i64 0] 24)).tr hb2))
  have HB2 := Lib.hid (((HB1.out.alloc' _).alloc' _).tr hb2)
  clear hb2 hs2
  go_wp2_with fail
  refine (queueFault_any l true _ _ (HL.out.ext (HB2.out.alloc' _))).mono ?_
  rw [HZ.out]
  rintro e w3 ⟨rfl, hb3⟩
  have m0 := ((Ext.new w2 _).tr hb3).cellAt k0
  have m1 := ((Ext.new w2 _).tr hb3).cellAt k1
  have m2 := ((Ext.new w2 _).tr hb3).cellAt k2
  have m4 := hb3.cellAt (b := w2.heap.size) (o := 0) (v := .int .i64 0) (by simp)
  have m5 := hb3.cellAt (b := w2.heap.size) (o := 1) (v := .int .i64 0) (by simp)
  have q1 : w1.heap.size < w3.heap.size := World.block_lt_of_cell? w3 _ m0
  have q2 : w1.heap.size + 1 < w3.heap.size := World.block_lt_of_cell? w3 _ m2
  have q3 : w2.heap.size < w3.heap.size := World.block_lt_of_cell? w3 _ m4
  have hx3 := (((Ext.new w2 (.cells #[.int .i64 0, .int .i64 0] 24)).tr hb3).alloc' (.cells #[.int .i64 0, .int .i64 0] 24))
  have HS3 := Lib.hid (HS2.out.ext hx3)
  have HS1'' := Lib.hid (HS1'.out.ext hx3)
  have HB3 := Lib.hid ((HB2.out.alloc' _).tr hb3)
  clear hb3 k0 k1 k2 hx3
  go_wp2_with fail
  refine (sorted_t l _ _ (HL.out.ext (HB3.out.alloc' _)) (by omega)).mono ?_
  rintro e w4 ⟨v4, rfl, ho4, hb4⟩
  go_wp2_with fail
  refine (entries_any (drain l) (sorted l) _ _ _ (HS3.out.ext hb4) ho4.ents).mono ?_
  rw [show decide (drain l = sorted l) = true by rw [HDr.out]; simp]
  rintro e w5 ⟨rfl, hb5⟩
  have hx := hb4.tr hb5
  have n0 := ((Ext.new w3 _).tr hx).cellAt m0
  have n1 := ((Ext.new w3 _).tr hx).cellAt m1
  have n2 := ((Ext.new w3 _).tr hx).cellAt m2
  have n4 := hx.cellAt (b := w3.heap.size) (o := 0) (v := .int .i64 0) (by simp)
  have HS5 := Lib.hid (HS1''.out.ext hx)
  have HB5 := Lib.hid ((HB3.out.alloc' _).tr hx)
  clear hb4 hb5 hx m0 m1 m2 m4 m5 ho4
  go_wp2_with fail
  refine (first_any l _ _ (HL.out.ext HB5.out)).mono ?_
  rw [← HK.out]
  rintro e w6 ⟨rfl, hb6⟩
  have r0 := hb6.cellAt n0
  have r1 := hb6.cellAt n1
  have r2 := hb6.cellAt n2
  have HB6 := Lib.hid (HB5.out.tr hb6)
  have HS6 := Lib.hid (HS5.out.ext hb6)
  have hcc := HC.out.ext HB6.out
  have r3 := (hcc k hfl).1
  have r4 := (hcc k hfl).2
  have hxe : nth l k = x := by rw [HX.out, HK.out]; exact HLaw.out.1.symm
  rw [hxe] at r3 r4
  have heBs : eqB { name := x.name, rank := x.rank } { name := x.name, rank := x.rank } = true := eqB_self _
  have heBs' : eqB x x = true := eqB_self _
  have b0 : (0 : Int) ≤ (k : Int) := by omega
  have b1 : (k : Int) < (l.length : Int) := by omega
  have HQ := Lib.hid (show (decide ((qf (woutQ l 0) true).1 = 0) && decide (sorted (woutQ l 0) = sorted (wout l k))) = true by rw [HK.out]; simp [HLaw.out.2.1, HLaw.out.2.2])
  clear hb6 n0 n1 n2 n4 hcc hxe
  go_wp2_with fail
  go_region_held3 (fun w' => w'.cell? ⟨w1.heap.size, 0, none⟩ = some (.string x.name) ∧ w'.cell? ⟨w1.heap.size, 1, none⟩ = some (.int .i64 x.rank) ∧ w'.cell? ⟨w1.heap.size + 1, 0, none⟩ = some (.int .i64 0) ∧ w'.cell? ⟨g, off + k * 2, none⟩ = some (.string x.name) ∧ w'.cell? ⟨g, off + k * 2 + 1, none⟩ = some (.int .i64 x.rank))
    (first | exact ⟨hbz.cellAt r0, hbz.cellAt r1, hbz.cellAt r2, hbz.cellAt r3, hbz.cellAt r4⟩ | exact ⟨hby.cellAt r0, hby.cellAt r1, hby.cellAt r2, hby.cellAt r3, hby.cellAt r4⟩ | exact ⟨hbx.cellAt r0, hbx.cellAt r1, hbx.cellAt r2, hbx.cellAt r3, hbx.cellAt r4⟩ | exact ⟨r0, r1, r2, r3, r4⟩ | go_keep)
    (first | (go_at_call 24; refine (refWithout_t l k _ _ (by exact HL.out.ext (HB6.out.drew')) hfl (by omega)).mono ?_; rintro e w7 ⟨v7, rfl, ho7, hb7⟩; have hbx : Ext w6 w7 := hb7.re) | (go_at_call 14; refine (queue_t (woutQ l 0) (wout l k) _ _ _ (by exact HS6.out.ext hbx) (by exact ho7.ents) (by rw [wout_len hfl]; omega)).mono ?_; rw [HQ.out]; rintro e w8 ⟨rfl, hb8⟩; have hby : Ext w6 w8 := hbx.tr hb8) | (go_at_call 13; refine (queued_t _).mono ?_; rintro e w9 ⟨rfl, hb9⟩; have hbz : Ext w6 w9 := hby.tr hb9))
  have HB9 := Lib.hid (HB6.out.tr hbz)
  clear hbz hby hbx hb7 hb8 hb9 ho7
  go_wp2
  go_ret
  exact ⟨by simp, HB9.out⟩

theorem popLaw_t (l : List Ent) (v : Value) (w : World) (hl : EntS w v l) : Calls Try.prog 5 #[v] w fun e w' => e = .returned (.bool true) ∧ Ext w w' := by
  by_cases h : (qf l true).1 = 0
  · by_cases hn : l = []
    · subst hn; exact popLaw_none v w hl
    · exact popLaw_good l v w hl h hn
  · exact popLaw_bad l v w hl h
end Go.Proofs.Ytefeiogbaiodnaa

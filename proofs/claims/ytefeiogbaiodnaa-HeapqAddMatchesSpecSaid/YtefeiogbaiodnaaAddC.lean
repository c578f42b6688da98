/- The walk of HeapqAddMatchesSpec: it returns true; no condition. -/
import Derived.Test.YtefeiogbaiodnaaAddL
namespace Go.Proofs.Ytefeiogbaiodnaa
open Go.RowKit

set_option maxRecDepth 100000 in
set_option maxHeartbeats 2000000 in
theorem addLaw_code (l : List Ent) (x : Ent) (v : Value) (w : World) (hl : EntS w v l) (h : qf l true = (0, 0)) (hcode : addCode l x ≠ 0) : Calls Try.prog 7 #[v, .agg #[.string x.name, .int .i64 x.rank]] w fun e w' => e = .returned (.bool true) ∧ Ext w w' := by
  have HL := Lib.hid hl
  obtain ⟨A, c, rfl, hm, hA⟩ := hl.out
  have h200 : l.length ≤ 200 := qf_len (ord := true) (by rw [h])
  have heq := run_eqlF
  have hes := eqF_refl
  obtain ⟨f, hf⟩ : ∃ f, f = addCode l x := ⟨_, rfl⟩
  have HF := Lib.hid hf
  have hne : (f != 0) = true := by rw [hf]; simpa using hcode
  have HZ := Lib.hid h
  have HC := Lib.hid hcode
  clear hl hf hcode h hA
  go_enter Try.func7, Try.ntmps7
  go_wp2_with fail
  refine (add_code l x _ _ (HL.out.ext (Ext.new _ _)) HZ.out HC.out).mono ?_
  rw [← HF.out]
  rintro e w1 ⟨v1, rfl, hs1, hb1⟩
  obtain ⟨A1, c1, rfl, _, _⟩ := hs1.out
  have k0 := hb1.cellAt (b := w.heap.size) (o := 0) (v := .string x.name) (by simp)
  have k1 := hb1.cellAt (b := w.heap.size) (o := 1) (v := .int .i64 x.rank) (by simp)
  have HB1 := Lib.hid ((Ext.new w _).tr hb1)
  clear hb1 hs1
  go_wp2_with fail
  refine (queueFault_any l true _ _ (HL.out.ext (HB1.out.alloc' _))).mono ?_
  rw [HZ.out]
  rintro e w2 ⟨rfl, hb2⟩
  have hx := (Ext.new w1 (.cells #[.int .i64 f, .int .i64 (-2)] 24)).tr hb2
  have m0 := hx.cellAt k0
  have m1 := hx.cellAt k1
  have m2 := hb2.cellAt (b := w1.heap.size) (o := 0) (v := .int .i64 f) (by simp)
  have m3 := hb2.cellAt (b := w1.heap.size) (o := 1) (v := .int .i64 (-2)) (by simp)
  have q0 : w.heap.size < w2.heap.size := World.block_lt_of_cell? w2 _ m0
  have q1 : w1.heap.size < w2.heap.size := World.block_lt_of_cell? w2 _ m2
  have HB2 := Lib.hid (HB1.out.tr hx)
  clear hb2 hx k0 k1
  by_cases hlen : l.length = 200
  · have hq : ((l.length : Int) == 200) = true := by rw [hlen]; rfl
    have hfv : f = 2 := by rw [HF.out]; unfold addCode; rw [if_pos hlen]
    subst hfv
    clear hlen hne
    go_wp2_with fail
    refine (at_any _ _ _).mono ?_
    rintro e w3 ⟨rfl, hb3⟩
    obtain ⟨n4, z4⟩ := Cel.ext (b := w2.heap.size) (o := 0) (v := .int .i64 0) ⟨by simp, by simp⟩ hb3
    obtain ⟨n5, z5⟩ := Cel.ext (b := w2.heap.size) (o := 1) (v := .int .i64 0) ⟨by simp, by simp⟩ hb3
    have hx := (Ext.new w2 (.cells #[.int .i64 0, .int .i64 0] 24)).tr hb3
    have n2 := hx.cellAt m2
    have n3 := hx.cellAt m3
    have hs : w.heap.size ≤ w2.heap.size := HB2.out.size
    have ne1 : w1.heap.size ≠ w2.heap.size := by omega
    have HB3 := Lib.hid (((HB2.out.tr hx).set hs (p := ⟨w2.heap.size, 0, none⟩) (.int .i64 2)).set hs (p := ⟨w2.heap.size, 1, none⟩) (.int .i64 (-2)))
    clear hx hb3 m0 m1 m2 m3
    go_wp2_with fail
    refine (queued_t _).mono ?_
    rintro e w5 ⟨rfl, hb5⟩
    have HB5 := Lib.hid (HB3.out.tr hb5)
    clear hb5
    go_wp2
    go_ret
    exact ⟨rfl, HB5.out⟩
  · have hq : ((l.length : Int) == 200) = false := beq_eq_false_iff_ne.2 (by omega)
    obtain ⟨ec, hec⟩ : ∃ ec, ec = efault x := ⟨_, rfl⟩
    have HE := Lib.hid hec
    have HV : Hid (f = if ec ≠ 0 then ec else if 0 ≤ idx l x.name then 8 else 0) := Lib.hid (by rw [HF.out, hec]; unfold addCode; rw [if_neg hlen])
    clear hec hlen
    go_wp2_with fail
    refine (entryFault_any _ _ _).mono ?_
    have hex : efault { name := x.name, rank := x.rank } = ec := HE.out.symm
    rw [hex]
    rintro e w3 ⟨rfl, hb3⟩
    obtain ⟨n4, z4⟩ := Cel.ext (b := w2.heap.size) (o := 0) (v := .int .i64 0) ⟨by simp, by simp⟩ hb3
    obtain ⟨n5, z5⟩ := Cel.ext (b := w2.heap.size) (o := 1) (v := .int .i64 0) ⟨by simp, by simp⟩ hb3
    have hx := (Ext.new w2 (.cells #[.int .i64 0, .int .i64 0] 24)).tr hb3
    have n0 := hx.cellAt m0
    have n1 := hx.cellAt m1
    have n2 := hx.cellAt m2
    have n3 := hx.cellAt m3
    have hs : w.heap.size ≤ w2.heap.size := HB2.out.size
    have ne1 : w1.heap.size ≠ w2.heap.size := by omega
    have HB3 := Lib.hid (HB2.out.tr hx)
    clear hx hb3 m0 m1 m2 m3 hex
    by_cases he : ec = 0
    · have hi : 0 ≤ idx l x.name := by
        by_cases hh : 0 ≤ idx l x.name
        · exact hh
        · have := HV.out; rw [if_neg (by simp [he]), if_neg hh] at this; rw [this] at hne; cases hne
      have hfv : f = 8 := by rw [HV.out, if_neg (by simp [he]), if_pos hi]
      subst hfv he
      clear hne
      go_wp2_with fail
      refine (entry_any l x.name _ _ (HL.out.ext HB3.out)).mono ?_
      rintro e w4 ⟨rfl, rfl⟩
      go_wp2_with fail
      refine (at_any _ _ _).mono ?_
      rintro e w4 ⟨rfl, hb4⟩
      obtain ⟨p4, y4⟩ := Cel.ext ⟨n4, z4⟩ hb4
      obtain ⟨p5, y5⟩ := Cel.ext ⟨n5, z5⟩ hb4
      have p2 := hb4.cellAt n2
      have p3 := hb4.cellAt n3
      have HB4 := Lib.hid (((HB3.out.tr hb4).set hs (p := ⟨w2.heap.size, 0, none⟩) (.int .i64 8)).set hs (p := ⟨w2.heap.size, 1, none⟩) (.int .i64 (-2)))
      clear hb4 n0 n1 n2 n3 n4 n5 z4 z5 hi
      go_wp2_with fail
      refine (queued_t _).mono ?_
      rintro e w5 ⟨rfl, hb5⟩
      have HB5 := Lib.hid (HB4.out.tr hb5)
      clear hb5
      go_wp2
      go_ret
      exact ⟨rfl, HB5.out⟩
    · have hfv : f = ec := by rw [HV.out, if_pos he]
      subst hfv
      clear he
      go_wp2_with fail
      refine (at_any _ _ _).mono ?_
      rintro e w4 ⟨rfl, hb4⟩
      obtain ⟨p4, y4⟩ := Cel.ext ⟨n4, z4⟩ hb4
      obtain ⟨p5, y5⟩ := Cel.ext ⟨n5, z5⟩ hb4
      have p2 := hb4.cellAt n2
      have p3 := hb4.cellAt n3
      have HB4 := Lib.hid (((HB3.out.tr hb4).set hs (p := ⟨w2.heap.size, 0, none⟩) (.int .i64 f)).set hs (p := ⟨w2.heap.size, 1, none⟩) (.int .i64 (-2)))
      clear hb4 n0 n1 n2 n3 n4 n5 z4 z5
      go_wp2_with fail
      refine (queued_t _).mono ?_
      rintro e w5 ⟨rfl, hb5⟩
      have HB5 := Lib.hid (HB4.out.tr hb5)
      clear hb5
      go_wp2
      go_ret
      exact ⟨rfl, HB5.out⟩
end Go.Proofs.Ytefeiogbaiodnaa

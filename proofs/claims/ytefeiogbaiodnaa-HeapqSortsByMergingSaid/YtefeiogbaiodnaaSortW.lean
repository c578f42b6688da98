/- The walk of HeapqSortsByMerging: it returns true; no condition. -/
import Derived.Test.YtefeiogbaiodnaaW13
import Derived.Test.YtefeiogbaiodnaaMergeDE
import Derived.Test.YtefeiogbaiodnaaMrg2
import Derived.Test.YtefeiogbaiodnaaCut
namespace Go.Proofs.Ytefeiogbaiodnaa
open Go.RowKit

theorem swoE : SWO ltE := ⟨lt_irrefl, fun _ _ _ => lt_trans, fun _ _ _ => ge_trans⟩

theorem Good.sub {a l : List Ent} (h : Good l) (hs : a.Sublist l) : Good a :=
  ⟨Nat.le_trans hs.length_le h.1, fun e he => h.2.1 e (hs.subset he), (hs.map _).nodup h.2.2⟩

/-- the law: sorting the parts and merging them is sorting -/
theorem sort_law {l : List Ent} {m : Nat} : mergeL ltE [sorted (l.take m), sorted (l.drop m)] = sorted l := by
  obtain ⟨h1, h2⟩ := mergeL_spec swoE [sorted (l.take m), sorted (l.drop m)] (fun x hx => by
    simp at hx
    rcases hx with rfl | rfl
    · exact sorted_pw _
    · exact sorted_pw _)
  refine sorted_eq (h1.trans ?_) h2
  simp only [List.flatten_cons, List.flatten_nil, List.append_nil]
  have := ((sorted_perm (l.take m)).append (sorted_perm (l.drop m)))
  rwa [List.take_append_drop] at this
theorem drain_build {l : List Ent} (h : (qf l false).1 = 0) : qf (build l) true = (0, 0) ∧ drain (build l) = sorted l := by
  obtain ⟨h1, h2⟩ := build_law h
  exact ⟨qf_zero h1, by rw [drain_law (build_spec l).1, h2]⟩

theorem two_ents (w : World) (g : Nat) {va vb : Value} {a b : List Ent} (c0 : w.cell? ⟨g, 0, none⟩ = some va) (c1 : w.cell? ⟨g, 1, none⟩ = some vb) (ha : EntS w va a) (hb : EntS w vb b) : SlL encE w (.slice (some ⟨g, 0, none⟩) 2 2) [a, b] := by
  refine ⟨[va, vb], Rd.two c0 c1 rfl (by decide), fun i l hl => ?_⟩
  match i, hl with
  | 0, hl => injection hl with hl; subst hl; exact ⟨_, rfl, ha⟩
  | 1, hl => injection hl with hl; subst hl; exact ⟨_, rfl, hb⟩

theorem size40 (w : World) : (sizeOf 40).run Try.prog w = .ok 2 w := by kernel_rfl

set_option maxRecDepth 100000 in
set_option maxHeartbeats 2000000 in
theorem sortLaw_out (l : List Ent) (at_ : Int) (v : Value) (w : World) (hl : EntS w v l) (hbad : (qf l false).1 ≠ 0 ∨ ¬ (0 ≤ at_ ∧ at_ ≤ l.length)) : Calls Try.prog 6 #[v, .int .i64 at_] w fun e w' => e = .returned (.bool true) ∧ Ext w w' := by
  obtain ⟨A, c, rfl, hm, hA⟩ := hl.out
  have HL := Lib.hid hl
  have hfd := field24
  obtain ⟨f, hf⟩ : ∃ f, f = qf l false := ⟨_, rfl⟩
  have HF := Lib.hid hf
  rw [← hf] at hbad
  clear hl hA hf
  by_cases h0 : f.1 = 0
  · have hne : (f.1 != 0) = false := by simpa using h0
    have hout : decide (0 ≤ at_ ∧ at_ ≤ l.length) = false := by
      rcases hbad with h | h
      · exact absurd h0 h
      · simpa using h
    obtain ⟨b, hb⟩ : ∃ b, b = decide (0 ≤ at_ ∧ at_ ≤ (l.length : Int)) := ⟨_, rfl⟩
    have hbf : b = false := by rw [hb]; exact hout
    have HBb := Lib.hid hb
    clear hb hout hbad h0
    go_enter Try.func6, Try.ntmps6
    go_wp2_with fail
    refine (queueFault_any l false _ _ HL.out).mono ?_
    rw [← HF.out]
    rintro e w1 ⟨rfl, hb1⟩
    have HB1 := Lib.hid hb1
    clear hb1
    go_wp2_with fail
    refine (in_any _ _ _ _).mono ?_
    rw [← HBb.out]
    rintro e w2 ⟨rfl, rfl⟩
    subst hbf
    go_wp2_with fail
    refine (queued_t _).mono ?_
    rintro e w3 ⟨rfl, hb3⟩
    go_wp2
    go_ret
    exact ⟨rfl, HB1.out.tr hb3⟩
  · have hne : (f.1 != 0) = true := by simpa using h0
    clear h0 hbad
    go_enter Try.func6, Try.ntmps6
    go_wp2_with fail
    refine (queueFault_any l false _ _ HL.out).mono ?_
    rw [← HF.out]
    rintro e w1 ⟨rfl, hb1⟩
    have HB1 := Lib.hid hb1
    clear hb1
    go_wp2_with fail
    refine (queued_t _).mono ?_
    rintro e w3 ⟨rfl, hb3⟩
    go_wp2
    go_ret
    exact ⟨rfl, HB1.out.tr hb3⟩

set_option maxRecDepth 100000 in
set_option maxHeartbeats 4000000 in
theorem sortLaw_in (l : List Ent) (m : Nat) (v : Value) (w : World) (hl : EntS w v l) (hgood : (qf l false).1 = 0) (hml : m ≤ l.length) : Calls Try.prog 6 #[v, .int .i64 m] w fun e w' => e = .returned (.bool true) ∧ Ext w w' := by
  have hg := ((qf_iff l false).1 hgood).1
  have hga := (qf_iff (l.take m) false).2 ⟨hg.sub (List.take_sublist m l), fun h => by cases h⟩
  have hgb := (qf_iff (l.drop m) false).2 ⟨hg.sub (List.drop_sublist m l), fun h => by cases h⟩
  have HZ := Lib.hid (qf_zero hgood)
  have HZa := Lib.hid (qf_zero hga)
  have HZb := Lib.hid (qf_zero hgb)
  have HDa := Lib.hid (drain_build hga)
  have HDb := Lib.hid (drain_build hgb)
  have HDc := Lib.hid (drain_build hgood)
  have h200 := hg.1
  obtain ⟨va, hra, hsa⟩ := Rd.frontRun (P := Try.prog) Try.underlying22 size40 hl hml (m : Int) rfl
  obtain ⟨vb, hrb, hsb⟩ := Rd.backRun (P := Try.prog) Try.underlying22 size40 hl hml (m : Int) rfl
  have HSa : Hid (EntS w va (l.take m)) := Lib.hid (by unfold EntS; rw [flatE_take, List.length_take, Nat.min_eq_left hml]; exact hsa)
  have HSb : Hid (EntS w vb (l.drop m)) := Lib.hid (by unfold EntS; rw [flatE_drop, List.length_drop]; exact hsb)
  obtain ⟨A, c, rfl, hm, hA⟩ := hl.out
  have HL := Lib.hid hl
  have hfd := field24
  obtain ⟨b, hb⟩ : ∃ b, b = decide (0 ≤ (m : Int) ∧ (m : Int) ≤ (l.length : Int)) := ⟨_, rfl⟩
  have hbf : b = true := by rw [hb]; simp; omega
  have HBb := Lib.hid hb
  have HTa : Hid (total [sorted (l.take m), sorted (l.drop m)] ≤ 4000000) := Lib.hid (by
    have h1 := (sorted_perm (l.take m)).length_eq
    have h2 := (sorted_perm (l.drop m)).length_eq
    simp [total, h1, h2]
    omega)
  clear hl hA hg hga hgb hgood hsa hsb hb
  go_enter Try.func6, Try.ntmps6
  go_wp2_with fail
  refine (queueFault_any l false _ _ HL.out).mono ?_
  rw [HZ.out]
  rintro e w1 ⟨rfl, hb1⟩
  have HB1 := Lib.hid hb1
  clear hb1
  go_wp2_with fail
  refine (in_any _ _ _ _).mono ?_
  rw [← HBb.out]
  rintro e w2 ⟨rfl, rfl⟩
  subst hbf
  go_wp2_with fail
  refine (build_good (l.take m) _ _ (HSa.out.ext HB1.out) HZa.out).mono ?_
  rintro e w2 ⟨v2, rfl, hs2, hb2⟩
  have HS2 := Lib.hid hs2
  have HB2 := Lib.hid (HB1.out.tr hb2)
  clear hs2 hb2
  go_wp2_with fail
  refine (build_good (l.drop m) _ _ (HSb.out.ext (HB2.out.alloc' _)) HZb.out).mono ?_
  rintro e w3 ⟨v3, rfl, hs3, hb3⟩
  have hx := (Ext.new w2 (.cells #[.int .i64 0, .int .i64 0] 24)).tr hb3
  have k2 := hb3.cellAt (b := w2.heap.size) (o := 0) (v := .int .i64 0) (by simp)
  have HS2' := Lib.hid (HS2.out.ext hx)
  have HS3 := Lib.hid hs3
  have HB3 := Lib.hid (HB2.out.tr hx)
  clear hs3 hb3 hx
  go_wp2_with fail
  refine (build_good l _ _ (HL.out.ext (HB3.out.alloc' _)) HZ.out).mono ?_
  rintro e w4 ⟨v4, rfl, hs4, hb4⟩
  have hx := (Ext.new w3 (.cells #[.int .i64 0, .int .i64 0] 24)).tr hb4
  have k3 := hb4.cellAt (b := w3.heap.size) (o := 0) (v := .int .i64 0) (by simp)
  have k2' := hx.cellAt k2
  have HS24 := Lib.hid (HS2'.out.ext hx)
  have HS34 := Lib.hid (HS3.out.ext hx)
  have HS4 := Lib.hid hs4
  have HB4 := Lib.hid (HB3.out.tr hx)
  clear hs4 hb4 hx k2
  go_wp2_with fail
  refine (drain_good (build (l.take m)) _ _ (HS24.out.ext (Ext.new w4 _)) HDa.out.1).mono ?_
  rw [HDa.out.2]
  rintro e w5 ⟨v5, rfl, hs5, hb5⟩
  obtain ⟨A5, c5, rfl, _, _⟩ := hs5.out
  have hx := (Ext.new w4 (.cells #[.int .i64 0, .int .i64 0] 24)).tr hb5
  have k4 := hb5.cellAt (b := w4.heap.size) (o := 0) (v := .int .i64 0) (by simp)
  have k3' := hx.cellAt k3
  have k2 := hx.cellAt k2'
  have HS35 := Lib.hid (HS34.out.ext hx)
  have HS45 := Lib.hid (HS4.out.ext hx)
  have HS5 := Lib.hid hs5
  have HB5 := Lib.hid (HB4.out.tr hx)
  clear hs5 hb5 hx k2' k3
  go_wp2_with fail
  refine (drain_good (build (l.drop m)) _ _ (HS35.out.ext (Ext.new w5 _)) HDb.out.1).mono ?_
  rw [HDb.out.2]
  rintro e w6 ⟨v6, rfl, hs6, hb6⟩
  obtain ⟨A6, c6, rfl, _, _⟩ := hs6.out
  have hx := (Ext.new w5 (.cells #[.int .i64 0, .int .i64 0] 24)).tr hb6
  have k5 := hb6.cellAt (b := w5.heap.size) (o := 0) (v := .int .i64 0) (by simp)
  have k4' := hx.cellAt k4
  have k3 := hx.cellAt k3'
  have k2' := hx.cellAt k2
  have HS46 := Lib.hid (HS45.out.ext hx)
  have HS56 := Lib.hid (HS5.out.ext hx)
  have HS6 := Lib.hid hs6
  have HB6 := Lib.hid (HB5.out.tr hx)
  clear hs6 hb6 hx k2 k3' k4
  go_wp2_with fail
  refine (drain_good (build l) _ _ (HS46.out.ext (Ext.new w6 _)) HDc.out.1).mono ?_
  rw [HDc.out.2]
  rintro e w7 ⟨v7, rfl, hs7, hb7⟩
  have hx := (Ext.new w6 (.cells #[.int .i64 0, .int .i64 0] 24)).tr hb7
  have k6 := hb7.cellAt (b := w6.heap.size) (o := 0) (v := .int .i64 0) (by simp)
  have k5' := hx.cellAt k5
  have k4 := hx.cellAt k4'
  have k3' := hx.cellAt k3
  have k2 := hx.cellAt k2'
  have HS57 := Lib.hid (HS56.out.ext hx)
  have HS67 := Lib.hid (HS6.out.ext hx)
  have HS7 := Lib.hid hs7
  have HB7 := Lib.hid (HB6.out.tr hx)
  have q2 := World.block_lt_of_cell? w7 _ k2
  have q3 := World.block_lt_of_cell? w7 _ k3'
  have q4 := World.block_lt_of_cell? w7 _ k4
  have q5 := World.block_lt_of_cell? w7 _ k5'
  have q6 := World.block_lt_of_cell? w7 _ k6
  simp only at q2 q3 q4 q5 q6
  clear hs7 hb7 hx k2' k3 k4' k5
  go_wp2_with fail
  refine (mergeE_t [sorted (l.take m), sorted (l.drop m)] _ _ (by exact two_ents _ (w7.heap.size + 1) (by go_simp) (by go_simp) (HS57.out.ext ((Ext.new w7 _).alloc' _)) (HS67.out.ext ((Ext.new w7 _).alloc' _))) (by simp) HTa.out).mono ?_
  rw [sort_law]
  rintro e w8 ⟨v8, rfl, hs8, hb8⟩
  have hx := ((Ext.new w7 (.cells #[.int .i64 0, .int .i64 0] 24)).alloc' (.cells #[.slice A5 (sorted (l.take m)).length c5, .slice A6 (sorted (l.drop m)).length c6] 22)).tr hb8
  have HS8 : Hid (EntS w8 v8 (sorted l)) := Lib.hid hs8
  have HS78 := Lib.hid (HS7.out.ext hx)
  have HB8 := Lib.hid (HB7.out.tr hx)
  clear hs8 hb8 hx
  go_wp2_with fail
  refine (entries_any (sorted l) (sorted l) _ _ _ HS8.out HS78.out).mono ?_
  rw [show decide (sorted l = sorted l) = true by simp]
  rintro e w9 ⟨rfl, hb9⟩
  have HB9 := Lib.hid (HB8.out.tr hb9)
  clear hb9
  go_wp2_with fail
  refine (queued_t _).mono ?_
  rintro e w10 ⟨rfl, hb10⟩
  have HB10 := Lib.hid (HB9.out.tr hb10)
  clear hb10
  go_wp2
  go_ret
  exact ⟨rfl, HB10.out⟩

theorem sortLaw_t (l : List Ent) (at_ : Int) (v : Value) (w : World) (hl : EntS w v l) : Calls Try.prog 6 #[v, .int .i64 at_] w fun e w' => e = .returned (.bool true) ∧ Ext w w' := by
  by_cases h : (qf l false).1 = 0 ∧ (0 ≤ at_ ∧ at_ ≤ l.length)
  · obtain ⟨m, rfl⟩ := Int.eq_ofNat_of_zero_le h.2.1
    exact sortLaw_in l m v w hl h.1 (by omega)
  · exact sortLaw_out l at_ v w hl (by
      by_cases h1 : (qf l false).1 = 0
      · right; intro h2; exact h ⟨h1, h2⟩
      · left; exact h1)
end Go.Proofs.Ytefeiogbaiodnaa

/- Walks of find, Add, Change, Remove; no condition. -/
import Derived.Test.YtefeiogbaiodnaaW13
namespace Go.Proofs.Ytefeiogbaiodnaa
open Go.RowKit

set_option maxHeartbeats 400000 in
theorem findc_t (n : ByteArray) (r : Int) (nm : ByteArray) (p : Nat) (w : World) (k : w.cell? ⟨p, 0, none⟩ = some (.string nm)) :
    Calls Try.prog 58 #[.agg #[.string n, .int .i64 r], .pointer (some ⟨p, 0, none⟩)] w fun e w' => e = .returned (.bool (n.toList == nm.toList)) ∧ Ext w w' := by
  have hp : p < w.heap.size := World.block_lt_of_cell? w _ k
  go_enter Try.func58, Try.ntmps58
  go_wp2
  go_ret
  exact ⟨rfl, by go_grown⟩

set_option maxRecDepth 100000 in
set_option maxHeartbeats 1000000 in
theorem findi_t (l : List Ent) (nm : ByteArray) (v : Value) (p : Nat) (w : World) (hl : EntS w v l) (k : w.cell? ⟨p, 0, none⟩ = some (.string nm)) :
    Calls Try.prog 57 #[v, .func (.func 58) #[] #[.pointer (some ⟨p, 0, none⟩)]] w fun e w' => e = .returned (.int .i64 (idx l nm)) ∧ Ext w w' := by
  obtain ⟨A, c, rfl, hm, hA⟩ := hl.out
  have HA := Lib.hid hA
  have HK := Lib.hid k
  clear hA hl k
  go_enter Try.func57, Try.ntmps57
  go_wp2
  go_loopw [8] (fun i wr => ∃ k : Nat, k ≤ l.length ∧ i = .int .i64 k ∧ idx l nm = idxFrom (l.drop k) nm k ∧ Ext w wr) (fun i _ => l.length - (intOf i).toNat)
  case atStart => exact ⟨0, by omega, rfl, rfl, Ext.rfl_ _⟩
  case round =>
    obtain ⟨k, hk, rfl, hi, hb⟩ := hrel
    have HI := Lib.hid hi
    have HB := Lib.hid hb
    clear hi hb
    by_cases hlt : k < l.length
    · obtain ⟨g, off, rfl, hc⟩ := HA.out (by omega)
      have hc0 := (hc.ext HB.out k hlt).1
      have hc1 := (hc.ext HB.out k hlt).2
      have HD := Lib.hid (idxFrom_drop l nm k hlt)
      have HBq := Lib.hid (name_beq (nth l k).name nm)
      clear hc
      go_wp2_with fail
      refine (findc_t _ _ nm p _ (HB.out.cellAt HK.out)).mono ?_
      rintro e w1 ⟨rfl, hb1⟩
      have HB1 := Lib.hid (HB.out.tr hb1)
      clear hb1
      by_cases hn : (nth l k).name = nm
      · have hb : ((nth l k).name.toList == nm.toList) = true := by rw [HBq.out]; simp [hn]
        have HN := Lib.hid hn
        clear hn
        go_wp2
        go_ret
        exact ⟨ret_int (by rw [HI.out, HD.out, if_pos HN.out]), HB1.out⟩
      · have hb : ((nth l k).name.toList == nm.toList) = false := by rw [HBq.out]; simp [hn]
        have HN := Lib.hid hn
        clear hn
        go_wp2
        go_roundw
        case rel => exact ⟨k + 1, by omega, by go_num, by rw [HI.out, HD.out, if_neg HN.out], HB1.out⟩
        case measure => simp [intOf]; omega
    · go_wp2
      go_ret
      exact ⟨ret_int (by rw [HI.out, List.drop_of_length_le (by omega)]; rfl), HB.out⟩

set_option maxHeartbeats 400000 in
theorem find_t (l : List Ent) (nm : ByteArray) (v : Value) (w : World) (hl : EntS w v l) :
    Calls Try.prog 45 #[v, .string nm] w fun e w' => e = .returned (.int .i64 (idx l nm)) ∧ Ext w w' := by
  have HL := Lib.hid hl
  clear hl
  go_enter Try.func45, Try.ntmps45
  go_wp2_with fail
  refine (findi_t l nm v w.heap.size _ (HL.out.ext (Ext.new _ _)) (by simp)).mono ?_
  rintro e w1 ⟨rfl, hb1⟩
  go_wp2
  go_ret
  exact ⟨rfl, (Ext.new w _).tr hb1⟩

set_option maxRecDepth 100000 in
set_option maxHeartbeats 1000000 in
theorem add_bad (l : List Ent) (x : Ent) (v : Value) (w : World) (hl : EntS w v l) (h : (qf l true).1 ≠ 0) : Calls Try.prog 28 #[v, .agg #[.string x.name, .int .i64 x.rank]] w (RetLF [] (qf l true) w) := by
  have HL := Lib.hid hl
  clear hl
  obtain ⟨f, hf⟩ : ∃ f, f = qf l true := ⟨_, rfl⟩
  rw [← hf] at h ⊢
  have hne : (f.1 != 0) = true := by simpa using h
  go_enter Try.func28, Try.ntmps28
  go_wp2_with fail
  refine (validate_any l v _ (HL.out.ext ((Ext.new _ _).alloc' _))).mono ?_
  rintro e w1 ⟨rfl, hb⟩
  rw [← hf]
  have k2 : w1.cell? ⟨w.heap.size + 1, 0, none⟩ = some (.int .i64 0) := hb.cellAt (by simp)
  have k3 : w1.cell? ⟨w.heap.size + 1, 1, none⟩ = some (.int .i64 0) := hb.cellAt (by simp)
  obtain ⟨hc, hz⟩ := bcell hb
  have hs2 : w.heap.size + 1 < w1.heap.size := by have := hb.size; simp at this; omega
  have HB := Lib.hid hb
  clear hb hf hc
  go_wp2_with fail
  go_region
  go_wp2
  refine bodyPost_ret (v := .tuple #[.slice none 0 0, .agg #[.int .i64 f.1, .int .i64 f.2]]) (by simp [results, Try.results28, go_sem, k2, k3, hs2]) rfl ?_
  exact ⟨_, rfl, EntS.nil_ _, ((((((Ext.new w _).alloc' _).tr HB.out).set (by simp) _).set (by simp) _).alloc' _).drew'⟩

/-- Add's code for an entry -/
def addCode (l : List Ent) (x : Ent) : Int := if l.length = 200 then 2 else if efault x ≠ 0 then efault x else if 0 ≤ idx l x.name then 8 else 0

set_option maxRecDepth 100000 in
set_option maxHeartbeats 1000000 in
theorem add_code (l : List Ent) (x : Ent) (v : Value) (w : World) (hl : EntS w v l) (h : qf l true = (0, 0)) (hcode : addCode l x ≠ 0) : Calls Try.prog 28 #[v, .agg #[.string x.name, .int .i64 x.rank]] w (RetLF [] (addCode l x, -2) w) := by
  have h200 : l.length ≤ 200 := qf_len (ord := true) (by rw [h])
  have HZ := Lib.hid h
  have HL := Lib.hid hl
  obtain ⟨A, c, rfl, hm, hA⟩ := hl.out
  clear hl h hA
  go_enter Try.func28, Try.ntmps28
  go_wp2_with fail
  refine (validate_any l _ _ (HL.out.ext ((Ext.new _ _).alloc' _))).mono ?_
  rw [HZ.out]
  rintro e w1 ⟨rfl, hb⟩
  have k0 := hb.cellAt (b := w.heap.size) (o := 0) (v := .string x.name) (by simp)
  have k1 := hb.cellAt (b := w.heap.size) (o := 1) (v := .int .i64 x.rank) (by simp)
  obtain ⟨k2, z2⟩ := Cel.ext (b := w.heap.size + 1) (o := 0) (v := .int .i64 0) ⟨by simp, by simp⟩ hb
  obtain ⟨k3, z3⟩ := Cel.ext (b := w.heap.size + 1) (o := 1) (v := .int .i64 0) ⟨by simp, by simp⟩ hb
  have hs1 : w.heap.size < w1.heap.size := World.block_lt_of_cell? w1 _ k0
  have hs2 : w.heap.size + 1 < w1.heap.size := World.block_lt_of_cell? w1 _ k2
  have HB := Lib.hid (((Ext.new w _).alloc' _).tr hb)
  clear hb
  go_wp2_with fail
  refine (entry44_any _ _ _).mono ?_
  rintro e w2 ⟨rfl, hb2⟩
  have hx := (Ext.new w1 (.cells #[.int .i64 0, .int .i64 0] 24)).tr hb2
  have m0 := hx.cellAt k0
  obtain ⟨m2, y2⟩ := Cel.ext ⟨k2, z2⟩ hx
  obtain ⟨m3, y3⟩ := Cel.ext ⟨k3, z3⟩ hx
  have HB2 := Lib.hid (HB.out.tr hx)
  have hex : efault { name := x.name, rank := x.rank } = efault x := rfl
  rw [hex]
  obtain ⟨ec, hec⟩ : ∃ ec, ec = efault x := ⟨_, rfl⟩
  rw [← hec]
  clear hx hb2 k0 k1 k2 k3 z2 z3 hex
  by_cases hlen : l.length = 200
  · have hq : ((l.length : Int) == 200) = true := by rw [hlen]; rfl
    have HC : Hid (addCode l x = 2) := Lib.hid (by unfold addCode; rw [if_pos hlen])
    clear hlen hcode hec
    go_wp2
    refine bodyPost_ret (v := .tuple #[.slice none 0 0, .agg #[.int .i64 2, .int .i64 (-2)]]) (by simp [results, Try.results28, go_sem, m2, m3]) rfl ?_
    exact ⟨_, by rw [HC.out], EntS.nil_ _, (HB2.out.set (by simp) _).set (by simp) _⟩
  · have hq : ((l.length : Int) == 200) = false := beq_eq_false_iff_ne.2 (by omega)
    by_cases he : ec = 0
    · have HC : Hid (addCode l x = if 0 ≤ idx l x.name then 8 else 0) := Lib.hid (by unfold addCode; rw [if_neg hlen, if_neg (by rw [← hec]; simp [he])])
      have hi : 0 ≤ idx l x.name := by
        rw [HC.out] at hcode
        by_cases hh : 0 ≤ idx l x.name
        · exact hh
        · rw [if_neg hh] at hcode; exact absurd rfl hcode
      have HC2 : Hid (addCode l x = 8) := Lib.hid (HC.out.trans (if_pos hi))
      clear hcode hec HC
      subst he
      go_wp2_with fail
      refine (find_t l x.name _ _ (HL.out.ext HB2.out)).mono ?_
      rintro e w3 ⟨rfl, hb3⟩
      obtain ⟨n2, y2'⟩ := Cel.ext ⟨m2, y2⟩ hb3
      obtain ⟨n3, y3'⟩ := Cel.ext ⟨m3, y3⟩ hb3
      have HB3 := Lib.hid (HB2.out.tr hb3)
      clear hb3 m0 m2 m3 y2 y3
      go_wp2
      refine bodyPost_ret (v := .tuple #[.slice none 0 0, .agg #[.int .i64 8, .int .i64 (-2)]]) (by simp [results, Try.results28, go_sem, n2, n3]) rfl ?_
      exact ⟨_, by rw [HC2.out], EntS.nil_ _, (HB3.out.set (by simp) _).set (by simp) _⟩
    · have hne : (ec != 0) = true := by simpa using he
      have hne2 : (ec == 0) = false := by simpa using he
      have HC : Hid (addCode l x = ec) := Lib.hid (by unfold addCode; rw [if_neg hlen, if_pos (by rw [← hec]; exact he), hec])
      clear hcode hec
      go_wp2
      refine bodyPost_ret (v := .tuple #[.slice none 0 0, .agg #[.int .i64 ec, .int .i64 (-2)]]) (by simp [results, Try.results28, go_sem, m2, m3]) rfl ?_
      exact ⟨_, by rw [HC.out], EntS.nil_ _, (HB2.out.set (by simp) _).set (by simp) _⟩
end Go.Proofs.Ytefeiogbaiodnaa

/- Walks of Add where it adds; of Change and Remove; no condition. -/
import Derived.Test.YtefeiogbaiodnaaW14
namespace Go.Proofs.Ytefeiogbaiodnaa
open Go.RowKit

theorem own_low {w : World} {b b' : Nat} {e : TypeId} {s n : Nat} {v : Value} {xs : List Value} (h : w.ownsRow b e s v n xs) (hb : b' ≤ b) : w.ownsRow b' e s v n xs := by
  obtain ⟨h1, h2⟩ := h
  refine ⟨h1, ?_⟩
  rcases h2 with h | ⟨g, c, cur, hv, hg, r⟩
  · exact .inl h
  · exact .inr ⟨g, c, cur, hv, Nat.le_trans hb hg, r⟩
theorem Rd.oneE {w : World} {g : Nat} {x : Ent} (c0 : w.cell? ⟨g, 0, none⟩ = some (.string x.name)) (c1 : w.cell? ⟨g, 1, none⟩ = some (.int .i64 x.rank)) : Rd w 2 (.slice (some ⟨g, 0, none⟩) 1 1) 1 (flatE [x]) := by
  refine ⟨_, 1, rfl, rfl, Nat.le_refl _, by simp [maxLen], fun _ => ⟨g, 0, rfl, fun j u hu => ?_⟩⟩
  rw [Nat.zero_add]
  match j, hu with
  | 0, hu => injection hu with hu; subst hu; exact c0
  | 1, hu => injection hu with hu; subst hu; exact c1

/-- what the append of Add leaves -/
def Added (w3 w5 : World) (v5 : Value) (l : List Ent) (x : Ent) : Prop := Ext w3 w5 ∧ OwnE w5 w3.heap.size v5 (l ++ [x])
theorem Added.mkA {w3 w4 w5 : World} {v4 v5 : Value} {l : List Ent} {x : Ent} {o : Obj} (hb4 : Ext w3 w4) (ho4 : w4.ownsRow w3.heap.size 40 2 v4 l.length (flatE l)) (hown : w5.ownsRow w3.heap.size 40 2 v5 (l.length + 1) (flatE l ++ flatE [x])) (hgr : (w4.alloc o).grownBy w5 v4.ownBlock) : Added w3 w5 v5 l x :=
  ⟨(hb4.alloc' o).grow hgr (fun q hq => (ho4.lt q hq).1), by unfold OwnE; rw [List.length_append, flatE_append]; exact hown⟩
theorem Added.mkB {w3 w4 w5 : World} {v4 v5 : Value} {l : List Ent} {x : Ent} (hb4 : Ext w3 w4) (ho4 : w4.ownsRow w3.heap.size 40 2 v4 l.length (flatE l)) (hown : w5.ownsRow w3.heap.size 40 2 v5 (l.length + 1) (flatE l ++ flatE [x])) (hgr : w4.grownBy w5 v4.ownBlock) : Added w3 w5 v5 l x :=
  ⟨hb4.grow hgr (fun q hq => (ho4.lt q hq).1), by unfold OwnE; rw [List.length_append, flatE_append]; exact hown⟩

/-- a queue in new memory and a fault are handed back -/
def RetLFn (r : List Ent) (f : Int × Int) (w : World) (e : Ending) (w' : World) : Prop := ∃ v', e = .returned (.tuple #[v', .agg #[.int .i64 f.1, .int .i64 f.2]]) ∧ EntS w' v' r ∧ Ext w w' ∧ ∀ g off n c, v' = .slice (some ⟨g, off, none⟩) n c → w.heap.size ≤ g

set_option maxRecDepth 100000 in
set_option maxHeartbeats 4000000 in
theorem add_goodF (l : List Ent) (x : Ent) (v : Value) (w : World) (hl : EntS w v l) (h : qf l true = (0, 0)) (hcode : addCode l x = 0) : Calls Try.prog 28 #[v, .agg #[.string x.name, .int .i64 x.rank]] w (RetLFn (up (l ++ [x]) l.length) (0, 0) w) := by
  obtain ⟨i0, hi0, hz0, hz1, hz2⟩ := info_parts info40
  have h200 : l.length ≤ 200 := qf_len (ord := true) (by rw [h])
  have hlen : l.length ≠ 200 := by intro e; unfold addCode at hcode; rw [if_pos e] at hcode; cases hcode
  have hef : efault x = 0 := by
    unfold addCode at hcode
    rw [if_neg hlen] at hcode
    by_cases hh : efault x = 0
    · exact hh
    · rw [if_pos hh] at hcode; exact hcode
  have hidx : ¬ 0 ≤ idx l x.name := by
    unfold addCode at hcode
    rw [if_neg hlen, if_neg (by simp [hef])] at hcode
    intro hh
    rw [if_pos hh] at hcode
    cases hcode
  have HZ := Lib.hid h
  have HL := Lib.hid hl
  obtain ⟨A, c, rfl, hm, hA⟩ := hl.out
  have hq : ((l.length : Int) == 200) = false := beq_eq_false_iff_ne.2 (by omega)
  have HE := Lib.hid hef
  clear hl h hA hcode hlen hef
  go_enter Try.func28, Try.ntmps28
  go_wp2_with fail
  refine (validate_any l _ _ (HL.out.ext ((Ext.new _ _).alloc' _))).mono ?_
  rw [HZ.out]
  rintro e w1 ⟨rfl, hb⟩
  have k0 := hb.cellAt (b := w.heap.size) (o := 0) (v := .string x.name) (by simp)
  have k1 := hb.cellAt (b := w.heap.size) (o := 1) (v := .int .i64 x.rank) (by simp)
  obtain ⟨k2, z2⟩ := Cel.ext (b := w.heap.size + 1) (o := 0) (v := .int .i64 0) ⟨by simp, by simp⟩ hb
  obtain ⟨k3, z3⟩ := Cel.ext (b := w.heap.size + 1) (o := 1) (v := .int .i64 0) ⟨by simp, by simp⟩ hb
  have hs1 : w.heap.size < w1.heap.size := World.block_lt_of_cell? w1 _ k0
  have hs2 : w.heap.size + 1 < w1.heap.size := World.block_lt_of_cell? w1 _ k2
  have HB := Lib.hid (((Ext.new w _).alloc' _).tr hb)
  clear hb
  go_wp2_with fail
  refine (entry44_any _ _ _).mono ?_
  rintro e w2 ⟨rfl, hb2⟩
  have hx := (Ext.new w1 (.cells #[.int .i64 0, .int .i64 0] 24)).tr hb2
  have m0 := hx.cellAt k0
  have m1 := hx.cellAt k1
  obtain ⟨m2, y2⟩ := Cel.ext ⟨k2, z2⟩ hx
  obtain ⟨m3, y3⟩ := Cel.ext ⟨k3, z3⟩ hx
  have HB2 := Lib.hid (HB.out.tr hx)
  have hex : efault { name := x.name, rank := x.rank } = 0 := HE.out
  rw [hex]
  clear hx hb2 k0 k1 k2 k3 z2 z3 hex
  go_wp2_with fail
  refine (find_t l x.name _ _ (HL.out.ext HB2.out)).mono ?_
  rintro e w3 ⟨rfl, hb3⟩
  have n0 := hb3.cellAt m0
  have n1 := hb3.cellAt m1
  have N2 : Hid (Cel w3 (w.heap.size + 1) 0 (.int .i64 0)) := Lib.hid (Cel.ext ⟨m2, y2⟩ hb3)
  have N3 : Hid (Cel w3 (w.heap.size + 1) 1 (.int .i64 0)) := Lib.hid (Cel.ext ⟨m3, y3⟩ hb3)
  have HB3 := Lib.hid (HB2.out.tr hb3)
  have hw3 : w.heap.size + 1 < w3.heap.size := World.block_lt_of_cell? w3 _ N2.out.1
  clear hb3 m0 m1 m2 m3 y2 y3
  go_wp2_with fail
  go_region_held3 (fun w' => w'.cell? ⟨w.heap.size, 0, none⟩ = some (.string x.name) ∧ w'.cell? ⟨w.heap.size, 1, none⟩ = some (.int .i64 x.rank))
    (first | exact ⟨had.1.cellAt n0, had.1.cellAt n1⟩ | exact ⟨hb4.cellAt n0, hb4.cellAt n1⟩ | exact ⟨(hb4.alloc' _).cellAt n0, (hb4.alloc' _).cellAt n1⟩ | exact ⟨(Ext.new w3 _).cellAt n0, (Ext.new w3 _).cellAt n1⟩ | exact ⟨n0, n1⟩ | go_keep)
    (first | (go_at_call 34; refine (clone_t l _ _ ?_ ?_).mono ?_; (first | exact HL.out.ext (HB3.out.drew') | exact HL.out.ext ((HB3.out.alloc' _).drew')); omega; rintro e w4 ⟨v4, rfl, ho4', hb4'⟩; have hb4 : Ext w3 w4 := (by first | exact hb4'.re | exact ((Ext.new w3 _).drew').tr hb4'); have ho4 : w4.ownsRow w3.heap.size 40 2 v4 l.length (flatE l) := (by refine own_low ho4' ?_; simp)) | (refine step_append_rd _ ?_ (.tmp 36) (.tmp 38) 22 ?_ w3.heap.size 40 i0 (.agg #[.string ByteArray.empty, .int .i64 0]) 2 24 Try.underlying22 hi0 hz0 hz1 hz2 rfl ?_ v4 l.length (flatE l) ?_ ?_ (.slice (some ⟨w4.heap.size, 0, none⟩) 1 1) 1 (flatE [x]) ?_ ?_ (flatE_one _) ?_ ?_ ?_ ?_; rfl; rfl; decide; rfl; exact ho4.alloc _; rfl; (refine Rd.oneE ?_ ?_ <;> simp); (simp only [maxLen]; omega); omega; (have := hb4.size; simp; omega); intro v5 w5 hown hgr hat; have had : Added w3 w5 v5 l x := Added.mkA hb4 ho4 hown hgr) | (refine step_append_rd _ ?_ (.tmp 36) (.tmp 38) 22 ?_ w3.heap.size 40 i0 (.agg #[.string ByteArray.empty, .int .i64 0]) 2 24 Try.underlying22 hi0 hz0 hz1 hz2 rfl ?_ v4 l.length (flatE l) ?_ ?_ (.slice (some ⟨w3.heap.size, 0, none⟩) 1 1) 1 (flatE [x]) ?_ ?_ (flatE_one _) ?_ ?_ ?_ ?_; rfl; rfl; decide; rfl; exact ho4; rfl; (refine Rd.oneE ?_ ?_ <;> (refine hb4'.cellAt ?_; simp)); (simp only [maxLen]; omega); omega; (have := hb4.size; omega); intro v5 w5 hown hgr hat; have had : Added w3 w5 v5 l x := Added.mkB hb4 ho4 hown hgr))
  all_goals
    have hlx : (l ++ [x]).length = l.length + 1 := by simp
    obtain ⟨g5, cap5, hv5, hg5, hr5⟩ := had.2.row (by rw [hlx]; omega)
    rw [hlx] at hv5
    subst hv5
    have HR5 := Lib.hid hr5
    have HX5 := Lib.hid had.1
    have HLx := Lib.hid hlx
    clear had hr5 hown hgr hat hb4 ho4 ho4' hb4' hlx
    go_wp2_with fail
    have hu := up_t (l ++ [x]) l.length g5 cap5 w5 HR5.out (by rw [HLx.out]; omega) (by rw [HLx.out]; omega)
    rw [HLx.out] at hu
    refine hu.mono ?_
    rintro e w6 ⟨rfl, hr6, hg6⟩
    have hn5 : w.heap.size + 1 ≠ g5 := by omega
    obtain ⟨p2, u2⟩ := (Cel.ext N2.out HX5.out).g hg6 hn5
    obtain ⟨p3, u3⟩ := (Cel.ext N3.out HX5.out).g hg6 hn5
    have HR6 := Lib.hid hr6
    have HB6 := Lib.hid ((HB3.out.tr HX5.out).grow hg6 (fun q hq => by injection hq with hq; subst hq; omega))
    clear hu hr6 hg6
    go_wp2
    refine bodyPost_ret (v := .tuple #[.slice (some ⟨g5, 0, none⟩) (l.length + 1) cap5, .agg #[.int .i64 0, .int .i64 0]]) (by simp [results, Try.results28, go_sem, p2, p3]) rfl ?_
    refine ⟨_, rfl, ?_, (HB6.out.set (by simp) _).set (by simp) _, fun g off n c hv => by injection hv with hv; injection hv with hv; injection hv with hv; omega⟩
    have he := ((RowE.far (RowE.far HR6.out (p := ⟨w.heap.size + 1, 0, none⟩) (Ne.symm hn5) (.int .i64 0)) (p := ⟨w.heap.size + 1, 1, none⟩) (Ne.symm hn5) (.int .i64 0)).own (Nat.zero_le _)).ents
    rw [up_len, HLx.out] at he
    exact he
theorem add_good (l : List Ent) (x : Ent) (v : Value) (w : World) (hl : EntS w v l) (h : qf l true = (0, 0)) (hcode : addCode l x = 0) : Calls Try.prog 28 #[v, .agg #[.string x.name, .int .i64 x.rank]] w (RetLF (up (l ++ [x]) l.length) (0, 0) w) :=
  (add_goodF l x v w hl h hcode).mono fun _ _ ⟨v', h1, h2, h3, _⟩ => ⟨v', h1, h2, h3⟩
end Go.Proofs.Ytefeiogbaiodnaa

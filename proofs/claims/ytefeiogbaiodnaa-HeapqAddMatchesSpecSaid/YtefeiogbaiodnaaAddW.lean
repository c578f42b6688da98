/- The walk of HeapqAddMatchesSpec: it returns true; no condition. -/
import Derived.Test.YtefeiogbaiodnaaAddC
namespace Go.Proofs.Ytefeiogbaiodnaa
open Go.RowKit

theorem step_append_rdg {P : Program} (w : World) {ops : Array Oper} {o : Oper} {a : Act} {K : Act → World → Prop} {Q : Exit → Act → World → Prop} {E : Prop} (hw : Region.wanted o (yielded ops a.tmps) = true) (s x : Operand) (t : TypeId)
    (ho : o.op = .call { callee := .builtin .append, args := #[s, x], argTypes := #[t, t] })
    (base : Nat) (e : TypeId) (i : TypeInfo) (z : Value) (size bytes : Nat) (ht : P.underlying t = some (.slice e)) (hi : P.info? e = some i) (hz : i.zero = some z)
    (hsize : i.size = size) (hby : i.bytes = bytes) (hzs : z.cells.size = size) (hsz : 0 < size)
    (v : Value) (n : Nat) (xs : List Value) (hs : a.eval s = v) (hown : w.ownsRow base e size v n xs)
    (u : Value) (m : Nat) (news : List Value) (hx : a.eval x = u) (hr : Rd w size u m news) (h1 : ∀ u ∈ news, u.oneCell' = true)
    (h63 : n + m ≤ maxLen) (hbytes : (n + m) * bytes ≤ 140737488355328) (hbase : base ≤ w.heap.size)
    (h : ∀ v' w', w'.ownsRow base e size v' (n + m) (xs ++ news) → w.grownBy w' v.ownBlock → (v'.ownBlock = v.ownBlock ∨ v'.ownBlock = some w.heap.size) → K (a.put o.dst v') w') :
    if Region.wanted o (yielded ops a.tmps) = true then Oper.wp P o a w K Q else E := by
  rw [if_pos hw]
  exact wp_append_rd w s x t ho base e i z size bytes ht hi hz hsize hby hzs hsz v n xs hs hown u m news hx hr h1 h63 hbytes hbase h

/-- what the appends of the law leave -/
def App (w0 w1 : World) (v : Value) (l : List Ent) : Prop := Ext w0 w1 ∧ OwnE w1 w0.heap.size v l
/-- the one-entry slice, where it lies -/
def OneE (w : World) (v : Value) (x : Ent) : Prop := Rd w 2 v 1 (flatE [x])
theorem OneE.mk' {w w' : World} {g h : Nat} {x : Ent} (c0 : w.cell? ⟨g, 0, none⟩ = some (.string x.name)) (c1 : w.cell? ⟨g, 1, none⟩ = some (.int .i64 x.rank)) (hg : w.grownBy w' (some h)) (hne : g ≠ h) : OneE w' (.slice (some ⟨g, 0, none⟩) 1 1) x :=
  Rd.oneE (G.cellAt hg c0 hne) (G.cellAt hg c1 hne)
theorem App.mk1 {w0 w W : World} {v2 : Value} {l : List Ent} {g : Nat} (hb : Ext w0 w) (hg : w0.heap.size ≤ g) (hown : W.ownsRow w0.heap.size 40 2 v2 (0 + l.length) ([] ++ flatE l)) (hgr : w.grownBy W (some g)) : App w0 W v2 l :=
  ⟨hb.grow hgr (fun q hq => by injection hq with hq; subst hq; exact hg), by unfold OwnE; simpa using hown⟩
theorem App.mk2 {w0 w W : World} {v1 v2 : Value} {l : List Ent} {x : Ent} (hb : Ext w0 w) (ho : w.ownsRow w0.heap.size 40 2 v1 l.length (flatE l)) (hown : W.ownsRow w0.heap.size 40 2 v2 (l.length + 1) (flatE l ++ flatE [x])) (hgr : w.grownBy W v1.ownBlock) : App w0 W v2 (l ++ [x]) :=
  ⟨hb.grow hgr (fun q hq => (ho.lt q hq).1), by unfold OwnE; rw [List.length_append, flatE_append]; exact hown⟩
theorem made0 (w : World) (base : Nat) (h : base ≤ w.heap.size) : (w.alloc (.cells #[] 40)).ownsRow base 40 2 (.slice (some ⟨w.heap.size, 0, none⟩) 0 0) 0 [] := own_low (World.ownsRow_made w #[] 0 (Nat.le_refl _) (by simp [maxLen]) (by simp)) h
theorem made1 (w : World) (o : Obj) : ((w.alloc o).alloc (.cells #[] 40)).ownsRow w.heap.size 40 2 (.slice (some ⟨w.heap.size + 1, 0, none⟩) 0 0) 0 [] := by
  have := made0 (w.alloc o) w.heap.size (by simp)
  rwa [show (w.alloc o).heap.size = w.heap.size + 1 by simp] at this

set_option maxRecDepth 100000 in
set_option maxHeartbeats 4000000 in
theorem addLaw_good (l : List Ent) (x : Ent) (v : Value) (w : World) (hl : EntS w v l) (h : qf l true = (0, 0)) (hcode : addCode l x = 0) : Calls Try.prog 7 #[v, .agg #[.string x.name, .int .i64 x.rank]] w fun e w' => e = .returned (.bool true) ∧ Ext w w' := by
  obtain ⟨i0, hi0, hz0, hz1, hz2⟩ := info_parts info40
  have HL := Lib.hid hl
  obtain ⟨A, c, rfl, hm, hA⟩ := hl.out
  have h200 : l.length ≤ 200 := qf_len (ord := true) (by rw [h])
  have hlen : l.length ≠ 200 := by intro e; unfold addCode at hcode; rw [if_pos e] at hcode; cases hcode
  have hef : efault x = 0 := by
    unfold addCode at hcode
    rw [if_neg hlen] at hcode
    by_cases hh : efault x = 0
    · exact hh
    · rw [if_pos hh] at hcode; exact hcode
  have hidx : ¬ 0 ≤ idx l x.name := by
    unfold addCode at hcode
    rw [if_neg hlen, if_neg (by simp [hef])] at hcode
    intro hh
    rw [if_pos hh] at hcode
    cases hcode
  have HLaw := Lib.hid (add_law (x := x) (by rw [h]) hcode)
  have hq : ((l.length : Int) == 200) = false := beq_eq_false_iff_ne.2 (by omega)
  have HE := Lib.hid hef
  have HZ := Lib.hid h
  have HC := Lib.hid hcode
  clear hl hcode h hA hef hlen
  go_enter Try.func7, Try.ntmps7
  go_wp2_with fail
  refine (add_good l x _ _ (HL.out.ext (Ext.new _ _)) HZ.out HC.out).mono ?_
  rintro e w1 ⟨v1, rfl, hs1, hb1⟩
  have k0 := hb1.cellAt (b := w.heap.size) (o := 0) (v := .string x.name) (by simp)
  have k1 := hb1.cellAt (b := w.heap.size) (o := 1) (v := .int .i64 x.rank) (by simp)
  have HB1 := Lib.hid ((Ext.new w _).tr hb1)
  have HS1 := Lib.hid hs1
  clear hb1 hs1
  go_wp2_with fail
  refine (queueFault_any l true _ _ (HL.out.ext (HB1.out.alloc' _))).mono ?_
  rw [HZ.out]
  rintro e w2 ⟨rfl, hb2⟩
  have hx := (Ext.new w1 (.cells #[.int .i64 0, .int .i64 0] 24)).tr hb2
  have m0 := hx.cellAt k0
  have m1 := hx.cellAt k1
  have m2 := hb2.cellAt (b := w1.heap.size) (o := 0) (v := .int .i64 0) (by simp)
  have q0 : w.heap.size < w2.heap.size := World.block_lt_of_cell? w2 _ m0
  have q1 : w1.heap.size < w2.heap.size := World.block_lt_of_cell? w2 _ m2
  have HB2 := Lib.hid (HB1.out.tr hx)
  have HS2 := Lib.hid (HS1.out.ext hx)
  clear hb2 hx k0 k1
  go_wp2_with fail
  refine (entryFault_any _ _ _).mono ?_
  have hex : efault { name := x.name, rank := x.rank } = 0 := HE.out
  rw [hex]
  rintro e w3 ⟨rfl, hb3⟩
  have hx := (Ext.new w2 (.cells #[.int .i64 0, .int .i64 0] 24)).tr hb3
  have n0 := hx.cellAt m0
  have n1 := hx.cellAt m1
  have n2 := hx.cellAt m2
  have n4 := hb3.cellAt (b := w2.heap.size) (o := 0) (v := .int .i64 0) (by simp)
  have HB3 := Lib.hid (HB2.out.tr hx)
  have HS3 := Lib.hid (HS2.out.ext hx)
  clear hx hb3 m0 m1 m2 hex
  go_wp2_with fail
  refine (entry_any l x.name _ _ (HL.out.ext HB3.out)).mono ?_
  rintro e w4 ⟨rfl, rfl⟩
  have HQ := Lib.hid (show (decide ((qf (up (l ++ [x]) l.length) true).1 = 0) && decide (sorted (up (l ++ [x]) l.length) = sorted (l ++ [x]))) = true by simp [HLaw.out.1, HLaw.out.2])
  have hL4 := HL.out.ext HB3.out
  have HL3 := Lib.hid hL4
  clear hL4
  go_wp2_with fail
  go_region_held3 (fun w' => w'.cell? ⟨w.heap.size, 0, none⟩ = some (.string x.name) ∧ w'.cell? ⟨w.heap.size, 1, none⟩ = some (.int .i64 x.rank) ∧ w'.cell? ⟨w1.heap.size, 0, none⟩ = some (.int .i64 0))
    (first | exact ⟨hx9.cellAt n0, hx9.cellAt n1, hx9.cellAt n2⟩ | exact ⟨hx8.cellAt n0, hx8.cellAt n1, hx8.cellAt n2⟩ | exact ⟨hx7.1.cellAt n0, hx7.1.cellAt n1, hx7.1.cellAt n2⟩ | exact ⟨hx6.1.cellAt n0, hx6.1.cellAt n1, hx6.1.cellAt n2⟩ | exact ⟨(hx6.1.alloc' _).cellAt n0, (hx6.1.alloc' _).cellAt n1, (hx6.1.alloc' _).cellAt n2⟩ | exact ⟨(Ext.new w3 _).cellAt n0, (Ext.new w3 _).cellAt n1, (Ext.new w3 _).cellAt n2⟩ | exact ⟨((Ext.new w3 _).alloc' _).cellAt n0, ((Ext.new w3 _).alloc' _).cellAt n1, ((Ext.new w3 _).alloc' _).cellAt n2⟩ | exact ⟨n0, n1, n2⟩ | go_keep)
    (first | (go_at_call 14; refine (queue_t (up (l ++ [x]) l.length) (l ++ [x]) _ _ _ (by exact HS3.out.ext hx7.1) (by exact hx7.2.ents) (by simp; omega)).mono ?_; rw [HQ.out]; rintro e w8 ⟨rfl, hb8⟩; have hx8 : Ext w3 w8 := hx7.1.tr hb8) | (go_at_call 13; refine (queued_t _).mono ?_; rintro e w9 ⟨rfl, hb9⟩; have hx9 : Ext w3 w9 := hx8.tr hb9) | (refine step_append_rdg _ ?_ (.tmp 57) (.tmp 59) 22 ?_ w3.heap.size 40 i0 (.agg #[.string ByteArray.empty, .int .i64 0]) 2 24 Try.underlying22 hi0 hz0 hz1 hz2 rfl ?_ v6 l.length (flatE l) ?_ ?_ (.slice (some ⟨w6.heap.size, 0, none⟩) 1 1) 1 (flatE [x]) ?_ ?_ (flatE_one _) ?_ ?_ ?_ ?_; rfl; rfl; decide; rfl; exact hx6.2.alloc _; rfl; (refine Rd.oneE ?_ ?_ <;> simp); (simp only [maxLen]; omega); omega; (have := hx6.1.size; simp; omega); intro v7 w7 hown7 hgr7 hat7; have hx7 : App w3 w7 v7 (l ++ [x]) := App.mk2 (hx6.1.alloc' _) (hx6.2.alloc _) hown7 hgr7) | (refine step_append_rdg _ ?_ (.tmp 57) (.tmp 59) 22 ?_ w3.heap.size 40 i0 (.agg #[.string ByteArray.empty, .int .i64 0]) 2 24 Try.underlying22 hi0 hz0 hz1 hz2 rfl ?_ v6 l.length (flatE l) ?_ ?_ (.slice (some ⟨w3.heap.size + 1, 0, none⟩) 1 1) 1 (flatE [x]) ?_ ?_ (flatE_one _) ?_ ?_ ?_ ?_; rfl; rfl; decide; rfl; exact hx6.2; rfl; exact hone; (simp only [maxLen]; omega); omega; (have := hx6.1.size; simp; omega); intro v7 w7 hown7 hgr7 hat7; have hx7 : App w3 w7 v7 (l ++ [x]) := App.mk2 hx6.1 hx6.2 hown7 hgr7) | (refine step_append_rdg _ ?_ (.tmp 57) (.tmp 59) 22 ?_ w3.heap.size 40 i0 (.agg #[.string ByteArray.empty, .int .i64 0]) 2 24 Try.underlying22 hi0 hz0 hz1 hz2 rfl ?_ v6 l.length (flatE l) ?_ ?_ (.slice (some ⟨w3.heap.size, 0, none⟩) 1 1) 1 (flatE [x]) ?_ ?_ (flatE_one _) ?_ ?_ ?_ ?_; rfl; rfl; decide; rfl; exact hx6.2; rfl; exact hone; (simp only [maxLen]; omega); omega; (have := hx6.1.size; simp; omega); intro v7 w7 hown7 hgr7 hat7; have hx7 : App w3 w7 v7 (l ++ [x]) := App.mk2 hx6.1 hx6.2 hown7 hgr7) | (refine step_append_rdg _ ?_ (.tmp 55) (.tmp 56) 22 ?_ w3.heap.size 40 i0 (.agg #[.string ByteArray.empty, .int .i64 0]) 2 24 Try.underlying22 hi0 hz0 hz1 hz2 rfl ?_ (.slice (some ⟨w3.heap.size, 0, none⟩) 0 0) 0 [] ?_ ?_ (.slice A l.length c) l.length (flatE l) ?_ ?_ (flatE_one _) ?_ ?_ ?_ ?_; rfl; rfl; decide; rfl; exact (made0 w3 _ (Nat.le_refl _)).drew; rfl; exact HL3.out.ext ((Ext.new w3 _).drew'); (simp only [maxLen]; omega); omega; (simp); intro v6 w6 hown hgr hat; have hx6 : App w3 w6 v6 l := App.mk1 ((Ext.new w3 _).drew') (Nat.le_refl _) hown hgr) | (refine step_append_rdg _ ?_ (.tmp 55) (.tmp 56) 22 ?_ w3.heap.size 40 i0 (.agg #[.string ByteArray.empty, .int .i64 0]) 2 24 Try.underlying22 hi0 hz0 hz1 hz2 rfl ?_ (.slice (some ⟨w3.heap.size, 0, none⟩) 0 0) 0 [] ?_ ?_ (.slice A l.length c) l.length (flatE l) ?_ ?_ (flatE_one _) ?_ ?_ ?_ ?_; rfl; rfl; decide; rfl; exact ((made0 w3 _ (Nat.le_refl _)).alloc _).drew; rfl; exact HL3.out.ext (((Ext.new w3 _).alloc' _).drew'); (simp only [maxLen]; omega); omega; (simp <;> omega); intro v6 w6 hown hgr hat; have hx6 : App w3 w6 v6 l := App.mk1 (((Ext.new w3 _).alloc' _).drew') (Nat.le_refl _) hown hgr; have hone : OneE w6 (.slice (some ⟨w3.heap.size + 1, 0, none⟩) 1 1) x := OneE.mk' (by simp) (by simp) hgr (show w3.heap.size + 1 ≠ w3.heap.size by omega)) | (refine step_append_rdg _ ?_ (.tmp 55) (.tmp 56) 22 ?_ w3.heap.size 40 i0 (.agg #[.string ByteArray.empty, .int .i64 0]) 2 24 Try.underlying22 hi0 hz0 hz1 hz2 rfl ?_ (.slice (some ⟨w3.heap.size + 1, 0, none⟩) 0 0) 0 [] ?_ ?_ (.slice A l.length c) l.length (flatE l) ?_ ?_ (flatE_one _) ?_ ?_ ?_ ?_; rfl; rfl; decide; rfl; exact (made1 w3 _).drew; rfl; exact HL3.out.ext (((Ext.new w3 _).alloc' _).drew'); (simp only [maxLen]; omega); omega; (simp <;> omega); intro v6 w6 hown hgr hat; have hx6 : App w3 w6 v6 l := App.mk1 (((Ext.new w3 _).alloc' _).drew') (show w3.heap.size ≤ w3.heap.size + 1 by omega) hown hgr; have hone : OneE w6 (.slice (some ⟨w3.heap.size, 0, none⟩) 1 1) x := OneE.mk' (by simp) (by simp) hgr (show w3.heap.size ≠ w3.heap.size + 1 by omega)))
  all_goals
    have HB9 := Lib.hid (HB3.out.tr hx9)
    clear hx9 hx8 hx7 hx6 hb8 hb9 hown hgr hat hown7 hgr7 hat7
    go_wp2
    go_ret
    exact ⟨by simp, HB9.out⟩

theorem addLaw_t (l : List Ent) (x : Ent) (v : Value) (w : World) (hl : EntS w v l) : Calls Try.prog 7 #[v, .agg #[.string x.name, .int .i64 x.rank]] w fun e w' => e = .returned (.bool true) ∧ Ext w w' := by
  by_cases h : (qf l true).1 = 0
  · by_cases hc : addCode l x = 0
    · exact addLaw_good l x v w hl (qf_zero h) hc
    · exact addLaw_code l x v w hl (qf_zero h) hc
  · exact addLaw_bad l x v w hl h
end Go.Proofs.Ytefeiogbaiodnaa

/- The walk of HeapqChangeMatchesSpec: it returns true; no condition. -/
import Derived.Test.YtefeiogbaiodnaaChgB
namespace Go.Proofs.Ytefeiogbaiodnaa
open Go.RowKit

theorem wpList_append_rdg {P : Program} {w : World} {ops : Array Oper} {rest : List Oper} {o : Oper} {a : Act} {Q : Exit → Act → World → Prop} (hw : Region.wanted o (yielded ops a.tmps) = true) (s x : Operand) (t : TypeId)
    (ho : o.op = .call { callee := .builtin .append, args := #[s, x], argTypes := #[t, t] })
    (base : Nat) (e : TypeId) (i : TypeInfo) (z : Value) (size bytes : Nat) (ht : P.underlying t = some (.slice e)) (hi : P.info? e = some i) (hz : i.zero = some z)
    (hsize : i.size = size) (hby : i.bytes = bytes) (hzs : z.cells.size = size) (hsz : 0 < size)
    (v : Value) (n : Nat) (xs : List Value) (hs : a.eval s = v) (hown : w.ownsRow base e size v n xs)
    (u : Value) (m : Nat) (news : List Value) (hx : a.eval x = u) (hr : Rd w size u m news) (h1 : ∀ u ∈ news, u.oneCell' = true)
    (h63 : n + m ≤ maxLen) (hbytes : (n + m) * bytes ≤ 140737488355328) (hbase : base ≤ w.heap.size)
    (h : ∀ v' w', w'.ownsRow base e size v' (n + m) (xs ++ news) → w.grownBy w' v.ownBlock → (v'.ownBlock = v.ownBlock ∨ v'.ownBlock = some w.heap.size) → wpList P ops Q rest (a.put o.dst v') w') : wpList P ops Q (o :: rest) a w :=
  wpList_step fun K hK => by
    rw [if_pos hw]
    exact wp_append_rd w s x t ho base e i z size bytes ht hi hz hsize hby hzs hsz v n xs hs hown u m news hx hr h1 h63 hbytes hbase fun v' w' h2 h3 h4 => hK _ _ (h v' w' h2 h3 h4)

set_option maxRecDepth 100000 in
set_option maxHeartbeats 4000000 in
theorem changeLaw_good (l : List Ent) (nm : ByteArray) (r : Int) (k : Nat) (v : Value) (w : World) (hl : EntS w v l) (h : qf l true = (0, 0)) (hk : idx l nm = k) (hkl : k < l.length) (hnm : (nth l k).name = nm) (hr : ¬ (r < -1000000 ∨ 1000000 < r)) : Calls Try.prog 8 #[v, .string nm, .int .i64 r] w fun e w' => e = .returned (.bool true) ∧ Ext w w' := by
  obtain ⟨i0, hi0, hz0, hz1, hz2⟩ := info_parts info40
  have h200 : l.length ≤ 200 := qf_len (ord := true) (by rw [h])
  have HL := Lib.hid hl
  have HZ := Lib.hid h
  have HK := Lib.hid hk
  have HR := Lib.hid hr
  have HQ1 := Lib.hid (remove_law (by rw [h]) hkl)
  have HQ2 := Lib.hid (change_law (by rw [h]) hkl hr)
  rw [hnm] at HQ2
  have HN := Lib.hid hnm
  obtain ⟨b, hb⟩ : ∃ b, b = decide ((-1000000 : Int) ≤ r ∧ r ≤ 1000000) := ⟨_, rfl⟩
  have hbt : b = true := by rw [hb]; simp; omega
  have HBb := Lib.hid hb
  have b0 : ¬ (k : Int) < 0 := by omega
  clear hl h hk hr hnm hb
  go_enter Try.func8, Try.ntmps8
  go_wp2_with fail
  refine (change_good l nm r k _ _ HL.out HZ.out HK.out hkl HR.out).mono ?_
  rw [HN.out]
  rintro e w1 ⟨v1, rfl, hs1, hb1⟩
  have HB1 := Lib.hid hb1
  have HS1 := Lib.hid hs1
  clear hb1 hs1
  go_wp2_with fail
  refine (remove_good l nm k _ _ (HL.out.ext (HB1.out.alloc' _)) HZ.out HK.out hkl).mono ?_
  rintro e w2 ⟨v2, rfl, hs2, hb2⟩
  have hx := (Ext.new w1 (.cells #[.int .i64 0, .int .i64 0] 24)).tr hb2
  have k0 := hb2.cellAt (b := w1.heap.size) (o := 0) (v := .int .i64 0) (by simp)
  have HB2 := Lib.hid (HB1.out.tr hx)
  have HS12 := Lib.hid (HS1.out.ext hx)
  have HS2 := Lib.hid hs2
  clear hb2 hs2 hx
  go_wp2_with fail
  refine (queueFault_any l true _ _ (HL.out.ext (HB2.out.alloc' _))).mono ?_
  rw [HZ.out]
  rintro e w3 ⟨rfl, hb3⟩
  have hx := (Ext.new w2 (.cells #[.int .i64 0, .int .i64 0] 24)).tr hb3
  have m0 := hx.cellAt k0
  have m2 := hb3.cellAt (b := w2.heap.size) (o := 0) (v := .int .i64 0) (by simp)
  have q1 : w1.heap.size < w3.heap.size := World.block_lt_of_cell? w3 _ m0
  have q2 : w2.heap.size < w3.heap.size := World.block_lt_of_cell? w3 _ m2
  have HB3 := Lib.hid (HB2.out.tr hx)
  have HS13 := Lib.hid (HS12.out.ext hx)
  have HS23 := Lib.hid (HS2.out.ext hx)
  clear hb3 hx k0
  go_wp2_with fail
  refine (entry_any l nm _ _ (HL.out.ext (HB3.out.alloc' _))).mono ?_
  rw [HK.out]
  rintro e w4 ⟨rfl, rfl⟩
  go_wp2_with fail
  refine (refWithout_t l k _ _ (HL.out.ext (HB3.out.alloc' _)) hkl (by omega)).mono ?_
  rintro e w5 ⟨v5, rfl, ho5, hb5⟩
  have hx := (Ext.new w3 (.cells #[.int .i64 0, .int .i64 0] 24)).tr hb5
  have n0 := hx.cellAt m0
  have HB5 := Lib.hid (HB3.out.tr hx)
  have HS15 := Lib.hid (HS13.out.ext hx)
  have HS25 := Lib.hid (HS23.out.ext hx)
  have HO5 := Lib.hid ho5
  clear ho5 hb5 hx m0 m2
  go_wp2_with fail
  refine (queue_t (woutQ l k) (wout l k) _ _ _ HS25.out HO5.out.ents (by rw [wout_len hkl]; omega)).mono ?_
  rw [show (decide ((qf (woutQ l k) true).1 = 0) && decide (sorted (woutQ l k) = sorted (wout l k))) = true by simp [HQ1.out.1, HQ1.out.2]]
  rintro e w6 ⟨rfl, hb6⟩
  have p0 := hb6.cellAt n0
  have HB6 := Lib.hid (HB5.out.tr hb6)
  have HS16 := Lib.hid (HS15.out.ext hb6)
  clear hb6 n0
  go_wp2_with fail
  refine (in_any _ _ _ _).mono ?_
  rw [← HBb.out]
  rintro e w7 ⟨rfl, rfl⟩
  subst hbt
  go_wp2_with fail
  refine (refWithout_t l k _ _ (HL.out.ext HB6.out) hkl (by omega)).mono ?_
  rintro e w8 ⟨v8, rfl, ho8, hb8⟩
  have HB8 := Lib.hid (HB6.out.tr hb8)
  have HS18 := Lib.hid (HS16.out.ext hb8)
  have t0 := hb8.cellAt p0
  have HO8 := Lib.hid ho8
  have HX8 := Lib.hid hb8
  have HLw := Lib.hid (wout_len hkl)
  clear ho8 hb8 p0
  go_wp2_with (at_builtin; refine wpList_append_rdg ?h0 _ _ 22 rfl w6.heap.size 40 i0 _ 2 24 Try.underlying22 hi0 hz0 hz1 hz2 rfl (by decide) v8 (wout l k).length (flatE (wout l k)) rfl ?h1 (.slice (some ⟨w8.heap.size, 0, none⟩) 1 1) 1 (flatE [⟨nm, r⟩]) rfl ?h2 (flatE_one _) ?h3 ?h4 ?h5 ?_)
  case h1 => exact HO8.out.alloc _
  case h2 => exact Rd.oneE (by simp) (by simp)
  case h3 => rw [HLw.out]; simp only [maxLen]; omega
  case h4 => rw [HLw.out]; omega
  case h5 => have := HX8.out.size; simp; omega
  intro v9 w9 hown hgr hat
  have hlt := HO8.out.lt
  have hx := (Ext.new w8 (.cells #[.string nm, .int .i64 r] 40)).toG v8.ownBlock
  have hsz := HB6.out.size
  have HB9 := Lib.hid ((HB8.out.alloc' _).grow hgr (fun q hq => Nat.le_trans hsz (hlt q hq).1))
  have HX9 : Hid (Ext w6 w9) := Lib.hid ((HX8.out.alloc' _).grow hgr (fun q hq => (hlt q hq).1))
  have HS19 := Lib.hid (HS16.out.ext HX9.out)
  have HO9 : Hid (EntS w9 v9 (wout l k ++ [⟨nm, r⟩])) := Lib.hid (by
    have := Rd.own hown
    unfold EntS
    rw [List.length_append, flatE_append]
    exact this)
  clear hown hgr hat hlt hx hsz t0
  go_wp2_with fail
  refine (queue_t (settle (l.set k ⟨nm, r⟩) k) (wout l k ++ [⟨nm, r⟩]) _ _ _ HS19.out HO9.out (by simp [HLw.out]; omega)).mono ?_
  rw [show (decide ((qf (settle (l.set k ⟨nm, r⟩) k) true).1 = 0) && decide (sorted (settle (l.set k ⟨nm, r⟩) k) = sorted (wout l k ++ [⟨nm, r⟩]))) = true by simp [HQ2.out.1, HQ2.out.2]]
  rintro e w10 ⟨rfl, hb10⟩
  have HB10 := Lib.hid (HB9.out.tr hb10)
  clear hb10
  go_wp2_with fail
  refine (queued_t _).mono ?_
  rintro e w11 ⟨rfl, hb11⟩
  have HB11 := Lib.hid (HB10.out.tr hb11)
  clear hb11
  go_wp2
  go_ret
  exact ⟨rfl, HB11.out⟩
end Go.Proofs.Ytefeiogbaiodnaa

/- Walks of the reference's Ints, Without, Sorted, Queue; the sizes that the calls need are premises. -/
import Derived.Test.YtefeiogbaiodnaaMergeDI
namespace Go.Proofs.Ytefeiogbaiodnaa
open Go.RowKit

theorem step_append_rd {P : Program} (w : World) {ops : Array Oper} {o : Oper} {a : Act} {K : Act → World → Prop} {Q : Exit → Act → World → Prop} {E : Prop} (hgd : o.guard = none) (s x : Operand) (t : TypeId)
    (ho : o.op = .call { callee := .builtin .append, args := #[s, x], argTypes := #[t, t] })
    (base : Nat) (e : TypeId) (i : TypeInfo) (z : Value) (size bytes : Nat) (ht : P.underlying t = some (.slice e)) (hi : P.info? e = some i) (hz : i.zero = some z)
    (hsize : i.size = size) (hby : i.bytes = bytes) (hzs : z.cells.size = size) (hsz : 0 < size)
    (v : Value) (n : Nat) (xs : List Value) (hs : a.eval s = v) (hown : w.ownsRow base e size v n xs)
    (u : Value) (m : Nat) (news : List Value) (hx : a.eval x = u) (hr : Rd w size u m news) (h1 : ∀ u ∈ news, u.oneCell' = true)
    (h63 : n + m ≤ maxLen) (hbytes : (n + m) * bytes ≤ 140737488355328) (hbase : base ≤ w.heap.size)
    (h : ∀ v' w', w'.ownsRow base e size v' (n + m) (xs ++ news) → w.grownBy w' v.ownBlock → (v'.ownBlock = v.ownBlock ∨ v'.ownBlock = some w.heap.size) → K (a.put o.dst v') w') :
    if Region.wanted o (yielded ops a.tmps) = true then Oper.wp P o a w K Q else E := by
  have hw : Region.wanted o (yielded ops a.tmps) = true := by simp [Region.wanted, hgd]
  rw [if_pos hw]
  exact wp_append_rd w s x t ho base e i z size bytes ht hi hz hsize hby hzs hsz v n xs hs hown u m news hx hr h1 h63 hbytes hbase h

set_option maxRecDepth 100000 in
set_option maxHeartbeats 1000000 in
theorem refWithout_t (l : List Ent) (k : Nat) (v : Value) (w : World) (hl : EntS w v l) (hk : k < l.length) (hm : l.length ≤ 1000000) :
    Calls Try.prog 24 #[v, .int .i64 k] w (RetOwn w (wout l k)) := by
  obtain ⟨i0, hi, hz0, hz1, hz2⟩ := info_parts info40
  have HL := Lib.hid hl
  obtain ⟨A, c, rfl, hlen, hc, hcm, hA⟩ := hl
  obtain ⟨g, off, rfl, _⟩ := hA (by omega)
  obtain ⟨B', hsl, hB'⟩ := slice_back (P := Try.prog) (size := 2) Try.underlying22 (fun w => by kernel_rfl) g off l.length c (k + 1) ((k : Int) + 1) (by omega) (by omega) hc
  have R1 := Lib.hid (HL.out.front (m := k) (by omega))
  have R2 := Lib.hid (HL.out.back (k := k + 1) (by omega) B' hB')
  have HF := Lib.hid (show flatE (wout l k) = ((flatE l).take (k * 2)) ++ ((flatE l).drop ((k + 1) * 2)) by rw [wout, flatE_append, flatE_take, flatE_drop])
  have HLn := Lib.hid (wout_len hk)
  have s1 : IntKind.i64.wrap ((k : Int) + 1) = (k : Int) + 1 := IntWalk.i64_in _ (by omega)
  have s2 : (0 : Int) ≤ (k : Int) + 1 := by omega
  have s3 : (k : Int) + 1 ≤ (l.length : Int) := by omega
  have s4 : (0 : Int) ≤ (k : Int) := by omega
  have s5 : (k : Int) ≤ (c : Int) := by omega
  have O1 := Lib.hid (fun u (hu : u ∈ (flatE l).take (k * 2)) => flatE_one l u (List.mem_of_mem_take hu))
  have O2 := Lib.hid (fun u (hu : u ∈ (flatE l).drop ((k + 1) * 2)) => flatE_one l u (List.mem_of_mem_drop hu))
  clear hA hB' hlen hcm
  go_enter Try.func24, Try.ntmps24
  go_wp2_with fail
  go_region_held3 (fun _ => True) (trivial)
    (first | (refine step_append_rd _ (by rfl) (.tmp 5) (.tmp 8) 22 (by rfl) w.heap.size 40 i0 _ 2 24 Try.underlying22 hi hz0 hz1 hz2 rfl (by decide) _ 0 [] (by rfl) (by exact (World.ownsRow_made w #[] 0 (Nat.le_refl _) (by simp [maxLen]) (by simp)).drew) _ k ((flatE l).take (k * 2)) (by rfl) (by exact R1.out.ext ((Ext.new w _).drew')) O1.out (by simp only [maxLen]; omega) (by omega) (by simp) ?_; intro v2 w2 hown hgr hat) | (refine step_append_rd _ (by rfl) (.tmp 9) (.tmp 13) 22 (by rfl) w.heap.size 40 i0 _ 2 24 Try.underlying22 hi hz0 hz1 hz2 rfl (by decide) _ (0 + k) ([] ++ (flatE l).take (k * 2)) (by rfl) (by exact hown) _ (l.length - (k + 1)) ((flatE l).drop ((k + 1) * 2)) (by rfl) (by exact R2.out.ext (((Ext.new w _).drew').grow hgr (fun q hq => by injection hq with hq; subst hq; exact Nat.le_refl _))) O2.out (by simp only [maxLen]; omega) (by omega) (by have := hgr.size; simp at this; omega) ?_; intro v3 w3 hown3 hgr3 hat3))
  clear s1
  have HO3 := Lib.hid hown3
  have hlt := hown.lt
  have HB3 := Lib.hid ((((Ext.new w _).drew').grow hgr (fun q hq => by injection hq with hq; subst hq; exact Nat.le_refl _)).grow hgr3 (fun q hq => (hlt q hq).1))
  clear hown3 hgr3 hat3 hown hgr hat hlt
  go_wp2
  go_ret
  refine ⟨_, rfl, ?_, HB3.out⟩
  unfold OwnE
  have h3 := HO3.out
  rw [HF.out, HLn.out]
  rw [show l.length - 1 = 0 + k + (l.length - (k + 1)) by omega]
  simpa using h3
end Go.Proofs.Ytefeiogbaiodnaa

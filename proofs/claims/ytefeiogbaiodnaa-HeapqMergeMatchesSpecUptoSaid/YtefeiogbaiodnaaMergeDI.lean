/- The walk of Merge at numbers; the number of lists and of elements is bounded by premises. -/
import Derived.Test.YtefeiogbaiodnaaMergeCI
import Derived.Deep.LoopGhost
namespace Go.Proofs.Ytefeiogbaiodnaa
open Go.RowKit

theorem info3_el : (Try.prog.info? 3).map (fun i => (i.zero, i.size, i.bytes)) = some (some (.int .i64 0), 1, 8) := by kernel_rfl
theorem size3_el (w : World) : (sizeOf 3).run Try.prog w = .ok encI.size w := by kernel_rfl

/-- the k-th list without its first element, stored back -/
theorem tailI {w w0 : World} {g cap n k base : Nat} {ls : List (List ElI)} {xs : List Value} {x : ElI} {r : List ElI} {y : Value} (hn : n = ls.length) (hk : ls[k]? = some (x :: r))
    (ho : w.ownsRow base 59 1 (.slice (some ⟨g, 0, none⟩) n cap) n xs) (h2 : ∀ (i : Nat) (l : List ElI), ls[i]? = some l → ∃ x, xs[i]? = some x ∧ SlA encI w0 x l) (hy : SlA encI w0 y r) :
    (w.setCell ⟨g, k, none⟩ y).ownsRow base 59 1 (.slice (some ⟨g, 0, none⟩) n cap) n (xs.set k y) ∧ (∀ (i : Nat) (l : List ElI), (ls.set k r)[i]? = some l → ∃ x, (xs.set k y)[i]? = some x ∧ SlA encI w0 x l) := by
  have hkl := (List.getElem?_eq_some_iff.1 hk).1
  obtain ⟨hl, h3⟩ := ho
  rcases h3 with ⟨h, _⟩ | ⟨g', cap', cur, hv, hb, hg, hnc, hm, hs, ht⟩
  · cases h
  · injection hv with e1 e2 e3
    injection e1 with e1
    injection e1 with e1
    subst e1; subst e3
    refine ⟨⟨by simpa using hl, .inr ⟨g, cap, cur.setIfInBounds k y, rfl, hb, ?_, hnc, hm, by simpa using hs, ?_⟩⟩, fun i l hi => ?_⟩
    · simp [World.setCell, Array.getElem?_modify, hg]
    · rw [← ht, Array.toList_setIfInBounds, List.take_set]
    · have hx : xs.length = ls.length := by omega
      by_cases e : i = k
      · subst e
        rw [List.getElem?_set_self (by omega)] at hi
        injection hi with hi
        subst hi
        exact ⟨y, by rw [List.getElem?_set_self (by omega)], hy⟩
      · rw [List.getElem?_set_ne (by omega)] at hi ⊢
        exact h2 i l hi

set_option maxRecDepth 100000 in
set_option maxHeartbeats 2000000 in
theorem mergeI_t (ls : List (List ElI)) (v : Value) (w : World) (hs : SlL encI w v ls) (h1 : ls.length ≤ 2000000) (h2 : total ls ≤ 4000000) :
    Calls Try.prog 36 #[v, .func (.func 37) #[] #[]] w fun e w' => SlRet encI (mergeL ltI ls) w e w' := by
  obtain ⟨i0, hi, hz0, hz1, hz2⟩ := info_parts info3_el
  obtain ⟨xs, hrd, hall⟩ := hs
  have h1c := oneRowI hrd rfl hall
  have HAll := Lib.hid hall
  have HRd := Lib.hid hrd
  have H1C := Lib.hid h1c
  clear hall hrd h1c
  go_enter Try.func36, Try.ntmps36
  go_wp2_with fail
  refine (cloneI_t ls.length xs v _ HRd.out H1C.out (by omega)).mono ?_
  rintro e w1 ⟨v1, rfl, ho1, hb1⟩
  have HO1 := Lib.hid ho1
  have HB1 := Lib.hid hb1
  clear ho1 hb1
  go_wp2_with fail
  go_loopg [6] (total ls + 1) (fun m vo wr => ∃ (ls' : List (List ElI)) (xs' : List Value) (out : List ElI), ls'.length = ls.length ∧ wr.ownsRow w.heap.size 59 1 v1 ls'.length xs' ∧ (∀ (i : Nat) (l : List ElI), ls'[i]? = some l → ∃ x, xs'[i]? = some x ∧ SlA encI w x l) ∧
      wr.ownsRow w.heap.size 3 encI.size vo out.length (flat encI out) ∧ total ls' + 1 = m ∧ out ++ mergeF ltI m ls' = mergeL ltI ls ∧ out.length + total ls' ≤ total ls ∧ Ext w wr)
  case atStart => exact ⟨ls, xs, [], rfl, HO1.out, HAll.out, World.ownsRow_nil _ _ _ _, rfl, rfl, by simp, HB1.out⟩
  case round =>
    obtain ⟨ls', xs', out, hll, how, hal, hout, hm, hmg, htot, hb⟩ := hrel
    have hsl : SlL encI wr v1 ls' := ⟨xs', Rd.own how, fun i l hl => by obtain ⟨x, h3, h4⟩ := hal i l hl; exact ⟨x, h3, h4.ext hb⟩⟩
    have HSl := Lib.hid hsl
    have HOw := Lib.hid how
    have HAl := Lib.hid hal
    have HOut := Lib.hid hout
    have HM := Lib.hid hm
    have HMg := Lib.hid hmg
    have HB := Lib.hid hb
    have HLL := Lib.hid hll
    clear hsl how hal hout hm hmg hb hll
    go_wp2_with fail
    refine (leastI_t ls' _ _ HSl.out (by have := HLL.out; omega)).mono ?_
    rintro e w2 ⟨rfl, hb2⟩
    have HB2 := Lib.hid (HB.out.tr hb2)
    have HOw2 := Lib.hid (HOw.out.kept (hb2.toG none) (by cases v1.ownBlock <;> simp))
    have HOut2 := Lib.hid (HOut.out.kept (hb2.toG none) (by rcases Value.ownBlock _ <;> simp))
    clear hb2
    rcases leastL_good ltI ls' with hg | ⟨k, x, r, hg, hk⟩
    · have HF := Lib.hid (mergeF_stop ltI (n := total ls') hg)
      rw [hg]
      go_wp2
      go_ret
      refine ⟨_, rfl, ?_, HB2.out⟩
      rw [← HMg.out, ← HM.out, HF.out, List.append_nil]
      exact Rd.own HOut2.out
    · have hkl : k < ls'.length := (List.getElem?_eq_some_iff.1 hk).1
      have HK := Lib.hid hk
      have HF := Lib.hid (mergeF_step ltI (n := total ls') hg hk)
      have HT := Lib.hid (total_set ls' k x r hk)
      obtain ⟨xk, hxk, hsk⟩ := HAl.out k _ hk
      obtain ⟨g, cap, rfl, hgb, hnc, hcells, hfz⟩ := own_form HOw2.out (by omega)
      have c0 := hcells k xk hxk
      have f0 := hfz k
      obtain ⟨g2, off2, c2, rfl, hrc, hrm, d0⟩ := headI hsk
      have e0 := HB2.out.cellAt d0
      have HSk := Lib.hid hsk
      obtain ⟨A', hsl, hA'⟩ := slice_back (P := Try.prog) Try.underlying59 size3_el g2 off2 (r.length + 1) c2 1 1 rfl (by omega) hrc
      have hy : SlA encI w (.slice A' (r.length + 1 - 1) (c2 - 1)) r := by
        have hb := Rd.back (k := 1) HSk.out (by simp) A' hA'
        rw [← flat_drop] at hb
        simpa [SlA] using hb
      have HY := Lib.hid hy
      have b0 : (0 : Int) ≤ (k : Int) := by omega
      have b1 : (k : Int) < (ls'.length : Int) := by omega
      have b2 : (0 : Int) < (r.length : Int) + 1 := by omega
      have b3 : ¬ (k : Int) < 0 := by omega
      have HHit := Lib.hid htot
      have HXk := Lib.hid hxk
      rw [hg]
      clear hg hk hxk hcells hfz hsk hA' hy d0 htot
      have w2s : w.heap.size ≤ w2.heap.size := HB2.out.size
      go_wp2_with (at_builtin; refine wpList_append_rd _ rfl _ _ 59 rfl w.heap.size 3 i0 _ encI.size 8 Try.underlying59 hi hz0 hz1 hz2 rfl (by decide) _ out.length (flat encI out) rfl ?h1 (.slice (some ⟨w2.heap.size, 0, none⟩) 1 1) 1 (flat encI [x]) rfl ?h2 (flat_one encI [x]) ?h3 ?h4 ?h5 ?_)
      case h1 => exact HOut2.out.alloc _
      case h2 => exact ⟨some ⟨w2.heap.size, 0, none⟩, 1, rfl, rfl, Nat.le_refl _, by simp [maxLen], fun _ => ⟨w2.heap.size, 0, rfl, fun j u hu => by
        match j, hu with
        | 0, hu => injection hu with hu; subst hu; simp⟩⟩
      case h3 => simp only [maxLen]; have := HHit.out; omega
      case h4 => have := HHit.out; omega
      case h5 => simp; omega
      intro v3 w3 hown hgr hat
      have hne := own_ne HOw2.out HOut2.out (by decide)
      have HOw3 := Lib.hid ((HOw2.out.alloc _).kept hgr hne)
      have HOut3 := Lib.hid hown
      have hlt := HOut2.out.lt
      have HB3 := Lib.hid ((HB2.out.alloc' _).grow hgr (fun q hq => (hlt q hq).1))
      obtain ⟨g', cap', hgv, _, _, hcells, hfz⟩ := own_form HOw3.out (by omega)
      injection hgv with e1' e2' e3'
      injection e1' with e1'
      injection e1' with e1'
      subst e1'; subst e3'
      have c3 := hcells k _ HXk.out
      have f3 := hfz k
      have HTl := Lib.hid (tailI rfl HK.out HOw3.out HAl.out HY.out)
      have hgw : w.heap.size ≤ g := hgb
      clear hown hgr hat hne hlt hcells hfz c0 f0 e0
      go_wp2
      go_roundg (total (ls'.set k r) + 1)
      case measure => have := HT.out; have := HM.out; omega
      case rel =>
        have hlo : (ls'.set k r).length = ls'.length := by simp
        refine ⟨ls'.set k r, _, out ++ [x], by rw [hlo, HLL.out], ?_, HTl.out.2, ?_, rfl, ?_, ?_, HB3.out.set hgw _⟩
        · rw [hlo]; exact HTl.out.1
        · rw [List.length_append, flat_append]
          exact HOut3.out.kept (setCell_G (World.grownBy.refl _ _) _ _) (by
            rcases own_ne HOut3.out HOw3.out (by decide) with h | h
            · exact .inl h
            · right; simpa [Value.ownBlock] using h)
        · rw [← HMg.out, ← HM.out, HF.out, List.append_assoc]
          have := HT.out
          rw [this]; rfl
        · have := HT.out; have := HHit.out; simp; omega
end Go.Proofs.Ytefeiogbaiodnaa

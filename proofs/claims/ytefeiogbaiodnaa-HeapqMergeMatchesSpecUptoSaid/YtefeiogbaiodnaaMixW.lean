/- The walk of the reference's Mixed; the number of lists and of elements is bounded by premises. -/
import Derived.Test.YtefeiogbaiodnaaMixA
import Derived.Test.YtefeiogbaiodnaaW10
import Derived.BigQuiet
import Derived.Deep.OwnRows
namespace Go.Proofs.Ytefeiogbaiodnaa
open Go.RowKit

theorem own_re {w w' : World} {base n size : Nat} {e : TypeId} {v : Value} {xs : List Value} (h : w.ownsRow base e size v n xs) (hh : w'.heap = w.heap) : w'.ownsRow base e size v n xs := by
  unfold World.ownsRow at h ⊢
  rw [hh]
  exact h
theorem rd_newP {w w' : World} (x : ElP) (hh : w'.heap = w.heap.push (.cells #[.int .i64 x.1, .int .i64 x.2] 35)) : Rd w' 2 (.slice (some ⟨w.heap.size, 0, none⟩) 1 1) 1 (flat encP [x]) := by
  refine ⟨some ⟨w.heap.size, 0, none⟩, 1, rfl, rfl, Nat.le_refl _, by simp [maxLen], fun _ => ⟨w.heap.size, 0, rfl, fun j u hu => ?_⟩⟩
  have hg : w'.heap[w.heap.size]? = some (.cells #[.int .i64 x.1, .int .i64 x.2] 35) := by rw [hh]; simp
  match j, hu with
  | 0, hu => injection hu with hu; subst hu; simp [World.cell?, hg]
  | 1, hu => injection hu with hu; subst hu; simp [World.cell?, hg]

set_option maxRecDepth 100000 in
set_option maxHeartbeats 4000000 in
theorem mixed_t (ls : List (List ElP)) (v : Value) (w : World) (hs : SlL encP w v ls) (h1 : ls.length ≤ 2000000) (h2 : total ls ≤ 4000000) :
    Calls Try.prog 17 #[v] w fun e w' => SlRet encP (mergeL ltP ls) w e w' := by
  obtain ⟨i0, hi, hz0, hz1, hz2⟩ := info_parts info35_el
  obtain ⟨A, c, rfl, hc, hm, hA⟩ := hs.out
  have HA := Lib.hid hA
  clear hs hA
  have hmk := run_make_row' (P := Try.prog) 59 3 (.int .i64 0) 8 Try.underlying59 info3_el rfl .i64 .i64 ls.length (by omega) (by omega)
  have HMk := Lib.hid (own_make w ls.length (by simp only [maxLen]; omega))
  go_enter Try.func17, Try.ntmps17
  go_wp2_with fail
  clear hmk
  go_loopg [4] (total ls + 1) (fun m vo wr => ∃ (ls' : List (List ElP)) (ps : List Nat) (out : List ElP), Rem ls ps ls' ∧ wr.ownsRow w.heap.size 3 1 (.slice (some ⟨w.heap.size, 0, none⟩) ls.length ls.length) ls.length (intsOf ps) ∧
      wr.ownsRow w.heap.size 35 encP.size vo out.length (flat encP out) ∧ total ls' + 1 = m ∧ out ++ mergeF ltP m ls' = mergeL ltP ls ∧ out.length + total ls' ≤ total ls ∧ Ext w wr)
  case atStart => exact ⟨ls, List.replicate ls.length 0, [], Rem.start ls, HMk.out, World.ownsRow_nil _ _ _ _, rfl, rfl, by simp, Ext.new _ _⟩
  case round =>
    obtain ⟨ls', ps, out, hrem, how, hout, hmm, hmg, htot, hb⟩ := hrel
    have HRem := Lib.hid hrem
    have HOw := Lib.hid how
    have HOut := Lib.hid hout
    have HM := Lib.hid hmm
    have HMg := Lib.hid hmg
    have HTot := Lib.hid htot
    have HB := Lib.hid hb
    have HFr : Hid (∀ (k : Nat) (l : List ElP) (p : Nat), ls[k]? = some l → ps[k]? = some p → wr.cell? ⟨w.heap.size, k, none⟩ = some (.int .i64 (p : Int)) ∧ (∀ o, wr.frozen? ⟨w.heap.size, o, none⟩ = false)) := Lib.hid (by
      intro k l p hk hp
      have hkl := (List.getElem?_eq_some_iff.1 hk).1
      obtain ⟨g, cap, hv, hgb, hnc, hcells, hfz⟩ := own_form how (by omega)
      injection hv with e1 e2 e3
      injection e1 with e1
      injection e1 with e1
      subst e1
      exact ⟨hcells _ _ (intsOf_at hp), hfz⟩)
    clear hrem how hout hmm hmg htot hb
    go_wp2_with fail
    go_loopw [5, 6] (fun kv iv wi => ∃ j : Nat, j ≤ ls.length ∧ iv = .int .i64 j ∧ kv = .int .i64 (mixTo ltP ls' j) ∧ Ext wr wi) (fun _ i _ => ls.length - (intOf i).toNat)
    case atStart => exact ⟨0, by omega, rfl, rfl, Ext.rfl_ _⟩
    case round =>
      obtain ⟨j, hj, rfl, rfl, hbi⟩ := hrel
      have HBi := Lib.hid hbi
      clear hbi
      by_cases hlt : j < ls.length
      · obtain ⟨l, p, hl, hp, hpl, hd⟩ := HRem.out.at hlt
        obtain ⟨g, off, rfl, hcell⟩ := HA.out (by omega)
        obtain ⟨A', c', hlc, hsl⟩ := hcell j l hl
        have HCell := Lib.hid hcell
        have c0 := (HB.out.tr HBi.out).cellAt hlc
        have c1 := HBi.out.cellAt (HFr.out j l p hl hp).1
        have HSl := Lib.hid hsl
        have HL := Lib.hid hl
        have HP := Lib.hid hp
        have HD := Lib.hid hd
        have hlm := hsl.out
        have hll : l.length ≤ 9223372036854775807 := by obtain ⟨_, _, _, _, h, _⟩ := hlm; exact h
        have b0 : (0 : Int) ≤ (j : Int) := by omega
        have b1 : (j : Int) < (ls.length : Int) := by omega
        clear hcell hlc hsl hl hp hd hlm
        by_cases he : p = l.length
        · subst he
          go_wp2_with fail
          go_region
          go_wp2
          go_roundw
          case rel => exact ⟨j + 1, by omega, by go_num, by rw [mixTo_nil]; have := HD.out; simpa using this, by first | exact HBi.out.drew' | exact HBi.out.drewN' _⟩
          case measure => simp [intOf]; omega
        · have hpx : p < l.length := by omega
          obtain ⟨x, hx⟩ : ∃ x, l[p]? = some x := ⟨_, List.getElem?_eq_getElem hpx⟩
          obtain ⟨r, hr⟩ : ∃ r, ls'[j]? = some (x :: r) := ⟨_, by
            have hh := (List.getElem?_eq_some_iff.1 hx).2
            rw [HD.out, List.drop_eq_getElem_cons hpx, hh]⟩
          obtain ⟨g1, off1, c1', hv1, _, _, d0, d1⟩ := pairAt HSl.out hx
          injection hv1 with e1 _ e3
          subst e1; subst e3
          have x0 := (HB.out.tr HBi.out).cellAt d0
          have x1 := (HB.out.tr HBi.out).cellAt d1
          have HR := Lib.hid hr
          have hne : ¬ (p : Int) = (l.length : Int) := by omega
          have p0 : (0 : Int) ≤ (p : Int) := by omega
          have p1 : (p : Int) < (l.length : Int) := by omega
          clear hr d0 d1 hx
          rcases mixTo_spec swoP ls' j with ⟨hn, _⟩ | ⟨k, y, q, hn, hkj, hk, _, _⟩
          · have HN := Lib.hid hn
            rw [hn]
            clear hn
            go_wp2_with fail
            go_region
            go_wp2_with fail
            go_quiet (fail)
            go_wp2
            go_roundw
            case rel => exact ⟨j + 1, by omega, by go_num, by rw [mixTo_first HR.out HN.out], by first | exact HBi.out.drew' | exact HBi.out.drewN' _⟩
            case measure => simp [intOf]; omega
          · have HN := Lib.hid hn
            have HK := Lib.hid hk
            rw [hn]
            have hkl : k < ls.length := by omega
            obtain ⟨l2, p2, hl2, hp2, hpl2, hd2⟩ := HRem.out.at hkl
            obtain ⟨hpl3, hx2, _⟩ := HRem.out.step hl2 hp2 hk
            obtain ⟨A2, c2, hlc2, hsl2⟩ := HCell.out k l2 hl2
            have k0 := (HB.out.tr HBi.out).cellAt hlc2
            have k1 := HBi.out.cellAt (HFr.out k l2 p2 hl2 hp2).1
            obtain ⟨g2, off2, c2', hv2, _, hl2m, d0, d1⟩ := pairAt hsl2 hx2
            injection hv2 with e1 _ e3
            subst e1; subst e3
            have y0 := (HB.out.tr HBi.out).cellAt d0
            have y1 := (HB.out.tr HBi.out).cellAt d1
            have q0 : (0 : Int) ≤ (k : Int) := by omega
            have q1 : (k : Int) < (ls.length : Int) := by omega
            have q2 : (0 : Int) ≤ (p2 : Int) := by omega
            have q3 : (p2 : Int) < (l2.length : Int) := by omega
            have hk0 : decide ((k : Int) < 0) = false := decide_eq_false (by omega)
            clear hn hk hl2 hp2 hd2 hx2 hlc2 hsl2 d0 d1
            have HMx := Lib.hid (mixTo_lt HR.out HN.out HK.out)
            by_cases hxy : x.1 < y.1
            · have HLt := Lib.hid (show ltP x y = true by simp [ltP, hxy])
              go_wp2_with fail
              go_region
              go_wp2_with fail
              go_quiet (fail)
              go_wp2
              go_roundw
              case rel => exact ⟨j + 1, by omega, by go_num, by rw [HMx.out, if_pos HLt.out], by first | exact HBi.out.drew' | exact HBi.out.drewN' _⟩
              case measure => simp [intOf]; omega
            · have HLt := Lib.hid (show ¬ ltP x y = true by simp [ltP, hxy])
              go_wp2_with fail
              go_region
              go_wp2_with fail
              go_quiet (fail)
              go_wp2
              go_roundw
              case rel => exact ⟨j + 1, by omega, by go_num, by rw [HMx.out, if_neg HLt.out], by first | exact HBi.out.drew' | exact HBi.out.drewN' _⟩
              case measure => simp [intOf]; omega
      · have hje : j = ls.length := by omega
        subst hje
        have HMix := Lib.hid (show mixTo ltP ls' ls.length = leastL ltP ls' by rw [least_mix swoP, mixL, HRem.out.2.1])
        have HB2 := Lib.hid (HB.out.tr HBi.out)
        have HOw2 := Lib.hid (HOw.out.kept (HBi.out.toG none) (by rcases Value.ownBlock _ <;> simp))
        have HOut2 := Lib.hid (HOut.out.kept (HBi.out.toG none) (by rcases Value.ownBlock _ <;> simp))
        rw [HMix.out]
        rcases leastL_good ltP ls' with hg | ⟨k, x, r, hg, hk⟩
        · have HF := Lib.hid (mergeF_stop ltP (n := total ls') hg)
          rw [hg]
          clear hg
          go_wp2
          go_ret
          refine ⟨_, rfl, ?_, HB2.out⟩
          rw [← HMg.out, ← HM.out, HF.out, List.append_nil]
          exact Rd.own HOut2.out
        · have hkl : k < ls.length := by have := (List.getElem?_eq_some_iff.1 hk).1; have := HRem.out.2.1; omega
          have HF := Lib.hid (mergeF_step ltP (n := total ls') hg hk)
          have HT := Lib.hid (total_set ls' k x r hk)
          obtain ⟨l2, p2, hl2, hp2, hpl2, hd2⟩ := HRem.out.at hkl
          obtain ⟨hpl3, hx2, hstep⟩ := HRem.out.step hl2 hp2 hk
          obtain ⟨g, off, rfl, hcell⟩ := HA.out (by omega)
          obtain ⟨A2, c2, hlc2, hsl2⟩ := hcell k l2 hl2
          have k0 := HB2.out.cellAt hlc2
          have k1 := HBi.out.cellAt (HFr.out k l2 p2 hl2 hp2).1
          obtain ⟨g2, off2, c2', hv2, _, hl2m, d0, d1⟩ := pairAt hsl2 hx2
          injection hv2 with e1 _ e3
          subst e1; subst e3
          have y0 := HB2.out.cellAt d0
          have y1 := HB2.out.cellAt d1
          have hgw := World.block_lt_of_cell? w _ hlc2
          have hg2w := World.block_lt_of_cell? w _ d0
          have HPs := Lib.hid hp2
          have HStep := Lib.hid hstep
          have hlt := HOut2.out.lt
          have NE := Lib.hid (own_ne HOw2.out HOut2.out (by decide))
          have HHit := Lib.hid HTot.out
          have n1 : u4.ownBlock ≠ some g := fun e => by have := (hlt _ e).1; simp only at hgw; omega
          have n2 : u4.ownBlock ≠ some g2 := fun e => by have := (hlt _ e).1; simp only at hg2w; omega
          have n3 : u4.ownBlock ≠ some w.heap.size := fun e => by
            rcases NE.out with h | h
            · simp [Value.ownBlock] at h
            · exact h (by rw [e]; rfl)
          have N1 := Lib.hid n1
          have N2 := Lib.hid n2
          have N3 := Lib.hid n3
          have HLt := Lib.hid hlt
          have q0 : (0 : Int) ≤ (k : Int) := by omega
          have q1 : (k : Int) < (ls.length : Int) := by omega
          have q2 : (0 : Int) ≤ (p2 : Int) := by omega
          have q3 : (p2 : Int) < (l2.length : Int) := by omega
          have hk0 : ¬ (k : Int) < 0 := by omega
          have wsz : w.heap.size ≤ wr.heap.size := HB2.out.size
          have EN := Lib.hid (Ext.new wr (.cells #[.int .i64 x.1, .int .i64 x.2] 35))
          rw [hg]
          clear hg hk hl2 hp2 hd2 hx2 hlc2 hsl2 d0 d1 hcell hstep hlt n1 n2 n3
          go_wp2_with fail
          go_region_held3 (fun w' => w'.cell? ⟨g, off + k, none⟩ = some (.slice (some ⟨g2, off2, none⟩) l2.length c2) ∧ w'.cell? ⟨w.heap.size, k, none⟩ = some (.int .i64 (p2 : Int)) ∧ w'.cell? ⟨g2, off2 + p2 * 2, none⟩ = some (.int .i64 x.1) ∧ w'.cell? ⟨g2, off2 + p2 * 2 + 1, none⟩ = some (.int .i64 x.2))
            (first | exact ⟨hs3.1, hs3.2.1, hs3.2.2.1, hs3.2.2.2⟩ | exact ⟨k0, k1, y0, y1⟩ | exact ⟨EN.out.cellAt k0, EN.out.cellAt k1, EN.out.cellAt y0, EN.out.cellAt y1⟩ | go_keep)
            (first | (refine step_append_rd _ ?_ (.tmp 57) (.tmp 68) 33 ?_ w.heap.size 35 i0 (.agg #[.int .i64 0, .int .i64 0]) encP.size 16 Try.underlying33 hi hz0 hz1 hz2 rfl ?_ u4 out.length (flat encP out) ?_ ?_ (.slice (some ⟨wr.heap.size, 0, none⟩) 1 1) 1 (flat encP [x]) ?_ ?_ (flat_one encP [x]) ?_ ?_ ?_ ?_; rfl; rfl; decide; rfl; (exact own_re (HOut2.out.alloc (.cells #[.int .i64 x.1, .int .i64 x.2] 35)) rfl); rfl; (exact rd_newP x rfl); (simp only [maxLen]; have := HHit.out; have := HT.out; omega); (have := HHit.out; have := HT.out; omega); (first | (simp; done) | (simp; omega)); intro v3 w3 hown hgr hat; have hs3 : w3.cell? ⟨g, off + k, none⟩ = some (.slice (some ⟨g2, off2, none⟩) l2.length c2) ∧ w3.cell? ⟨w.heap.size, k, none⟩ = some (.int .i64 (p2 : Int)) ∧ w3.cell? ⟨g2, off2 + p2 * 2, none⟩ = some (.int .i64 x.1) ∧ w3.cell? ⟨g2, off2 + p2 * 2 + 1, none⟩ = some (.int .i64 x.2) := ⟨hgr.cell (EN.out.cellAt k0) (by first | exact N1.out | exact fun e => N1.out e.symm | simpa using N1.out), hgr.cell (EN.out.cellAt k1) (by first | exact N3.out | exact fun e => N3.out e.symm | simpa using N3.out), hgr.cell (EN.out.cellAt y0) (by first | exact N2.out | exact fun e => N2.out e.symm | simpa using N2.out), hgr.cell (EN.out.cellAt y1) (by first | exact N2.out | exact fun e => N2.out e.symm | simpa using N2.out)⟩))
          have HOut3 := Lib.hid hown
          have HOw3 := Lib.hid ((own_re (w' := (wr.alloc (.cells #[.int .i64 x.1, .int .i64 x.2] 35)).drew) (HOw2.out.alloc (.cells #[.int .i64 x.1, .int .i64 x.2] 35)) rfl).kept hgr NE.out)
          have HB3 : Hid (Ext w w3) := Lib.hid (Ext.grow (b := wr.alloc (.cells #[.int .i64 x.1, .int .i64 x.2] 35)) (HB2.out.tr EN.out) (by exact ⟨hgr.os, hgr.tape, hgr.output, hgr.size, hgr.block⟩) (fun q hq => (HLt.out q hq).1))
          obtain ⟨g', cap', hgv, _, _, hcells, hfz⟩ := own_form HOw3.out (by omega)
          injection hgv with e1' e2' e3'
          injection e1' with e1'
          injection e1' with e1'
          subst e1'; subst e3'
          have c3 := hcells k _ (intsOf_at HPs.out)
          have f3 := hfz k
          clear hown hgr hat hcells hfz hs3 k0 k1 y0 y1
          have s1 : IntKind.i64.wrap ((p2 : Int) + 1) = ((p2 + 1 : Nat) : Int) := by rw [IntWalk.i64_in _ (by omega)]; omega
          go_wp2
          go_roundg (total (ls'.set k r) + 1)
          case measure => have := HT.out; have := HM.out; omega
          case rel =>
            refine ⟨ls'.set k r, ps.set k (p2 + 1), out ++ [x], HStep.out, ?_, ?_, rfl, ?_, ?_, HB3.out.set (Nat.le_refl _) _⟩
            · rw [intsOf_set]; first | exact own_set HOw3.out | (simpa using own_set HOw3.out)
            · rw [List.length_append, flat_append]
              exact HOut3.out.kept (setCell_G (World.grownBy.refl _ _) _ _) (by
                rcases own_ne HOut3.out HOw3.out (by decide) with h | h
                · exact .inl h
                · right; simpa [Value.ownBlock] using h)
            · rw [← HMg.out, ← HM.out, HF.out, List.append_assoc]
              have := HT.out
              rw [this]; rfl
            · have := HT.out; have := HHit.out; simp; omega
end Go.Proofs.Ytefeiogbaiodnaa

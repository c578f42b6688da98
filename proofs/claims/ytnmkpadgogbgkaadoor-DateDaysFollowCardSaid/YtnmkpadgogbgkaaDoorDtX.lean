/- The law on days that follow, on plain data; no condition. -/
import Derived.Test.YtnmkpadgogbgkaaDoorDtT
import Derived.Test.YtnmkpadgogbgkaaDoorAcI
set_option linter.all false
set_option linter.unusedSimpArgs false
set_option linter.unusedVariables false
namespace Go.Proofs.YtnmkpadgogbgkaaDoor

theorem days_follow {D : Int} (h : 1 ≤ D) (h' : D + 1 ≤ 3652059) : (D % 7 = 0 → ((wkR (D + 1)).1 = (wkR D).1 ∧ (wkR (D + 1)).2 = (wkR D).2 + 1) ∨ ((wkR (D + 1)).1 = (wkR D).1 + 1 ∧ (wkR (D + 1)).2 = 1)) ∧ (D % 7 ≠ 0 → wkR (D + 1) = wkR D) := by
  refine ⟨fun h7 => ?_, fun h7 => ?_⟩
  · obtain ⟨th, hth⟩ : ∃ t, t = D - (D + 6) % 7 + 3 := ⟨_, rfl⟩
    have hth' : D + 1 - (D + 1 + 6) % 7 + 3 = th + 7 := by omega
    have t1 : 1 ≤ th := by omega
    obtain ⟨ho, hn⟩ := dateR_ok t1
    have hb := dayN_bounds ho
    rw [hn] at hb
    unfold wkR
    simp only [← hth, hth', dayN_one]
    generalize hy : (dateR th).1 = y at hb ⊢
    have hu := bef_up y
    have hu2 := bef_up (y + 1)
    by_cases hc : th + 7 ≤ bef (y + 1)
    · left
      have e := dateR_year (day := th + 7) (y := y) (by omega) (by omega) hc
      rw [e]; omega
    · right
      have e := dateR_year (day := th + 7) (y := y + 1) (by omega) (by omega) (by omega)
      rw [e]; omega
  · unfold wkR
    have e : D + 1 - (D + 1 + 6) % 7 + 3 = D - (D + 6) % 7 + 3 := by omega
    simp only [e]
set_option maxHeartbeats 8000000 in
theorem daysFollow_a (k : Int) : APure Tryd.prog 9 [aI k] (.bool true) := by
  refine apure_intro Tryd.func9 cmp9 rfl fun n H hH => ?_
  by_cases h : 0 ≤ k ∧ k ≤ 315537811199
  · have h1 := at___a k
    have h2 := at___a (k + 86400)
    obtain ⟨oA, -, dA⟩ := momAt_ok (n := k) (by omega) (by omega)
    obtain ⟨oB, -, dB⟩ := momAt_ok (n := k + 86400) (by omega) (by omega)
    rw [if_pos (by omega), if_pos (by omega)] at h1 h2
    have h3 := weekday__a (momAt k)
    have h4 := weekday__a (momAt (k + 86400))
    have h5 := week__a (momAt k)
    have h6 := week__a (momAt (k + 86400))
    obtain ⟨D, hD⟩ : ∃ D, D = k / 86400 + 1 := ⟨_, rfl⟩
    have hD2 : (k + 86400) / 86400 + 1 = D + 1 := by omega
    rw [hD2] at dB
    rw [← hD] at dA
    have hb1 := wk_bounds (day := D) (by omega) (by omega)
    have hf := days_follow (D := D) (by omega) (by omega)
    simp only [moF_zero oA, if_true, dA] at h3 h5
    simp only [moF_zero oB, if_true, dB] at h4 h6
    generalize momAt k = A at *
    generalize momAt (k + 86400) = B at *
    have e7 : (D + 1 - 1) % 7 = ((D - 1) % 7 + 1) % 7 := by omega
    have e8 : (D + 1 - 1) % 7 = D % 7 := by omega
    by_cases h7 : D % 7 = 0
    · have hw := hf.1 h7
      clear hf
      rw [e8, h7] at h4
      have e9 : ((D - 1) % 7 + 1) % 7 = 0 := by omega
      have e10 : (D - 1) % 7 = 6 := by omega
      rw [e10] at h3
      generalize (wkR (D + 1)).1 = z at *
      generalize (wkR (D + 1)).2 = w at *
      generalize (wkR D).1 = y at *
      generalize (wkR D).2 = v at *
      rcases hw with ⟨rfl, rfl⟩ | ⟨rfl, rfl⟩
      · 
        repeat' (first | (simp -implicitDefEqProofs [c9_k1_go, c9_k2_go, c9, xz00, aw_reg, aw_seq, xz01, xz02, xz03, xz04, aw_ret, aw_bad, aw_kp, aw_ke, xz05, xz06, xz07, xz08, xz09, xz0a, xz0b, xz0c, xz0d, xz0e, xz0f, xz0g, xz0h, xz0i, scV, pe, xz0j, xz0k, xz0l, xz0m, xz0n, xz0o, xz0p, xz0q, xz0r, xz0s, xz0t, spm_mv, xz0u, xz0v, xz0w, xz0x, xz0y, xz0z, xz10, xz11, xz12, xz13, xz14, xz15, xz16, xz17, xz18, xz19, xz1a, xz1b, xz1c, xz1d, xz1e, xz1f, xz1g, xz1h, spm_mm, xz1i, xz1j, xz1k, xz1l, xz1m, xz1n, xz1o, xz1p, xz1q, xz1r, xz1s, xz1t, xz1u, xz1v, xz1w, xz1x, xz1y, xz1z, xz20, xz21, xz22, xz23, List.mem_cons, guardK, guardJ, anyE, undE, op_mv, xz24, op_bin, op_eqs, op_eqb, op_eqn, op_eqp, op_neg, op_not, op_cvi, xz25, xz26, op_cut, xz27, xz28, xz29, xz2a, xz2b, xz2c, op_len, xz2d, xz2e, xz2f, xz2g, xz2h, xz2i, op_mm, op_b2s, op_r2s, op_upc, op_usd, xz2j, xz2k, op_ust, xz2l, op_box, xz2m, op_bsl, op_app, xz2n, op_s2b, op_s2s, xz2o, xz2p, xz2q, xz2r, xz2s, xz2t, xz2u, xz2v, ngV, eqsV, eqbV, negV, notV, cviV, fieldV, sidxV, aidxV, xz2w, lenSV, extrV, nilckV, buildV, mmV, b2sV, r2sV, eqppV, s2bK, s2sK, msetS, mgetV, keyOkK, mfind, msetL, keyEq, callvK, ev, get, put, putO, keepE, xz2x, xz2y, xz2z, xz30, xz31, xz32, condK, part, loadAV, xz33, xz34, xz35, isNil, isNilP, binAV, intBin, strBin, xz36, xz37, xz38, xz39, xz3a, xz3b, xz3c, xz3d, xz3e, xz3f, xz3g, xz3h, xz3i, xz3j, xz3k, xz3l, AV.fits, AV.cells, ones, AV.one, upcAV, updnAV, usdAV, ustAV, cutB, cutSV, xz3m, xz3n, xz3o, xz3p, resOf, resVs, resV, argE, xz3q, shpSz, u8e, u8lit, xz3r, xz3s, List.getElem?_cons_zero, List.getElem?_cons_succ, -getElem?_pos, splice, h.1, h.2]) | (simp (disch := omega) only [upd_ne, xz3q, if_pos, if_neg, IntWalk.i64_in, Int.tdiv_eq_ediv_of_nonneg, Int.tmod_eq_emod_of_nonneg]) | ((with_reducible refine CallP.chk (f := 28) ?_); (refine' CallP.sf ?_ (in_a _ _ _) ?_); (focus first | (with_reducible exact simL_refl _) | (simp [simL, simA, simA_refl, simL_refl]; done))) | ((with_reducible refine CallP.chk (f := 31) ?_); (refine' CallP.sf ?_ (h1) ?_); (focus first | (with_reducible exact simL_refl _) | (simp [simL, simA, simA_refl, simL_refl]; done))) | ((with_reducible refine CallP.chk (f := 31) ?_); (refine' CallP.sf ?_ (h2) ?_); (focus first | (with_reducible exact simL_refl _) | (simp [simL, simA, simA_refl, simL_refl]; done))) | ((with_reducible refine CallP.chk (f := 21) ?_); (refine' CallP.sf ?_ (h3) ?_); (focus first | (with_reducible exact simL_refl _) | (simp [simL, simA, simA_refl, simL_refl]; done))) | ((with_reducible refine CallP.chk (f := 21) ?_); (refine' CallP.sf ?_ (h4) ?_); (focus first | (with_reducible exact simL_refl _) | (simp [simL, simA, simA_refl, simL_refl]; done))) | ((with_reducible refine CallP.chk (f := 22) ?_); (refine' CallP.sf ?_ (h5) ?_); (focus first | (with_reducible exact simL_refl _) | (simp [simL, simA, simA_refl, simL_refl]; done))) | ((with_reducible refine CallP.chk (f := 22) ?_); (refine' CallP.sf ?_ (h6) ?_); (focus first | (with_reducible exact simL_refl _) | (simp [simL, simA, simA_refl, simL_refl]; done))) | ((with_reducible refine CallP.chk (f := 18) ?_); (refine' CallP.sf ?_ (dated_a) ?_); (focus first | (with_reducible exact simL_refl _) | (simp [simL, simA, simA_refl, simL_refl]; done))) | (with_reducible refine fin_r ?_ ?_ ?_) | (with_reducible exact SameB.rfl_ _ _) | (with_reducible refine SameB.upd ?_ ?_ _) | (with_reducible assumption) | (with_reducible refine newPM_of ?_) | (with_reducible refine newP_go ?_) | (with_reducible refine newS_go ?_) | (with_reducible refine newM_go ?_) | (with_reducible intro _g _hg) | (with_reducible refine And.intro ?_ ?_) | (with_reducible intro _hc) | omega)
        all_goals (first | exact simA_refl _ | (exfalso; omega))
      · 
        repeat' (first | (simp -implicitDefEqProofs [c9_k1_go, c9_k2_go, c9, xz00, aw_reg, aw_seq, xz01, xz02, xz03, xz04, aw_ret, aw_bad, aw_kp, aw_ke, xz05, xz06, xz07, xz08, xz09, xz0a, xz0b, xz0c, xz0d, xz0e, xz0f, xz0g, xz0h, xz0i, scV, pe, xz0j, xz0k, xz0l, xz0m, xz0n, xz0o, xz0p, xz0q, xz0r, xz0s, xz0t, spm_mv, xz0u, xz0v, xz0w, xz0x, xz0y, xz0z, xz10, xz11, xz12, xz13, xz14, xz15, xz16, xz17, xz18, xz19, xz1a, xz1b, xz1c, xz1d, xz1e, xz1f, xz1g, xz1h, spm_mm, xz1i, xz1j, xz1k, xz1l, xz1m, xz1n, xz1o, xz1p, xz1q, xz1r, xz1s, xz1t, xz1u, xz1v, xz1w, xz1x, xz1y, xz1z, xz20, xz21, xz22, xz23, List.mem_cons, guardK, guardJ, anyE, undE, op_mv, xz24, op_bin, op_eqs, op_eqb, op_eqn, op_eqp, op_neg, op_not, op_cvi, xz25, xz26, op_cut, xz27, xz28, xz29, xz2a, xz2b, xz2c, op_len, xz2d, xz2e, xz2f, xz2g, xz2h, xz2i, op_mm, op_b2s, op_r2s, op_upc, op_usd, xz2j, xz2k, op_ust, xz2l, op_box, xz2m, op_bsl, op_app, xz2n, op_s2b, op_s2s, xz2o, xz2p, xz2q, xz2r, xz2s, xz2t, xz2u, xz2v, ngV, eqsV, eqbV, negV, notV, cviV, fieldV, sidxV, aidxV, xz2w, lenSV, extrV, nilckV, buildV, mmV, b2sV, r2sV, eqppV, s2bK, s2sK, msetS, mgetV, keyOkK, mfind, msetL, keyEq, callvK, ev, get, put, putO, keepE, xz2x, xz2y, xz2z, xz30, xz31, xz32, condK, part, loadAV, xz33, xz34, xz35, isNil, isNilP, binAV, intBin, strBin, xz36, xz37, xz38, xz39, xz3a, xz3b, xz3c, xz3d, xz3e, xz3f, xz3g, xz3h, xz3i, xz3j, xz3k, xz3l, AV.fits, AV.cells, ones, AV.one, upcAV, updnAV, usdAV, ustAV, cutB, cutSV, xz3m, xz3n, xz3o, xz3p, resOf, resVs, resV, argE, xz3q, shpSz, u8e, u8lit, xz3r, xz3s, List.getElem?_cons_zero, List.getElem?_cons_succ, -getElem?_pos, splice, h.1, h.2]) | (simp (disch := omega) only [upd_ne, xz3q, if_pos, if_neg, IntWalk.i64_in, Int.tdiv_eq_ediv_of_nonneg, Int.tmod_eq_emod_of_nonneg]) | ((with_reducible refine CallP.chk (f := 28) ?_); (refine' CallP.sf ?_ (in_a _ _ _) ?_); (focus first | (with_reducible exact simL_refl _) | (simp [simL, simA, simA_refl, simL_refl]; done))) | ((with_reducible refine CallP.chk (f := 31) ?_); (refine' CallP.sf ?_ (h1) ?_); (focus first | (with_reducible exact simL_refl _) | (simp [simL, simA, simA_refl, simL_refl]; done))) | ((with_reducible refine CallP.chk (f := 31) ?_); (refine' CallP.sf ?_ (h2) ?_); (focus first | (with_reducible exact simL_refl _) | (simp [simL, simA, simA_refl, simL_refl]; done))) | ((with_reducible refine CallP.chk (f := 21) ?_); (refine' CallP.sf ?_ (h3) ?_); (focus first | (with_reducible exact simL_refl _) | (simp [simL, simA, simA_refl, simL_refl]; done))) | ((with_reducible refine CallP.chk (f := 21) ?_); (refine' CallP.sf ?_ (h4) ?_); (focus first | (with_reducible exact simL_refl _) | (simp [simL, simA, simA_refl, simL_refl]; done))) | ((with_reducible refine CallP.chk (f := 22) ?_); (refine' CallP.sf ?_ (h5) ?_); (focus first | (with_reducible exact simL_refl _) | (simp [simL, simA, simA_refl, simL_refl]; done))) | ((with_reducible refine CallP.chk (f := 22) ?_); (refine' CallP.sf ?_ (h6) ?_); (focus first | (with_reducible exact simL_refl _) | (simp [simL, simA, simA_refl, simL_refl]; done))) | ((with_reducible refine CallP.chk (f := 18) ?_); (refine' CallP.sf ?_ (dated_a) ?_); (focus first | (with_reducible exact simL_refl _) | (simp [simL, simA, simA_refl, simL_refl]; done))) | (with_reducible refine fin_r ?_ ?_ ?_) | (with_reducible exact SameB.rfl_ _ _) | (with_reducible refine SameB.upd ?_ ?_ _) | (with_reducible assumption) | (with_reducible refine newPM_of ?_) | (with_reducible refine newP_go ?_) | (with_reducible refine newS_go ?_) | (with_reducible refine newM_go ?_) | (with_reducible intro _g _hg) | (with_reducible refine And.intro ?_ ?_) | (with_reducible intro _hc) | omega)
        all_goals (first | exact simA_refl _ | (exfalso; omega))
    · have hw := hf.2 h7
      clear hf
      rw [hw] at h6
      rw [e7] at h4
      obtain ⟨c, hc⟩ : ∃ c, c = (D - 1) % 7 := ⟨_, rfl⟩
      have hc6 : 0 ≤ c ∧ c ≤ 5 := by omega
      rw [← hc] at h3 h4
      have hm : (c + 1) % 7 = c + 1 := by omega
      rw [hm] at h4
      have hne : ¬ c + 1 = 0 := by omega
      generalize (wkR D).1 = y at *
      generalize (wkR D).2 = v at *
      
      repeat' (first | (simp -implicitDefEqProofs [c9_k1_go, c9_k2_go, c9, xz00, aw_reg, aw_seq, xz01, xz02, xz03, xz04, aw_ret, aw_bad, aw_kp, aw_ke, xz05, xz06, xz07, xz08, xz09, xz0a, xz0b, xz0c, xz0d, xz0e, xz0f, xz0g, xz0h, xz0i, scV, pe, xz0j, xz0k, xz0l, xz0m, xz0n, xz0o, xz0p, xz0q, xz0r, xz0s, xz0t, spm_mv, xz0u, xz0v, xz0w, xz0x, xz0y, xz0z, xz10, xz11, xz12, xz13, xz14, xz15, xz16, xz17, xz18, xz19, xz1a, xz1b, xz1c, xz1d, xz1e, xz1f, xz1g, xz1h, spm_mm, xz1i, xz1j, xz1k, xz1l, xz1m, xz1n, xz1o, xz1p, xz1q, xz1r, xz1s, xz1t, xz1u, xz1v, xz1w, xz1x, xz1y, xz1z, xz20, xz21, xz22, xz23, List.mem_cons, guardK, guardJ, anyE, undE, op_mv, xz24, op_bin, op_eqs, op_eqb, op_eqn, op_eqp, op_neg, op_not, op_cvi, xz25, xz26, op_cut, xz27, xz28, xz29, xz2a, xz2b, xz2c, op_len, xz2d, xz2e, xz2f, xz2g, xz2h, xz2i, op_mm, op_b2s, op_r2s, op_upc, op_usd, xz2j, xz2k, op_ust, xz2l, op_box, xz2m, op_bsl, op_app, xz2n, op_s2b, op_s2s, xz2o, xz2p, xz2q, xz2r, xz2s, xz2t, xz2u, xz2v, ngV, eqsV, eqbV, negV, notV, cviV, fieldV, sidxV, aidxV, xz2w, lenSV, extrV, nilckV, buildV, mmV, b2sV, r2sV, eqppV, s2bK, s2sK, msetS, mgetV, keyOkK, mfind, msetL, keyEq, callvK, ev, get, put, putO, keepE, xz2x, xz2y, xz2z, xz30, xz31, xz32, condK, part, loadAV, xz33, xz34, xz35, isNil, isNilP, binAV, intBin, strBin, xz36, xz37, xz38, xz39, xz3a, xz3b, xz3c, xz3d, xz3e, xz3f, xz3g, xz3h, xz3i, xz3j, xz3k, xz3l, AV.fits, AV.cells, ones, AV.one, upcAV, updnAV, usdAV, ustAV, cutB, cutSV, xz3m, xz3n, xz3o, xz3p, resOf, resVs, resV, argE, xz3q, shpSz, u8e, u8lit, xz3r, xz3s, List.getElem?_cons_zero, List.getElem?_cons_succ, -getElem?_pos, splice, h.1, h.2, hm, hne]) | (simp (disch := omega) only [upd_ne, xz3q, if_pos, if_neg, IntWalk.i64_in, Int.tdiv_eq_ediv_of_nonneg, Int.tmod_eq_emod_of_nonneg]) | ((with_reducible refine CallP.chk (f := 28) ?_); (refine' CallP.sf ?_ (in_a _ _ _) ?_); (focus first | (with_reducible exact simL_refl _) | (simp [simL, simA, simA_refl, simL_refl]; done))) | ((with_reducible refine CallP.chk (f := 31) ?_); (refine' CallP.sf ?_ (h1) ?_); (focus first | (with_reducible exact simL_refl _) | (simp [simL, simA, simA_refl, simL_refl]; done))) | ((with_reducible refine CallP.chk (f := 31) ?_); (refine' CallP.sf ?_ (h2) ?_); (focus first | (with_reducible exact simL_refl _) | (simp [simL, simA, simA_refl, simL_refl]; done))) | ((with_reducible refine CallP.chk (f := 21) ?_); (refine' CallP.sf ?_ (h3) ?_); (focus first | (with_reducible exact simL_refl _) | (simp [simL, simA, simA_refl, simL_refl]; done))) | ((with_reducible refine CallP.chk (f := 21) ?_); (refine' CallP.sf ?_ (h4) ?_); (focus first | (with_reducible exact simL_refl _) | (simp [simL, simA, simA_refl, simL_refl]; done))) | ((with_reducible refine CallP.chk (f := 22) ?_); (refine' CallP.sf ?_ (h5) ?_); (focus first | (with_reducible exact simL_refl _) | (simp [simL, simA, simA_refl, simL_refl]; done))) | ((with_reducible refine CallP.chk (f := 22) ?_); (refine' CallP.sf ?_ (h6) ?_); (focus first | (with_reducible exact simL_refl _) | (simp [simL, simA, simA_refl, simL_refl]; done))) | ((with_reducible refine CallP.chk (f := 18) ?_); (refine' CallP.sf ?_ (dated_a) ?_); (focus first | (with_reducible exact simL_refl _) | (simp [simL, simA, simA_refl, simL_refl]; done))) | (with_reducible refine fin_r ?_ ?_ ?_) | (with_reducible exact SameB.rfl_ _ _) | (with_reducible refine SameB.upd ?_ ?_ _) | (with_reducible assumption) | (with_reducible refine newPM_of ?_) | (with_reducible refine newP_go ?_) | (with_reducible refine newS_go ?_) | (with_reducible refine newM_go ?_) | (with_reducible intro _g _hg) | (with_reducible refine And.intro ?_ ?_) | (with_reducible intro _hc) | omega)
      all_goals (first | exact simA_refl _ | (exfalso; omega))
  · have hin : (decide (0 ≤ k) && decide (k ≤ 315537811199)) = false := by simpa using h
    
    repeat' (first | (simp -implicitDefEqProofs [c9_k1_go, c9_k2_go, c9, xz00, aw_reg, aw_seq, xz01, xz02, xz03, xz04, aw_ret, aw_bad, aw_kp, aw_ke, xz05, xz06, xz07, xz08, xz09, xz0a, xz0b, xz0c, xz0d, xz0e, xz0f, xz0g, xz0h, xz0i, scV, pe, xz0j, xz0k, xz0l, xz0m, xz0n, xz0o, xz0p, xz0q, xz0r, xz0s, xz0t, spm_mv, xz0u, xz0v, xz0w, xz0x, xz0y, xz0z, xz10, xz11, xz12, xz13, xz14, xz15, xz16, xz17, xz18, xz19, xz1a, xz1b, xz1c, xz1d, xz1e, xz1f, xz1g, xz1h, spm_mm, xz1i, xz1j, xz1k, xz1l, xz1m, xz1n, xz1o, xz1p, xz1q, xz1r, xz1s, xz1t, xz1u, xz1v, xz1w, xz1x, xz1y, xz1z, xz20, xz21, xz22, xz23, List.mem_cons, guardK, guardJ, anyE, undE, op_mv, xz24, op_bin, op_eqs, op_eqb, op_eqn, op_eqp, op_neg, op_not, op_cvi, xz25, xz26, op_cut, xz27, xz28, xz29, xz2a, xz2b, xz2c, op_len, xz2d, xz2e, xz2f, xz2g, xz2h, xz2i, op_mm, op_b2s, op_r2s, op_upc, op_usd, xz2j, xz2k, op_ust, xz2l, op_box, xz2m, op_bsl, op_app, xz2n, op_s2b, op_s2s, xz2o, xz2p, xz2q, xz2r, xz2s, xz2t, xz2u, xz2v, ngV, eqsV, eqbV, negV, notV, cviV, fieldV, sidxV, aidxV, xz2w, lenSV, extrV, nilckV, buildV, mmV, b2sV, r2sV, eqppV, s2bK, s2sK, msetS, mgetV, keyOkK, mfind, msetL, keyEq, callvK, ev, get, put, putO, keepE, xz2x, xz2y, xz2z, xz30, xz31, xz32, condK, part, loadAV, xz33, xz34, xz35, isNil, isNilP, binAV, intBin, strBin, xz36, xz37, xz38, xz39, xz3a, xz3b, xz3c, xz3d, xz3e, xz3f, xz3g, xz3h, xz3i, xz3j, xz3k, xz3l, AV.fits, AV.cells, ones, AV.one, upcAV, updnAV, usdAV, ustAV, cutB, cutSV, xz3m, xz3n, xz3o, xz3p, resOf, resVs, resV, argE, xz3q, shpSz, u8e, u8lit, xz3r, xz3s, List.getElem?_cons_zero, List.getElem?_cons_succ, -getElem?_pos, splice, hin]) | (simp (disch := omega) only [upd_ne, xz3q, if_pos, if_neg, IntWalk.i64_in, Int.tdiv_eq_ediv_of_nonneg, Int.tmod_eq_emod_of_nonneg]) | ((with_reducible refine CallP.chk (f := 28) ?_); (refine' CallP.sf ?_ (in_a _ _ _) ?_); (focus first | (with_reducible exact simL_refl _) | (simp [simL, simA, simA_refl, simL_refl]; done))) | ((with_reducible refine CallP.chk (f := 18) ?_); (refine' CallP.sf ?_ (dated_a) ?_); (focus first | (with_reducible exact simL_refl _) | (simp [simL, simA, simA_refl, simL_refl]; done))) | (with_reducible refine fin_r ?_ ?_ ?_) | (with_reducible exact SameB.rfl_ _ _) | (with_reducible refine SameB.upd ?_ ?_ _) | (with_reducible assumption) | (with_reducible refine newPM_of ?_) | (with_reducible refine newP_go ?_) | (with_reducible refine newS_go ?_) | (with_reducible refine newM_go ?_) | (with_reducible intro _g _hg) | (with_reducible refine And.intro ?_ ?_) | (with_reducible intro _hc) | omega)
    all_goals (first | exact simA_refl _ | (exfalso; omega))
end Go.Proofs.YtnmkpadgogbgkaaDoor

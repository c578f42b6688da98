/- Days, months and years on plain data: the small functions; no condition. -/
import Derived.Test.YtnmkpadgogbgkaaDoorMgE
import Derived.Test.YtnmkpadgogbgkaaDoorAdA
import Derived.Test.YtnmkpadgogbgkaaDoorMdA
set_option linter.all false
set_option linter.unusedSimpArgs false
set_option linter.unusedVariables false
namespace Go.Proofs.YtnmkpadgogbgkaaDoor
abbrev aI (n : Int) : AV := .int .i64 n
abbrev aF (f : Int × Int) : AV := .agg [.int .i64 f.1, .int .i64 f.2]
abbrev aM (a : Mo) : AV := .agg [.int .i64 a.y, .int .i64 a.m, .int .i64 a.d, .int .i64 a.h, .int .i64 a.mi, .int .i64 a.s]
attribute [local simp] xz00 aw_reg aw_seq xz01 xz02 xz03 xz04 aw_ret aw_bad aw_kp aw_ke xz05 xz06 xz07 xz08 xz09 xz0a xz0b xz0c xz0d xz0e xz0f xz0g xz0h xz0i scV pe xz0j xz0k xz0l xz0m xz0n xz0o xz0p xz0q xz0r xz0s xz0t spg_mv xz0u xz0v xz0w xz0x xz0y xz0z xz10 xz11 xz12 xz13 xz14 xz15 xz16 xz17 xz18 xz19 xz1a xz1b xz1c xz1d xz1e spg_mm xz1f spm_mv xz1g xz1h xz1i xz1j xz1k xz1l xz1m xz1n xz1o xz1p xz1q xz1r xz1s xz1t xz1u xz1v xz1w xz1x xz1y xz1z xz20 xz21 xz22 xz23 xz24 spm_mm xz25 xz26 xz27 xz28 xz29 xz2a xz2b xz2c xz2d xz2e xz2f xz2g xz2h xz2i xz2j xz2k xz2l xz2m xz2n xz2o xz2p xz2q xz2r xz2s List.mem_cons guardK guardJ anyE undE op_mv xz2t op_bin op_eqs op_eqb op_eqn op_eqp op_eqi op_neg op_not op_cvi xz2u xz2v op_cut xz2w xz2x xz2y xz2z xz30 xz31 op_len xz32 xz33 xz34 xz35 xz36 xz37 op_mm op_b2s op_r2s op_upc op_usd xz38 xz39 op_ust xz3a op_box xz3b op_bsl op_app xz3c op_s2b op_s2s xz3d xz3e xz3f xz3g xz3h xz3i xz3j xz3k ngV eqsV eqbV negV notV cviV fieldV sidxV aidxV xz3l lenSV extrV nilckV buildV mmV b2sV r2sV eqppV s2bK s2sK msetS mgetV keyOkK mfind msetL keyEq callvK ev get put putO keepE xz3m xz3n xz3o xz3p xz3q xz3r condK part loadAV xz3s xz3t xz3u isNil isNilP isNilI binAV intBin strBin xz3v xz3w xz3x xz3y xz3z xz40 xz41 xz42 xz43 xz44 xz45 xz46 xz47 xz48 xz49 xz4a AV.fits AV.cells ones AV.one upcAV updnAV usdAV ustAV cutB cutSV xz4b xz4c xz4d xz4e resOf resVs resV argE xz4f shpSz u8e u8lit xz4g xz4h List.getElem?_cons_zero List.getElem?_cons_succ op_rng op_nxt op_ent xz4i xz4j xz4k entV xz4l xz4m xz4n xz4o xz4p xz4q
theorem at_a (c i : Int) : APure Tryd.prog 29 [aI c, aI i] (aF (c, i)) := by
  refine apure_intro Tryd.func29 cmp29 rfl fun n H hH => ?_
  repeat' (first | (simp -implicitDefEqProofs [c29, -getElem?_pos, aF, splice, simA, simL]) | (simp (disch := omega) only [upd_ne, xz4f, if_pos, if_neg, IntWalk.i64_in, Int.tdiv_eq_ediv_of_nonneg, Int.tmod_eq_emod_of_nonneg]) | (with_reducible refine fin_r ?_ ?_ ?_) | (with_reducible exact SameB.rfl_ _ _) | (with_reducible refine SameB.upd ?_ ?_ _) | (with_reducible assumption) | (with_reducible refine newPM_of ?_) | (with_reducible refine newP_go ?_) | (with_reducible intro _g _hg) | (with_reducible refine And.intro ?_ ?_) | (with_reducible intro _hc) | omega)
theorem in_a (x a b : Int) : APure Tryd.prog 28 [aI x, aI a, aI b] (.bool (decide (a ≤ x) && decide (x ≤ b))) := by
  refine apure_intro Tryd.func28 cmp28 rfl fun n H hH => ?_
  repeat' (first | (simp -implicitDefEqProofs [c28, -getElem?_pos, simA]) | (simp (disch := omega) only [upd_ne, xz4f, if_pos, if_neg, IntWalk.i64_in, Int.tdiv_eq_ediv_of_nonneg, Int.tmod_eq_emod_of_nonneg]) | (with_reducible refine fin_r ?_ ?_ ?_) | (with_reducible exact SameB.rfl_ _ _) | (with_reducible refine SameB.upd ?_ ?_ _) | (with_reducible assumption) | (with_reducible intro _g _hg) | (with_reducible refine And.intro ?_ ?_) | (with_reducible intro _hc) | omega)
theorem leap_a (y : Int) (h : 0 ≤ y) : APure Tryd.prog 93 [aI y] (.bool (decide (lpY y))) := by
  refine apure_intro Tryd.func93 cmp93 rfl fun n H hH => ?_
  repeat' (first | (simp -implicitDefEqProofs [c93, -getElem?_pos, simA]) | (simp (disch := omega) only [upd_ne, xz4f, if_pos, if_neg, IntWalk.i64_in, Int.tdiv_eq_ediv_of_nonneg, Int.tmod_eq_emod_of_nonneg]) | (with_reducible refine fin_r ?_ ?_ ?_) | (with_reducible exact SameB.rfl_ _ _) | (with_reducible refine SameB.upd ?_ ?_ _) | (with_reducible assumption) | (with_reducible intro _g _hg) | (with_reducible refine And.intro ?_ ?_) | (with_reducible intro _hc) | omega)
  · rw [Bool.eq_iff_iff]; simp only [decide_eq_true_eq, beq_iff_eq]; unfold lpY; omega
  · unfold lpY; omega
  · unfold lpY; omega
theorem daysOfMonth_a (y m : Int) (h : 0 ≤ y) : APure Tryd.prog 67 [aI y, aI m] (aI (dom y m)) := by
  refine apure_intro Tryd.func67 cmp67 rfl fun n H hH => ?_
  repeat' (first | (simp -implicitDefEqProofs [c67_k1_go, c67_k2_go, c67_k3_go, c67_e4_go, c67_e5_go, c67_t6_go, c67_e7_go, c67, -getElem?_pos, simA]) | (simp (disch := omega) only [upd_ne, xz4f, if_pos, if_neg, IntWalk.i64_in, Int.tdiv_eq_ediv_of_nonneg, Int.tmod_eq_emod_of_nonneg]) | ((with_reducible refine CallP.chk (f := 93) ?_); (refine' CallP.sf ?_ (leap_a _ h) ?_); (focus first | (with_reducible exact simL_refl _) | (simp [simL, simA, simA_refl, simL_refl]; done))) | (with_reducible refine fin_r ?_ ?_ ?_) | (with_reducible exact SameB.rfl_ _ _) | (with_reducible refine SameB.upd ?_ ?_ _) | (with_reducible assumption) | (with_reducible intro _g _hg) | (with_reducible refine And.intro ?_ ?_) | (with_reducible intro _hc) | omega)
  all_goals simp_all [dom]
theorem daysOf_a (y m : Int) (h : 0 ≤ y) (hm : 1 ≤ m ∧ m ≤ 12) : APure Tryd.prog 49 [aI y, aI m] (aI (dom y m)) := by
  refine apure_intro Tryd.func49 cmp49 rfl fun n H hH => ?_
  repeat' (first | (simp -implicitDefEqProofs [c49_k1_go, c49_k2_go, c49_t3_go, c49, -getElem?_pos, simA]) | (simp (disch := omega) only [upd_ne, xz4f, if_pos, if_neg, IntWalk.i64_in, Int.tdiv_eq_ediv_of_nonneg, Int.tmod_eq_emod_of_nonneg]) | (with_reducible refine fin_r ?_ ?_ ?_) | (with_reducible exact SameB.rfl_ _ _) | (with_reducible refine SameB.upd ?_ ?_ _) | (with_reducible assumption) | (with_reducible intro _g _hg) | (with_reducible refine And.intro ?_ ?_) | (with_reducible intro _hc) | omega)
  · subst_vars; unfold dom; rw [if_pos rfl, if_pos (by unfold lpY; omega)]
  · subst_vars; unfold dom; rw [if_pos rfl, if_neg (by unfold lpY; omega)]
  · subst_vars; unfold dom; rw [if_pos rfl, if_neg (by unfold lpY; omega)]
  · subst_vars; unfold dom; rw [if_pos rfl, if_pos (by unfold lpY; omega)]
  · have := month_of hm.1 hm.2
    rcases this with rfl | rfl | rfl | rfl | rfl | rfl | rfl | rfl | rfl | rfl | rfl | rfl <;> first | rfl | contradiction | (exact absurd rfl (by assumption))
theorem daysBefore_a (y : Int) (h : 1 ≤ y ∧ y ≤ 20000) : APure Tryd.prog 89 [aI y] (aI (bef y)) := by
  refine apure_intro Tryd.func89 cmp89 rfl fun n H hH => ?_
  repeat' (first | (simp -implicitDefEqProofs [c89, -getElem?_pos, simA]) | (simp (disch := omega) only [upd_ne, xz4f, if_pos, if_neg, IntWalk.i64_in, Int.tdiv_eq_ediv_of_nonneg, Int.tmod_eq_emod_of_nonneg]) | (with_reducible refine fin_r ?_ ?_ ?_) | (with_reducible exact SameB.rfl_ _ _) | (with_reducible refine SameB.upd ?_ ?_ _) | (with_reducible assumption) | (with_reducible intro _g _hg) | (with_reducible refine And.intro ?_ ?_) | (with_reducible intro _hc) | omega)
  rfl
theorem day_a (y m d : Int) (h : 1 ≤ y ∧ y ≤ 20000) (hm : 1 ≤ m ∧ m ≤ 12) (hd : 0 ≤ d ∧ d ≤ 40) : APure Tryd.prog 23 [aI y, aI m, aI d] (aI (dayN y m d)) := by
  rw [← day_eq d hm.1 hm.2]
  refine apure_intro Tryd.func23 cmp23 rfl fun n H hH => ?_
  repeat' (first | (simp -implicitDefEqProofs [c23_k1_go, c23_t2_go, c23, -getElem?_pos, simA]) | (simp (disch := omega) only [upd_ne, xz4f, if_pos, if_neg, IntWalk.i64_in, Int.tdiv_eq_ediv_of_nonneg, Int.tmod_eq_emod_of_nonneg]) | (with_reducible refine fin_r ?_ ?_ ?_) | (with_reducible exact SameB.rfl_ _ _) | (with_reducible refine SameB.upd ?_ ?_ _) | (with_reducible assumption) | (with_reducible intro _g _hg) | (with_reducible refine And.intro ?_ ?_) | (with_reducible intro _hc) | omega)
  all_goals unfold dayR
  · simp only [if_pos (show m < 3 by omega)]
  · simp only [if_neg (show ¬ m < 3 by omega)]
theorem cum_le (y : Int) (k : Nat) (h : k ≤ 12) : 0 ≤ cumD y k ∧ cumD y k ≤ 366 := by
  have h0 := cum_mono y (a := 0) (b := k) (by omega)
  have h1 := cum_mono y h
  have h2 : cumD y 0 = 0 := rfl
  have h3 := (cum_cases y).2.2.2.2.2.2.2.2.2.2.2.2
  have h4 : (if lpY y then (1 : Int) else 0) ≤ 1 := by split <;> omega
  omega
theorem dayOfYear_a (y m d : Int) (hy : 0 ≤ y) (hm : 1 ≤ m ∧ m ≤ 12) (hd : 0 ≤ d ∧ d ≤ 40) : APure Tryd.prog 78 [aI y, aI m, aI d] (aI (doy y m d)) := by
  refine apure_intro Tryd.func78 cmp78 rfl fun n H hH => ?_
  repeat' (first | (simp -implicitDefEqProofs [c78, -getElem?_pos, simA]) | (simp (disch := omega) only [upd_ne, xz4f, if_pos, if_neg, IntWalk.i64_in, Int.tdiv_eq_ediv_of_nonneg, Int.tmod_eq_emod_of_nonneg]) | (with_reducible refine fin_r ?_ ?_ ?_) | (with_reducible exact SameB.rfl_ _ _) | (with_reducible refine SameB.upd ?_ ?_ _) | (with_reducible assumption) | (with_reducible intro _g _hg) | (with_reducible refine And.intro ?_ ?_) | (with_reducible intro _hc) | omega)
  refine LoopK.go (fun q s => ∃ (k : Nat), (k : Int) + 1 + q = m ∧ s = ⟨[(0, aI y), (1, aI m), (2, aI (d + cumD y k)), (7, aI ((k : Int) + 1))], n, H⟩) (m - 1).toNat ⟨0, by omega, by simp [cumD]⟩ ?_
  rintro q s ⟨k, hk, rfl⟩ J hJ
  have hc := cum_le y k (by omega)
  have hdm := dom_pos y ((k : Int) + 1)
  repeat' (first | (simp -implicitDefEqProofs [c78_k1_go, c78_k2_go, c78_k3_go, c78_L4_go, c78, -getElem?_pos, simA]) | (simp (disch := omega) only [upd_ne, xz4f, if_pos, if_neg, IntWalk.i64_in, Int.tdiv_eq_ediv_of_nonneg, Int.tmod_eq_emod_of_nonneg]) | ((with_reducible refine CallP.chk (f := 67) ?_); (refine' CallP.sf ?_ (daysOfMonth_a _ _ hy) ?_); (focus first | (with_reducible exact simL_refl _) | (simp [simL, simA, simA_refl, simL_refl]; done))) | (with_reducible refine fin_r ?_ ?_ ?_) | (with_reducible exact SameB.rfl_ _ _) | (with_reducible refine SameB.upd ?_ ?_ _) | (with_reducible assumption) | (with_reducible intro _g _hg) | (with_reducible refine And.intro ?_ ?_) | (with_reducible intro _hc) | omega)
  · exact hJ (q - 1) _ (by omega) ⟨k + 1, by omega, by simp [cumD]; omega⟩
  · have e : (m - 1).toNat = k := by omega
    unfold doy; rw [e]
theorem doy_bounds (y m d : Int) (hm : 1 ≤ m ∧ m ≤ 12) : d ≤ doy y m d ∧ doy y m d ≤ d + 366 := by
  have := cum_le y (m - 1).toNat (by omega)
  unfold doy; omega
theorem bef_bounds (y : Int) (h : 1 ≤ y ∧ y ≤ 20000) : 0 ≤ bef y ∧ bef y ≤ 8000000 := by unfold bef; omega
theorem dayNumber_a (a : Mo) (h : a.ok) : APure Tryd.prog 56 [aM a] (aI a.day) := by
  obtain ⟨h1, h2, h3, h4, h5, h6, h7, h8, h9, h10, h11, h12⟩ := h
  have hb := bef_bounds a.y (by omega)
  have hd := dom_pos a.y a.m
  have hq := doy_bounds a.y a.m a.d (by omega)
  refine apure_intro Tryd.func56 cmp56 rfl fun n H hH => ?_
  repeat' (first | (simp -implicitDefEqProofs [c56, -getElem?_pos, simA]) | (simp (disch := omega) only [upd_ne, xz4f, if_pos, if_neg, IntWalk.i64_in, Int.tdiv_eq_ediv_of_nonneg, Int.tmod_eq_emod_of_nonneg]) | ((with_reducible refine CallP.chk (f := 89) ?_); (refine' CallP.sf ?_ (daysBefore_a a.y (by omega)) ?_); (focus first | (with_reducible exact simL_refl _) | (simp [simL, simA, simA_refl, simL_refl]; done))) | ((with_reducible refine CallP.chk (f := 78) ?_); (refine' CallP.sf ?_ (dayOfYear_a a.y a.m a.d (by omega) (by omega) (by omega)) ?_); (focus first | (with_reducible exact simL_refl _) | (simp [simL, simA, simA_refl, simL_refl]; done))) | (with_reducible refine fin_r ?_ ?_ ?_) | (with_reducible exact SameB.rfl_ _ _) | (with_reducible refine SameB.upd ?_ ?_ _) | (with_reducible assumption) | (with_reducible refine newPM_of ?_) | (with_reducible refine newP_go ?_) | (with_reducible intro _g _hg) | (with_reducible refine And.intro ?_ ?_) | (with_reducible intro _hc) | omega)
  rfl
theorem weekday_a (d : Int) (h : 1 ≤ d ∧ d ≤ 100000000) : APure Tryd.prog 55 [aI d] (aI ((d - 1) % 7)) := by
  refine apure_intro Tryd.func55 cmp55 rfl fun n H hH => ?_
  repeat' (first | (simp -implicitDefEqProofs [c55, -getElem?_pos, simA]) | (simp (disch := omega) only [upd_ne, xz4f, if_pos, if_neg, IntWalk.i64_in, Int.tdiv_eq_ediv_of_nonneg, Int.tmod_eq_emod_of_nonneg]) | (with_reducible refine fin_r ?_ ?_ ?_) | (with_reducible exact SameB.rfl_ _ _) | (with_reducible refine SameB.upd ?_ ?_ _) | (with_reducible assumption) | (with_reducible intro _g _hg) | (with_reducible refine And.intro ?_ ?_) | (with_reducible intro _hc) | omega)
theorem weekdayOf_a (d : Int) (h : 0 ≤ d ∧ d ≤ 100000000) : APure Tryd.prog 26 [aI d] (aI ((d + 6) % 7)) := by
  refine apure_intro Tryd.func26 cmp26 rfl fun n H hH => ?_
  repeat' (first | (simp -implicitDefEqProofs [c26, -getElem?_pos, simA]) | (simp (disch := omega) only [upd_ne, xz4f, if_pos, if_neg, IntWalk.i64_in, Int.tdiv_eq_ediv_of_nonneg, Int.tmod_eq_emod_of_nonneg]) | (with_reducible refine fin_r ?_ ?_ ?_) | (with_reducible exact SameB.rfl_ _ _) | (with_reducible refine SameB.upd ?_ ?_ _) | (with_reducible assumption) | (with_reducible intro _g _hg) | (with_reducible refine And.intro ?_ ?_) | (with_reducible intro _hc) | omega)
theorem firstMonday_a (y : Int) (h : 1 ≤ y ∧ y ≤ 10001) : APure Tryd.prog 60 [aI y] (aI (fmo y)) := by
  have hb := bef_bounds y (by omega)
  refine apure_intro Tryd.func60 cmp60 rfl fun n H hH => ?_
  repeat' (first | (simp -implicitDefEqProofs [c60, -getElem?_pos, simA]) | (simp (disch := omega) only [upd_ne, xz4f, if_pos, if_neg, IntWalk.i64_in, Int.tdiv_eq_ediv_of_nonneg, Int.tmod_eq_emod_of_nonneg]) | ((with_reducible refine CallP.chk (f := 89) ?_); (refine' CallP.sf ?_ (daysBefore_a y (by omega)) ?_); (focus first | (with_reducible exact simL_refl _) | (simp [simL, simA, simA_refl, simL_refl]; done))) | ((with_reducible refine CallP.chk (f := 55) ?_); (refine' CallP.sf ?_ (weekday_a (bef y + 4) (by omega)) ?_); (focus first | (with_reducible exact simL_refl _) | (simp [simL, simA, simA_refl, simL_refl]; done))) | (with_reducible refine fin_r ?_ ?_ ?_) | (with_reducible exact SameB.rfl_ _ _) | (with_reducible refine SameB.upd ?_ ?_ _) | (with_reducible assumption) | (with_reducible intro _g _hg) | (with_reducible refine And.intro ?_ ?_) | (with_reducible intro _hc) | omega)
  unfold fmo; omega
theorem number_a (a : Mo) (h : a.ok) : APure Tryd.prog 54 [aM a] (aI a.num) := by
  have hdn := dayNumber_a a h
  have hb := h.dayB
  obtain ⟨h1, h2, h3, h4, h5, h6, h7, h8, h9, h10, h11, h12⟩ := h
  refine apure_intro Tryd.func54 cmp54 rfl fun n H hH => ?_
  repeat' (first | (simp -implicitDefEqProofs [c54, -getElem?_pos, simA]) | (simp (disch := omega) only [upd_ne, xz4f, if_pos, if_neg, IntWalk.i64_in, Int.tdiv_eq_ediv_of_nonneg, Int.tmod_eq_emod_of_nonneg]) | ((with_reducible refine CallP.chk (f := 56) ?_); (refine' CallP.sf ?_ (hdn) ?_); (focus first | (with_reducible exact simL_refl _) | (simp [simL, simA, simA_refl, simL_refl]; done))) | (with_reducible refine fin_r ?_ ?_ ?_) | (with_reducible exact SameB.rfl_ _ _) | (with_reducible refine SameB.upd ?_ ?_ _) | (with_reducible assumption) | (with_reducible refine newPM_of ?_) | (with_reducible refine newP_go ?_) | (with_reducible intro _g _hg) | (with_reducible refine And.intro ?_ ?_) | (with_reducible intro _hc) | omega)
  unfold Mo.num Mo.sec; omega
end Go.Proofs.YtnmkpadgogbgkaaDoor
namespace Go.Proofs.YtnmkpadgogbgkaaDoor
attribute [local simp] xz00 aw_reg aw_seq xz01 xz02 xz03 xz04 aw_ret aw_bad aw_kp aw_ke xz05 xz06 xz07 xz08 xz09 xz0a xz0b xz0c xz0d xz0e xz0f xz0g xz0h xz0i scV pe xz0j xz0k xz0l xz0m xz0n xz0o xz0p xz0q xz0r xz0s xz0t spg_mv xz0u xz0v xz0w xz0x xz0y xz0z xz10 xz11 xz12 xz13 xz14 xz15 xz16 xz17 xz18 xz19 xz1a xz1b xz1c xz1d xz1e spg_mm xz1f spm_mv xz1g xz1h xz1i xz1j xz1k xz1l xz1m xz1n xz1o xz1p xz1q xz1r xz1s xz1t xz1u xz1v xz1w xz1x xz1y xz1z xz20 xz21 xz22 xz23 xz24 spm_mm xz25 xz26 xz27 xz28 xz29 xz2a xz2b xz2c xz2d xz2e xz2f xz2g xz2h xz2i xz2j xz2k xz2l xz2m xz2n xz2o xz2p xz2q xz2r xz2s List.mem_cons guardK guardJ anyE undE op_mv xz2t op_bin op_eqs op_eqb op_eqn op_eqp op_eqi op_neg op_not op_cvi xz2u xz2v op_cut xz2w xz2x xz2y xz2z xz30 xz31 op_len xz32 xz33 xz34 xz35 xz36 xz37 op_mm op_b2s op_r2s op_upc op_usd xz38 xz39 op_ust xz3a op_box xz3b op_bsl op_app xz3c op_s2b op_s2s xz3d xz3e xz3f xz3g xz3h xz3i xz3j xz3k ngV eqsV eqbV negV notV cviV fieldV sidxV aidxV xz3l lenSV extrV nilckV buildV mmV b2sV r2sV eqppV s2bK s2sK msetS mgetV keyOkK mfind msetL keyEq callvK ev get put putO keepE xz3m xz3n xz3o xz3p xz3q xz3r condK part loadAV xz3s xz3t xz3u isNil isNilP isNilI binAV intBin strBin xz3v xz3w xz3x xz3y xz3z xz40 xz41 xz42 xz43 xz44 xz45 xz46 xz47 xz48 xz49 xz4a AV.fits AV.cells ones AV.one upcAV updnAV usdAV ustAV cutB cutSV xz4b xz4c xz4d xz4e resOf resVs resV argE xz4f shpSz u8e u8lit xz4g xz4h List.getElem?_cons_zero List.getElem?_cons_succ op_rng op_nxt op_ent xz4i xz4j xz4k entV xz4l xz4m xz4n xz4o xz4p xz4q
set_option maxHeartbeats 2000000 in
theorem momentFault_a (a : Mo) : APure Tryd.prog 16 [aM a] (aF (moF a)) := by
  refine apure_intro Tryd.func16 cmp16 rfl fun n H hH => ?_
  by_cases h1 : 1 ≤ a.y ∧ a.y ≤ 9999
  · by_cases h2 : 1 ≤ a.m ∧ a.m ≤ 12
    · have hd := daysOf_a a.y a.m (by omega) h2
      repeat' (first | (simp -implicitDefEqProofs [c16_k1_go, c16_k2_go, c16_k3_go, c16_k4_go, c16_k5_go, c16_k6_go, c16, -getElem?_pos, splice, simA, simL, h1, h2, moF]) | (simp (disch := omega) only [upd_ne, xz4f, if_pos, if_neg, IntWalk.i64_in, Int.tdiv_eq_ediv_of_nonneg, Int.tmod_eq_emod_of_nonneg]) | ((with_reducible refine CallP.chk (f := 28) ?_); (refine' CallP.sf ?_ (in_a _ _ _) ?_); (focus first | (with_reducible exact simL_refl _) | (simp [simL, simA, simA_refl, simL_refl]; done))) | ((with_reducible refine CallP.chk (f := 29) ?_); (refine' CallP.sf ?_ (at_a _ _) ?_); (focus first | (with_reducible exact simL_refl _) | (simp [simL, simA, simA_refl, simL_refl]; done))) | ((with_reducible refine CallP.chk (f := 49) ?_); (refine' CallP.sf ?_ (hd) ?_); (focus first | (with_reducible exact simL_refl _) | (simp [simL, simA, simA_refl, simL_refl]; done))) | (with_reducible refine fin_r ?_ ?_ ?_) | (with_reducible exact SameB.rfl_ _ _) | (with_reducible refine SameB.upd ?_ ?_ _) | (with_reducible assumption) | (with_reducible refine newPM_of ?_) | (with_reducible refine newP_go ?_) | (with_reducible intro _g _hg) | (with_reducible refine And.intro ?_ ?_) | (with_reducible intro _hc) | omega)
    · repeat' (first | (simp -implicitDefEqProofs [c16_k1_go, c16_k2_go, c16_k3_go, c16_k4_go, c16_k5_go, c16_k6_go, c16, -getElem?_pos, splice, simA, simL, h1, moF]) | (simp (disch := omega) only [upd_ne, xz4f, if_pos, if_neg, IntWalk.i64_in, Int.tdiv_eq_ediv_of_nonneg, Int.tmod_eq_emod_of_nonneg]) | ((with_reducible refine CallP.chk (f := 28) ?_); (refine' CallP.sf ?_ (in_a _ _ _) ?_); (focus first | (with_reducible exact simL_refl _) | (simp [simL, simA, simA_refl, simL_refl]; done))) | ((with_reducible refine CallP.chk (f := 29) ?_); (refine' CallP.sf ?_ (at_a _ _) ?_); (focus first | (with_reducible exact simL_refl _) | (simp [simL, simA, simA_refl, simL_refl]; done))) | (with_reducible refine fin_r ?_ ?_ ?_) | (with_reducible exact SameB.rfl_ _ _) | (with_reducible refine SameB.upd ?_ ?_ _) | (with_reducible assumption) | (with_reducible refine newPM_of ?_) | (with_reducible refine newP_go ?_) | (with_reducible intro _g _hg) | (with_reducible refine And.intro ?_ ?_) | (with_reducible intro _hc) | omega)
  · repeat' (first | (simp -implicitDefEqProofs [c16_k1_go, c16_k2_go, c16_k3_go, c16_k4_go, c16_k5_go, c16_k6_go, c16, -getElem?_pos, splice, simA, simL, moF]) | (simp (disch := omega) only [upd_ne, xz4f, if_pos, if_neg, IntWalk.i64_in, Int.tdiv_eq_ediv_of_nonneg, Int.tmod_eq_emod_of_nonneg]) | ((with_reducible refine CallP.chk (f := 28) ?_); (refine' CallP.sf ?_ (in_a _ _ _) ?_); (focus first | (with_reducible exact simL_refl _) | (simp [simL, simA, simA_refl, simL_refl]; done))) | ((with_reducible refine CallP.chk (f := 29) ?_); (refine' CallP.sf ?_ (at_a _ _) ?_); (focus first | (with_reducible exact simL_refl _) | (simp [simL, simA, simA_refl, simL_refl]; done))) | (with_reducible refine fin_r ?_ ?_ ?_) | (with_reducible exact SameB.rfl_ _ _) | (with_reducible refine SameB.upd ?_ ?_ _) | (with_reducible assumption) | (with_reducible refine newPM_of ?_) | (with_reducible refine newP_go ?_) | (with_reducible intro _g _hg) | (with_reducible refine And.intro ?_ ?_) | (with_reducible intro _hc) | omega)
set_option maxHeartbeats 4000000 in
theorem check_a (a : Mo) : APure Tryd.prog 41 [aM a] (aF (moF a)) := by
  refine apure_intro Tryd.func41 cmp41 rfl fun n H hH => ?_
  have _hb : True := trivial
  have _hO : Owns n H [] [] n H := Owns.start hH
  repeat' (first | (simp -implicitDefEqProofs [c41, -getElem?_pos, splice, _hb]) | (simp (disch := omega) only [upd_ne, xz4f, if_pos, if_neg, IntWalk.i64_in, Int.tdiv_eq_ediv_of_nonneg, Int.tmod_eq_emod_of_nonneg]) | (with_reducible refine fin_r ?_ ?_ ?_) | (with_reducible exact SameB.rfl_ _ _) | (with_reducible refine SameB.upd ?_ ?_ _) | (with_reducible assumption) | (with_reducible refine newPM_of ?_) | ((with_reducible refine newP_own (by assumption) (fun _g _hg _hO => ?_)); (have _hb := And.intro _hb _hO.boxF); dsimp only [BoxF, BoxF0, RowF] at _hb) | (with_reducible exact Owns.le (by assumption)) | (with_reducible exact Owns.same (by assumption)) | (with_reducible refine newPM_of ?_) | (with_reducible refine newP_go ?_) | (with_reducible intro _g _hg) | (with_reducible refine And.intro ?_ ?_) | (with_reducible intro _hc) | omega)
  rename_i b0 o0 g1 hg1 o1 b1 g2 hg2 o2 b2
  refine LoopK.go (fun q s => ∃ (k : Nat) (n' : Nat) (H' : AHeap), k + q = 6 ∧ s = ⟨[(1, .ptr g1 0), (2, .ptr g2 0), (25, .agg [aI a.y, aI 1, aI 9999, aI a.m, aI 1, aI 12, aI a.d, aI 1, aI 31, aI a.h, aI 0, aI 23, aI a.mi, aI 0, aI 59, aI a.s, aI 0, aI 59]), (26, aI k)], n', H'⟩ ∧
    Owns n H [(g2, .cells 25 [aI 0, aI 0]), (g1, .cells 23 [aI a.y, aI a.m, aI a.d, aI a.h, aI a.mi, aI a.s])] [] n' H' ∧ (1 ≤ k → 1 ≤ a.y ∧ a.y ≤ 9999) ∧ (2 ≤ k → 1 ≤ a.m ∧ a.m ≤ 12) ∧ (3 ≤ k → 1 ≤ a.d ∧ a.d ≤ dom a.y a.m) ∧ (4 ≤ k → 0 ≤ a.h ∧ a.h ≤ 23) ∧ (5 ≤ k → 0 ≤ a.mi ∧ a.mi ≤ 59) ∧ (6 ≤ k → 0 ≤ a.s ∧ a.s ≤ 59)) 6 ⟨0, _, _, by omega, rfl, (_hO.set0 (by simp; omega) _ _).dropBox, by omega, by omega, by omega, by omega, by omega, by omega⟩ ?_
  rintro q s ⟨k, n1, H1, hk, rfl, _hO, h1, h2, h3, h4, h5, h6⟩ J hJ
  have _hb := _hO.boxF
  dsimp only [BoxF, BoxF0, RowF] at _hb
  have hk6 : k = 0 ∨ k = 1 ∨ k = 2 ∨ k = 3 ∨ k = 4 ∨ k = 5 ∨ k = 6 := by omega
  rcases hk6 with rfl | rfl | rfl | rfl | rfl | rfl | rfl
  · repeat' (first | (simp -implicitDefEqProofs [c41_k1_go, c41_k2_go, c41_k3_go, c41_k4_go, c41_L5_go, c41, -getElem?_pos, splice, _hb]) | (simp (disch := omega) only [upd_ne, xz4f, if_pos, if_neg, IntWalk.i64_in, Int.tdiv_eq_ediv_of_nonneg, Int.tmod_eq_emod_of_nonneg]) | (with_reducible refine fin_r ?_ ?_ ?_) | (with_reducible exact SameB.rfl_ _ _) | (with_reducible refine SameB.upd ?_ ?_ _) | (with_reducible assumption) | (with_reducible refine newPM_of ?_) | ((with_reducible refine newP_own (by assumption) (fun _g _hg _hO => ?_)); (have _hb := And.intro _hb _hO.boxF); dsimp only [BoxF, BoxF0, RowF] at _hb) | (with_reducible exact Owns.le (by assumption)) | (with_reducible exact Owns.same (by assumption)) | (with_reducible refine newPM_of ?_) | (with_reducible refine newP_go ?_) | (with_reducible intro _g _hg) | (with_reducible refine And.intro ?_ ?_) | (with_reducible intro _hc) | omega)
    · have hm : moF a = (4, 0) := by unfold moF; (repeat' split) <;> first | rfl | (exfalso; omega)
      rw [hm]; exact simA_refl _
    · exact hJ (q - 1) _ (by omega) ⟨1, _, _, by omega, rfl, (_hO.set0 (by simp; omega) _ _).dropBox, by omega, by omega, by omega, by omega, by omega, by omega⟩
  · repeat' (first | (simp -implicitDefEqProofs [c41_k1_go, c41_k2_go, c41_k3_go, c41_k4_go, c41_L5_go, c41, -getElem?_pos, splice, _hb]) | (simp (disch := omega) only [upd_ne, xz4f, if_pos, if_neg, IntWalk.i64_in, Int.tdiv_eq_ediv_of_nonneg, Int.tmod_eq_emod_of_nonneg]) | (with_reducible refine fin_r ?_ ?_ ?_) | (with_reducible exact SameB.rfl_ _ _) | (with_reducible refine SameB.upd ?_ ?_ _) | (with_reducible assumption) | (with_reducible refine newPM_of ?_) | ((with_reducible refine newP_own (by assumption) (fun _g _hg _hO => ?_)); (have _hb := And.intro _hb _hO.boxF); dsimp only [BoxF, BoxF0, RowF] at _hb) | (with_reducible exact Owns.le (by assumption)) | (with_reducible exact Owns.same (by assumption)) | (with_reducible refine newPM_of ?_) | (with_reducible refine newP_go ?_) | (with_reducible intro _g _hg) | (with_reducible refine And.intro ?_ ?_) | (with_reducible intro _hc) | omega)
    · have hm : moF a = (4, 1) := by unfold moF; (repeat' split) <;> first | rfl | (exfalso; omega)
      rw [hm]; exact simA_refl _
    · exact hJ (q - 1) _ (by omega) ⟨2, _, _, by omega, rfl, (_hO.set0 (by simp; omega) _ _).dropBox, by omega, by omega, by omega, by omega, by omega, by omega⟩
  · have hdm := daysOfMonth_a a.y a.m (by omega)
    have hdp := dom_pos a.y a.m
    repeat' (first | (simp -implicitDefEqProofs [c41_k1_go, c41_k2_go, c41_k3_go, c41_k4_go, c41_L5_go, c41, -getElem?_pos, splice, _hb]) | (simp (disch := omega) only [upd_ne, xz4f, if_pos, if_neg, IntWalk.i64_in, Int.tdiv_eq_ediv_of_nonneg, Int.tmod_eq_emod_of_nonneg]) | ((with_reducible refine CallP.chk (f := 67) ?_); (refine' CallP.sf ?_ (hdm) ?_); (focus first | (with_reducible exact simL_refl _) | (simp [simL, simA, simA_refl, simL_refl]; done))) | (with_reducible refine fin_r ?_ ?_ ?_) | (with_reducible exact SameB.rfl_ _ _) | (with_reducible refine SameB.upd ?_ ?_ _) | (with_reducible assumption) | (with_reducible refine newPM_of ?_) | ((with_reducible refine newP_own (by assumption) (fun _g _hg _hO => ?_)); (have _hb := And.intro _hb _hO.boxF); dsimp only [BoxF, BoxF0, RowF] at _hb) | (with_reducible exact Owns.le (by assumption)) | (with_reducible exact Owns.same (by assumption)) | (with_reducible refine newPM_of ?_) | (with_reducible refine newP_go ?_) | (with_reducible intro _g _hg) | (with_reducible refine And.intro ?_ ?_) | (with_reducible intro _hc) | omega)
    · have hm : moF a = (4, 2) := by unfold moF; (repeat' split) <;> first | rfl | (exfalso; omega)
      rw [hm]; exact simA_refl _
    · exact hJ (q - 1) _ (by omega) ⟨3, _, _, by omega, rfl, ((_hO.set0 (by simp; omega) _ _).set0 (by simp; omega) _ _).dropBox, by omega, by omega, by omega, by omega, by omega, by omega⟩
  · repeat' (first | (simp -implicitDefEqProofs [c41_k1_go, c41_k2_go, c41_k3_go, c41_k4_go, c41_L5_go, c41, -getElem?_pos, splice, _hb]) | (simp (disch := omega) only [upd_ne, xz4f, if_pos, if_neg, IntWalk.i64_in, Int.tdiv_eq_ediv_of_nonneg, Int.tmod_eq_emod_of_nonneg]) | (with_reducible refine fin_r ?_ ?_ ?_) | (with_reducible exact SameB.rfl_ _ _) | (with_reducible refine SameB.upd ?_ ?_ _) | (with_reducible assumption) | (with_reducible refine newPM_of ?_) | ((with_reducible refine newP_own (by assumption) (fun _g _hg _hO => ?_)); (have _hb := And.intro _hb _hO.boxF); dsimp only [BoxF, BoxF0, RowF] at _hb) | (with_reducible exact Owns.le (by assumption)) | (with_reducible exact Owns.same (by assumption)) | (with_reducible refine newPM_of ?_) | (with_reducible refine newP_go ?_) | (with_reducible intro _g _hg) | (with_reducible refine And.intro ?_ ?_) | (with_reducible intro _hc) | omega)
    · have hm : moF a = (4, 3) := by unfold moF; (repeat' split) <;> first | rfl | (exfalso; omega)
      rw [hm]; exact simA_refl _
    · exact hJ (q - 1) _ (by omega) ⟨4, _, _, by omega, rfl, (_hO.set0 (by simp; omega) _ _).dropBox, by omega, by omega, by omega, by omega, by omega, by omega⟩
  · repeat' (first | (simp -implicitDefEqProofs [c41_k1_go, c41_k2_go, c41_k3_go, c41_k4_go, c41_L5_go, c41, -getElem?_pos, splice, _hb]) | (simp (disch := omega) only [upd_ne, xz4f, if_pos, if_neg, IntWalk.i64_in, Int.tdiv_eq_ediv_of_nonneg, Int.tmod_eq_emod_of_nonneg]) | (with_reducible refine fin_r ?_ ?_ ?_) | (with_reducible exact SameB.rfl_ _ _) | (with_reducible refine SameB.upd ?_ ?_ _) | (with_reducible assumption) | (with_reducible refine newPM_of ?_) | ((with_reducible refine newP_own (by assumption) (fun _g _hg _hO => ?_)); (have _hb := And.intro _hb _hO.boxF); dsimp only [BoxF, BoxF0, RowF] at _hb) | (with_reducible exact Owns.le (by assumption)) | (with_reducible exact Owns.same (by assumption)) | (with_reducible refine newPM_of ?_) | (with_reducible refine newP_go ?_) | (with_reducible intro _g _hg) | (with_reducible refine And.intro ?_ ?_) | (with_reducible intro _hc) | omega)
    · have hm : moF a = (4, 4) := by unfold moF; (repeat' split) <;> first | rfl | (exfalso; omega)
      rw [hm]; exact simA_refl _
    · exact hJ (q - 1) _ (by omega) ⟨5, _, _, by omega, rfl, (_hO.set0 (by simp; omega) _ _).dropBox, by omega, by omega, by omega, by omega, by omega, by omega⟩
  · repeat' (first | (simp -implicitDefEqProofs [c41_k1_go, c41_k2_go, c41_k3_go, c41_k4_go, c41_L5_go, c41, -getElem?_pos, splice, _hb]) | (simp (disch := omega) only [upd_ne, xz4f, if_pos, if_neg, IntWalk.i64_in, Int.tdiv_eq_ediv_of_nonneg, Int.tmod_eq_emod_of_nonneg]) | (with_reducible refine fin_r ?_ ?_ ?_) | (with_reducible exact SameB.rfl_ _ _) | (with_reducible refine SameB.upd ?_ ?_ _) | (with_reducible assumption) | (with_reducible refine newPM_of ?_) | ((with_reducible refine newP_own (by assumption) (fun _g _hg _hO => ?_)); (have _hb := And.intro _hb _hO.boxF); dsimp only [BoxF, BoxF0, RowF] at _hb) | (with_reducible exact Owns.le (by assumption)) | (with_reducible exact Owns.same (by assumption)) | (with_reducible refine newPM_of ?_) | (with_reducible refine newP_go ?_) | (with_reducible intro _g _hg) | (with_reducible refine And.intro ?_ ?_) | (with_reducible intro _hc) | omega)
    · have hm : moF a = (4, 5) := by unfold moF; (repeat' split) <;> first | rfl | (exfalso; omega)
      rw [hm]; exact simA_refl _
    · exact hJ (q - 1) _ (by omega) ⟨6, _, _, by omega, rfl, (_hO.set0 (by simp; omega) _ _).dropBox, by omega, by omega, by omega, by omega, by omega, by omega⟩
  · repeat' (first | (simp -implicitDefEqProofs [c41_k1_go, c41_k2_go, c41_k3_go, c41_k4_go, c41_L5_go, c41, -getElem?_pos, splice, _hb]) | (simp (disch := omega) only [upd_ne, xz4f, if_pos, if_neg, IntWalk.i64_in, Int.tdiv_eq_ediv_of_nonneg, Int.tmod_eq_emod_of_nonneg]) | (with_reducible refine fin_r ?_ ?_ ?_) | (with_reducible exact SameB.rfl_ _ _) | (with_reducible refine SameB.upd ?_ ?_ _) | (with_reducible assumption) | (with_reducible refine newPM_of ?_) | ((with_reducible refine newP_own (by assumption) (fun _g _hg _hO => ?_)); (have _hb := And.intro _hb _hO.boxF); dsimp only [BoxF, BoxF0, RowF] at _hb) | (with_reducible exact Owns.le (by assumption)) | (with_reducible exact Owns.same (by assumption)) | (with_reducible refine newPM_of ?_) | (with_reducible refine newP_go ?_) | (with_reducible intro _g _hg) | (with_reducible refine And.intro ?_ ?_) | (with_reducible intro _hc) | omega)
    have hm : moF a = (0, 0) := by unfold moF; (repeat' split) <;> first | rfl | (exfalso; omega)
    rw [hm]; exact simA_refl _
end Go.Proofs.YtnmkpadgogbgkaaDoor
namespace Go.Proofs.YtnmkpadgogbgkaaDoor
def eY (day : Int) : Int := ((day + 305) % 146097 - (day + 305) % 146097 / 1460 + (day + 305) % 146097 / 36524 - (day + 305) % 146097 / 146096) / 365
def eR (day : Int) : Int := (day + 305) % 146097 - 365 * eY day - eY day / 4 + eY day / 100
def eM (day : Int) : Int := (5 * eR day + 2) / 153
theorem eR_bounds {day : Int} (h : 1 ≤ day) : 0 ≤ eR day ∧ eR day ≤ 366 := by
  have hb := era_bounds (z := (day + 305) % 146097) (by omega) (by omega)
  have e : ofEra ((day + 305) % 146097) = eY day := rfl
  rw [e] at hb
  unfold befE at hb
  unfold eR
  omega
theorem dateM_hi {day : Int} (h : 12 < eM day + 3) : dateM day = ⟨eY day + 400 * ((day + 305) / 146097) + 1, eM day + 3 - 12, eR day - (153 * eM day + 2) / 5 + 1, 0, 0, 0⟩ := by
  have e : dateR day = if eM day + 3 > 12 then (eY day + 400 * ((day + 305) / 146097) + 1, eM day + 3 - 12, eR day - (153 * eM day + 2) / 5 + 1) else (eY day + 400 * ((day + 305) / 146097), eM day + 3, eR day - (153 * eM day + 2) / 5 + 1) := rfl
  rw [if_pos h] at e
  unfold dateM; rw [e]
theorem dateM_lo {day : Int} (h : ¬ 12 < eM day + 3) : dateM day = ⟨eY day + 400 * ((day + 305) / 146097), eM day + 3, eR day - (153 * eM day + 2) / 5 + 1, 0, 0, 0⟩ := by
  have e : dateR day = if eM day + 3 > 12 then (eY day + 400 * ((day + 305) / 146097) + 1, eM day + 3 - 12, eR day - (153 * eM day + 2) / 5 + 1) else (eY day + 400 * ((day + 305) / 146097), eM day + 3, eR day - (153 * eM day + 2) / 5 + 1) := rfl
  rw [if_neg h] at e
  unfold dateM; rw [e]
attribute [local simp] xz00 aw_reg aw_seq xz01 xz02 xz03 xz04 aw_ret aw_bad aw_kp aw_ke xz05 xz06 xz07 xz08 xz09 xz0a xz0b xz0c xz0d xz0e xz0f xz0g xz0h xz0i scV pe xz0j xz0k xz0l xz0m xz0n xz0o xz0p xz0q xz0r xz0s xz0t spg_mv xz0u xz0v xz0w xz0x xz0y xz0z xz10 xz11 xz12 xz13 xz14 xz15 xz16 xz17 xz18 xz19 xz1a xz1b xz1c xz1d xz1e spg_mm xz1f spm_mv xz1g xz1h xz1i xz1j xz1k xz1l xz1m xz1n xz1o xz1p xz1q xz1r xz1s xz1t xz1u xz1v xz1w xz1x xz1y xz1z xz20 xz21 xz22 xz23 xz24 spm_mm xz25 xz26 xz27 xz28 xz29 xz2a xz2b xz2c xz2d xz2e xz2f xz2g xz2h xz2i xz2j xz2k xz2l xz2m xz2n xz2o xz2p xz2q xz2r xz2s List.mem_cons guardK guardJ anyE undE op_mv xz2t op_bin op_eqs op_eqb op_eqn op_eqp op_eqi op_neg op_not op_cvi xz2u xz2v op_cut xz2w xz2x xz2y xz2z xz30 xz31 op_len xz32 xz33 xz34 xz35 xz36 xz37 op_mm op_b2s op_r2s op_upc op_usd xz38 xz39 op_ust xz3a op_box xz3b op_bsl op_app xz3c op_s2b op_s2s xz3d xz3e xz3f xz3g xz3h xz3i xz3j xz3k ngV eqsV eqbV negV notV cviV fieldV sidxV aidxV xz3l lenSV extrV nilckV buildV mmV b2sV r2sV eqppV s2bK s2sK msetS mgetV keyOkK mfind msetL keyEq callvK ev get put putO keepE xz3m xz3n xz3o xz3p xz3q xz3r condK part loadAV xz3s xz3t xz3u isNil isNilP isNilI binAV intBin strBin xz3v xz3w xz3x xz3y xz3z xz40 xz41 xz42 xz43 xz44 xz45 xz46 xz47 xz48 xz49 xz4a AV.fits AV.cells ones AV.one upcAV updnAV usdAV ustAV cutB cutSV xz4b xz4c xz4d xz4e resOf resVs resV argE xz4f shpSz u8e u8lit xz4g xz4h List.getElem?_cons_zero List.getElem?_cons_succ op_rng op_nxt op_ent xz4i xz4j xz4k entV xz4l xz4m xz4n xz4o xz4p xz4q
set_option maxHeartbeats 2000000 in
theorem date_a (day : Int) (h : 1 ≤ day ∧ day ≤ 3652059) : APure Tryd.prog 38 [aI day] (aM (dateM day)) := by
  refine apure_intro Tryd.func38 cmp38 rfl fun n H hH => ?_
  have hR := eR_bounds h.1
  by_cases hc : 12 < eM day + 3
  · rw [dateM_hi hc]
    unfold eM eR eY at hc ⊢
    unfold eR eY at hR
    repeat' (first | (simp -implicitDefEqProofs [c38_k1_go, c38_t2_go, c38, -getElem?_pos, splice, simA, simL, hc]) | (simp (disch := omega) only [upd_ne, xz4f, if_pos, if_neg, IntWalk.i64_in, Int.tdiv_eq_ediv_of_nonneg, Int.tmod_eq_emod_of_nonneg]) | (with_reducible refine fin_r ?_ ?_ ?_) | (with_reducible exact SameB.rfl_ _ _) | (with_reducible refine SameB.upd ?_ ?_ _) | (with_reducible assumption) | (with_reducible refine newPM_of ?_) | (with_reducible refine newP_go ?_) | (with_reducible intro _g _hg) | (with_reducible refine And.intro ?_ ?_) | (with_reducible intro _hc) | omega)
    all_goals skip
  · rw [dateM_lo hc]
    unfold eM eR eY at hc ⊢
    unfold eR eY at hR
    repeat' (first | (simp -implicitDefEqProofs [c38_k1_go, c38_t2_go, c38, -getElem?_pos, splice, simA, simL, hc]) | (simp (disch := omega) only [upd_ne, xz4f, if_pos, if_neg, IntWalk.i64_in, Int.tdiv_eq_ediv_of_nonneg, Int.tmod_eq_emod_of_nonneg]) | (with_reducible refine fin_r ?_ ?_ ?_) | (with_reducible exact SameB.rfl_ _ _) | (with_reducible refine SameB.upd ?_ ?_ _) | (with_reducible assumption) | (with_reducible refine newPM_of ?_) | (with_reducible refine newP_go ?_) | (with_reducible intro _g _hg) | (with_reducible refine And.intro ?_ ?_) | (with_reducible intro _hc) | omega)
    all_goals skip
theorem week_a (a : Mo) (h : a.ok) : APure Tryd.prog 57 [aM a] (.tup [aI (wkR a.day).1, aI (wkR a.day).2]) := by
  have hb := h.dayB
  rw [← wk_eq h.1 hb.2.2.1 hb.2.2.2]
  have hdn := dayNumber_a a h
  have hy := h.2.1
  have hy1 := h.1
  have f1 := fmo_spec a.y
  have f2 := fmo_spec (a.y + 1)
  have f0 := fmo_spec (a.y - 1)
  have b1 := bef_bounds a.y (by omega)
  have b2 := bef_bounds (a.y + 1) (by omega)
  have hm1 := firstMonday_a a.y (by omega)
  have u0 := bef_up (a.y - 1)
  have e0 : a.y - 1 + 1 = a.y := by omega
  rw [e0] at u0
  have hm2 := firstMonday_a (a.y + 1) (by omega)
  
  refine apure_intro Tryd.func57 cmp57 rfl fun n H hH => ?_
  unfold wkP
  by_cases c1 : a.day < fmo a.y
  · simp only [if_pos c1]
    have y2 : 2 ≤ a.y := by
      rcases Int.lt_or_le a.y 2 with h5 | h5
      · have : a.y = 1 := by omega
        rw [this] at f1 c1
        have : fmo 1 = 1 := by decide
        omega
      · exact h5
    have hm0 := firstMonday_a (a.y - 1) (by omega)
    have b0 := bef_bounds (a.y - 1) (by omega)
    repeat' (first | (simp -implicitDefEqProofs [c57, -getElem?_pos, simA, simL, c1]) | (simp (disch := omega) only [upd_ne, xz4f, if_pos, if_neg, IntWalk.i64_in, Int.tdiv_eq_ediv_of_nonneg, Int.tmod_eq_emod_of_nonneg]) | ((with_reducible refine CallP.chk (f := 56) ?_); (refine' CallP.sf ?_ (hdn) ?_); (focus first | (with_reducible exact simL_refl _) | (simp [simL, simA, simA_refl, simL_refl]; done))) | ((with_reducible refine CallP.chk (f := 60) ?_); (refine' CallP.sf ?_ (hm1) ?_); (focus first | (with_reducible exact simL_refl _) | (simp [simL, simA, simA_refl, simL_refl]; done))) | (with_reducible refine fin_r ?_ ?_ ?_) | (with_reducible exact SameB.rfl_ _ _) | (with_reducible refine SameB.upd ?_ ?_ _) | (with_reducible assumption) | (with_reducible refine newPM_of ?_) | (with_reducible refine newP_go ?_) | (with_reducible intro _g _hg) | (with_reducible refine And.intro ?_ ?_) | (with_reducible intro _hc) | omega)
    repeat' (first | (simp -implicitDefEqProofs [c57_k1_go, c57_e2_go, c57, -getElem?_pos, simA, simL]) | (simp (disch := omega) only [upd_ne, xz4f, if_pos, if_neg, IntWalk.i64_in, Int.tdiv_eq_ediv_of_nonneg, Int.tmod_eq_emod_of_nonneg]) | ((with_reducible refine CallP.chk (f := 60) ?_); (refine' CallP.sf ?_ (hm0) ?_); (focus first | (with_reducible exact simL_refl _) | (simp [simL, simA, simA_refl, simL_refl]; done))) | (with_reducible refine fin_r ?_ ?_ ?_) | (with_reducible exact SameB.rfl_ _ _) | (with_reducible refine SameB.upd ?_ ?_ _) | (with_reducible assumption) | (with_reducible refine newPM_of ?_) | (with_reducible refine newP_go ?_) | (with_reducible intro _g _hg) | (with_reducible refine And.intro ?_ ?_) | (with_reducible intro _hc) | omega)
    all_goals skip
  · simp only [if_neg c1]
    by_cases c2 : fmo (a.y + 1) ≤ a.day
    · simp only [if_pos c2]
      repeat' (first | (simp -implicitDefEqProofs [c57, -getElem?_pos, simA, simL, c1]) | (simp (disch := omega) only [upd_ne, xz4f, if_pos, if_neg, IntWalk.i64_in, Int.tdiv_eq_ediv_of_nonneg, Int.tmod_eq_emod_of_nonneg]) | ((with_reducible refine CallP.chk (f := 56) ?_); (refine' CallP.sf ?_ (hdn) ?_); (focus first | (with_reducible exact simL_refl _) | (simp [simL, simA, simA_refl, simL_refl]; done))) | ((with_reducible refine CallP.chk (f := 60) ?_); (refine' CallP.sf ?_ (hm1) ?_); (focus first | (with_reducible exact simL_refl _) | (simp [simL, simA, simA_refl, simL_refl]; done))) | (with_reducible refine fin_r ?_ ?_ ?_) | (with_reducible exact SameB.rfl_ _ _) | (with_reducible refine SameB.upd ?_ ?_ _) | (with_reducible assumption) | (with_reducible refine newPM_of ?_) | (with_reducible refine newP_go ?_) | (with_reducible intro _g _hg) | (with_reducible refine And.intro ?_ ?_) | (with_reducible intro _hc) | omega)
      repeat' (first | (simp -implicitDefEqProofs [c57_k1_go, c57_e2_go, c57, -getElem?_pos, simA, simL, c2]) | (simp (disch := omega) only [upd_ne, xz4f, if_pos, if_neg, IntWalk.i64_in, Int.tdiv_eq_ediv_of_nonneg, Int.tmod_eq_emod_of_nonneg]) | ((with_reducible refine CallP.chk (f := 60) ?_); (refine' CallP.sf ?_ (hm2) ?_); (focus first | (with_reducible exact simL_refl _) | (simp [simL, simA, simA_refl, simL_refl]; done))) | (with_reducible refine fin_r ?_ ?_ ?_) | (with_reducible exact SameB.rfl_ _ _) | (with_reducible refine SameB.upd ?_ ?_ _) | (with_reducible assumption) | (with_reducible refine newPM_of ?_) | (with_reducible refine newP_go ?_) | (with_reducible intro _g _hg) | (with_reducible refine And.intro ?_ ?_) | (with_reducible intro _hc) | omega)
      all_goals skip
    · simp only [if_neg c2]
      repeat' (first | (simp -implicitDefEqProofs [c57, -getElem?_pos, simA, simL, c1]) | (simp (disch := omega) only [upd_ne, xz4f, if_pos, if_neg, IntWalk.i64_in, Int.tdiv_eq_ediv_of_nonneg, Int.tmod_eq_emod_of_nonneg]) | ((with_reducible refine CallP.chk (f := 56) ?_); (refine' CallP.sf ?_ (hdn) ?_); (focus first | (with_reducible exact simL_refl _) | (simp [simL, simA, simA_refl, simL_refl]; done))) | ((with_reducible refine CallP.chk (f := 60) ?_); (refine' CallP.sf ?_ (hm1) ?_); (focus first | (with_reducible exact simL_refl _) | (simp [simL, simA, simA_refl, simL_refl]; done))) | (with_reducible refine fin_r ?_ ?_ ?_) | (with_reducible exact SameB.rfl_ _ _) | (with_reducible refine SameB.upd ?_ ?_ _) | (with_reducible assumption) | (with_reducible refine newPM_of ?_) | (with_reducible refine newP_go ?_) | (with_reducible intro _g _hg) | (with_reducible refine And.intro ?_ ?_) | (with_reducible intro _hc) | omega)
      repeat' (first | (simp -implicitDefEqProofs [c57_e2_go, -getElem?_pos, simA, simL, c2]) | (simp (disch := omega) only [upd_ne, xz4f, if_pos, if_neg, IntWalk.i64_in, Int.tdiv_eq_ediv_of_nonneg, Int.tmod_eq_emod_of_nonneg]) | ((with_reducible refine CallP.chk (f := 60) ?_); (refine' CallP.sf ?_ (hm2) ?_); (focus first | (with_reducible exact simL_refl _) | (simp [simL, simA, simA_refl, simL_refl]; done))) | (with_reducible refine fin_r ?_ ?_ ?_) | (with_reducible exact SameB.rfl_ _ _) | (with_reducible refine SameB.upd ?_ ?_ _) | (with_reducible assumption) | (with_reducible refine newPM_of ?_) | (with_reducible refine newP_go ?_) | (with_reducible intro _g _hg) | (with_reducible refine And.intro ?_ ?_) | (with_reducible intro _hc) | omega)
      repeat' (first | (simp -implicitDefEqProofs [c57_k1_go, -getElem?_pos, simA, simL, c2]) | (simp (disch := omega) only [upd_ne, xz4f, if_pos, if_neg, IntWalk.i64_in, Int.tdiv_eq_ediv_of_nonneg, Int.tmod_eq_emod_of_nonneg]) | ((with_reducible refine CallP.chk (f := 60) ?_); (refine' CallP.sf ?_ (hm1) ?_); (focus first | (with_reducible exact simL_refl _) | (simp [simL, simA, simA_refl, simL_refl]; done))) | (with_reducible refine fin_r ?_ ?_ ?_) | (with_reducible exact SameB.rfl_ _ _) | (with_reducible refine SameB.upd ?_ ?_ _) | (with_reducible assumption) | (with_reducible refine newPM_of ?_) | (with_reducible refine newP_go ?_) | (with_reducible intro _g _hg) | (with_reducible refine And.intro ?_ ?_) | (with_reducible intro _hc) | omega)
      all_goals skip
theorem weekOf_a (day : Int) (h : 1 ≤ day ∧ day ≤ 3652059) : APure Tryd.prog 24 [aI day] (.tup [aI (wkR day).1, aI (wkR day).2]) := by
  obtain ⟨th, hth⟩ : ∃ t, t = day - (day + 6) % 7 + 3 := ⟨_, rfl⟩
  have hb : 1 ≤ th ∧ th ≤ 3652059 := by omega
  have hw := weekdayOf_a day (by omega)
  have hd := date_a th hb
  obtain ⟨ho, hdd⟩ := dateM_ok hb.1 hb.2
  have hdb := ho.dayB
  have hdy := day_a (dateM th).y 1 1 (by have := ho.1; have := ho.2.1; omega) (by omega) (by omega)
  have hone := dayN_one (dateM th).y
  rw [hdd] at hdb
  have e : (dateM th).y = (dateR th).1 := rfl
  have hbb := bef_bounds (dateM th).y (by have := ho.1; have := ho.2.1; omega)
  have hW : wkR day = ((dateM th).y, (th - dayN (dateM th).y 1 1) / 7 + 1) := by unfold wkR; simp only [← hth]; rfl
  rw [hW]
  refine apure_intro Tryd.func24 cmp24 rfl fun n H hH => ?_
  repeat' (first | (simp -implicitDefEqProofs [c24, -getElem?_pos, simA, simL, ← hth]) | (simp (disch := omega) only [upd_ne, xz4f, if_pos, if_neg, IntWalk.i64_in, Int.tdiv_eq_ediv_of_nonneg, Int.tmod_eq_emod_of_nonneg]) | ((with_reducible refine CallP.chk (f := 26) ?_); (refine' CallP.sf ?_ (hw) ?_); (focus first | (with_reducible exact simL_refl _) | (simp [simL, simA, simA_refl, simL_refl]; done))) | ((with_reducible refine CallP.chk (f := 38) ?_); (refine' CallP.sf ?_ (hd) ?_); (focus first | (with_reducible exact simL_refl _) | (simp [simL, simA, simA_refl, simL_refl]; done))) | ((with_reducible refine CallP.chk (f := 23) ?_); (refine' CallP.sf ?_ (hdy) ?_); (focus first | (with_reducible exact simL_refl _) | (simp [simL, simA, simA_refl, simL_refl]; done))) | (with_reducible refine fin_r ?_ ?_ ?_) | (with_reducible exact SameB.rfl_ _ _) | (with_reducible refine SameB.upd ?_ ?_ _) | (with_reducible assumption) | (with_reducible intro _g _hg) | (with_reducible refine And.intro ?_ ?_) | (with_reducible intro _hc) | omega)
  all_goals skip
end Go.Proofs.YtnmkpadgogbgkaaDoor
namespace Go.Proofs.YtnmkpadgogbgkaaDoor
attribute [local simp] xz00 aw_reg aw_seq xz01 xz02 xz03 xz04 aw_ret aw_bad aw_kp aw_ke xz05 xz06 xz07 xz08 xz09 xz0a xz0b xz0c xz0d xz0e xz0f xz0g xz0h xz0i scV pe xz0j xz0k xz0l xz0m xz0n xz0o xz0p xz0q xz0r xz0s xz0t spg_mv xz0u xz0v xz0w xz0x xz0y xz0z xz10 xz11 xz12 xz13 xz14 xz15 xz16 xz17 xz18 xz19 xz1a xz1b xz1c xz1d xz1e spg_mm xz1f spm_mv xz1g xz1h xz1i xz1j xz1k xz1l xz1m xz1n xz1o xz1p xz1q xz1r xz1s xz1t xz1u xz1v xz1w xz1x xz1y xz1z xz20 xz21 xz22 xz23 xz24 spm_mm xz25 xz26 xz27 xz28 xz29 xz2a xz2b xz2c xz2d xz2e xz2f xz2g xz2h xz2i xz2j xz2k xz2l xz2m xz2n xz2o xz2p xz2q xz2r xz2s List.mem_cons guardK guardJ anyE undE op_mv xz2t op_bin op_eqs op_eqb op_eqn op_eqp op_eqi op_neg op_not op_cvi xz2u xz2v op_cut xz2w xz2x xz2y xz2z xz30 xz31 op_len xz32 xz33 xz34 xz35 xz36 xz37 op_mm op_b2s op_r2s op_upc op_usd xz38 xz39 op_ust xz3a op_box xz3b op_bsl op_app xz3c op_s2b op_s2s xz3d xz3e xz3f xz3g xz3h xz3i xz3j xz3k ngV eqsV eqbV negV notV cviV fieldV sidxV aidxV xz3l lenSV extrV nilckV buildV mmV b2sV r2sV eqppV s2bK s2sK msetS mgetV keyOkK mfind msetL keyEq callvK ev get put putO keepE xz3m xz3n xz3o xz3p xz3q xz3r condK part loadAV xz3s xz3t xz3u isNil isNilP isNilI binAV intBin strBin xz3v xz3w xz3x xz3y xz3z xz40 xz41 xz42 xz43 xz44 xz45 xz46 xz47 xz48 xz49 xz4a AV.fits AV.cells ones AV.one upcAV updnAV usdAV ustAV cutB cutSV xz4b xz4c xz4d xz4e resOf resVs resV argE xz4f shpSz u8e u8lit xz4g xz4h List.getElem?_cons_zero List.getElem?_cons_succ op_rng op_nxt op_ent xz4i xz4j xz4k entV xz4l xz4m xz4n xz4o xz4p xz4q
theorem moF_code (a : Mo) : (moF a).1 = 0 ∧ (moF a).2 = 0 ∨ (moF a).1 = 4 ∧ 0 ≤ (moF a).2 ∧ (moF a).2 ≤ 5 := by
  unfold moF; repeat' split
  all_goals simp
theorem moF_zero {a : Mo} (h : a.ok) : moF a = (0, 0) := by
  have h1 := moF_ok.2 h
  have h2 := moF_code a
  rcases h2 with ⟨e1, e2⟩ | ⟨e1, _⟩
  · exact Prod.ext e1 e2
  · omega
theorem number__a (a : Mo) : APure Tryd.prog 20 [aM a] (.tup [aI (if (moF a).1 = 0 then a.num else 0), aF (moF a)]) := by
  have hc := check_a a
  refine apure_intro Tryd.func20 cmp20 rfl fun n H hH => ?_
  by_cases h : (moF a).1 = 0
  · have hok := moF_ok.1 h
    have hn := number_a a hok
    have hz := moF_zero hok
    rw [hz] at hc
    simp only [h, if_true]
    rw [hz]
    repeat' (first | (simp -implicitDefEqProofs [c20_k1_go, c20, -getElem?_pos, splice]) | (simp (disch := omega) only [upd_ne, xz4f, if_pos, if_neg, IntWalk.i64_in, Int.tdiv_eq_ediv_of_nonneg, Int.tmod_eq_emod_of_nonneg]) | ((with_reducible refine CallP.chk (f := 41) ?_); (refine' CallP.sf ?_ (hc) ?_); (focus first | (with_reducible exact simL_refl _) | (simp [simL, simA, simA_refl, simL_refl]; done))) | ((with_reducible refine CallP.chk (f := 54) ?_); (refine' CallP.sf ?_ (hn) ?_); (focus first | (with_reducible exact simL_refl _) | (simp [simL, simA, simA_refl, simL_refl]; done))) | (with_reducible refine fin_r ?_ ?_ ?_) | (with_reducible exact SameB.rfl_ _ _) | (with_reducible refine SameB.upd ?_ ?_ _) | (with_reducible assumption) | (with_reducible refine newPM_of ?_) | (with_reducible refine newP_go ?_) | (with_reducible intro _g _hg) | (with_reducible refine And.intro ?_ ?_) | (with_reducible intro _hc) | omega)
    all_goals exact simA_refl _
  · simp only [h, if_false]
    repeat' (first | (simp -implicitDefEqProofs [c20_k1_go, c20, -getElem?_pos, splice, h]) | (simp (disch := omega) only [upd_ne, xz4f, if_pos, if_neg, IntWalk.i64_in, Int.tdiv_eq_ediv_of_nonneg, Int.tmod_eq_emod_of_nonneg]) | ((with_reducible refine CallP.chk (f := 41) ?_); (refine' CallP.sf ?_ (hc) ?_); (focus first | (with_reducible exact simL_refl _) | (simp [simL, simA, simA_refl, simL_refl]; done))) | (with_reducible refine fin_r ?_ ?_ ?_) | (with_reducible exact SameB.rfl_ _ _) | (with_reducible refine SameB.upd ?_ ?_ _) | (with_reducible assumption) | (with_reducible refine newPM_of ?_) | (with_reducible refine newP_go ?_) | (with_reducible intro _g _hg) | (with_reducible refine And.intro ?_ ?_) | (with_reducible intro _hc) | omega)
    all_goals exact simA_refl _
theorem week__a (a : Mo) : APure Tryd.prog 22 [aM a] (.tup [aI (if (moF a).1 = 0 then (wkR a.day).1 else 0), aI (if (moF a).1 = 0 then (wkR a.day).2 else 0), aF (moF a)]) := by
  have hc := check_a a
  refine apure_intro Tryd.func22 cmp22 rfl fun n H hH => ?_
  by_cases h : (moF a).1 = 0
  · have hok := moF_ok.1 h
    have hn := week_a a hok
    have hz := moF_zero hok
    rw [hz] at hc
    simp only [h, if_true]
    rw [hz]
    repeat' (first | (simp -implicitDefEqProofs [c22_k1_go, c22, -getElem?_pos, splice]) | (simp (disch := omega) only [upd_ne, xz4f, if_pos, if_neg, IntWalk.i64_in, Int.tdiv_eq_ediv_of_nonneg, Int.tmod_eq_emod_of_nonneg]) | ((with_reducible refine CallP.chk (f := 41) ?_); (refine' CallP.sf ?_ (hc) ?_); (focus first | (with_reducible exact simL_refl _) | (simp [simL, simA, simA_refl, simL_refl]; done))) | ((with_reducible refine CallP.chk (f := 57) ?_); (refine' CallP.sf ?_ (hn) ?_); (focus first | (with_reducible exact simL_refl _) | (simp [simL, simA, simA_refl, simL_refl]; done))) | (with_reducible refine fin_r ?_ ?_ ?_) | (with_reducible exact SameB.rfl_ _ _) | (with_reducible refine SameB.upd ?_ ?_ _) | (with_reducible assumption) | (with_reducible refine newPM_of ?_) | (with_reducible refine newP_go ?_) | (with_reducible intro _g _hg) | (with_reducible refine And.intro ?_ ?_) | (with_reducible intro _hc) | omega)
    all_goals exact simA_refl _
  · simp only [h, if_false]
    repeat' (first | (simp -implicitDefEqProofs [c22_k1_go, c22, -getElem?_pos, splice, h]) | (simp (disch := omega) only [upd_ne, xz4f, if_pos, if_neg, IntWalk.i64_in, Int.tdiv_eq_ediv_of_nonneg, Int.tmod_eq_emod_of_nonneg]) | ((with_reducible refine CallP.chk (f := 41) ?_); (refine' CallP.sf ?_ (hc) ?_); (focus first | (with_reducible exact simL_refl _) | (simp [simL, simA, simA_refl, simL_refl]; done))) | (with_reducible refine fin_r ?_ ?_ ?_) | (with_reducible exact SameB.rfl_ _ _) | (with_reducible refine SameB.upd ?_ ?_ _) | (with_reducible assumption) | (with_reducible refine newPM_of ?_) | (with_reducible refine newP_go ?_) | (with_reducible intro _g _hg) | (with_reducible refine And.intro ?_ ?_) | (with_reducible intro _hc) | omega)
    all_goals exact simA_refl _
end Go.Proofs.YtnmkpadgogbgkaaDoor

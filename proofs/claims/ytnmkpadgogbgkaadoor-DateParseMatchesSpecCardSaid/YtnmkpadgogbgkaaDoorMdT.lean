/- The laws on parsing dates, on plain data; no condition. -/
import Derived.Test.YtnmkpadgogbgkaaDoorMdR
import Derived.Test.YtnmkpadgogbgkaaDoorMdJ
set_option linter.all false
set_option linter.unusedSimpArgs false
set_option linter.unusedVariables false
namespace Go.Proofs.YtnmkpadgogbgkaaDoor
attribute [local simp] xz00 aw_reg aw_seq xz01 xz02 xz03 xz04 aw_ret aw_bad aw_kp aw_ke xz05 xz06 xz07 xz08 xz09 xz0a xz0b xz0c xz0d xz0e xz0f xz0g xz0h xz0i scV pe xz0j xz0k xz0l xz0m xz0n xz0o xz0p xz0q xz0r xz0s xz0t spg_mv xz0u xz0v xz0w xz0x xz0y xz0z xz10 xz11 xz12 xz13 xz14 xz15 xz16 xz17 xz18 xz19 xz1a xz1b xz1c xz1d xz1e spg_mm xz1f spm_mv xz1g xz1h xz1i xz1j xz1k xz1l xz1m xz1n xz1o xz1p xz1q xz1r xz1s xz1t xz1u xz1v xz1w xz1x xz1y xz1z xz20 xz21 xz22 xz23 xz24 spm_mm xz25 xz26 xz27 xz28 xz29 xz2a xz2b xz2c xz2d xz2e xz2f xz2g xz2h xz2i xz2j xz2k xz2l xz2m xz2n xz2o xz2p xz2q xz2r xz2s List.mem_cons guardK guardJ anyE undE op_mv xz2t op_bin op_eqs op_eqb op_eqn op_eqp op_eqi op_neg op_not op_cvi xz2u xz2v op_cut xz2w xz2x xz2y xz2z xz30 xz31 op_len xz32 xz33 xz34 xz35 xz36 xz37 op_mm op_b2s op_r2s op_upc op_usd xz38 xz39 op_ust xz3a op_box xz3b op_bsl op_app xz3c op_s2b op_s2s xz3d xz3e xz3f xz3g xz3h xz3i xz3j xz3k ngV eqsV eqbV negV notV cviV fieldV sidxV aidxV xz3l lenSV extrV nilckV buildV mmV b2sV r2sV eqppV s2bK s2sK msetS mgetV keyOkK mfind msetL keyEq callvK ev get put putO keepE xz3m xz3n xz3o xz3p xz3q xz3r condK part loadAV xz3s xz3t xz3u isNil isNilP isNilI binAV intBin strBin xz3v xz3w xz3x xz3y xz3z xz40 xz41 xz42 xz43 xz44 xz45 xz46 xz47 xz48 xz49 xz4a AV.fits AV.cells ones AV.one upcAV updnAV usdAV ustAV cutB cutSV xz4b xz4c xz4d xz4e resOf resVs resV argE xz4f shpSz u8e u8lit xz4g xz4h List.getElem?_cons_zero List.getElem?_cons_succ op_rng op_nxt op_ent xz4i xz4j xz4k entV xz4l xz4m xz4n xz4o xz4p xz4q
set_option maxHeartbeats 1000000 in
theorem read_a (s p : Str) (hl : p.length ≤ 200) (hp : patOk p = true) : APure Tryd.prog 40 [.str s, .str p] (.tup [aM (readS s p).1, aF (readS s p).2]) := by
  refine apure_intro Tryd.func40 cmp40 rfl fun n H hH => ?_
  repeat' (first | (simp -implicitDefEqProofs [c40, -getElem?_pos]) | (simp (disch := omega) only [upd_ne, xz4f, if_pos, if_neg, IntWalk.i64_in, Int.tdiv_eq_ediv_of_nonneg, Int.tmod_eq_emod_of_nonneg]) | (with_reducible refine fin_r ?_ ?_ ?_) | (with_reducible exact SameB.rfl_ _ _) | (with_reducible refine SameB.upd ?_ ?_ _) | (with_reducible assumption) | (with_reducible refine newPM_of ?_) | (with_reducible refine newSM_of ?_) | (with_reducible refine newP_go ?_) | (with_reducible refine newS_go ?_) | (with_reducible refine newB_mut ?_) | (with_reducible intro _g _hg) | (with_reducible refine And.intro ?_ ?_) | (with_reducible intro _hc) | omega)
  rename_i g4 hg4 g5 hg5
  refine read_loop s p hl hp n H _ _ g4 g5 _g ?_ ?_ ?_ hg4 (by omega) (by omega) (by omega) ?_ ?_
  · simp (disch := omega) only [upd_ne, xz4f]
  · simp (disch := omega) only [upd_ne, xz4f]
  · simp (disch := omega) only [upd_ne, xz4f]; rfl
  · intro k hk; simp (disch := omega) only [upd_ne]
  · intro k hk; simp (disch := omega) only [upd_ne]; exact hH k (by omega)
set_option maxHeartbeats 4000000 in
theorem parseLaw_a (s p : Str) : APure Tryd.prog 13 [.str s, .str p] (.bool true) := by
  have hpa := parse_a s p
  have hpf := patternFault_a p 1000 (by omega)
  unfold parR at hpa
  by_cases h2 : (patF p 1000).1 = 0
  · obtain ⟨e, hl, hq⟩ := patF_ok h2
    have hrd := read_a s p hl hq
    rw [if_neg (by simpa using h2), read_same] at hpa
    rw [e] at hpf
    generalize readS s p = r at *
    refine apure_intro Tryd.func13 cmp13 rfl fun n H hH => ?_
    repeat' (first | (simp -implicitDefEqProofs [c13_k1_go, c13, -getElem?_pos, splice]) | (simp (disch := omega) only [upd_ne, xz4f, if_pos, if_neg, IntWalk.i64_in, Int.tdiv_eq_ediv_of_nonneg, Int.tmod_eq_emod_of_nonneg]) | ((with_reducible refine CallP.chk (f := 39) ?_); (refine' CallP.sf ?_ (hpa) ?_); (focus first | (with_reducible exact simL_refl _) | (simp [simL, simA, simA_refl, simL_refl]; done))) | ((with_reducible refine CallP.chk (f := 17) ?_); (refine' CallP.sf ?_ (hpf) ?_); (focus first | (with_reducible exact simL_refl _) | (simp [simL, simA, simA_refl, simL_refl]; done))) | ((with_reducible refine CallP.chk (f := 40) ?_); (refine' CallP.sf ?_ (hrd) ?_); (focus first | (with_reducible exact simL_refl _) | (simp [simL, simA, simA_refl, simL_refl]; done))) | ((with_reducible refine CallP.chk (f := 18) ?_); (refine' CallP.sf ?_ (dated_a) ?_); (focus first | (with_reducible exact simL_refl _) | (simp [simL, simA, simA_refl, simL_refl]; done))) | (with_reducible refine fin_r ?_ ?_ ?_) | (with_reducible exact SameB.rfl_ _ _) | (with_reducible refine SameB.upd ?_ ?_ _) | (with_reducible assumption) | (with_reducible refine newPM_of ?_) | (with_reducible refine newP_go ?_) | (with_reducible intro _g _hg) | (with_reducible refine And.intro ?_ ?_) | (with_reducible intro _hc) | omega)
    all_goals exact simA_refl _
  · rw [if_pos h2] at hpa
    generalize patF p 1000 = pf at *
    refine apure_intro Tryd.func13 cmp13 rfl fun n H hH => ?_
    repeat' (first | (simp -implicitDefEqProofs [c13_k1_go, c13, -getElem?_pos, splice, h2, noMo]) | (simp (disch := omega) only [upd_ne, xz4f, if_pos, if_neg, IntWalk.i64_in, Int.tdiv_eq_ediv_of_nonneg, Int.tmod_eq_emod_of_nonneg]) | ((with_reducible refine CallP.chk (f := 39) ?_); (refine' CallP.sf ?_ (hpa) ?_); (focus first | (with_reducible exact simL_refl _) | (simp [simL, simA, simA_refl, simL_refl]; done))) | ((with_reducible refine CallP.chk (f := 17) ?_); (refine' CallP.sf ?_ (hpf) ?_); (focus first | (with_reducible exact simL_refl _) | (simp [simL, simA, simA_refl, simL_refl]; done))) | ((with_reducible refine CallP.chk (f := 18) ?_); (refine' CallP.sf ?_ (dated_a) ?_); (focus first | (with_reducible exact simL_refl _) | (simp [simL, simA, simA_refl, simL_refl]; done))) | (with_reducible refine fin_r ?_ ?_ ?_) | (with_reducible exact SameB.rfl_ _ _) | (with_reducible refine SameB.upd ?_ ?_ _) | (with_reducible assumption) | (with_reducible refine newPM_of ?_) | (with_reducible refine newP_go ?_) | (with_reducible intro _g _hg) | (with_reducible refine And.intro ?_ ?_) | (with_reducible intro _hc) | omega)
    all_goals exact simA_refl _
theorem patOk_day (p : Str) : patOk (dayP ++ p) = patOk p := by
  have h1 : ltrI 100 = 2 := by decide
  have h2 : ltrI 109 = 1 := by decide
  have h3 : ltrI 89 = 0 := by decide
  cases p with
  | nil => decide
  | cons c p => simp [dayP, patOk, h1, h2, h3]
theorem patF_day {p : Str} (h : patOk p = true) (frm : Int) (hl : p.length ≤ 191) : patF (dayP ++ p) frm = (0, 0) := by
  have h1 : patOk (dayP ++ p) = true := by rw [patOk_day]; exact h
  have h0 : (patF (dayP ++ p) frm).1 = 0 := by
    unfold patF
    rw [if_neg (by simp; omega)]
    exact (patOk_iff frm _ 0).2 h1
  exact (patF_ok h0).1
set_option maxHeartbeats 4000000 in
theorem formattedLaw_a (a : Mo) (p : Str) : APure Tryd.prog 14 [aM a, .str p] (.bool true) := by
  have hm := momentFault_a a
  have hpf := patternFault_a p 0 (by omega)
  have hfo := format_a a (dayP ++ p)
  by_cases h1 : (moF a).1 = 0
  · have hok := moF_ok.1 h1
    rw [moF_zero hok] at hm
    by_cases h2 : (patF p 0).1 = 0
    · obtain ⟨e, hl, hq⟩ := patF_ok h2
      rw [e] at hpf
      have hadd : strBin .add dayP p = some (.str (dayP ++ p)) := strAdd_ok (by simp; omega)
      unfold fmtR at hfo
      rw [if_neg (by simpa using h1)] at hfo
      by_cases hl2 : p.length ≤ 191
      · have hl2' : ¬ (191 : Int) < p.length := by omega
        have hpd := patF_day hq 100 hl2
        have hpd2 := patF_day hq 1000 hl2
        rw [hpd, if_neg (by simp)] at hfo
        have hpa := parse_a (fmtF a (dayP ++ p)) (dayP ++ p)
        unfold parR at hpa
        obtain ⟨x, hx, x1, x2, x3, x4, x5, x6⟩ := fmt_read hok p (by rw [patOk_day]; exact hq)
        rw [hpd2, if_neg (by simp), hx] at hpa
        simp only at hpa hfo
        generalize fmtF a (dayP ++ p) = T at *
        have hadd : strBin .add [37, 100, 46, 37, 109, 46, 37, 89, 32] p = some (.str (dayP ++ p)) := hadd
        generalize dayP ++ p = dp at *
        
        refine apure_intro Tryd.func14 cmp14 rfl fun n H hH => ?_
        repeat' (first | (simp -implicitDefEqProofs [c14_k1_go, c14_k2_go, c14_k3_go, c14, -getElem?_pos, splice, hadd, -strBin, hl2', x1, x2, x3]) | (simp (disch := omega) only [upd_ne, xz4f, if_pos, if_neg, IntWalk.i64_in, Int.tdiv_eq_ediv_of_nonneg, Int.tmod_eq_emod_of_nonneg]) | ((with_reducible refine CallP.chk (f := 16) ?_); (refine' CallP.sf ?_ (hm) ?_); (focus first | (with_reducible exact simL_refl _) | (simp [simL, simA, simA_refl, simL_refl]; done))) | ((with_reducible refine CallP.chk (f := 17) ?_); (refine' CallP.sf ?_ (hpf) ?_); (focus first | (with_reducible exact simL_refl _) | (simp [simL, simA, simA_refl, simL_refl]; done))) | ((with_reducible refine CallP.chk (f := 15) ?_); (refine' CallP.sf ?_ (hfo) ?_); (focus first | (with_reducible exact simL_refl _) | (simp [simL, simA, simA_refl, simL_refl]; done))) | ((with_reducible refine CallP.chk (f := 39) ?_); (refine' CallP.sf ?_ (hpa) ?_); (focus first | (with_reducible exact simL_refl _) | (simp [simL, simA, simA_refl, simL_refl]; done))) | ((with_reducible refine CallP.chk (f := 18) ?_); (refine' CallP.sf ?_ (dated_a) ?_); (focus first | (with_reducible exact simL_refl _) | (simp [simL, simA, simA_refl, simL_refl]; done))) | (with_reducible refine fin_r ?_ ?_ ?_) | (with_reducible exact SameB.rfl_ _ _) | (with_reducible refine SameB.upd ?_ ?_ _) | (with_reducible assumption) | (with_reducible refine newPM_of ?_) | (with_reducible refine newP_go ?_) | (with_reducible intro _g _hg) | (with_reducible refine And.intro ?_ ?_) | (with_reducible intro _hc) | omega)
        all_goals exact simA_refl _
      · have hl2' : (191 : Int) < p.length := by omega
        have hpd : patF (dayP ++ p) 100 = (3, -2) := by
          unfold patF
          rw [if_pos (by simp; omega)]
        rw [hpd, if_pos (by simp)] at hfo
        simp only at hfo
        have hadd : strBin .add [37, 100, 46, 37, 109, 46, 37, 89, 32] p = some (.str (dayP ++ p)) := hadd
        generalize dayP ++ p = dp at *
        
        refine apure_intro Tryd.func14 cmp14 rfl fun n H hH => ?_
        repeat' (first | (simp -implicitDefEqProofs [c14_k1_go, c14_k2_go, c14_k3_go, c14, -getElem?_pos, splice, hadd, -strBin, hl2']) | (simp (disch := omega) only [upd_ne, xz4f, if_pos, if_neg, IntWalk.i64_in, Int.tdiv_eq_ediv_of_nonneg, Int.tmod_eq_emod_of_nonneg]) | ((with_reducible refine CallP.chk (f := 16) ?_); (refine' CallP.sf ?_ (hm) ?_); (focus first | (with_reducible exact simL_refl _) | (simp [simL, simA, simA_refl, simL_refl]; done))) | ((with_reducible refine CallP.chk (f := 17) ?_); (refine' CallP.sf ?_ (hpf) ?_); (focus first | (with_reducible exact simL_refl _) | (simp [simL, simA, simA_refl, simL_refl]; done))) | ((with_reducible refine CallP.chk (f := 15) ?_); (refine' CallP.sf ?_ (hfo) ?_); (focus first | (with_reducible exact simL_refl _) | (simp [simL, simA, simA_refl, simL_refl]; done))) | ((with_reducible refine CallP.chk (f := 18) ?_); (refine' CallP.sf ?_ (dated_a) ?_); (focus first | (with_reducible exact simL_refl _) | (simp [simL, simA, simA_refl, simL_refl]; done))) | (with_reducible refine fin_r ?_ ?_ ?_) | (with_reducible exact SameB.rfl_ _ _) | (with_reducible refine SameB.upd ?_ ?_ _) | (with_reducible assumption) | (with_reducible refine newPM_of ?_) | (with_reducible refine newP_go ?_) | (with_reducible intro _g _hg) | (with_reducible refine And.intro ?_ ?_) | (with_reducible intro _hc) | omega)
        all_goals exact simA_refl _
    · refine apure_intro Tryd.func14 cmp14 rfl fun n H hH => ?_
      repeat' (first | (simp -implicitDefEqProofs [c14_k1_go, c14_k2_go, c14_k3_go, c14, -getElem?_pos, splice, h2]) | (simp (disch := omega) only [upd_ne, xz4f, if_pos, if_neg, IntWalk.i64_in, Int.tdiv_eq_ediv_of_nonneg, Int.tmod_eq_emod_of_nonneg]) | ((with_reducible refine CallP.chk (f := 16) ?_); (refine' CallP.sf ?_ (hm) ?_); (focus first | (with_reducible exact simL_refl _) | (simp [simL, simA, simA_refl, simL_refl]; done))) | ((with_reducible refine CallP.chk (f := 17) ?_); (refine' CallP.sf ?_ (hpf) ?_); (focus first | (with_reducible exact simL_refl _) | (simp [simL, simA, simA_refl, simL_refl]; done))) | ((with_reducible refine CallP.chk (f := 18) ?_); (refine' CallP.sf ?_ (dated_a) ?_); (focus first | (with_reducible exact simL_refl _) | (simp [simL, simA, simA_refl, simL_refl]; done))) | (with_reducible refine fin_r ?_ ?_ ?_) | (with_reducible exact SameB.rfl_ _ _) | (with_reducible refine SameB.upd ?_ ?_ _) | (with_reducible assumption) | (with_reducible refine newPM_of ?_) | (with_reducible refine newP_go ?_) | (with_reducible intro _g _hg) | (with_reducible refine And.intro ?_ ?_) | (with_reducible intro _hc) | omega)
      all_goals exact simA_refl _
  · refine apure_intro Tryd.func14 cmp14 rfl fun n H hH => ?_
    repeat' (first | (simp -implicitDefEqProofs [c14_k1_go, c14_k2_go, c14_k3_go, c14, -getElem?_pos, splice, h1]) | (simp (disch := omega) only [upd_ne, xz4f, if_pos, if_neg, IntWalk.i64_in, Int.tdiv_eq_ediv_of_nonneg, Int.tmod_eq_emod_of_nonneg]) | ((with_reducible refine CallP.chk (f := 16) ?_); (refine' CallP.sf ?_ (hm) ?_); (focus first | (with_reducible exact simL_refl _) | (simp [simL, simA, simA_refl, simL_refl]; done))) | ((with_reducible refine CallP.chk (f := 17) ?_); (refine' CallP.sf ?_ (hpf) ?_); (focus first | (with_reducible exact simL_refl _) | (simp [simL, simA, simA_refl, simL_refl]; done))) | ((with_reducible refine CallP.chk (f := 18) ?_); (refine' CallP.sf ?_ (dated_a) ?_); (focus first | (with_reducible exact simL_refl _) | (simp [simL, simA, simA_refl, simL_refl]; done))) | (with_reducible refine fin_r ?_ ?_ ?_) | (with_reducible exact SameB.rfl_ _ _) | (with_reducible refine SameB.upd ?_ ?_ _) | (with_reducible assumption) | (with_reducible refine newPM_of ?_) | (with_reducible refine newP_go ?_) | (with_reducible intro _g _hg) | (with_reducible refine And.intro ?_ ?_) | (with_reducible intro _hc) | omega)
    all_goals exact simA_refl _
end Go.Proofs.YtnmkpadgogbgkaaDoor

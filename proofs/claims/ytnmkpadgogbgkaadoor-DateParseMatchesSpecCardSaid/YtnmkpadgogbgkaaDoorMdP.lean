/- date.Parse, walked; no condition. -/
import Derived.Test.YtnmkpadgogbgkaaDoorMdN
import Derived.Test.YtnmkpadgogbgkaaDoorMdS
set_option linter.all false
set_option linter.unusedSimpArgs false
set_option linter.unusedVariables false
namespace Go.Proofs.YtnmkpadgogbgkaaDoor
def parR (s p : Str) : Mo × (Int × Int) := if (patF p 1000).1 ≠ 0 then (noMo, patF p 1000) else readI s p
abbrev f2Ob : AObj := .cells 25 [aI 0, aI 0]
abbrev m6Ob : AObj := .cells 23 z6
abbrev parF (r : Mo × (Int × Int)) (n : Nat) (H : AHeap) := finP (.tup [aM r.1, aF r.2]) n H [ARes.cell 4 (some 6), ARes.cell 5 (some 2)]
abbrev agrR (l : FL) (a : Mo) : Mo × (Int × Int) := if agrF (lkF l) a 0 = true then (a, (0, 0)) else (noMo, (19, -4))
theorem encF_at {l : FL} {j : Nat} {k v : AV} (h : (encF l)[j]? = some (k, v)) : ∃ q, l[j]? = some q ∧ k = keyA q.1 ∧ v = aI q.2 := by
  rw [List.getElem?_map] at h
  obtain ⟨q, h1, h2⟩ := Option.map_eq_some_iff.1 h
  injection h2 with h3 h4
  exact ⟨q, h1, h3.symm, h4.symm⟩
attribute [local simp] xz00 aw_reg aw_seq xz01 xz02 xz03 xz04 aw_ret aw_bad aw_kp aw_ke xz05 xz06 xz07 xz08 xz09 xz0a xz0b xz0c xz0d xz0e xz0f xz0g xz0h xz0i scV pe xz0j xz0k xz0l xz0m xz0n xz0o xz0p xz0q xz0r xz0s xz0t spg_mv xz0u xz0v xz0w xz0x xz0y xz0z xz10 xz11 xz12 xz13 xz14 xz15 xz16 xz17 xz18 xz19 xz1a xz1b xz1c xz1d xz1e spg_mm xz1f spm_mv xz1g xz1h xz1i xz1j xz1k xz1l xz1m xz1n xz1o xz1p xz1q xz1r xz1s xz1t xz1u xz1v xz1w xz1x xz1y xz1z xz20 xz21 xz22 xz23 xz24 spm_mm xz25 xz26 xz27 xz28 xz29 xz2a xz2b xz2c xz2d xz2e xz2f xz2g xz2h xz2i xz2j xz2k xz2l xz2m xz2n xz2o xz2p xz2q xz2r xz2s List.mem_cons guardK guardJ anyE undE op_mv xz2t op_bin op_eqs op_eqb op_eqn op_eqp op_eqi op_neg op_not op_cvi xz2u xz2v op_cut xz2w xz2x xz2y xz2z xz30 xz31 op_len xz32 xz33 xz34 xz35 xz36 xz37 op_mm op_b2s op_r2s op_upc op_usd xz38 xz39 op_ust xz3a op_box xz3b op_bsl op_app xz3c op_s2b op_s2s xz3d xz3e xz3f xz3g xz3h xz3i xz3j xz3k ngV eqsV eqbV negV notV cviV fieldV sidxV aidxV xz3l lenSV extrV nilckV buildV mmV b2sV r2sV eqppV s2bK s2sK msetS mgetV keyOkK mfind msetL keyEq callvK ev get put putO keepE xz3m xz3n xz3o xz3p xz3q xz3r condK part loadAV xz3s xz3t xz3u isNil isNilP isNilI binAV intBin strBin xz3v xz3w xz3x xz3y xz3z xz40 xz41 xz42 xz43 xz44 xz45 xz46 xz47 xz48 xz49 xz4a AV.fits AV.cells ones AV.one upcAV updnAV usdAV ustAV cutB cutSV xz4b xz4c xz4d xz4e resOf resVs resV argE xz4f shpSz u8e u8lit xz4g xz4h List.getElem?_cons_zero List.getElem?_cons_succ op_rng op_nxt op_ent xz4i xz4j xz4k entV xz4l xz4m xz4n xz4o xz4p xz4q
set_option maxHeartbeats 1000000 in
theorem parse_agr (a : Mo) (ha : a.ok) (l : FL) (hl : okL l) (n : Nat) (H : AHeap) (n1 : Nat) (H1 : AHeap) (g4 g5 g7 g11 gi gm : Nat)
    (q4 : H1 g4 = some m6Ob) (q5 : H1 g5 = some f2Ob) (q7 : H1 g7 = some (.map (some .u8) dirMap)) (q11 : H1 g11 = some (mOb a)) (qi : H1 gi = some (.iter gm l.length (List.range l.length) none)) (qm : H1 gm = some (.map (some .u8) (encF l)))
    (o1 : n ≤ g4) (o2 : g4 < g5) (o3 : g5 < g7) (o4 : g7 < gm) (o5 : gm < g11) (o6 : g11 < gi) (o7 : gi < n1) (hsame : SameB n H H1) (hsup : ∀ k, n1 ≤ k → H1 k = none) :
    LoopK (fun Q s => aw Tryd.prog c39_L3 Q s) (blockA 2 (thenA (aw Tryd.prog c39_k1 (parF (agrR l a) n H)) (parF (agrR l a) n H)))
      ⟨[(4, .ptr g4 0), (5, .ptr g5 0), (7, .mp g7), (11, .ptr g11 0), (91, .ptr gi 0)], n1, H1⟩ := by
  refine LoopK.go (fun q st => ∃ (left : List Nat) (cur : Option Nat) (H' : AHeap), left.length = q ∧ st = ⟨[(4, .ptr g4 0), (5, .ptr g5 0), (7, .mp g7), (11, .ptr g11 0), (91, .ptr gi 0)], n1, H'⟩ ∧ left.Nodup ∧
    (∀ j x, l[j]? = some x → j ∉ left → fldV a x.1 = x.2) ∧ H' g4 = some m6Ob ∧ H' g5 = some f2Ob ∧ H' g7 = some (.map (some .u8) dirMap) ∧ H' g11 = some (mOb a) ∧ H' gi = some (.iter gm l.length left cur) ∧ H' gm = some (.map (some .u8) (encF l)) ∧ SameB n H H' ∧ ∀ k, n1 ≤ k → H' k = none) l.length
    ⟨List.range l.length, none, H1, by simp, rfl, List.nodup_range, fun j x hj hn => absurd (List.mem_range.2 (List.getElem?_eq_some_iff.1 hj).1) hn, q4, q5, q7, q11, qi, qm, hsame, hsup⟩ ?_
  clear q4 q5 q7 q11 qi qm hsame hsup H1
  rintro q st ⟨left, cur, H1, hq, rfl, hnd, hdone, q4, q5, q7, q11, qi, qm, hsame, hsup⟩ J hJ
  have hEl : (encF l).length = l.length := by simp
  have hall := agr_all hl a
  
  simp -implicitDefEqProofs [c39_L3_go, -getElem?_pos, qi, qm]
  refine nxtJ_go hEl (fun h0 => ?_) (fun j hj k v hv => ?_)
  · subst h0
    have hagr : agrF (lkF l) a 0 = true := hall.2 fun p hp => by
      obtain ⟨j, hj⟩ := List.mem_iff_getElem?.1 hp
      exact hdone j p hj (by simp)
    unfold agrR
    rw [if_pos hagr]
    repeat' (first | (simp -implicitDefEqProofs [c39_k1_go, c39_k2_go, c39_L3_go, c39_k4_go, c39_k5_go, c39_k6_go, c39_k7_go, c39_k8_go, c39_k9_go, c39_k10_go, c39_L11_go, c39_k12_go, c39, -getElem?_pos, q4, q5, q11, splice, simA_refl]) | (simp (disch := omega) only [upd_ne, xz4f, if_pos, if_neg, IntWalk.i64_in, Int.tdiv_eq_ediv_of_nonneg, Int.tmod_eq_emod_of_nonneg]) | (with_reducible refine fin_r ?_ ?_ ?_) | (with_reducible exact SameB.rfl_ _ _) | (with_reducible refine SameB.upd ?_ ?_ _) | (with_reducible assumption) | (with_reducible refine newPM_of ?_) | (with_reducible refine newP_go ?_) | (with_reducible refine newM_go ?_) | (with_reducible refine newI_go ?_) | (with_reducible intro _g _hg) | (with_reducible refine And.intro ?_ ?_) | (with_reducible intro _hc) | omega)
  · obtain ⟨x, hx, rfl, rfl⟩ := encF_at hv
    have hx11 := hl.1 x (List.mem_of_getElem? hx)
    obtain ⟨c, hc⟩ : ∃ c, lettersL[x.1]? = some c := ⟨_, List.getElem?_eq_getElem (show x.1 < lettersL.length by have : lettersL.length = 12 := rfl; omega)⟩
    have hgc : lettersL.getD x.1 0 = c := by rw [List.getD_eq_getElem?_getD, hc]; rfl
    have hfd := dirMap_find hc
    have hcl := dirFn_call x.1 (by omega)
    have hdf := dirFn_a a ha x.1 (by omega)
    rw [keyA, hgc] at hv ⊢
    have hjl : (left.erase j).length < q := by
      have := List.length_erase_of_mem hj
      have := List.length_pos_of_mem hj
      omega
    generalize hfn : dirFn.getD x.1 0 = f at hfd hcl hdf
    generalize nmA x.1 = nm at hfd
    generalize widthsL.getD x.1 0 = w at hfd
    generalize dirMap = dm at *
    by_cases hfx : fldV a x.1 = x.2
    · generalize encF l = es at *
      
      repeat' (first | (simp -implicitDefEqProofs [c39_k2_go, -getElem?_pos, q7, q11, qm, hEl, hv, hfd, hcl, hfx]) | (simp (disch := omega) only [upd_ne, xz4f, if_pos, if_neg, IntWalk.i64_in, Int.tdiv_eq_ediv_of_nonneg, Int.tmod_eq_emod_of_nonneg]) | ((with_reducible refine CallK.chk (f := _) ?_); (refine' CallK.sfAt ?_ ((hdf.at_ _ _)) ?_); (focus first | (with_reducible exact simL_refl _) | (simp [simL, simA, simA_refl, simL_refl]; done))) | (with_reducible refine fin_r ?_ ?_ ?_) | (with_reducible exact SameB.rfl_ _ _) | (with_reducible assumption) | (with_reducible refine newPM_of ?_) | (with_reducible refine newP_go ?_) | (with_reducible refine newM_go ?_) | (with_reducible refine newI_go ?_) | (with_reducible intro _g _hg) | (with_reducible refine And.intro ?_ ?_) | (with_reducible intro _hc) | omega)
      refine hJ _ _ hjl ⟨left.erase j, some j, _, rfl, rfl, hnd.erase j, ?_, ?_, ?_, ?_, ?_, xz4f _ _ _, ?_, ?_, ?_⟩
      · intro j' y hy hn
        by_cases hjj : j' = j
        · have hxy := Option.some.inj (hx.symm.trans (hjj ▸ hy)); rw [← hxy]; exact hfx
        · exact hdone j' y hy fun hm => hn ((List.mem_erase_of_ne hjj).2 hm)
      · rw [upd_ne (by omega)]; exact q4
      · rw [upd_ne (by omega)]; exact q5
      · rw [upd_ne (by omega)]; exact q7
      · rw [upd_ne (by omega)]; exact q11
      · rw [upd_ne (by omega)]; exact qm
      · intro k hk; rw [upd_ne (by omega)]; exact hsame k hk
      · intro k hk; rw [upd_ne (by omega)]; exact hsup k hk
    · have hagr : ¬ agrF (lkF l) a 0 = true := fun h => hfx (hall.1 h x (List.mem_of_getElem? hx))
      unfold agrR
      rw [if_neg hagr]
      generalize encF l = es at *
      
      repeat' (first | (simp -implicitDefEqProofs [c39_k2_go, -getElem?_pos, q4, q5, q7, q11, qm, hEl, hv, hfd, hcl, hfx, splice, simA_refl]) | (simp (disch := omega) only [upd_ne, xz4f, if_pos, if_neg, IntWalk.i64_in, Int.tdiv_eq_ediv_of_nonneg, Int.tmod_eq_emod_of_nonneg]) | ((with_reducible refine CallK.chk (f := _) ?_); (refine' CallK.sfAt ?_ ((hdf.at_ _ _)) ?_); (focus first | (with_reducible exact simL_refl _) | (simp [simL, simA, simA_refl, simL_refl]; done))) | (with_reducible refine fin_r ?_ ?_ ?_) | (with_reducible exact SameB.rfl_ _ _) | (with_reducible refine SameB.upd ?_ ?_ _) | (with_reducible assumption) | (with_reducible refine newPM_of ?_) | (with_reducible refine newP_go ?_) | (with_reducible refine newM_go ?_) | (with_reducible refine newI_go ?_) | (with_reducible intro _g _hg) | (with_reducible refine And.intro ?_ ?_) | (with_reducible intro _hc) | omega)
      all_goals exact simA_refl _
abbrev tailR (ok : Bool) (s : Str) (i : Nat) (conf : Bool) (l : FL) : Mo × (Int × Int) := if ok = false ∨ i < s.length then (noMo, (1, i)) else if conf = true then (noMo, (19, -1)) else if (moF (momF (lkF l))).1 ≠ 0 then (noMo, (4, -3)) else agrR l (momF (lkF l))
set_option maxHeartbeats 1000000 in
theorem parse_tail (s p : Str) (i k : Nat) (ok conf : Bool) (l : FL) (hl : okL l) (n : Nat) (H : AHeap) (n1 : Nat) (H1 : AHeap) (g4 g5 g7 g8 gm : Nat) (hi : i ≤ s.length)
    (q4 : H1 g4 = some m6Ob) (q5 : H1 g5 = some f2Ob) (q7 : H1 g7 = some (.map (some .u8) dirMap)) (q8 : H1 g8 = some (.cells 89 (rCe s i gm conf))) (qm : H1 gm = some (.map (some .u8) (encF l)))
    (o1 : n ≤ g4) (o2 : g4 < g5) (o3 : g5 < g7) (o4 : g7 < gm) (o5 : gm < g8) (o7 : g8 < n1) (hsame : SameB n H H1) (hsup : ∀ k, n1 ≤ k → H1 k = none) :
    aw Tryd.prog c39_k7 (parF (tailR ok s i conf l) n H) ⟨[(0, .str s), (1, .str p), (4, .ptr g4 0), (5, .ptr g5 0), (7, .mp g7), (8, .ptr g8 0), (9, .bool ok), (10, aI k)], n1, H1⟩ := by
  have hn45 : g4 ≠ g5 := by omega
  unfold tailR
  
  cases ok with
  | false =>
    rw [if_pos (.inl rfl)]
    repeat' (first | (simp -implicitDefEqProofs [c39_k7_go, -getElem?_pos, q4, q5, q8, splice]) | (simp (disch := omega) only [upd_ne, xz4f, if_pos, if_neg, IntWalk.i64_in, Int.tdiv_eq_ediv_of_nonneg, Int.tmod_eq_emod_of_nonneg]) | (with_reducible refine fin_r ?_ ?_ ?_) | (with_reducible exact SameB.rfl_ _ _) | (with_reducible refine SameB.upd ?_ ?_ _) | (with_reducible assumption) | (with_reducible refine newPM_of ?_) | (with_reducible refine newP_go ?_) | (with_reducible refine newM_go ?_) | (with_reducible refine newI_go ?_) | (with_reducible intro _g _hg) | (with_reducible refine And.intro ?_ ?_) | (with_reducible intro _hc) | omega)
    all_goals exact simA_refl _
  | true =>
    by_cases hil : i < s.length
    · rw [if_pos (.inr hil)]
      repeat' (first | (simp -implicitDefEqProofs [c39_k7_go, -getElem?_pos, q4, q5, q8, hil, splice]) | (simp (disch := omega) only [upd_ne, xz4f, if_pos, if_neg, IntWalk.i64_in, Int.tdiv_eq_ediv_of_nonneg, Int.tmod_eq_emod_of_nonneg]) | (with_reducible refine fin_r ?_ ?_ ?_) | (with_reducible exact SameB.rfl_ _ _) | (with_reducible refine SameB.upd ?_ ?_ _) | (with_reducible assumption) | (with_reducible refine newPM_of ?_) | (with_reducible refine newP_go ?_) | (with_reducible refine newM_go ?_) | (with_reducible refine newI_go ?_) | (with_reducible intro _g _hg) | (with_reducible refine And.intro ?_ ?_) | (with_reducible intro _hc) | omega)
      all_goals exact simA_refl _
    · rw [if_neg (by simp [hil])]
      cases conf with
      | true =>
        rw [if_pos rfl]
        repeat' (first | (simp -implicitDefEqProofs [c39_k7_go, c39_k6_go, -getElem?_pos, q4, q5, q8, hil, splice]) | (simp (disch := omega) only [upd_ne, xz4f, if_pos, if_neg, IntWalk.i64_in, Int.tdiv_eq_ediv_of_nonneg, Int.tmod_eq_emod_of_nonneg]) | (with_reducible refine fin_r ?_ ?_ ?_) | (with_reducible exact SameB.rfl_ _ _) | (with_reducible refine SameB.upd ?_ ?_ _) | (with_reducible assumption) | (with_reducible refine newPM_of ?_) | (with_reducible refine newP_go ?_) | (with_reducible refine newM_go ?_) | (with_reducible refine newI_go ?_) | (with_reducible intro _g _hg) | (with_reducible refine And.intro ?_ ?_) | (with_reducible intro _hc) | omega)
        all_goals exact simA_refl _
      | false =>
        rw [if_neg (by simp)]
        have hmo := moment_r s i gm g8 n1 false l hl H1 q8 qm (by omega)
        have hck := check_a (momF (lkF l))
        generalize hmm : momF (lkF l) = mm at *
        by_cases hm0 : (moF mm).1 = 0
        · have hok := moF_ok.1 hm0
          rw [moF_zero hok] at hck
          rw [if_neg (by simpa using hm0)]
          
          repeat' (first | (simp -implicitDefEqProofs [c39_k7_go, c39_k6_go, c39_k5_go, c39_k4_go, -getElem?_pos, q4, q5, q8, qm, hil, splice]) | (simp (disch := omega) only [upd_ne, xz4f, if_pos, if_neg, IntWalk.i64_in, Int.tdiv_eq_ediv_of_nonneg, Int.tmod_eq_emod_of_nonneg]) | ((with_reducible refine CallK.chk (f := 64) ?_); (refine' CallK.sfAt ?_ (hmo) ?_); (focus first | (with_reducible exact simL_refl _) | (simp [simL, simA, simA_refl, simL_refl]; done))) | ((with_reducible refine CallP.chk (f := 41) ?_); (refine' CallP.sf ?_ (hck) ?_); (focus first | (with_reducible exact simL_refl _) | (simp [simL, simA, simA_refl, simL_refl]; done))) | (with_reducible refine fin_r ?_ ?_ ?_) | (with_reducible exact SameB.rfl_ _ _) | (with_reducible assumption) | (with_reducible refine newPM_of ?_) | (with_reducible refine newP_go ?_) | (with_reducible refine newM_go ?_) | (with_reducible refine newI_go ?_) | (with_reducible intro _g _hg) | (with_reducible refine And.intro ?_ ?_) | (with_reducible intro _hc) | omega)
          rename_i g11 hg11
          have hEl : (encF l).length = l.length := by simp
          refine parse_agr mm hok l hl n H _ _ g4 g5 g7 g11 _g gm ?_ ?_ ?_ ?_ ?_ ?_ o1 o2 o3 o4 (by omega) (by omega) (by omega) ?_ ?_
          · simp (disch := omega) only [upd_ne, xz4f]; exact q4
          · simp (disch := omega) only [upd_ne, xz4f]; exact q5
          · simp (disch := omega) only [upd_ne, xz4f]; exact q7
          · simp (disch := omega) only [upd_ne, xz4f]
          · simp (disch := omega) only [upd_ne, xz4f]
          · simp (disch := omega) only [upd_ne, xz4f]; exact qm
          · intro k hk; simp (disch := omega) only [upd_ne]; exact hsame k hk
          · intro k hk; simp (disch := omega) only [upd_ne]; exact hsup k (by omega)
        · rw [if_pos hm0]
          
          repeat' (first | (simp -implicitDefEqProofs [c39_k7_go, c39_k6_go, c39_k5_go, -getElem?_pos, q4, q5, q8, hil, hm0, splice]) | (simp (disch := omega) only [upd_ne, xz4f, if_pos, if_neg, IntWalk.i64_in, Int.tdiv_eq_ediv_of_nonneg, Int.tmod_eq_emod_of_nonneg]) | ((with_reducible refine CallK.chk (f := 64) ?_); (refine' CallK.sfAt ?_ (hmo) ?_); (focus first | (with_reducible exact simL_refl _) | (simp [simL, simA, simA_refl, simL_refl]; done))) | ((with_reducible refine CallP.chk (f := 41) ?_); (refine' CallP.sf ?_ (hck) ?_); (focus first | (with_reducible exact simL_refl _) | (simp [simL, simA, simA_refl, simL_refl]; done))) | (with_reducible refine fin_r ?_ ?_ ?_) | (with_reducible exact SameB.rfl_ _ _) | (with_reducible refine SameB.upd ?_ ?_ _) | (with_reducible assumption) | (with_reducible refine newPM_of ?_) | (with_reducible refine newP_go ?_) | (with_reducible refine newM_go ?_) | (with_reducible refine newI_go ?_) | (with_reducible intro _g _hg) | (with_reducible refine And.intro ?_ ?_) | (with_reducible intro _hc) | omega)
          all_goals exact simA_refl _
theorem readG_lit {mp : Nat → Nat} {c : UInt8} (hc : c ≠ 37) (cs : Str) (r : RdgS) : readG mp (c :: cs) r = (match litW c r.rest with | some s => readG mp cs { r with rest := s, at_ := r.at_ + 1 } | none => .inl r.at_) := by
  cases cs with
  | nil => rfl
  | cons c2 cs => rw [readG, if_neg hc]; cases litW c r.rest <;> rfl
theorem litW_drop {c : UInt8} {s t : Str} {i : Nat} (h : litW c (s.drop i) = some t) : t = s.drop (i + 1) ∧ i < s.length := by
  rcases hd : s.drop i with _ | ⟨x, u⟩
  · rw [hd] at h; cases h
  · obtain ⟨h1, h2, h3⟩ := drop_cons hd
    rw [hd] at h
    simp only [litW] at h
    split at h
    · injection h with h; exact ⟨by rw [← h, h2], h3⟩
    · cases h
theorem tail_of {s p : Str} {i : Nat} {ok conf : Bool} {l : FL} (h : (ok = true ∧ readG mpI p (start s) = .inr ⟨s.drop i, i, lkF l, conf⟩) ∨ (ok = false ∧ readG mpI p (start s) = .inl i)) : readI s p = tailR ok s i conf l := by
  rcases h with ⟨rfl, h⟩ | ⟨rfl, h⟩
  · unfold readI tailR
    rw [h]
    simp only
    by_cases hi : i < s.length
    · rw [if_pos (by simp; omega), if_pos (.inr hi)]
    · rw [if_neg (show ¬ s.drop i ≠ [] by simp; omega), if_neg (show ¬ (true = false ∨ i < s.length) by simp [hi])]
  · unfold readI tailR
    rw [h]
    simp only
    rw [if_pos (.inl trivial)]
theorem numW_drop {s : Str} : ∀ (w : Nat) (acc : Int) (i : Nat), i ≤ s.length → ∀ v u, (numW w acc (s.drop i) i).1 = some (v, u) → u = s.drop (numW w acc (s.drop i) i).2
  | 0, acc, i, hi, v, u, h => by simp only [numW] at h ⊢; injection h with h; injection h with _ h; exact h.symm
  | w + 1, acc, i, hi, v, u, h => by
    rcases hd : s.drop i with _ | ⟨x, t⟩
    · rw [hd] at h; simp [numW] at h
    · obtain ⟨h1, h2, h3⟩ := drop_cons hd
      rw [hd] at h
      simp only [numW] at h ⊢
      split at h
      · rename_i hx
        rw [if_pos hx]
        rw [← h2] at h ⊢
        exact numW_drop w _ (i + 1) (by omega) v u h
      · cases h
theorem namW_len : ∀ (L : List Str) (t : Str) (j : Nat), (∀ x ∈ L, x.length = 3) → namW L t = some j → 3 ≤ t.length
  | [], t, j, _, h => by cases h
  | x :: L, t, j, h3, h => by
    simp only [namW] at h
    split at h
    · rename_i hp
      have h4 := (List.isPrefixOf_iff_prefix.1 hp).length_le
      have := h3 x List.mem_cons_self
      omega
    · obtain ⟨j', h5, _⟩ := Option.map_eq_some_iff.1 h
      exact namW_len L t j' (fun x hx => h3 x (List.mem_cons_of_mem _ hx)) h5
theorem dirW_at {k i : Nat} {s : Str} (hk : k < 12) (hi : i ≤ s.length) : i ≤ (dirW k (s.drop i) i).2 ∧ (dirW k (s.drop i) i).2 ≤ i + 4 ∧ (dirW k (s.drop i) i).2 ≤ s.length ∧ ∀ v u, (dirW k (s.drop i) i).1 = some (v, u) → u = s.drop (dirW k (s.drop i) i).2 := by
  have nam : ∀ L : List Str, (∀ x ∈ L, x.length = 3) → ∀ r : Option (Int × Str) × Nat, r = (match namW L (s.drop i) with | some j => (some ((j : Int) + 1, (s.drop i).drop 3), i + 3) | none => (none, i)) → i ≤ r.2 ∧ r.2 ≤ i + 4 ∧ r.2 ≤ s.length ∧ ∀ v u, r.1 = some (v, u) → u = s.drop r.2 := by
    intro L h3 r hr
    cases hn : namW L (s.drop i) with
    | none => rw [hn] at hr; subst hr; exact ⟨Nat.le_refl _, by simp, hi, fun v u h => by cases h⟩
    | some j =>
      rw [hn] at hr
      have := namW_len L _ j h3 hn
      simp only [List.length_drop] at this
      subst hr
      refine ⟨by simp, by simp, by simp only; omega, fun v u h => ?_⟩
      injection h with h; injection h with _ h
      rw [← h, List.drop_drop]
  by_cases h10 : k = 10
  · subst h10; exact nam daysL days3 _ rfl
  · by_cases h11 : k = 11
    · subst h11; exact nam monthsL months3 _ rfl
    · have hdw : dirW k (s.drop i) i = numW (widthsL.getD k 0) 0 (s.drop i) i := by unfold dirW; rw [if_neg h10, if_neg h11]
      have hwl : widthsL.getD k 0 ≤ 4 := by
        unfold widthsL
        rcases k with _ | _ | _ | _ | _ | _ | _ | _ | _ | _ | _ | _ | k <;> simp
      rw [hdw]
      have hb := numW_bound (widthsL.getD k 0) 0 (s.drop i) i
      simp only [List.length_drop] at hb
      exact ⟨hb.1, by omega, by omega, fun v u h => numW_drop _ _ i hi v u h⟩
theorem directive_37 {g n : Nat} {H : AHeap} {v : AV} {ob ob0 : AObj} (hg : H g = some ob0) (h : ∀ n H, H g = some ob0 → AUpd Tryd.prog 62 [.ptr g 0, .int .u8 37] n H v g ob) : AUpd Tryd.prog 63 [.ptr g 0, .int .u8 37, .agg [aI 0, .sl 0 [] .nil, .nfn]] n H v g ob := by
  refine aupd_intro Tryd.func63 cmp63 rfl (hg) fun hH => ?_
  have hgn := lt_above hg hH
  repeat' (first | (simp -implicitDefEqProofs [c63, -getElem?_pos, simA_refl]) | (simp (disch := omega) only [upd_ne, xz4f, if_pos, if_neg, IntWalk.i64_in, Int.tdiv_eq_ediv_of_nonneg, Int.tmod_eq_emod_of_nonneg]) | ((with_reducible refine CallK.chk (f := 62) ?_); (refine' CallK.sfU ?_ ((h _ _ (by rw [upd_ne (by omega)]; exact hg))) ?_); (focus first | (with_reducible exact simL_refl _) | (simp [simL, simA, simA_refl, simL_refl]; done))) | (with_reducible refine fin_r ?_ ?_ ?_) | (with_reducible exact SameB.rfl_ _ _) | (with_reducible assumption) | (with_reducible refine newPM_of ?_) | (with_reducible refine newP_go ?_) | (with_reducible intro _g _hg) | (with_reducible refine And.intro ?_ ?_) | (with_reducible intro _hc) | omega)
  all_goals (intro q hq; simp only [upd]; repeat' split) <;> first | rfl | omega
set_option maxHeartbeats 2000000 in
theorem parse_loop (s p : Str) (hpl : p.length ≤ 200) (hpo : patOk p = true) (n : Nat) (H : AHeap) (n1 : Nat) (H1 : AHeap) (g4 g5 g7 g8 gm : Nat)
    (q4 : H1 g4 = some m6Ob) (q5 : H1 g5 = some f2Ob) (q7 : H1 g7 = some (.map (some .u8) dirMap)) (q8 : H1 g8 = some (.cells 89 (rCe s 0 gm false))) (qm : H1 gm = some (.map (some .u8) []))
    (o1 : n ≤ g4) (o2 : g4 < g5) (o3 : g5 < g7) (o4 : g7 < gm) (o5 : gm < g8) (o7 : g8 < n1) (hsame : SameB n H H1) (hsup : ∀ k, n1 ≤ k → H1 k = none) :
    LoopK (fun Q s => aw Tryd.prog c39_L11 Q s) (blockA 0 (thenA (aw Tryd.prog c39_k7 (parF (readI s p) n H)) (parF (readI s p) n H)))
      ⟨[(0, .str s), (1, .str p), (4, .ptr g4 0), (5, .ptr g5 0), (7, .mp g7), (8, .ptr g8 0), (9, .bool true), (10, aI 0)], n1, H1⟩ := by
  refine LoopK.go (fun m st => ∃ (k i : Nat) (ok conf : Bool) (l : FL) (H' : AHeap), k + m = p.length ∧ st = ⟨[(0, .str s), (1, .str p), (4, .ptr g4 0), (5, .ptr g5 0), (7, .mp g7), (8, .ptr g8 0), (9, .bool ok), (10, aI k)], n1, H'⟩ ∧
    okL l ∧ i ≤ s.length ∧ i ≤ 4 * k ∧ ((ok = true ∧ readG mpI p (start s) = readG mpI (p.drop k) ⟨s.drop i, i, lkF l, conf⟩ ∧ patOk (p.drop k) = true) ∨ (ok = false ∧ readG mpI p (start s) = .inl i)) ∧
    H' g4 = some m6Ob ∧ H' g5 = some f2Ob ∧ H' g7 = some (.map (some .u8) dirMap) ∧ H' g8 = some (.cells 89 (rCe s i gm conf)) ∧ H' gm = some (.map (some .u8) (encF l)) ∧ SameB n H H' ∧ ∀ k, n1 ≤ k → H' k = none) p.length
    ⟨0, 0, true, false, [], H1, by omega, rfl, ⟨by simp, by simp⟩, by omega, by omega, .inl ⟨rfl, rfl, hpo⟩, q4, q5, q7, q8, qm, hsame, hsup⟩ ?_
  clear q4 q5 q7 q8 qm hsame hsup H1
  rintro m st ⟨k, i, ok, conf, l, H1, hk, rfl, hl, hi, hik, hE, q4, q5, q7, q8, qm, hsame, hsup⟩ J hJ
  
  rcases hE with ⟨rfl, hE, hpk⟩ | ⟨rfl, hE⟩
  · rcases hd : p.drop k with _ | ⟨c, cs⟩
    · have hkl : k = p.length := by have := drop_none hd; omega
      have hkl' : ¬ (k : Int) < p.length := by omega
      rw [hd] at hE
      rw [tail_of (.inl ⟨rfl, hE⟩)]
      repeat' (first | (simp -implicitDefEqProofs [c39_L11_go, -getElem?_pos, hkl']) | (simp (disch := omega) only [upd_ne, xz4f, if_pos, if_neg, IntWalk.i64_in, Int.tdiv_eq_ediv_of_nonneg, Int.tmod_eq_emod_of_nonneg]) | (with_reducible refine fin_r ?_ ?_ ?_) | (with_reducible exact SameB.rfl_ _ _) | (with_reducible refine SameB.upd ?_ ?_ _) | (with_reducible assumption) | (with_reducible refine newPM_of ?_) | (with_reducible refine newP_go ?_) | (with_reducible refine newM_go ?_) | (with_reducible refine newI_go ?_) | (with_reducible intro _g _hg) | (with_reducible refine And.intro ?_ ?_) | (with_reducible intro _hc) | omega)
      exact parse_tail s p i k true conf l hl n H n1 H1 g4 g5 g7 g8 gm hi q4 q5 q7 q8 qm o1 o2 o3 o4 o5 o7 hsame hsup
    · obtain ⟨hc, hcs, hkl⟩ := drop_cons hd
      have hkl' : (k : Int) < p.length := by omega
      rw [hd] at hE hpk
      have lit : ∀ (c0 : UInt8) (k2 : Nat) (ps : Str), k2 ≤ p.length → k < k2 → p.drop k2 = ps → patOk ps = true → readG mpI p (start s) = (match litW c0 (s.drop i) with | some t => readG mpI ps ⟨t, i + 1, lkF l, conf⟩ | none => .inl i) →
          J ⟨[(0, .str s), (1, .str p), (4, .ptr g4 0), (5, .ptr g5 0), (7, .mp g7), (8, .ptr g8 0), (9, .bool (litW c0 (s.drop i)).isSome), (10, aI k2)], n1, upd H1 g8 (some (.cells 89 (rCe s (if (litW c0 (s.drop i)).isSome then (i : Int) + 1 else i) gm conf)))⟩ := by
        intro c0 k2 ps hk2 hkk hps hpp hE2
        cases hlw : litW c0 (s.drop i) with
        | none =>
          rw [hlw] at hE2
          refine hJ (p.length - k2) _ (by omega) ⟨k2, i, false, conf, l, _, by omega, rfl, hl, hi, by omega, .inr ⟨rfl, hE2⟩, ?_, ?_, ?_, by rw [xz4f]; rfl, ?_, ?_, ?_⟩
          · rw [upd_ne (by omega)]; exact q4
          · rw [upd_ne (by omega)]; exact q5
          · rw [upd_ne (by omega)]; exact q7
          · rw [upd_ne (by omega)]; exact qm
          · intro k hk; rw [upd_ne (by omega)]; exact hsame k hk
          · intro k hk; rw [upd_ne (by omega)]; exact hsup k hk
        | some t =>
          rw [hlw] at hE2
          obtain ⟨ht, hil⟩ := litW_drop hlw
          subst ht
          refine hJ (p.length - k2) _ (by omega) ⟨k2, i + 1, true, conf, l, _, by omega, rfl, hl, by omega, by omega, .inl ⟨rfl, by rw [hps]; exact hE2, by rw [hps]; exact hpp⟩, ?_, ?_, ?_, by rw [xz4f]; rfl, ?_, ?_, ?_⟩
          · rw [upd_ne (by omega)]; exact q4
          · rw [upd_ne (by omega)]; exact q5
          · rw [upd_ne (by omega)]; exact q7
          · rw [upd_ne (by omega)]; exact qm
          · intro k hk; rw [upd_ne (by omega)]; exact hsame k hk
          · intro k hk; rw [upd_ne (by omega)]; exact hsup k hk
      by_cases hp : c = 37
      · subst hp
        rcases cs with _ | ⟨c2, cs⟩
        · simp [patOk] at hpk
        · obtain ⟨hc2, hcs2, hkl2⟩ := drop_cons hcs
          have hk1 : ((k : Int) + 1).toNat = k + 1 := by omega
          have hk0 : (0 : Int) ≤ (k : Int) + 1 := by omega
          have hpk2 : patOk cs = true := by simp [patOk] at hpk; exact hpk.2
          rw [readG, if_pos rfl] at hE
          by_cases h37 : c2 = 37
          · subst h37
            rw [if_pos rfl] at hE
            have hl2 := lit 37 (k + 1 + 1) cs (by omega) (by omega) hcs2 hpk2 hE
            have hby := directive_37 (n := n1) q8 fun n H q8 => byte_a s i gm g8 n conf 37 H q8 hi (by omega)
            have hz : mfind (.int .u8 37) dirMap = none := by rw [dirMap_eq]; rfl
            generalize dirMap = dm at *
            
            repeat' (first | (simp -implicitDefEqProofs [c39_L11_go, c39_k10_go, c39_k9_go, c39_k8_go, -getElem?_pos, hkl', hc, hc2, hk1, hk0, q7, hz]) | (simp (disch := omega) only [upd_ne, xz4f, if_pos, if_neg, IntWalk.i64_in, Int.tdiv_eq_ediv_of_nonneg, Int.tmod_eq_emod_of_nonneg]) | ((with_reducible refine CallK.chk (f := 63) ?_); (refine' CallK.sfU ?_ (hby) ?_); (focus first | (with_reducible exact simL_refl _) | (simp [simL, simA, simA_refl, simL_refl]; done))) | (with_reducible refine fin_r ?_ ?_ ?_) | (with_reducible exact SameB.rfl_ _ _) | (with_reducible assumption) | (with_reducible refine newPM_of ?_) | (with_reducible refine newP_go ?_) | (with_reducible refine newM_go ?_) | (with_reducible refine newI_go ?_) | (with_reducible intro _g _hg) | (with_reducible refine And.intro ?_ ?_) | (with_reducible intro _hc) | omega)
            exact hl2
          · rw [if_neg h37] at hE
            have hln : ¬ ltrI c2 < 0 := by
              intro hneg
              simp [patOk, h37, hneg] at hpk
            obtain ⟨j, hj, hj12, hjl⟩ := ltr_lt c2 hln
            have hfd := dirMap_find hjl
            have hjn : (ltrI c2).toNat = j := by omega
            rw [hjn] at hE
            have hda := dirW_at (s := s) (i := i) hj12 hi
            have hdr := fun fn => directive_r s i gm g8 n1 conf j hj12 c2 hjl fn l hl H1 q8 qm (by omega) hi (by omega)
            generalize dirMap = dm at *
            generalize dirFn.getD j 0 = fn at hfd
            have hdr := hdr fn
            generalize nmA j = nm at hfd hdr
            generalize widthsL.getD j 0 = w at hfd hdr
            
            repeat' (first | (simp -implicitDefEqProofs [c39_L11_go, c39_k10_go, c39_k9_go, c39_k8_go, -getElem?_pos, hkl', hc, hc2, hk1, hk0, q7, hfd]) | (simp (disch := omega) only [upd_ne, xz4f, if_pos, if_neg, IntWalk.i64_in, Int.tdiv_eq_ediv_of_nonneg, Int.tmod_eq_emod_of_nonneg]) | ((with_reducible refine CallK.chk (f := 63) ?_); (refine' CallK.sfH ?_ (hdr) ?_); (focus first | (with_reducible exact simL_refl _) | (simp [simL, simA, simA_refl, simL_refl]; done))) | (with_reducible refine fin_r ?_ ?_ ?_) | (with_reducible exact SameB.rfl_ _ _) | (with_reducible assumption) | (with_reducible refine newPM_of ?_) | (with_reducible refine newP_go ?_) | (with_reducible refine newM_go ?_) | (with_reducible refine newI_go ?_) | (with_reducible intro _g _hg) | (with_reducible refine And.intro ?_ ?_) | (with_reducible intro _hc) | omega)
            rcases hr : dirW j (s.drop i) i with ⟨_ | ⟨v, u⟩, i2⟩
            · rw [hr] at hE hda
              simp only at hE hda
              simp only [dirH, Option.isSome_none]
              refine hJ (p.length - (k + 2)) _ (by omega) ⟨k + 2, i2, false, conf, l, _, by omega, rfl, hl, hda.2.2.1, by omega, .inr ⟨rfl, hE⟩, ?_, ?_, ?_, xz4f _ _ _, ?_, ?_, ?_⟩
              · rw [upd_ne (by omega)]; exact q4
              · rw [upd_ne (by omega)]; exact q5
              · rw [upd_ne (by omega)]; exact q7
              · rw [upd_ne (by omega)]; exact qm
              · intro k hk; rw [upd_ne (by omega)]; exact hsame k hk
              · intro k hk; rw [upd_ne (by omega)]; exact hsup k hk
            · rw [hr] at hE hda
              simp only at hE hda
              simp only [dirH, Option.isSome_some]
              have hu := hda.2.2.2 v u rfl
              subst hu
              have hmp : mpI j < 11 := by unfold mpI; split <;> omega
              refine hJ (p.length - (k + 2)) _ (by omega) ⟨k + 2, i2, true, conf || diffF (lkF l (mpI j)) v, setL (mpI j) v l, _, by omega, rfl, okL_set hmp v hl, hda.2.2.1, by omega, .inl ⟨rfl, ?_, by rw [hcs2]; exact hpk2⟩, ?_, ?_, ?_, ?_, xz4f _ _ _, ?_, ?_⟩
              · rw [hE, hcs2, lk_set]; rfl
              · rw [upd_ne (by omega), upd_ne (by omega)]; exact q4
              · rw [upd_ne (by omega), upd_ne (by omega)]; exact q5
              · rw [upd_ne (by omega), upd_ne (by omega)]; exact q7
              · rw [upd_ne (by omega)]; exact xz4f _ _ _
              · intro k hk; rw [upd_ne (by omega), upd_ne (by omega)]; exact hsame k hk
              · intro k hk; rw [upd_ne (by omega), upd_ne (by omega)]; exact hsup k hk
      · rw [readG_lit hp] at hE
        have hpk2 : patOk cs = true := by
          cases cs with
          | nil => rfl
          | cons c2 cs => simpa [patOk, hp] using hpk
        have h37 : ¬ (c.toNat : Int) = 37 := fun e => hp ((u8n 37 rfl).1 e)
        repeat' (first | (simp -implicitDefEqProofs [c39_L11_go, c39_k10_go, c39_k8_go, -getElem?_pos, hkl', hc, h37]) | (simp (disch := omega) only [upd_ne, xz4f, if_pos, if_neg, IntWalk.i64_in, Int.tdiv_eq_ediv_of_nonneg, Int.tmod_eq_emod_of_nonneg]) | ((with_reducible refine CallK.chk (f := 62) ?_); (refine' CallK.sfU ?_ ((byte_a s i gm g8 _ conf c _ q8 hi (by omega))) ?_); (focus first | (with_reducible exact simL_refl _) | (simp [simL, simA, simA_refl, simL_refl]; done))) | (with_reducible refine fin_r ?_ ?_ ?_) | (with_reducible exact SameB.rfl_ _ _) | (with_reducible assumption) | (with_reducible refine newPM_of ?_) | (with_reducible refine newP_go ?_) | (with_reducible refine newM_go ?_) | (with_reducible refine newI_go ?_) | (with_reducible intro _g _hg) | (with_reducible refine And.intro ?_ ?_) | (with_reducible intro _hc) | omega)
        exact lit c (k + 1) cs (by omega) (by omega) hcs hpk2 hE
  · rw [tail_of (l := l) (conf := conf) (.inr ⟨rfl, hE⟩)]
    repeat' (first | (simp -implicitDefEqProofs [c39_L11_go, -getElem?_pos]) | (simp (disch := omega) only [upd_ne, xz4f, if_pos, if_neg, IntWalk.i64_in, Int.tdiv_eq_ediv_of_nonneg, Int.tmod_eq_emod_of_nonneg]) | (with_reducible refine fin_r ?_ ?_ ?_) | (with_reducible exact SameB.rfl_ _ _) | (with_reducible refine SameB.upd ?_ ?_ _) | (with_reducible assumption) | (with_reducible refine newPM_of ?_) | (with_reducible refine newP_go ?_) | (with_reducible refine newM_go ?_) | (with_reducible refine newI_go ?_) | (with_reducible intro _g _hg) | (with_reducible refine And.intro ?_ ?_) | (with_reducible intro _hc) | omega)
    exact parse_tail s p i k false conf l hl n H n1 H1 g4 g5 g7 g8 gm hi q4 q5 q7 q8 qm o1 o2 o3 o4 o5 o7 hsame hsup
theorem parse_a (s p : Str) : APure Tryd.prog 39 [.str s, .str p] (.tup [aM (parR s p).1, aF (parR s p).2]) := by
  have hq := checkPattern_a p 1000 (by omega)
  unfold parR
  refine apure_intro Tryd.func39 cmp39 rfl fun n H hH => ?_
  by_cases h2 : (patF p 1000).1 = 0
  · obtain ⟨e, hl, hp⟩ := patF_ok h2
    rw [e] at hq
    rw [if_neg (by simpa using h2)]
    
    repeat' (first | (simp -implicitDefEqProofs [c39, -getElem?_pos, splice]) | (simp (disch := omega) only [upd_ne, xz4f, if_pos, if_neg, IntWalk.i64_in, Int.tdiv_eq_ediv_of_nonneg, Int.tmod_eq_emod_of_nonneg]) | ((with_reducible refine CallP.chk (f := 42) ?_); (refine' CallP.sf ?_ (hq) ?_); (focus first | (with_reducible exact simL_refl _) | (simp [simL, simA, simA_refl, simL_refl]; done))) | (with_reducible refine fin_r ?_ ?_ ?_) | (with_reducible exact SameB.rfl_ _ _) | (with_reducible assumption) | (with_reducible refine newPM_of ?_) | (with_reducible refine newP_go ?_) | (with_reducible refine newM_go ?_) | (with_reducible refine newI_go ?_) | (with_reducible intro _g _hg) | (with_reducible refine And.intro ?_ ?_) | (with_reducible intro _hc) | omega)
    rename_i g4 hg4 g5 hg5
    have hO0 : Owns n H [] [] n H := Owns.start hH
    have hO : Owns n H [(_g, f2Ob), (g5, f2Ob), (g4, m6Ob)] [] (_g + 1) _ := ((hO0.addBox hg4 23 z6).addBox hg5 25 [aI 0, aI 0]).addBox _hg 25 [aI 0, aI 0]
    rw [upd_upd]
    simp -implicitDefEqProofs [c39_k12_go, -getElem?_pos]
    refine ⟨_, directives_o hO, ?_⟩
    rintro _ n2 H2 hn2 hs2 ⟨g7, rfl, hle7, hle2, hO2⟩
    have _hb := hO2.boxF
    dsimp only [BoxF, BoxF0, RowF] at _hb hle7 hle2 hn2
    repeat' (first | (simp -implicitDefEqProofs [-getElem?_pos]) | (simp (disch := omega) only [upd_ne, xz4f, if_pos, if_neg, IntWalk.i64_in, Int.tdiv_eq_ediv_of_nonneg, Int.tmod_eq_emod_of_nonneg]) | (with_reducible refine fin_r ?_ ?_ ?_) | (with_reducible exact SameB.rfl_ _ _) | (with_reducible assumption) | (with_reducible refine newPM_of ?_) | (with_reducible refine newP_go ?_) | (with_reducible refine newM_go ?_) | (with_reducible refine newI_go ?_) | (with_reducible intro _g _hg) | (with_reducible refine And.intro ?_ ?_) | (with_reducible intro _hc) | omega)
    rename_i gm hgm
    refine parse_loop s p hl hp n H _ _ g4 g5 g7 _g gm ?_ ?_ ?_ ?_ ?_ hg4 (by omega) (by omega) (by omega) (by omega) (by omega) ?_ ?_
    · simp (disch := omega) only [upd_ne, xz4f]; exact _hb.1.2.2.2.2.2.2.1
    · simp (disch := omega) only [upd_ne, xz4f]; exact _hb.1.2.2.2.2.1
    · simp (disch := omega) only [upd_ne, xz4f]; exact _hb.1.1
    · simp (disch := omega) only [upd_ne, xz4f]
    · simp (disch := omega) only [upd_ne, xz4f]
    · intro k hk; simp (disch := omega) only [upd_ne]; exact hO2.same k hk
    · intro k hk; simp (disch := omega) only [upd_ne]; exact hs2 k (by omega)
  · rw [if_pos h2]
    repeat' (first | (simp -implicitDefEqProofs [c39, -getElem?_pos, splice, h2, simA_refl]) | (simp (disch := omega) only [upd_ne, xz4f, if_pos, if_neg, IntWalk.i64_in, Int.tdiv_eq_ediv_of_nonneg, Int.tmod_eq_emod_of_nonneg]) | ((with_reducible refine CallP.chk (f := 42) ?_); (refine' CallP.sf ?_ (hq) ?_); (focus first | (with_reducible exact simL_refl _) | (simp [simL, simA, simA_refl, simL_refl]; done))) | (with_reducible refine fin_r ?_ ?_ ?_) | (with_reducible exact SameB.rfl_ _ _) | (with_reducible refine SameB.upd ?_ ?_ _) | (with_reducible assumption) | (with_reducible refine newPM_of ?_) | (with_reducible refine newP_go ?_) | (with_reducible refine newM_go ?_) | (with_reducible refine newI_go ?_) | (with_reducible intro _g _hg) | (with_reducible refine And.intro ?_ ?_) | (with_reducible intro _hc) | omega)
    all_goals exact simA_refl _
end Go.Proofs.YtnmkpadgogbgkaaDoor

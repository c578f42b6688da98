/- The text of a moment as the reference writes it, on plain data; no condition. -/
import Derived.Test.YtnmkpadgogbgkaaDoorDtE
import Derived.Test.YtnmkpadgogbgkaaDoorDtM
import Derived.Test.YtnmkpadgogbgkaaDoorAmBlo
import Derived.Test.YtnmkpadgogbgkaaDoorAcC
set_option linter.all false
set_option linter.unusedSimpArgs false
set_option linter.unusedVariables false
namespace Go.Proofs.YtnmkpadgogbgkaaDoor

theorem digit_enc : ∀ d : Fin 10, (Utf8.encode (48 + (d.val : Int))).data.toList = [UInt8.ofNat (48 + d.val)] := by decide +kernel
theorem digit_enc' {d : Nat} (h : d < 10) : (Utf8.encode (48 + (d : Int))).data.toList = [UInt8.ofNat (48 + d)] := by
  have e := digit_enc ⟨d, h⟩
  simp only at e
  exact e
theorem decDigits_len (k : Nat) : (Lib.decDigits k).length ≤ k + 1 := by
  rw [Lib.decDigits_length]
  induction k using Nat.strongRecOn with
  | _ m ih =>
    by_cases c : m < 10
    · rw [Lib.nDigits_small c]; omega
    · rw [Lib.nDigits_big c]; have := ih (m / 10) (by omega); omega
theorem strAdd_ok {a b : Str} (h : a.length + b.length ≤ 9000000000000000000) : strBin .add a b = some (.str (a ++ b)) := by
  simp only [strBin]
  rw [if_neg]
  have : IntKind.i64.max = 9223372036854775807 := by decide
  rw [this]; omega
theorem decimal_lo (k : Nat) (c : k < 10) : APure Tryd.prog 88 [aI k] (.str [UInt8.ofNat (48 + k)]) := by
  have he := digit_enc' c
  have hw : IntKind.i32.wrap (48 + (k : Int)) = 48 + (k : Int) := IntWalk.i32_in _ (by omega)
  refine apure_intro Tryd.func88 cmp88 rfl fun n H hH => ?_
  repeat' (first | (simp -implicitDefEqProofs [c88_k1_go, c88_k2_go, c88_k3_go, c88_t4_go, c88, xz00, aw_reg, aw_seq, xz01, xz02, xz03, xz04, aw_ret, aw_bad, aw_kp, aw_ke, xz05, xz06, xz07, xz08, xz09, xz0a, xz0b, xz0c, xz0d, xz0e, xz0f, xz0g, xz0h, xz0i, scV, pe, xz0j, xz0k, xz0l, xz0m, xz0n, xz0o, xz0p, xz0q, xz0r, xz0s, xz0t, spm_mv, xz0u, xz0v, xz0w, xz0x, xz0y, xz0z, xz10, xz11, xz12, xz13, xz14, xz15, xz16, xz17, xz18, xz19, xz1a, xz1b, xz1c, xz1d, xz1e, xz1f, xz1g, xz1h, spm_mm, xz1i, xz1j, xz1k, xz1l, xz1m, xz1n, xz1o, xz1p, xz1q, xz1r, xz1s, xz1t, xz1u, xz1v, xz1w, xz1x, xz1y, xz1z, xz20, xz21, xz22, xz23, List.mem_cons, guardK, guardJ, anyE, undE, op_mv, xz24, op_bin, op_eqs, op_eqb, op_eqn, op_eqp, op_neg, op_not, op_cvi, xz25, xz26, op_cut, xz27, xz28, xz29, xz2a, xz2b, xz2c, op_len, xz2d, xz2e, xz2f, xz2g, xz2h, xz2i, op_mm, op_b2s, op_r2s, op_upc, op_usd, xz2j, xz2k, op_ust, xz2l, op_box, xz2m, op_bsl, op_app, xz2n, op_s2b, op_s2s, xz2o, xz2p, xz2q, xz2r, xz2s, xz2t, xz2u, xz2v, ngV, eqsV, eqbV, negV, notV, cviV, fieldV, sidxV, aidxV, xz2w, lenSV, extrV, nilckV, buildV, mmV, b2sV, r2sV, eqppV, s2bK, s2sK, msetS, mgetV, keyOkK, mfind, msetL, keyEq, callvK, ev, get, put, putO, keepE, xz2x, xz2y, xz2z, xz30, xz31, xz32, condK, part, loadAV, xz33, xz34, xz35, isNil, isNilP, binAV, intBin, strBin, xz36, xz37, xz38, xz39, xz3a, xz3b, xz3c, xz3d, xz3e, xz3f, xz3g, xz3h, xz3i, xz3j, xz3k, xz3l, AV.fits, AV.cells, ones, AV.one, upcAV, updnAV, usdAV, ustAV, cutB, cutSV, xz3m, xz3n, xz3o, xz3p, resOf, resVs, resV, argE, xz3q, shpSz, u8e, u8lit, xz3r, xz3s, List.getElem?_cons_zero, List.getElem?_cons_succ, -getElem?_pos, simA, hw, he]) | (simp (disch := omega) only [upd_ne, xz3q, if_pos, if_neg, IntWalk.i64_in, Int.tdiv_eq_ediv_of_nonneg, Int.tmod_eq_emod_of_nonneg]) | (with_reducible refine fin_r ?_ ?_ ?_) | (with_reducible exact SameB.rfl_ _ _) | (with_reducible refine SameB.upd ?_ ?_ _) | (with_reducible assumption) | (with_reducible refine newPM_of ?_) | (with_reducible refine newP_go ?_) | (with_reducible refine newS_go ?_) | (with_reducible refine newM_go ?_) | (with_reducible intro _g _hg) | (with_reducible refine And.intro ?_ ?_) | (with_reducible intro _hc) | omega)
theorem decimal_hi (k : Nat) (c : ¬ k < 10) (hk : k ≤ 1000000000) (l : Str) (hl : l.length ≤ k) (hr : APure Tryd.prog 88 [aI ((k : Int) / 10)] (.str l)) : APure Tryd.prog 88 [aI k] (.str (l ++ [UInt8.ofNat (48 + k % 10)])) := by
  have hm : k % 10 < 10 := by omega
  have he := digit_enc' hm
  have e2 : ((k % 10 : Nat) : Int) = (k : Int) % 10 := by omega
  rw [e2] at he
  have hw : IntKind.i32.wrap (48 + (k : Int) % 10) = 48 + (k : Int) % 10 := IntWalk.i32_in _ (by omega)
  generalize UInt8.ofNat (48 + k % 10) = ch at he ⊢
  have hadd : strBin .add l [ch] = some (.str (l ++ [ch])) := strAdd_ok (by simp; omega)
  obtain ⟨u, hu⟩ : ∃ u, Utf8.encode (48 + (k : Int) % 10) = u := ⟨_, rfl⟩
  rw [hu] at he
  have hsz : u.size = 1 := by rw [Lib.size_eq, he]; rfl
  have hlt : ¬ (9223372036854775807 : Int) < (l.length : Int) + 1 := by omega
  refine apure_intro Tryd.func88 cmp88 rfl fun n H hH => ?_
  repeat' (first | (simp -implicitDefEqProofs [c88_k1_go, c88_k2_go, c88_k3_go, c88_t4_go, c88, xz00, aw_reg, aw_seq, xz01, xz02, xz03, xz04, aw_ret, aw_bad, aw_kp, aw_ke, xz05, xz06, xz07, xz08, xz09, xz0a, xz0b, xz0c, xz0d, xz0e, xz0f, xz0g, xz0h, xz0i, scV, pe, xz0j, xz0k, xz0l, xz0m, xz0n, xz0o, xz0p, xz0q, xz0r, xz0s, xz0t, spm_mv, xz0u, xz0v, xz0w, xz0x, xz0y, xz0z, xz10, xz11, xz12, xz13, xz14, xz15, xz16, xz17, xz18, xz19, xz1a, xz1b, xz1c, xz1d, xz1e, xz1f, xz1g, xz1h, spm_mm, xz1i, xz1j, xz1k, xz1l, xz1m, xz1n, xz1o, xz1p, xz1q, xz1r, xz1s, xz1t, xz1u, xz1v, xz1w, xz1x, xz1y, xz1z, xz20, xz21, xz22, xz23, List.mem_cons, guardK, guardJ, anyE, undE, op_mv, xz24, op_bin, op_eqs, op_eqb, op_eqn, op_eqp, op_neg, op_not, op_cvi, xz25, xz26, op_cut, xz27, xz28, xz29, xz2a, xz2b, xz2c, op_len, xz2d, xz2e, xz2f, xz2g, xz2h, xz2i, op_mm, op_b2s, op_r2s, op_upc, op_usd, xz2j, xz2k, op_ust, xz2l, op_box, xz2m, op_bsl, op_app, xz2n, op_s2b, op_s2s, xz2o, xz2p, xz2q, xz2r, xz2s, xz2t, xz2u, xz2v, ngV, eqsV, eqbV, negV, notV, cviV, fieldV, sidxV, aidxV, xz2w, lenSV, extrV, nilckV, buildV, mmV, b2sV, r2sV, eqppV, s2bK, s2sK, msetS, mgetV, keyOkK, mfind, msetL, keyEq, callvK, ev, get, put, putO, keepE, xz2x, xz2y, xz2z, xz30, xz31, xz32, condK, part, loadAV, xz33, xz34, xz35, isNil, isNilP, binAV, intBin, strBin, xz36, xz37, xz38, xz39, xz3a, xz3b, xz3c, xz3d, xz3e, xz3f, xz3g, xz3h, xz3i, xz3j, xz3k, xz3l, AV.fits, AV.cells, ones, AV.one, upcAV, updnAV, usdAV, ustAV, cutB, cutSV, xz3m, xz3n, xz3o, xz3p, resOf, resVs, resV, argE, xz3q, shpSz, u8e, u8lit, xz3r, xz3s, List.getElem?_cons_zero, List.getElem?_cons_succ, -getElem?_pos, simA, hw, hu, he, hsz, hlt]) | (simp (disch := omega) only [upd_ne, xz3q, if_pos, if_neg, IntWalk.i64_in, Int.tdiv_eq_ediv_of_nonneg, Int.tmod_eq_emod_of_nonneg]) | ((with_reducible refine CallP.chk (f := 88) ?_); (refine' CallP.sf ?_ (hr) ?_); (focus first | (with_reducible exact simL_refl _) | (exact Owns.simC0 (by assumption)) | (exact Owns.simC1 (by assumption)) | (simp [simL, simA, simA_refl, simL_refl]; done))) | (with_reducible refine fin_r ?_ ?_ ?_) | (with_reducible exact SameB.rfl_ _ _) | (with_reducible refine SameB.upd ?_ ?_ _) | (with_reducible assumption) | (with_reducible refine newPM_of ?_) | (with_reducible refine newP_go ?_) | (with_reducible refine newS_go ?_) | (with_reducible refine newM_go ?_) | (with_reducible intro _g _hg) | (with_reducible refine And.intro ?_ ?_) | (with_reducible intro _hc) | omega)
theorem decimal_a (k : Nat) : k ≤ 1000000000 → APure Tryd.prog 88 [aI k] (.str (Lib.decDigits k)) := by
  induction k using Nat.strongRecOn with
  | _ k ih =>
    intro hk
    by_cases c : k < 10
    · rw [Lib.decDigits_one c]
      exact decimal_lo k c
    · have hd : Lib.decDigits k = Lib.decDigits (k / 10) ++ [UInt8.ofNat (48 + k % 10)] := by rw [Lib.decDigits, dif_neg c]
      have hr := ih (k / 10) (by omega) (by omega)
      have e1 : ((k / 10 : Nat) : Int) = (k : Int) / 10 := by omega
      rw [e1] at hr
      rw [hd]
      exact decimal_hi k c hk _ (by have := decDigits_len (k / 10); omega) hr

theorem itoa_nat {x : Int} (h : 0 ≤ x) : Lib.itoa x = Lib.decDigits x.toNat := by unfold Lib.itoa; rw [if_neg (by omega)]
theorem wide_a (x : Int) (w : Nat) (hx : 0 ≤ x ∧ x ≤ 1000000000) (hw : w ≤ 100) : APure Tryd.prog 53 [aI x, aI w] (.str (wideF x w)) := by
  obtain ⟨k, rfl⟩ : ∃ k : Nat, x = k := ⟨x.toNat, by omega⟩
  have hd := decimal_a k (by omega)
  unfold wideF
  have hi : Lib.itoa (k : Int) = Lib.decDigits k := by rw [itoa_nat hx.1]; rfl
  rw [hi]
  have hlen := decDigits_len k
  generalize Lib.decDigits k = d at hd hlen ⊢
  refine apure_intro Tryd.func53 cmp53 rfl fun n H hH => ?_
  repeat' (first | (simp -implicitDefEqProofs [c53, xz00, aw_reg, aw_seq, xz01, xz02, xz03, xz04, aw_ret, aw_bad, aw_kp, aw_ke, xz05, xz06, xz07, xz08, xz09, xz0a, xz0b, xz0c, xz0d, xz0e, xz0f, xz0g, xz0h, xz0i, scV, pe, xz0j, xz0k, xz0l, xz0m, xz0n, xz0o, xz0p, xz0q, xz0r, xz0s, xz0t, spm_mv, xz0u, xz0v, xz0w, xz0x, xz0y, xz0z, xz10, xz11, xz12, xz13, xz14, xz15, xz16, xz17, xz18, xz19, xz1a, xz1b, xz1c, xz1d, xz1e, xz1f, xz1g, xz1h, spm_mm, xz1i, xz1j, xz1k, xz1l, xz1m, xz1n, xz1o, xz1p, xz1q, xz1r, xz1s, xz1t, xz1u, xz1v, xz1w, xz1x, xz1y, xz1z, xz20, xz21, xz22, xz23, List.mem_cons, guardK, guardJ, anyE, undE, op_mv, xz24, op_bin, op_eqs, op_eqb, op_eqn, op_eqp, op_neg, op_not, op_cvi, xz25, xz26, op_cut, xz27, xz28, xz29, xz2a, xz2b, xz2c, op_len, xz2d, xz2e, xz2f, xz2g, xz2h, xz2i, op_mm, op_b2s, op_r2s, op_upc, op_usd, xz2j, xz2k, op_ust, xz2l, op_box, xz2m, op_bsl, op_app, xz2n, op_s2b, op_s2s, xz2o, xz2p, xz2q, xz2r, xz2s, xz2t, xz2u, xz2v, ngV, eqsV, eqbV, negV, notV, cviV, fieldV, sidxV, aidxV, xz2w, lenSV, extrV, nilckV, buildV, mmV, b2sV, r2sV, eqppV, s2bK, s2sK, msetS, mgetV, keyOkK, mfind, msetL, keyEq, callvK, ev, get, put, putO, keepE, xz2x, xz2y, xz2z, xz30, xz31, xz32, condK, part, loadAV, xz33, xz34, xz35, isNil, isNilP, binAV, intBin, strBin, xz36, xz37, xz38, xz39, xz3a, xz3b, xz3c, xz3d, xz3e, xz3f, xz3g, xz3h, xz3i, xz3j, xz3k, xz3l, AV.fits, AV.cells, ones, AV.one, upcAV, updnAV, usdAV, ustAV, cutB, cutSV, xz3m, xz3n, xz3o, xz3p, resOf, resVs, resV, argE, xz3q, shpSz, u8e, u8lit, xz3r, xz3s, List.getElem?_cons_zero, List.getElem?_cons_succ, -getElem?_pos, simA]) | (simp (disch := omega) only [upd_ne, xz3q, if_pos, if_neg, IntWalk.i64_in, Int.tdiv_eq_ediv_of_nonneg, Int.tmod_eq_emod_of_nonneg]) | ((with_reducible refine CallP.chk (f := 88) ?_); (refine' CallP.sf ?_ (hd) ?_); (focus first | (with_reducible exact simL_refl _) | (exact Owns.simC0 (by assumption)) | (exact Owns.simC1 (by assumption)) | (simp [simL, simA, simA_refl, simL_refl]; done))) | (with_reducible refine fin_r ?_ ?_ ?_) | (with_reducible exact SameB.rfl_ _ _) | (with_reducible refine SameB.upd ?_ ?_ _) | (with_reducible assumption) | (with_reducible refine newPM_of ?_) | (with_reducible refine newP_go ?_) | (with_reducible refine newS_go ?_) | (with_reducible refine newM_go ?_) | (with_reducible intro _g _hg) | (with_reducible refine And.intro ?_ ?_) | (with_reducible intro _hc) | omega)
  refine LoopK.go (fun m s => ∃ j : Nat, j + m = w - d.length ∧ s = ⟨[(1, aI w), (5, .str (List.replicate j 48 ++ d))], n, H⟩) (w - d.length) ⟨0, by omega, rfl⟩ ?_
  rintro m s ⟨j, hj, rfl⟩ J hJ
  by_cases hlt : j + d.length < w
  · have h1 : ((j : Int) + d.length) < w := by omega
    have hadd : ¬ (9223372036854775807 : Int) < 1 + (j + d.length) := by omega
    repeat' (first | (simp -implicitDefEqProofs [c53_k1_go, c53_k2_go, c53_L3_go, c53, xz00, aw_reg, aw_seq, xz01, xz02, xz03, xz04, aw_ret, aw_bad, aw_kp, aw_ke, xz05, xz06, xz07, xz08, xz09, xz0a, xz0b, xz0c, xz0d, xz0e, xz0f, xz0g, xz0h, xz0i, scV, pe, xz0j, xz0k, xz0l, xz0m, xz0n, xz0o, xz0p, xz0q, xz0r, xz0s, xz0t, spm_mv, xz0u, xz0v, xz0w, xz0x, xz0y, xz0z, xz10, xz11, xz12, xz13, xz14, xz15, xz16, xz17, xz18, xz19, xz1a, xz1b, xz1c, xz1d, xz1e, xz1f, xz1g, xz1h, spm_mm, xz1i, xz1j, xz1k, xz1l, xz1m, xz1n, xz1o, xz1p, xz1q, xz1r, xz1s, xz1t, xz1u, xz1v, xz1w, xz1x, xz1y, xz1z, xz20, xz21, xz22, xz23, List.mem_cons, guardK, guardJ, anyE, undE, op_mv, xz24, op_bin, op_eqs, op_eqb, op_eqn, op_eqp, op_neg, op_not, op_cvi, xz25, xz26, op_cut, xz27, xz28, xz29, xz2a, xz2b, xz2c, op_len, xz2d, xz2e, xz2f, xz2g, xz2h, xz2i, op_mm, op_b2s, op_r2s, op_upc, op_usd, xz2j, xz2k, op_ust, xz2l, op_box, xz2m, op_bsl, op_app, xz2n, op_s2b, op_s2s, xz2o, xz2p, xz2q, xz2r, xz2s, xz2t, xz2u, xz2v, ngV, eqsV, eqbV, negV, notV, cviV, fieldV, sidxV, aidxV, xz2w, lenSV, extrV, nilckV, buildV, mmV, b2sV, r2sV, eqppV, s2bK, s2sK, msetS, mgetV, keyOkK, mfind, msetL, keyEq, callvK, ev, get, put, putO, keepE, xz2x, xz2y, xz2z, xz30, xz31, xz32, condK, part, loadAV, xz33, xz34, xz35, isNil, isNilP, binAV, intBin, strBin, xz36, xz37, xz38, xz39, xz3a, xz3b, xz3c, xz3d, xz3e, xz3f, xz3g, xz3h, xz3i, xz3j, xz3k, xz3l, AV.fits, AV.cells, ones, AV.one, upcAV, updnAV, usdAV, ustAV, cutB, cutSV, xz3m, xz3n, xz3o, xz3p, resOf, resVs, resV, argE, xz3q, shpSz, u8e, u8lit, xz3r, xz3s, List.getElem?_cons_zero, List.getElem?_cons_succ, -getElem?_pos, simA, h1, hadd]) | (simp (disch := omega) only [upd_ne, xz3q, if_pos, if_neg, IntWalk.i64_in, Int.tdiv_eq_ediv_of_nonneg, Int.tmod_eq_emod_of_nonneg]) | (with_reducible refine fin_r ?_ ?_ ?_) | (with_reducible exact SameB.rfl_ _ _) | (with_reducible refine SameB.upd ?_ ?_ _) | (with_reducible assumption) | (with_reducible refine newPM_of ?_) | (with_reducible refine newP_go ?_) | (with_reducible refine newS_go ?_) | (with_reducible refine newM_go ?_) | (with_reducible intro _g _hg) | (with_reducible refine And.intro ?_ ?_) | (with_reducible intro _hc) | omega)
    exact hJ (m - 1) _ (by omega) ⟨j + 1, by omega, by simp [List.replicate_succ]⟩
  · have h1 : ¬ ((j : Int) + d.length) < w := by omega
    have e : j = w - d.length := by omega
    subst e
    repeat' (first | (simp -implicitDefEqProofs [c53_k1_go, c53_k2_go, c53_L3_go, c53, xz00, aw_reg, aw_seq, xz01, xz02, xz03, xz04, aw_ret, aw_bad, aw_kp, aw_ke, xz05, xz06, xz07, xz08, xz09, xz0a, xz0b, xz0c, xz0d, xz0e, xz0f, xz0g, xz0h, xz0i, scV, pe, xz0j, xz0k, xz0l, xz0m, xz0n, xz0o, xz0p, xz0q, xz0r, xz0s, xz0t, spm_mv, xz0u, xz0v, xz0w, xz0x, xz0y, xz0z, xz10, xz11, xz12, xz13, xz14, xz15, xz16, xz17, xz18, xz19, xz1a, xz1b, xz1c, xz1d, xz1e, xz1f, xz1g, xz1h, spm_mm, xz1i, xz1j, xz1k, xz1l, xz1m, xz1n, xz1o, xz1p, xz1q, xz1r, xz1s, xz1t, xz1u, xz1v, xz1w, xz1x, xz1y, xz1z, xz20, xz21, xz22, xz23, List.mem_cons, guardK, guardJ, anyE, undE, op_mv, xz24, op_bin, op_eqs, op_eqb, op_eqn, op_eqp, op_neg, op_not, op_cvi, xz25, xz26, op_cut, xz27, xz28, xz29, xz2a, xz2b, xz2c, op_len, xz2d, xz2e, xz2f, xz2g, xz2h, xz2i, op_mm, op_b2s, op_r2s, op_upc, op_usd, xz2j, xz2k, op_ust, xz2l, op_box, xz2m, op_bsl, op_app, xz2n, op_s2b, op_s2s, xz2o, xz2p, xz2q, xz2r, xz2s, xz2t, xz2u, xz2v, ngV, eqsV, eqbV, negV, notV, cviV, fieldV, sidxV, aidxV, xz2w, lenSV, extrV, nilckV, buildV, mmV, b2sV, r2sV, eqppV, s2bK, s2sK, msetS, mgetV, keyOkK, mfind, msetL, keyEq, callvK, ev, get, put, putO, keepE, xz2x, xz2y, xz2z, xz30, xz31, xz32, condK, part, loadAV, xz33, xz34, xz35, isNil, isNilP, binAV, intBin, strBin, xz36, xz37, xz38, xz39, xz3a, xz3b, xz3c, xz3d, xz3e, xz3f, xz3g, xz3h, xz3i, xz3j, xz3k, xz3l, AV.fits, AV.cells, ones, AV.one, upcAV, updnAV, usdAV, ustAV, cutB, cutSV, xz3m, xz3n, xz3o, xz3p, resOf, resVs, resV, argE, xz3q, shpSz, u8e, u8lit, xz3r, xz3s, List.getElem?_cons_zero, List.getElem?_cons_succ, -getElem?_pos, simA, h1]) | (simp (disch := omega) only [upd_ne, xz3q, if_pos, if_neg, IntWalk.i64_in, Int.tdiv_eq_ediv_of_nonneg, Int.tmod_eq_emod_of_nonneg]) | (with_reducible refine fin_r ?_ ?_ ?_) | (with_reducible exact SameB.rfl_ _ _) | (with_reducible refine SameB.upd ?_ ?_ _) | (with_reducible assumption) | (with_reducible refine newPM_of ?_) | (with_reducible refine newP_go ?_) | (with_reducible refine newS_go ?_) | (with_reducible refine newM_go ?_) | (with_reducible intro _g _hg) | (with_reducible refine And.intro ?_ ?_) | (with_reducible intro _hc) | omega)
set_option maxHeartbeats 4000000 in
theorem field_a (a : Mo) (h : a.ok) (k : Nat) (hk : k < 12) : APure Tryd.prog 52 [aM a, aI k] (aI (fldV a k)) := by
  have hb := h.dayB
  have hy := h.2.1
  have hy1 := h.1
  have hm := h.2.2.1
  have hm2 := h.2.2.2.1
  have hd := dom_pos a.y a.m
  have hd1 := h.2.2.2.2.1
  have hd2 := h.2.2.2.2.2.1
  have hdy := day_a a.y a.m a.d (by omega) (by omega) (by omega)
  have e : dayN a.y a.m a.d = a.day := rfl
  rw [e] at hdy
  have hj := day_a a.y 1 1 (by omega) (by omega) (by omega)
  rw [dayN_one] at hj
  have hw := weekOf_a a.day (by omega)
  have hwd := weekdayOf_a a.day (by omega)
  have hwb := wk_bounds hb.1 hb.2.1
  have hbb := bef_bounds a.y (by omega)
  have ej : doy a.y a.m a.d = a.day - (bef a.y + 1) + 1 := by unfold Mo.day dayN; omega
  have ew : (a.day - 1) % 7 = (a.day + 6) % 7 := by omega
  unfold fldV
  rw [ej, ew]
  refine apure_intro Tryd.func52 cmp52 rfl fun n H hH => ?_
  have _hb : True := trivial
  have _hO : Owns n H [] [] n H := Owns.start hH
  rcases (by omega : k = 0 ∨ k = 1 ∨ k = 2 ∨ k = 3 ∨ k = 4 ∨ k = 5 ∨ k = 6 ∨ k = 7 ∨ k = 8 ∨ k = 9 ∨ k = 10 ∨ k = 11) with rfl | rfl | rfl | rfl | rfl | rfl | rfl | rfl | rfl | rfl | rfl | rfl
  all_goals (repeat' (first | (simp -implicitDefEqProofs [c52, xz00, aw_reg, aw_seq, xz01, xz02, xz03, xz04, aw_ret, aw_bad, aw_kp, aw_ke, xz05, xz06, xz07, xz08, xz09, xz0a, xz0b, xz0c, xz0d, xz0e, xz0f, xz0g, xz0h, xz0i, scV, pe, xz0j, xz0k, xz0l, xz0m, xz0n, xz0o, xz0p, xz0q, xz0r, xz0s, xz0t, spm_mv, xz0u, xz0v, xz0w, xz0x, xz0y, xz0z, xz10, xz11, xz12, xz13, xz14, xz15, xz16, xz17, xz18, xz19, xz1a, xz1b, xz1c, xz1d, xz1e, xz1f, xz1g, xz1h, spm_mm, xz1i, xz1j, xz1k, xz1l, xz1m, xz1n, xz1o, xz1p, xz1q, xz1r, xz1s, xz1t, xz1u, xz1v, xz1w, xz1x, xz1y, xz1z, xz20, xz21, xz22, xz23, List.mem_cons, guardK, guardJ, anyE, undE, op_mv, xz24, op_bin, op_eqs, op_eqb, op_eqn, op_eqp, op_neg, op_not, op_cvi, xz25, xz26, op_cut, xz27, xz28, xz29, xz2a, xz2b, xz2c, op_len, xz2d, xz2e, xz2f, xz2g, xz2h, xz2i, op_mm, op_b2s, op_r2s, op_upc, op_usd, xz2j, xz2k, op_ust, xz2l, op_box, xz2m, op_bsl, op_app, xz2n, op_s2b, op_s2s, xz2o, xz2p, xz2q, xz2r, xz2s, xz2t, xz2u, xz2v, ngV, eqsV, eqbV, negV, notV, cviV, fieldV, sidxV, aidxV, xz2w, lenSV, extrV, nilckV, buildV, mmV, b2sV, r2sV, eqppV, s2bK, s2sK, msetS, mgetV, keyOkK, mfind, msetL, keyEq, callvK, ev, get, put, putO, keepE, xz2x, xz2y, xz2z, xz30, xz31, xz32, condK, part, loadAV, xz33, xz34, xz35, isNil, isNilP, binAV, intBin, strBin, xz36, xz37, xz38, xz39, xz3a, xz3b, xz3c, xz3d, xz3e, xz3f, xz3g, xz3h, xz3i, xz3j, xz3k, xz3l, AV.fits, AV.cells, ones, AV.one, upcAV, updnAV, usdAV, ustAV, cutB, cutSV, xz3m, xz3n, xz3o, xz3p, resOf, resVs, resV, argE, xz3q, shpSz, u8e, u8lit, xz3r, xz3s, List.getElem?_cons_zero, List.getElem?_cons_succ, -getElem?_pos, splice, List.getD, _hb]) | (simp (disch := omega) only [upd_ne, xz3q, if_pos, if_neg, IntWalk.i64_in, Int.tdiv_eq_ediv_of_nonneg, Int.tmod_eq_emod_of_nonneg]) | ((with_reducible refine CallP.chk (f := 23) ?_); (refine' CallP.sf ?_ (hdy) ?_); (focus first | (with_reducible exact simL_refl _) | (exact Owns.simC0 (by assumption)) | (exact Owns.simC1 (by assumption)) | (simp [simL, simA, simA_refl, simL_refl]; done))) | ((with_reducible refine CallP.chk (f := 23) ?_); (refine' CallP.sf ?_ (hj) ?_); (focus first | (with_reducible exact simL_refl _) | (exact Owns.simC0 (by assumption)) | (exact Owns.simC1 (by assumption)) | (simp [simL, simA, simA_refl, simL_refl]; done))) | ((with_reducible refine CallP.chk (f := 24) ?_); (refine' CallP.sf ?_ (hw) ?_); (focus first | (with_reducible exact simL_refl _) | (exact Owns.simC0 (by assumption)) | (exact Owns.simC1 (by assumption)) | (simp [simL, simA, simA_refl, simL_refl]; done))) | ((with_reducible refine CallP.chk (f := 26) ?_); (refine' CallP.sf ?_ (hwd) ?_); (focus first | (with_reducible exact simL_refl _) | (exact Owns.simC0 (by assumption)) | (exact Owns.simC1 (by assumption)) | (simp [simL, simA, simA_refl, simL_refl]; done))) | (with_reducible refine fin_r ?_ ?_ ?_) | (with_reducible exact SameB.rfl_ _ _) | (with_reducible refine SameB.upd ?_ ?_ _) | (with_reducible assumption) | (with_reducible refine newPM_of ?_) | ((with_reducible refine newM_own (by assumption) (fun _g _hg _hO => ?_)); (have _hb := And.intro _hb _hO.boxF); dsimp only [BoxF, BoxF0, RowF] at _hb) | ((with_reducible refine newP_own (by assumption) (fun _g _hg _hO => ?_)); (have _hb := And.intro _hb _hO.boxF); dsimp only [BoxF, BoxF0, RowF] at _hb) | ((with_reducible refine newS_own (by assumption) (fun _g _hg _hO => ?_))) | ((with_reducible refine appKS.chk ?_); first | ((refine Owns.app (by assumption) (.inl rfl) (by first | (exact Owns.simL0 (by assumption)) | (exact Owns.simL1 (by assumption)) | (with_reducible exact simL_refl _) | assumption | (simp [simL, simA, simA_refl, simL_refl]; done)) ?_ ?_ (fun _x _n _H _hle _hO _hb => ?_)); rotate_left 2; dsimp only [BoxF, BoxF0, RowF] at _hb) | ((refine Owns.app1 (by assumption) (.inl rfl) (by first | (exact Owns.simL0 (by assumption)) | (exact Owns.simL1 (by assumption)) | (with_reducible exact simL_refl _) | assumption | (simp [simL, simA, simA_refl, simL_refl]; done)) ?_ ?_ (fun _x _n _H _hle _hO _hb => ?_)); rotate_left 2; dsimp only [BoxF, BoxF0, RowF] at _hb)) | (first | (with_reducible exact Owns.fit0 (by assumption)) | (with_reducible exact Owns.fit1 (by assumption))) | (with_reducible exact Owns.le (by assumption)) | (with_reducible exact Owns.same (by assumption)) | (with_reducible refine newPM_of ?_) | (with_reducible refine newP_go ?_) | (with_reducible refine newS_go ?_) | (with_reducible refine newM_go ?_) | (with_reducible intro _g _hg) | (with_reducible refine And.intro ?_ ?_) | (with_reducible intro _hc) | omega))
  all_goals exact simA_refl _
end Go.Proofs.YtnmkpadgogbgkaaDoor

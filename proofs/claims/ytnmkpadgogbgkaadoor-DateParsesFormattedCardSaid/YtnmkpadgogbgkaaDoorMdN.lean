/- The parts of reading a text by a pattern, walked; no condition. -/
import Derived.Test.YtnmkpadgogbgkaaDoorMdJ
import Derived.Test.YtnmkpadgogbgkaaDoorMgE
import Derived.Test.YtnmkpadgogbgkaaDoorAdD
import Derived.Test.YtnmkpadgogbgkaaDoorMdS
set_option linter.all false
set_option linter.unusedSimpArgs false
set_option linter.unusedVariables false
namespace Go.Proofs.YtnmkpadgogbgkaaDoor
/-- what is kept while a text is read -/
abbrev rCe (s : Str) (i : Int) (gm : Nat) (conf : Bool) : List AV := [.str s, aI i, .mp gm, .bool conf]
attribute [local simp] xz00 aw_reg aw_seq xz01 xz02 xz03 xz04 aw_ret aw_bad aw_kp aw_ke xz05 xz06 xz07 xz08 xz09 xz0a xz0b xz0c xz0d xz0e xz0f xz0g xz0h xz0i scV pe xz0j xz0k xz0l xz0m xz0n xz0o xz0p xz0q xz0r xz0s xz0t spg_mv xz0u xz0v xz0w xz0x xz0y xz0z xz10 xz11 xz12 xz13 xz14 xz15 xz16 xz17 xz18 xz19 xz1a xz1b xz1c xz1d xz1e spg_mm xz1f spm_mv xz1g xz1h xz1i xz1j xz1k xz1l xz1m xz1n xz1o xz1p xz1q xz1r xz1s xz1t xz1u xz1v xz1w xz1x xz1y xz1z xz20 xz21 xz22 xz23 xz24 spm_mm xz25 xz26 xz27 xz28 xz29 xz2a xz2b xz2c xz2d xz2e xz2f xz2g xz2h xz2i xz2j xz2k xz2l xz2m xz2n xz2o xz2p xz2q xz2r xz2s List.mem_cons guardK guardJ anyE undE op_mv xz2t op_bin op_eqs op_eqb op_eqn op_eqp op_eqi op_neg op_not op_cvi xz2u xz2v op_cut xz2w xz2x xz2y xz2z xz30 xz31 op_len xz32 xz33 xz34 xz35 xz36 xz37 op_mm op_b2s op_r2s op_upc op_usd xz38 xz39 op_ust xz3a op_box xz3b op_bsl op_app xz3c op_s2b op_s2s xz3d xz3e xz3f xz3g xz3h xz3i xz3j xz3k ngV eqsV eqbV negV notV cviV fieldV sidxV aidxV xz3l lenSV extrV nilckV buildV mmV b2sV r2sV eqppV s2bK s2sK msetS mgetV keyOkK mfind msetL keyEq callvK ev get put putO keepE xz3m xz3n xz3o xz3p xz3q xz3r condK part loadAV xz3s xz3t xz3u isNil isNilP isNilI binAV intBin strBin xz3v xz3w xz3x xz3y xz3z xz40 xz41 xz42 xz43 xz44 xz45 xz46 xz47 xz48 xz49 xz4a AV.fits AV.cells ones AV.one upcAV updnAV usdAV ustAV cutB cutSV xz4b xz4c xz4d xz4e resOf resVs resV argE xz4f shpSz u8e u8lit xz4g xz4h List.getElem?_cons_zero List.getElem?_cons_succ op_rng op_nxt op_ent xz4i xz4j xz4k entV xz4l xz4m xz4n xz4o xz4p xz4q
theorem byte_a (s : Str) (i gm g n : Nat) (conf : Bool) (c : UInt8) (H : AHeap) (hg : H g = some (.cells 89 (rCe s i gm conf))) (hi : i ≤ s.length) (hs : i ≤ 1000000) :
    AUpd Tryd.prog 62 [.ptr g 0, .int .u8 c.toNat] n H (.bool (litW c (s.drop i)).isSome) g (.cells 89 (rCe s (if (litW c (s.drop i)).isSome then (i : Int) + 1 else i) gm conf)) := by
  by_cases hlt : i < s.length
  · obtain ⟨x, hx⟩ : ∃ x, s[i]? = some x := ⟨_, List.getElem?_eq_getElem hlt⟩
    rw [drop_at hx]
    by_cases hxc : x = c
    · subst hxc
      simp only [litW, if_true, Option.isSome_some]
      refine aupd_intro Tryd.func62 cmp62 rfl (hg) fun hH => ?_
      repeat' (first | (simp -implicitDefEqProofs [c62_k1_go, c62_t2_go, c62, -getElem?_pos, simA_refl, hg, hx, hlt, splice]) | (simp (disch := omega) only [upd_ne, xz4f, if_pos, if_neg, IntWalk.i64_in, Int.tdiv_eq_ediv_of_nonneg, Int.tmod_eq_emod_of_nonneg]) | (with_reducible refine fin_r ?_ ?_ ?_) | (with_reducible exact SameB.rfl_ _ _) | (with_reducible refine SameB.upd ?_ ?_ _) | (with_reducible assumption) | (with_reducible intro _g _hg) | (with_reducible refine And.intro ?_ ?_) | (with_reducible intro _hc) | omega)
    · have hxc' : ¬ (x.toNat : Int) = c.toNat := fun e => hxc (UInt8.toNat_inj.1 (by omega))
      simp only [litW, if_neg hxc, Option.isSome_none, Bool.false_eq_true, if_false]
      refine aupd_intro Tryd.func62 cmp62 rfl (hg) fun hH => ?_
      repeat' (first | (simp -implicitDefEqProofs [c62_k1_go, c62_t2_go, c62, -getElem?_pos, simA_refl, hg, hx, hlt, hxc', splice]) | (simp (disch := omega) only [upd_ne, xz4f, if_pos, if_neg, IntWalk.i64_in, Int.tdiv_eq_ediv_of_nonneg, Int.tmod_eq_emod_of_nonneg]) | (with_reducible refine fin_r ?_ ?_ ?_) | (with_reducible exact SameB.rfl_ _ _) | (with_reducible refine SameB.upd ?_ ?_ _) | (with_reducible assumption) | (with_reducible intro _g _hg) | (with_reducible refine And.intro ?_ ?_) | (with_reducible intro _hc) | omega)
      rw [upd_self hg]; exact SameB.rfl_ _ _
  · have hi2 : i = s.length := by omega
    subst hi2
    rw [List.drop_length]
    simp only [litW, Option.isSome_none, Bool.false_eq_true, if_false]
    refine aupd_intro Tryd.func62 cmp62 rfl (hg) fun hH => ?_
    repeat' (first | (simp -implicitDefEqProofs [c62_k1_go, c62_t2_go, c62, -getElem?_pos, simA_refl, hg, splice]) | (simp (disch := omega) only [upd_ne, xz4f, if_pos, if_neg, IntWalk.i64_in, Int.tdiv_eq_ediv_of_nonneg, Int.tmod_eq_emod_of_nonneg]) | (with_reducible refine fin_r ?_ ?_ ?_) | (with_reducible exact SameB.rfl_ _ _) | (with_reducible refine SameB.upd ?_ ?_ _) | (with_reducible assumption) | (with_reducible intro _g _hg) | (with_reducible refine And.intro ?_ ?_) | (with_reducible intro _hc) | omega)
    rw [upd_self hg]; exact SameB.rfl_ _ _
theorem key_98 : ∀ k : Fin 11, ¬ (lettersL.getD k.val 0).toNat = 98 := by decide
set_option maxHeartbeats 1000000 in
theorem note_a (s : Str) (i : Int) (gm g n : Nat) (conf : Bool) (k : Nat) (hk : k < 11) (l : FL) (hl : okL l) (x : Int) (H : AHeap) (hg : H g = some (.cells 89 (rCe s i gm conf))) (hgm : H gm = some (.map (some .u8) (encF l))) (hne : g ≠ gm) :
    AHp Tryd.prog 92 [.ptr g 0, keyA k, aI x] n H (.tup []) (upd (upd H g (some (.cells 89 (rCe s i gm (conf || diffF (lkF l k) x))))) gm (some (.map (some .u8) (encF (setL k x l))))) := by
  have h98 := key_98 ⟨k, hk⟩
  have hf := find_enc hk hl.1
  have hs := set_enc hk x hl.1
  have h98' : ¬ ((lettersL.getD k 0).toNat : Int) = 98 := by simp only at h98; omega
  simp only [keyA] at hf hs ⊢
  generalize lkF l k = o at *
  generalize (lettersL.getD k 0).toNat = kk at *
  rw [← hs]
  generalize encF l = es at *
  have hkx : ∀ v, (upd H g v) gm = some (.map (some .u8) es) := fun v => by rw [upd_ne (Ne.symm hne)]; exact hgm
  have hab : ∀ v w, (∀ j, n ≤ j → H j = none) → ∀ j, n ≤ j → upd (upd H g (some v)) gm (some w) j = none := fun v w hH j hj => by
    have h1 : j ≠ g := fun e => by rw [← e, hH j hj] at hg; cases hg
    have h2 : j ≠ gm := fun e => by rw [← e, hH j hj] at hgm; cases hgm
    rw [upd_ne h2, upd_ne h1]; exact hH j hj
  cases o with
  | none =>
    simp only [diffF, Bool.or_false]
    rw [upd_self hg]
    refine ahp_intro Tryd.func92 cmp92 rfl (fun hH => by have := hab (.cells 89 (rCe s i gm conf)) (.map (some .u8) (msetL (.int .u8 kk) (aI x) es)) hH; rw [upd_self hg] at this; exact this) fun hH => ?_
    repeat' (first | (simp -implicitDefEqProofs [c92_k1_go, c92_k2_go, c92, -getElem?_pos, simA_refl, hg, hgm, hf, h98', splice]) | (simp (disch := omega) only [upd_ne, xz4f, if_pos, if_neg, IntWalk.i64_in, Int.tdiv_eq_ediv_of_nonneg, Int.tmod_eq_emod_of_nonneg]) | (with_reducible refine fin_r ?_ ?_ ?_) | (with_reducible exact SameB.rfl_ _ _) | (with_reducible refine SameB.upd ?_ ?_ _) | (with_reducible assumption) | (with_reducible intro _g _hg) | (with_reducible refine And.intro ?_ ?_) | (with_reducible intro _hc) | omega)
    all_goals exact ⟨⟨_, rfl, simA_refl _⟩, Nat.le_refl _, SameB.rfl_ _ _⟩
  | some y =>
    by_cases hy : y = x
    · subst hy
      simp only [diffF, ne_eq, not_true_eq_false, decide_false, Bool.or_false]
      rw [upd_self hg]
      refine ahp_intro Tryd.func92 cmp92 rfl (fun hH => by have := hab (.cells 89 (rCe s i gm conf)) (.map (some .u8) (msetL (.int .u8 kk) (aI y) es)) hH; rw [upd_self hg] at this; exact this) fun hH => ?_
      repeat' (first | (simp -implicitDefEqProofs [c92_k1_go, c92_k2_go, c92, -getElem?_pos, simA_refl, hg, hgm, hf, h98', splice]) | (simp (disch := omega) only [upd_ne, xz4f, if_pos, if_neg, IntWalk.i64_in, Int.tdiv_eq_ediv_of_nonneg, Int.tmod_eq_emod_of_nonneg]) | (with_reducible refine fin_r ?_ ?_ ?_) | (with_reducible exact SameB.rfl_ _ _) | (with_reducible refine SameB.upd ?_ ?_ _) | (with_reducible assumption) | (with_reducible intro _g _hg) | (with_reducible refine And.intro ?_ ?_) | (with_reducible intro _hc) | omega)
      all_goals exact ⟨⟨_, rfl, simA_refl _⟩, Nat.le_refl _, SameB.rfl_ _ _⟩
    · have hd : diffF (some y) x = true := by simp [diffF, hy]
      rw [hd, Bool.or_true]
      refine ahp_intro Tryd.func92 cmp92 rfl (fun hH => hab _ _ hH) fun hH => ?_
      repeat' (first | (simp -implicitDefEqProofs [c92_k1_go, c92_k2_go, c92, -getElem?_pos, simA_refl, hg, hgm, hf, h98', hy, hkx, splice]) | (simp (disch := omega) only [upd_ne, xz4f, if_pos, if_neg, IntWalk.i64_in, Int.tdiv_eq_ediv_of_nonneg, Int.tmod_eq_emod_of_nonneg]) | (with_reducible refine fin_r ?_ ?_ ?_) | (with_reducible exact SameB.rfl_ _ _) | (with_reducible refine SameB.upd ?_ ?_ _) | (with_reducible assumption) | (with_reducible intro _g _hg) | (with_reducible refine And.intro ?_ ?_) | (with_reducible intro _hc) | omega)
      all_goals exact ⟨⟨_, rfl, simA_refl _⟩, Nat.le_refl _, SameB.rfl_ _ _⟩
end Go.Proofs.YtnmkpadgogbgkaaDoor
namespace Go.Proofs.YtnmkpadgogbgkaaDoor
theorem prefix_take (s p : Str) : p.isPrefixOf s = (s.take p.length == p) := by
  rw [Bool.eq_iff_iff, List.isPrefixOf_iff_prefix, List.prefix_iff_eq_take, beq_iff_eq]
  exact eq_comm
attribute [local simp] xz00 aw_reg aw_seq xz01 xz02 xz03 xz04 aw_ret aw_bad aw_kp aw_ke xz05 xz06 xz07 xz08 xz09 xz0a xz0b xz0c xz0d xz0e xz0f xz0g xz0h xz0i scV pe xz0j xz0k xz0l xz0m xz0n xz0o xz0p xz0q xz0r xz0s xz0t spg_mv xz0u xz0v xz0w xz0x xz0y xz0z xz10 xz11 xz12 xz13 xz14 xz15 xz16 xz17 xz18 xz19 xz1a xz1b xz1c xz1d xz1e spg_mm xz1f spm_mv xz1g xz1h xz1i xz1j xz1k xz1l xz1m xz1n xz1o xz1p xz1q xz1r xz1s xz1t xz1u xz1v xz1w xz1x xz1y xz1z xz20 xz21 xz22 xz23 xz24 spm_mm xz25 xz26 xz27 xz28 xz29 xz2a xz2b xz2c xz2d xz2e xz2f xz2g xz2h xz2i xz2j xz2k xz2l xz2m xz2n xz2o xz2p xz2q xz2r xz2s List.mem_cons guardK guardJ anyE undE op_mv xz2t op_bin op_eqs op_eqb op_eqn op_eqp op_eqi op_neg op_not op_cvi xz2u xz2v op_cut xz2w xz2x xz2y xz2z xz30 xz31 op_len xz32 xz33 xz34 xz35 xz36 xz37 op_mm op_b2s op_r2s op_upc op_usd xz38 xz39 op_ust xz3a op_box xz3b op_bsl op_app xz3c op_s2b op_s2s xz3d xz3e xz3f xz3g xz3h xz3i xz3j xz3k ngV eqsV eqbV negV notV cviV fieldV sidxV aidxV xz3l lenSV extrV nilckV buildV mmV b2sV r2sV eqppV s2bK s2sK msetS mgetV keyOkK mfind msetL keyEq callvK ev get put putO keepE xz3m xz3n xz3o xz3p xz3q xz3r condK part loadAV xz3s xz3t xz3u isNil isNilP isNilI binAV intBin strBin xz3v xz3w xz3x xz3y xz3z xz40 xz41 xz42 xz43 xz44 xz45 xz46 xz47 xz48 xz49 xz4a AV.fits AV.cells ones AV.one upcAV updnAV usdAV ustAV cutB cutSV xz4b xz4c xz4d xz4e resOf resVs resV argE xz4f shpSz u8e u8lit xz4g xz4h List.getElem?_cons_zero List.getElem?_cons_succ op_rng op_nxt op_ent xz4i xz4j xz4k entV xz4l xz4m xz4n xz4o xz4p xz4q
theorem prefix2_a (s p : Str) : APure Tryd.prog 101 [.str s, .str p] (.bool (p.isPrefixOf s)) := by
  by_cases h : p.length ≤ s.length
  · have h' : (p.length : Int) ≤ s.length := by omega
    rw [prefix_take]
    refine apure_intro Tryd.func101 cmp101 rfl fun n H hH => ?_
    repeat' (first | (simp -implicitDefEqProofs [c101, -getElem?_pos, simA, h', h]) | (simp (disch := omega) only [upd_ne, xz4f, if_pos, if_neg, IntWalk.i64_in, Int.tdiv_eq_ediv_of_nonneg, Int.tmod_eq_emod_of_nonneg]) | (with_reducible refine fin_r ?_ ?_ ?_) | (with_reducible exact SameB.rfl_ _ _) | (with_reducible refine SameB.upd ?_ ?_ _) | (with_reducible assumption) | (with_reducible intro _g _hg) | (with_reducible refine And.intro ?_ ?_) | (with_reducible intro _hc) | omega)
  · have h' : ¬ (p.length : Int) ≤ s.length := by omega
    have hF : p.isPrefixOf s = false := by
      rw [prefix_take]
      apply beq_eq_false_iff_ne.2
      intro e
      have := congrArg List.length e
      simp only [List.length_take] at this; omega
    rw [hF]
    refine apure_intro Tryd.func101 cmp101 rfl fun n H hH => ?_
    repeat' (first | (simp -implicitDefEqProofs [c101, -getElem?_pos, simA, h', h]) | (simp (disch := omega) only [upd_ne, xz4f, if_pos, if_neg, IntWalk.i64_in, Int.tdiv_eq_ediv_of_nonneg, Int.tmod_eq_emod_of_nonneg]) | (with_reducible refine fin_r ?_ ?_ ?_) | (with_reducible exact SameB.rfl_ _ _) | (with_reducible refine SameB.upd ?_ ?_ _) | (with_reducible assumption) | (with_reducible intro _g _hg) | (with_reducible refine And.intro ?_ ?_) | (with_reducible intro _hc) | omega)
theorem prefix_a (s p : Str) : APure Tryd.prog 85 [.str s, .str p] (.bool (p.isPrefixOf s)) := by
  refine apure_intro Tryd.func85 cmp85 rfl fun n H hH => ?_
  repeat' (first | (simp -implicitDefEqProofs [c85, -getElem?_pos, simA]) | (simp (disch := omega) only [upd_ne, xz4f, if_pos, if_neg, IntWalk.i64_in, Int.tdiv_eq_ediv_of_nonneg, Int.tmod_eq_emod_of_nonneg]) | ((with_reducible refine CallP.chk (f := 101) ?_); (refine' CallP.sf ?_ (prefix2_a _ _) ?_); (focus first | (with_reducible exact simL_refl _) | (simp [simL, simA, simA_refl, simL_refl]; done))) | (with_reducible refine fin_r ?_ ?_ ?_) | (with_reducible exact SameB.rfl_ _ _) | (with_reducible refine SameB.upd ?_ ?_ _) | (with_reducible assumption) | (with_reducible intro _g _hg) | (with_reducible refine And.intro ?_ ?_) | (with_reducible intro _hc) | omega)
def resW : Option (Int × Str) → AV
  | some (v, _) => .tup [aI v, .bool true]
  | none => .tup [aI 0, .bool false]
theorem pow_le {k : Nat} (h : k ≤ 3) : (10 : Int) ^ k ≤ 1000 := by
  rcases (by omega : k = 0 ∨ k = 1 ∨ k = 2 ∨ k = 3) with rfl | rfl | rfl | rfl <;> decide
set_option maxHeartbeats 2000000 in
theorem number_r (s : Str) (i gm g n : Nat) (conf : Bool) (w : Nat) (hw : w ≤ 4) (H : AHeap) (hg : H g = some (.cells 89 (rCe s i gm conf))) (hi : i ≤ s.length) (hs : i ≤ 1000000) :
    AUpd Tryd.prog 91 [.ptr g 0, aI w] n H (resW (numW w 0 (s.drop i) i).1) g (.cells 89 (rCe s (numW w 0 (s.drop i) i).2 gm conf)) := by
  refine aupd_intro Tryd.func91 cmp91 rfl (hg) fun hH => ?_
  repeat' (first | (simp -implicitDefEqProofs [c91, -getElem?_pos]) | (simp (disch := omega) only [upd_ne, xz4f, if_pos, if_neg, IntWalk.i64_in, Int.tdiv_eq_ediv_of_nonneg, Int.tmod_eq_emod_of_nonneg]) | (with_reducible refine fin_r ?_ ?_ ?_) | (with_reducible exact SameB.rfl_ _ _) | (with_reducible refine SameB.upd ?_ ?_ _) | (with_reducible assumption) | (with_reducible intro _g _hg) | (with_reducible refine And.intro ?_ ?_) | (with_reducible intro _hc) | omega)
  refine LoopK.go (fun m st => ∃ (k : Nat) (acc : Int), k + m = w ∧ st = ⟨[(0, .ptr g 0), (6, aI acc), (7, aI w), (8, aI k)], n, upd H g (some (.cells 89 (rCe s ((i + k : Nat) : Int) gm conf)))⟩ ∧ i + k ≤ s.length ∧ 0 ≤ acc ∧ acc < 10 ^ k ∧
    numW w 0 (s.drop i) i = numW m acc (s.drop (i + k)) (i + k)) w ⟨0, 0, by omega, by rw [Nat.add_zero, upd_self hg]; rfl, by omega, by omega, by decide, by rw [Nat.add_zero]⟩ ?_
  rintro m st ⟨k, acc, hk, rfl, hik, h0, hacc, hE⟩ J hJ
  cases m with
  | zero =>
    have hkw : k = w := by omega
    subst hkw
    simp only [numW] at hE
    rw [hE]
    repeat' (first | (simp -implicitDefEqProofs [c91_k1_go, c91_k2_go, c91_k3_go, c91_k4_go, c91_L5_go, c91, -getElem?_pos, simA_refl, resW]) | (simp (disch := omega) only [upd_ne, xz4f, if_pos, if_neg, IntWalk.i64_in, Int.tdiv_eq_ediv_of_nonneg, Int.tmod_eq_emod_of_nonneg]) | (with_reducible refine fin_r ?_ ?_ ?_) | (with_reducible exact SameB.rfl_ _ _) | (with_reducible refine SameB.upd ?_ ?_ _) | (with_reducible assumption) | (with_reducible intro _g _hg) | (with_reducible refine And.intro ?_ ?_) | (with_reducible intro _hc) | omega)
  | succ m =>
    have hkw : (k : Int) < w := by omega
    have hp := pow_le (show k ≤ 3 by omega)
    have hps : (10 : Int) ^ (k + 1) = 10 ^ k * 10 := Int.pow_succ 10 k
    rcases hd : s.drop (i + k) with _ | ⟨c, cs⟩
    · have hkl : i + k = s.length := by have : s.length ≤ i + k := by simpa using hd
                                        omega
      rw [hd] at hE
      simp only [numW] at hE
      rw [hE]
      have hkl' : (i : Int) + k = s.length := by omega
      repeat' (first | (simp -implicitDefEqProofs [c91_k1_go, c91_k2_go, c91_k3_go, c91_k4_go, c91_L5_go, c91, -getElem?_pos, simA_refl, resW, hkw, hkl']) | (simp (disch := omega) only [upd_ne, xz4f, if_pos, if_neg, IntWalk.i64_in, Int.tdiv_eq_ediv_of_nonneg, Int.tmod_eq_emod_of_nonneg]) | (with_reducible refine fin_r ?_ ?_ ?_) | (with_reducible exact SameB.rfl_ _ _) | (with_reducible refine SameB.upd ?_ ?_ _) | (with_reducible assumption) | (with_reducible intro _g _hg) | (with_reducible refine And.intro ?_ ?_) | (with_reducible intro _hc) | omega)
    · obtain ⟨hc, hcs, hkl⟩ := drop_cons hd
      have hkl' : ¬ (i : Int) + k = s.length := by omega
      have htn : ((i : Int) + k).toNat = i + k := by omega
      have hpos : (0 : Int) ≤ (i : Int) + k := by omega
      rw [hd] at hE
      simp only [numW] at hE
      by_cases hdg : digB c = true
      · rw [if_pos hdg] at hE
        have hdg2 : 48 ≤ c.toNat ∧ c.toNat ≤ 57 := by simpa [digB] using hdg
        have h1 : ¬ (c.toNat : Int) < 48 := by omega
        have h2 : ¬ (57 : Int) < c.toNat := by omega
        have hw8 : IntKind.u8.wrap ((c.toNat : Int) - 48) = (c.toNat : Int) - 48 := IntWalk.u8_in _ (by omega)
        repeat' (first | (simp -implicitDefEqProofs [c91_k1_go, c91_k2_go, c91_k3_go, c91_k4_go, c91_L5_go, c91, -getElem?_pos, simA_refl, hkw, hkl', hc, htn, hpos, h1, h2, hw8, splice, upd_upd]) | (simp (disch := omega) only [upd_ne, xz4f, if_pos, if_neg, IntWalk.i64_in, Int.tdiv_eq_ediv_of_nonneg, Int.tmod_eq_emod_of_nonneg]) | (with_reducible refine fin_r ?_ ?_ ?_) | (with_reducible exact SameB.rfl_ _ _) | (with_reducible refine SameB.upd ?_ ?_ _) | (with_reducible assumption) | (with_reducible intro _g _hg) | (with_reducible refine And.intro ?_ ?_) | (with_reducible intro _hc) | omega)
        exact hJ m _ (by omega) ⟨k + 1, 10 * acc + ((c.toNat : Int) - 48), by omega, by simp [rCe, Int.add_assoc], by omega, by omega, by omega, by rw [hE, ← hcs]; rfl⟩
      · rw [if_neg hdg] at hE
        rw [hE]
        by_cases h1 : (c.toNat : Int) < 48
        · repeat' (first | (simp -implicitDefEqProofs [c91_k1_go, c91_k2_go, c91_k3_go, c91_k4_go, c91_L5_go, c91, -getElem?_pos, simA_refl, resW, hkw, hkl', hc, htn, hpos, h1]) | (simp (disch := omega) only [upd_ne, xz4f, if_pos, if_neg, IntWalk.i64_in, Int.tdiv_eq_ediv_of_nonneg, Int.tmod_eq_emod_of_nonneg]) | (with_reducible refine fin_r ?_ ?_ ?_) | (with_reducible exact SameB.rfl_ _ _) | (with_reducible refine SameB.upd ?_ ?_ _) | (with_reducible assumption) | (with_reducible intro _g _hg) | (with_reducible refine And.intro ?_ ?_) | (with_reducible intro _hc) | omega)
        · have h2 : (57 : Int) < c.toNat := by
            have : ¬ (48 ≤ c.toNat ∧ c.toNat ≤ 57) := by simpa [digB] using hdg
            omega
          repeat' (first | (simp -implicitDefEqProofs [c91_k1_go, c91_k2_go, c91_k3_go, c91_k4_go, c91_L5_go, c91, -getElem?_pos, simA_refl, resW, hkw, hkl', hc, htn, hpos, h1, h2]) | (simp (disch := omega) only [upd_ne, xz4f, if_pos, if_neg, IntWalk.i64_in, Int.tdiv_eq_ediv_of_nonneg, Int.tmod_eq_emod_of_nonneg]) | (with_reducible refine fin_r ?_ ?_ ?_) | (with_reducible exact SameB.rfl_ _ _) | (with_reducible refine SameB.upd ?_ ?_ _) | (with_reducible assumption) | (with_reducible intro _g _hg) | (with_reducible refine And.intro ?_ ?_) | (with_reducible intro _hc) | omega)
def namR (o : Option Nat) : AV := match o with | some j => .tup [aI ((j : Int) + 1), .bool true] | none => .tup [aI 0, .bool false]
theorem namW_drop {L : List Str} {k : Nat} {x : Str} (hx : L[k]? = some x) (s : Str) : namW (L.drop k) s = if x.isPrefixOf s = true then some 0 else (namW (L.drop (k + 1)) s).map (· + 1) := by
  rw [drop_at hx, namW]
set_option maxHeartbeats 2000000 in
theorem name_r (s : Str) (i gm g n : Nat) (conf : Bool) (L : List Str) (hL : L.length ≤ 100) (h3 : ∀ x ∈ L, x.length = 3) (H : AHeap) (hg : H g = some (.cells 89 (rCe s i gm conf))) (hi : i ≤ s.length) (hs : i ≤ 1000000) :
    AUpd Tryd.prog 90 [.ptr g 0, .sl 1 (L.map AV.str) .ro] n H (namR (namW L (s.drop i))) g (.cells 89 (rCe s (if (namW L (s.drop i)).isSome then (i : Int) + 3 else i) gm conf)) := by
  refine aupd_intro Tryd.func90 cmp90 rfl (hg) fun hH => ?_
  repeat' (first | (simp -implicitDefEqProofs [c90, -getElem?_pos]) | (simp (disch := omega) only [upd_ne, xz4f, if_pos, if_neg, IntWalk.i64_in, Int.tdiv_eq_ediv_of_nonneg, Int.tmod_eq_emod_of_nonneg]) | (with_reducible refine fin_r ?_ ?_ ?_) | (with_reducible exact SameB.rfl_ _ _) | (with_reducible refine SameB.upd ?_ ?_ _) | (with_reducible assumption) | (with_reducible intro _g _hg) | (with_reducible refine And.intro ?_ ?_) | (with_reducible intro _hc) | omega)
  refine LoopK.go (fun m st => ∃ (k : Nat), k + m = L.length ∧ st = ⟨[(0, .ptr g 0), (8, .sl 1 (L.map AV.str) .ro), (9, aI L.length), (10, aI k)], n, H⟩ ∧ namW L (s.drop i) = (namW (L.drop k) (s.drop i)).map (· + k)) L.length ⟨0, by omega, by simp, by simp⟩ ?_
  rintro m st ⟨k, hk, rfl, hE⟩ J hJ
  by_cases hkl : k < L.length
  · obtain ⟨x, hx⟩ : ∃ x, L[k]? = some x := ⟨_, List.getElem?_eq_getElem hkl⟩
    have hx' : (L.map AV.str)[k]? = some (.str x) := by rw [List.getElem?_map, hx]; rfl
    have hkl' : (k : Int) < L.length := by omega
    have hxl := h3 x (List.mem_of_getElem? hx)
    have hpr := prefix_a (s.drop i) x
    have hlen := List.length_drop (l := s) (i := i)
    rw [namW_drop hx] at hE
    have hcut : (s.take s.length).drop i = s.drop i := by rw [List.take_length]
    
    generalize L.map AV.str = LA at *
    cases hpx : x.isPrefixOf (s.drop i) with
    | true =>
      rw [hpx] at hpr
      rw [if_pos hpx] at hE
      have hE : namW L (s.drop i) = some k := by rw [hE]; simp
      rw [hE]
      
      repeat' (first | (simp -implicitDefEqProofs [c90_k1_go, c90_k2_go, c90_t3_go, c90_k4_go, c90_L5_go, c90, -getElem?_pos, simA_refl, hg, hkl', hx', hxl, hi, namR, splice]) | (simp (disch := omega) only [upd_ne, xz4f, if_pos, if_neg, IntWalk.i64_in, Int.tdiv_eq_ediv_of_nonneg, Int.tmod_eq_emod_of_nonneg]) | ((with_reducible refine CallP.chk (f := 85) ?_); (refine' CallP.sf ?_ (hpr) ?_); (focus first | (with_reducible exact simL_refl _) | (simp [simL, simA, simA_refl, simL_refl]; done))) | (with_reducible refine fin_r ?_ ?_ ?_) | (with_reducible exact SameB.rfl_ _ _) | (with_reducible refine SameB.upd ?_ ?_ _) | (with_reducible assumption) | (with_reducible intro _g _hg) | (with_reducible refine And.intro ?_ ?_) | (with_reducible intro _hc) | omega)
    | false =>
      rw [hpx] at hpr hE
      rw [if_neg (by simp)] at hE
      
      repeat' (first | (simp -implicitDefEqProofs [c90_k1_go, c90_k2_go, c90_t3_go, c90_k4_go, c90_L5_go, c90, -getElem?_pos, simA_refl, hg, hkl', hx', hxl, hi, namR, splice]) | (simp (disch := omega) only [upd_ne, xz4f, if_pos, if_neg, IntWalk.i64_in, Int.tdiv_eq_ediv_of_nonneg, Int.tmod_eq_emod_of_nonneg]) | ((with_reducible refine CallP.chk (f := 85) ?_); (refine' CallP.sf ?_ (hpr) ?_); (focus first | (with_reducible exact simL_refl _) | (simp [simL, simA, simA_refl, simL_refl]; done))) | (with_reducible refine fin_r ?_ ?_ ?_) | (with_reducible exact SameB.rfl_ _ _) | (with_reducible refine SameB.upd ?_ ?_ _) | (with_reducible assumption) | (with_reducible intro _g _hg) | (with_reducible refine And.intro ?_ ?_) | (with_reducible intro _hc) | omega)
      exact hJ (m - 1) _ (by omega) ⟨k + 1, by omega, by simp, by rw [hE, Option.map_map]; congr 1; funext x; simp only [Function.comp]; omega⟩
  · have hkl2 : k = L.length := by omega
    subst hkl2
    rw [List.drop_length] at hE
    simp only [namW, Option.map_none] at hE
    rw [hE]
    repeat' (first | (simp -implicitDefEqProofs [c90_k1_go, c90_k2_go, c90_t3_go, c90_k4_go, c90_L5_go, c90, -getElem?_pos, simA_refl, namR]) | (simp (disch := omega) only [upd_ne, xz4f, if_pos, if_neg, IntWalk.i64_in, Int.tdiv_eq_ediv_of_nonneg, Int.tmod_eq_emod_of_nonneg]) | (with_reducible refine fin_r ?_ ?_ ?_) | (with_reducible exact SameB.rfl_ _ _) | (with_reducible refine SameB.upd ?_ ?_ _) | (with_reducible assumption) | (with_reducible intro _g _hg) | (with_reducible refine And.intro ?_ ?_) | (with_reducible intro _hc) | omega)
    trace_state
    rw [upd_self hg]; exact SameB.rfl_ _ _
end Go.Proofs.YtnmkpadgogbgkaaDoor
namespace Go.Proofs.YtnmkpadgogbgkaaDoor
attribute [local simp] xz00 aw_reg aw_seq xz01 xz02 xz03 xz04 aw_ret aw_bad aw_kp aw_ke xz05 xz06 xz07 xz08 xz09 xz0a xz0b xz0c xz0d xz0e xz0f xz0g xz0h xz0i scV pe xz0j xz0k xz0l xz0m xz0n xz0o xz0p xz0q xz0r xz0s xz0t spg_mv xz0u xz0v xz0w xz0x xz0y xz0z xz10 xz11 xz12 xz13 xz14 xz15 xz16 xz17 xz18 xz19 xz1a xz1b xz1c xz1d xz1e spg_mm xz1f spm_mv xz1g xz1h xz1i xz1j xz1k xz1l xz1m xz1n xz1o xz1p xz1q xz1r xz1s xz1t xz1u xz1v xz1w xz1x xz1y xz1z xz20 xz21 xz22 xz23 xz24 spm_mm xz25 xz26 xz27 xz28 xz29 xz2a xz2b xz2c xz2d xz2e xz2f xz2g xz2h xz2i xz2j xz2k xz2l xz2m xz2n xz2o xz2p xz2q xz2r xz2s List.mem_cons guardK guardJ anyE undE op_mv xz2t op_bin op_eqs op_eqb op_eqn op_eqp op_eqi op_neg op_not op_cvi xz2u xz2v op_cut xz2w xz2x xz2y xz2z xz30 xz31 op_len xz32 xz33 xz34 xz35 xz36 xz37 op_mm op_b2s op_r2s op_upc op_usd xz38 xz39 op_ust xz3a op_box xz3b op_bsl op_app xz3c op_s2b op_s2s xz3d xz3e xz3f xz3g xz3h xz3i xz3j xz3k ngV eqsV eqbV negV notV cviV fieldV sidxV aidxV xz3l lenSV extrV nilckV buildV mmV b2sV r2sV eqppV s2bK s2sK msetS mgetV keyOkK mfind msetL keyEq callvK ev get put putO keepE xz3m xz3n xz3o xz3p xz3q xz3r condK part loadAV xz3s xz3t xz3u isNil isNilP isNilI binAV intBin strBin xz3v xz3w xz3x xz3y xz3z xz40 xz41 xz42 xz43 xz44 xz45 xz46 xz47 xz48 xz49 xz4a AV.fits AV.cells ones AV.one upcAV updnAV usdAV ustAV cutB cutSV xz4b xz4c xz4d xz4e resOf resVs resV argE xz4f shpSz u8e u8lit xz4g xz4h List.getElem?_cons_zero List.getElem?_cons_succ op_rng op_nxt op_ent xz4i xz4j xz4k entV xz4l xz4m xz4n xz4o xz4p xz4q
set_option maxHeartbeats 1000000 in
theorem note_98 (s : Str) (i : Int) (gm g n : Nat) (conf : Bool) (l : FL) (hl : okL l) (x : Int) (H : AHeap) (hg : H g = some (.cells 89 (rCe s i gm conf))) (hgm : H gm = some (.map (some .u8) (encF l))) (hne : g ≠ gm) :
    AHp Tryd.prog 92 [.ptr g 0, .int .u8 98, aI x] n H (.tup []) (upd (upd H g (some (.cells 89 (rCe s i gm (conf || diffF (lkF l 1) x))))) gm (some (.map (some .u8) (encF (setL 1 x l))))) := by
  have hf := find_enc (k := 1) (by decide) hl.1
  have hs := set_enc (k := 1) (by decide) x hl.1
  have hkk : keyA 1 = .int .u8 109 := rfl
  rw [hkk] at hf hs
  generalize lkF l 1 = o at *
  rw [← hs]
  generalize encF l = es at *
  have hkx : ∀ v, (upd H g v) gm = some (.map (some .u8) es) := fun v => by rw [upd_ne (Ne.symm hne)]; exact hgm
  have hab : ∀ v w, (∀ j, n ≤ j → H j = none) → ∀ j, n ≤ j → upd (upd H g (some v)) gm (some w) j = none := fun v w hH j hj => by
    have h1 : j ≠ g := fun e => by rw [← e, hH j hj] at hg; cases hg
    have h2 : j ≠ gm := fun e => by rw [← e, hH j hj] at hgm; cases hgm
    rw [upd_ne h2, upd_ne h1]; exact hH j hj
  cases o with
  | none =>
    simp only [diffF, Bool.or_false]
    rw [upd_self hg]
    refine ahp_intro Tryd.func92 cmp92 rfl (fun hH => by have := hab (.cells 89 (rCe s i gm conf)) (.map (some .u8) (msetL (.int .u8 109) (aI x) es)) hH; rw [upd_self hg] at this; exact this) fun hH => ?_
    repeat' (first | (simp -implicitDefEqProofs [c92_k1_go, c92_k2_go, c92, -getElem?_pos, simA_refl, hg, hgm, hf, splice]) | (simp (disch := omega) only [upd_ne, xz4f, if_pos, if_neg, IntWalk.i64_in, Int.tdiv_eq_ediv_of_nonneg, Int.tmod_eq_emod_of_nonneg]) | (with_reducible refine fin_r ?_ ?_ ?_) | (with_reducible exact SameB.rfl_ _ _) | (with_reducible refine SameB.upd ?_ ?_ _) | (with_reducible assumption) | (with_reducible intro _g _hg) | (with_reducible refine And.intro ?_ ?_) | (with_reducible intro _hc) | omega)
    all_goals exact ⟨⟨_, rfl, simA_refl _⟩, Nat.le_refl _, SameB.rfl_ _ _⟩
  | some y =>
    by_cases hy : y = x
    · subst hy
      simp only [diffF, ne_eq, not_true_eq_false, decide_false, Bool.or_false]
      rw [upd_self hg]
      refine ahp_intro Tryd.func92 cmp92 rfl (fun hH => by have := hab (.cells 89 (rCe s i gm conf)) (.map (some .u8) (msetL (.int .u8 109) (aI y) es)) hH; rw [upd_self hg] at this; exact this) fun hH => ?_
      repeat' (first | (simp -implicitDefEqProofs [c92_k1_go, c92_k2_go, c92, -getElem?_pos, simA_refl, hg, hgm, hf, splice]) | (simp (disch := omega) only [upd_ne, xz4f, if_pos, if_neg, IntWalk.i64_in, Int.tdiv_eq_ediv_of_nonneg, Int.tmod_eq_emod_of_nonneg]) | (with_reducible refine fin_r ?_ ?_ ?_) | (with_reducible exact SameB.rfl_ _ _) | (with_reducible refine SameB.upd ?_ ?_ _) | (with_reducible assumption) | (with_reducible intro _g _hg) | (with_reducible refine And.intro ?_ ?_) | (with_reducible intro _hc) | omega)
      all_goals exact ⟨⟨_, rfl, simA_refl _⟩, Nat.le_refl _, SameB.rfl_ _ _⟩
    · have hd : diffF (some y) x = true := by simp [diffF, hy]
      rw [hd, Bool.or_true]
      refine ahp_intro Tryd.func92 cmp92 rfl (fun hH => hab _ _ hH) fun hH => ?_
      repeat' (first | (simp -implicitDefEqProofs [c92_k1_go, c92_k2_go, c92, -getElem?_pos, simA_refl, hg, hgm, hf, hy, hkx, splice]) | (simp (disch := omega) only [upd_ne, xz4f, if_pos, if_neg, IntWalk.i64_in, Int.tdiv_eq_ediv_of_nonneg, Int.tmod_eq_emod_of_nonneg]) | (with_reducible refine fin_r ?_ ?_ ?_) | (with_reducible exact SameB.rfl_ _ _) | (with_reducible refine SameB.upd ?_ ?_ _) | (with_reducible assumption) | (with_reducible intro _g _hg) | (with_reducible refine And.intro ?_ ?_) | (with_reducible intro _hc) | omega)
      all_goals exact ⟨⟨_, rfl, simA_refl _⟩, Nat.le_refl _, SameB.rfl_ _ _⟩
theorem note_k (s : Str) (i : Int) (gm g n : Nat) (conf : Bool) (k : Nat) (hk : k < 12) (c : UInt8) (hc : lettersL[k]? = some c) (l : FL) (hl : okL l) (x : Int) (H : AHeap) (hg : H g = some (.cells 89 (rCe s i gm conf))) (hgm : H gm = some (.map (some .u8) (encF l))) (hne : g ≠ gm) :
    AHp Tryd.prog 92 [.ptr g 0, .int .u8 c.toNat, aI x] n H (.tup []) (upd (upd H g (some (.cells 89 (rCe s i gm (conf || diffF (lkF l (mpI k)) x))))) gm (some (.map (some .u8) (encF (setL (mpI k) x l))))) := by
  by_cases h11 : k = 11
  · subst h11
    injection hc with hc; subst hc
    exact note_98 s i gm g n conf l hl x H hg hgm hne
  · have e : lettersL.getD k 0 = c := by rw [List.getD_eq_getElem?_getD, hc]; rfl
    have := note_a s i gm g n conf k (by omega) l hl x H hg hgm hne
    rw [keyA, e] at this
    rw [mpI, if_neg h11]
    exact this
def dirH (H : AHeap) (g gm : Nat) (s : Str) (conf : Bool) (l : FL) (k : Nat) : Option (Int × Str) × Nat → AHeap
  | (some (v, _), i') => upd (upd H g (some (.cells 89 (rCe s i' gm (conf || diffF (lkF l (mpI k)) v))))) gm (some (.map (some .u8) (encF (setL (mpI k) v l))))
  | (none, i') => upd H g (some (.cells 89 (rCe s i' gm conf)))
theorem dirH_above {H : AHeap} {g gm n : Nat} {s : Str} {conf : Bool} {l : FL} {k : Nat} (r : Option (Int × Str) × Nat) (hg : g < n) (hgm : gm < n) (hH : ∀ j, n ≤ j → H j = none) : ∀ j, n ≤ j → dirH H g gm s conf l k r j = none := by
  intro j hj
  rcases r with ⟨_ | ⟨v, u⟩, i'⟩ <;> simp only [dirH]
  · rw [upd_ne (by omega)]; exact hH j hj
  · rw [upd_ne (by omega), upd_ne (by omega)]; exact hH j hj
theorem numW_bound : ∀ (w : Nat) (acc : Int) (s : Str) (i : Nat), i ≤ (numW w acc s i).2 ∧ (numW w acc s i).2 ≤ i + w ∧ (numW w acc s i).2 ≤ i + s.length
  | 0, _, _, _ => by simp [numW]
  | w + 1, acc, [], i => by simp [numW]
  | w + 1, acc, c :: s, i => by
    have := numW_bound w (10 * acc + ((c.toNat : Int) - 48)) s (i + 1)
    simp only [numW]
    split
    · simp only [List.length_cons]; omega
    · simp only [List.length_cons]; omega
theorem lt_above {H : AHeap} {g n : Nat} {ob : AObj} (hg : H g = some ob) (hH : ∀ j, n ≤ j → H j = none) : g < n := by
  rcases Nat.lt_or_ge g n with h | h
  · exact h
  · rw [hH g h] at hg; cases hg
theorem days3 : ∀ x ∈ daysL, x.length = 3 := by decide
theorem months3 : ∀ x ∈ monthsL, x.length = 3 := by decide
set_option maxHeartbeats 2000000 in
theorem directive_r (s : Str) (i gm g n : Nat) (conf : Bool) (k : Nat) (hk : k < 12) (c : UInt8) (hc : lettersL[k]? = some c) (fn : Nat) (l : FL) (hl : okL l) (H : AHeap) (hg : H g = some (.cells 89 (rCe s i gm conf))) (hgm : H gm = some (.map (some .u8) (encF l))) (hne : g ≠ gm) (hi : i ≤ s.length) (hs : i ≤ 100000) :
    AHp Tryd.prog 63 [.ptr g 0, .int .u8 c.toNat, .agg [aI ((widthsL.getD k 0 : Nat)), nmA k, .fn fn [] []]] n H (.bool (dirW k (s.drop i) i).1.isSome) (dirH H g gm s conf l k (dirW k (s.drop i) i)) := by
  have hc37 : ¬ (c.toNat : Int) = 37 := by
    have : c ≠ 37 := by
      intro e; subst e
      have := List.mem_of_getElem? hc
      revert this; decide
    intro e; exact this (UInt8.toNat_inj.1 (by rw [show (37 : UInt8).toNat = 37 from rfl]; omega))
  by_cases h10 : k = 10 ∨ k = 11
  · obtain ⟨L, hnm, hL3, hLl, hdw⟩ : ∃ L : List Str, nmA k = .sl 1 (L.map AV.str) .ro ∧ (∀ x ∈ L, x.length = 3) ∧ L.length ≤ 100 ∧ isNil (.sl 1 (L.map AV.str) .ro) = some false ∧ dirW k (s.drop i) i = (match namW L (s.drop i) with | some j => (some ((j : Int) + 1, (s.drop i).drop 3), i + 3) | none => (none, i)) := by
      rcases h10 with rfl | rfl
      · exact ⟨daysL, rfl, days3, by decide, rfl, rfl⟩
      · exact ⟨monthsL, rfl, months3, by decide, rfl, rfl⟩
    rw [hnm, hdw.2]
    have hnil := hdw.1
    rcases hr : namW L (s.drop i) with _ | j
    · simp only
      refine ahp_intro Tryd.func63 cmp63 rfl (fun hH => dirH_above _ (lt_above hg hH) (lt_above hgm hH) hH) fun hH => ?_
      have hgn := lt_above hg hH
      repeat' (first | (simp -implicitDefEqProofs [c63, c63_k3_go, c63_k2_go, c63_k1_go, -getElem?_pos, hc37, hr, hnil, -isNil, namR, simA_refl, dirH]) | (simp (disch := omega) only [upd_ne, xz4f, if_pos, if_neg, IntWalk.i64_in, Int.tdiv_eq_ediv_of_nonneg, Int.tmod_eq_emod_of_nonneg]) | ((with_reducible refine CallK.chk (f := 90) ?_); (refine' CallK.sfU ?_ ((name_r s i gm g _ conf L hLl hL3 _ (by rw [upd_ne (by omega)]; exact hg) hi (by omega))) ?_); (focus first | (with_reducible exact simL_refl _) | (simp [simL, simA, simA_refl, simL_refl]; done))) | (with_reducible refine fin_r ?_ ?_ ?_) | (with_reducible exact SameB.rfl_ _ _) | (with_reducible assumption) | (with_reducible refine newPM_of ?_) | (with_reducible refine newP_go ?_) | (with_reducible intro _g _hg) | (with_reducible refine And.intro ?_ ?_) | (with_reducible intro _hc) | omega)
      all_goals (intro q hq; simp only [upd]; repeat' split) <;> first | rfl | omega
    · simp only
      have hi3 : i + 3 ≤ s.length := by
        have : ∀ (L : List Str) (t : Str) (j : Nat), (∀ x ∈ L, x.length = 3) → namW L t = some j → 3 ≤ t.length := by
          intro L
          induction L with
          | nil => intro t j _ h; cases h
          | cons x L ih =>
            intro t j h3 h
            simp only [namW] at h
            split at h
            · rename_i hp
              have h4 := (List.isPrefixOf_iff_prefix.1 hp).length_le
              have := h3 x List.mem_cons_self
              omega
            · obtain ⟨j', h5, _⟩ := Option.map_eq_some_iff.1 h
              exact ih t j' (fun x hx => h3 x (List.mem_cons_of_mem _ hx)) h5
        have := this L _ j hL3 hr
        simp only [List.length_drop] at this; omega
      refine ahp_intro Tryd.func63 cmp63 rfl (fun hH => dirH_above _ (lt_above hg hH) (lt_above hgm hH) hH) fun hH => ?_
      have hgn := lt_above hg hH
      have hmn := lt_above hgm hH
      repeat' (first | (simp -implicitDefEqProofs [c63, c63_k3_go, c63_k2_go, c63_k1_go, -getElem?_pos, hc37, hr, hnil, -isNil, namR, simA_refl, dirH]) | (simp (disch := omega) only [upd_ne, xz4f, if_pos, if_neg, IntWalk.i64_in, Int.tdiv_eq_ediv_of_nonneg, Int.tmod_eq_emod_of_nonneg]) | ((with_reducible refine CallK.chk (f := 90) ?_); (refine' CallK.sfU ?_ ((name_r s i gm g _ conf L hLl hL3 _ (by rw [upd_ne (by omega)]; exact hg) hi (by omega))) ?_); (focus first | (with_reducible exact simL_refl _) | (simp [simL, simA, simA_refl, simL_refl]; done))) | ((with_reducible refine CallK.chk (f := 92) ?_); (refine' CallK.sfH ?_ ((note_k s ((i : Int) + 3) gm g _ conf k hk c hc l hl ((j : Int) + 1) _ (xz4f _ _ _) (by rw [upd_ne (Ne.symm hne), upd_ne (by omega)]; exact hgm) hne)) ?_); (focus first | (with_reducible exact simL_refl _) | (simp [simL, simA, simA_refl, simL_refl]; done))) | (with_reducible refine fin_r ?_ ?_ ?_) | (with_reducible exact SameB.rfl_ _ _) | (with_reducible assumption) | (with_reducible refine newPM_of ?_) | (with_reducible refine newP_go ?_) | (with_reducible intro _g _hg) | (with_reducible refine And.intro ?_ ?_) | (with_reducible intro _hc) | omega)
      all_goals (intro q hq; simp only [upd]; repeat' split) <;> first | rfl | omega
  · have hnm : nmA k = .sl 0 [] .nil := by unfold nmA; rw [if_neg (by omega), if_neg (by omega)]
    have hdw : dirW k (s.drop i) i = numW (widthsL.getD k 0) 0 (s.drop i) i := by unfold dirW; rw [if_neg (by omega), if_neg (by omega)]
    have hwl : widthsL.getD k 0 ≤ 4 := by
      unfold widthsL
      rcases k with _ | _ | _ | _ | _ | _ | _ | _ | _ | _ | _ | _ | k <;> simp
    rw [hnm, hdw]
    generalize widthsL.getD k 0 = w at *
    have hb := numW_bound w 0 (s.drop i) i
    rcases hr : numW w 0 (s.drop i) i with ⟨_ | ⟨v, u⟩, i2⟩
    · rw [hr] at hb
      refine ahp_intro Tryd.func63 cmp63 rfl (fun hH => dirH_above _ (lt_above hg hH) (lt_above hgm hH) hH) fun hH => ?_
      have hgn := lt_above hg hH
      repeat' (first | (simp -implicitDefEqProofs [c63, c63_k3_go, c63_k2_go, c63_k1_go, -getElem?_pos, hc37, hr, resW, simA_refl, dirH]) | (simp (disch := omega) only [upd_ne, xz4f, if_pos, if_neg, IntWalk.i64_in, Int.tdiv_eq_ediv_of_nonneg, Int.tmod_eq_emod_of_nonneg]) | ((with_reducible refine CallK.chk (f := 91) ?_); (refine' CallK.sfU ?_ ((number_r s i gm g _ conf w hwl _ (by rw [upd_ne (by omega)]; exact hg) hi (by omega))) ?_); (focus first | (with_reducible exact simL_refl _) | (simp [simL, simA, simA_refl, simL_refl]; done))) | (with_reducible refine fin_r ?_ ?_ ?_) | (with_reducible exact SameB.rfl_ _ _) | (with_reducible assumption) | (with_reducible refine newPM_of ?_) | (with_reducible refine newP_go ?_) | (with_reducible intro _g _hg) | (with_reducible refine And.intro ?_ ?_) | (with_reducible intro _hc) | omega)
      all_goals (intro q hq; simp only [upd]; repeat' split) <;> first | rfl | omega
    · rw [hr] at hb
      refine ahp_intro Tryd.func63 cmp63 rfl (fun hH => dirH_above _ (lt_above hg hH) (lt_above hgm hH) hH) fun hH => ?_
      have hgn := lt_above hg hH
      have hmn := lt_above hgm hH
      repeat' (first | (simp -implicitDefEqProofs [c63, c63_k3_go, c63_k2_go, c63_k1_go, -getElem?_pos, hc37, hr, resW, simA_refl, dirH]) | (simp (disch := omega) only [upd_ne, xz4f, if_pos, if_neg, IntWalk.i64_in, Int.tdiv_eq_ediv_of_nonneg, Int.tmod_eq_emod_of_nonneg]) | ((with_reducible refine CallK.chk (f := 91) ?_); (refine' CallK.sfU ?_ ((number_r s i gm g _ conf w hwl _ (by rw [upd_ne (by omega)]; exact hg) hi (by omega))) ?_); (focus first | (with_reducible exact simL_refl _) | (simp [simL, simA, simA_refl, simL_refl]; done))) | ((with_reducible refine CallK.chk (f := 92) ?_); (refine' CallK.sfH ?_ ((note_k s i2 gm g _ conf k hk c hc l hl v _ (xz4f _ _ _) (by rw [upd_ne (Ne.symm hne), upd_ne (by omega)]; exact hgm) hne)) ?_); (focus first | (with_reducible exact simL_refl _) | (simp [simL, simA, simA_refl, simL_refl]; done))) | (with_reducible refine fin_r ?_ ?_ ?_) | (with_reducible exact SameB.rfl_ _ _) | (with_reducible assumption) | (with_reducible refine newPM_of ?_) | (with_reducible refine newP_go ?_) | (with_reducible intro _g _hg) | (with_reducible refine And.intro ?_ ?_) | (with_reducible intro _hc) | omega)
      all_goals (intro q hq; simp only [upd]; repeat' split) <;> first | rfl | omega
end Go.Proofs.YtnmkpadgogbgkaaDoor
namespace Go.Proofs.YtnmkpadgogbgkaaDoor
def dfl (k : Nat) : Int := if k < 3 then 1 else 0
def celM (F : Fnd) (left : List Nat) (k : Nat) : AV := aI (if k ∈ left then dfl k else (F k).getD (dfl k))
abbrev celsM (F : Fnd) (left : List Nat) : List AV := (List.range 6).map (celM F left)
theorem celsM_end (F : Fnd) : celsM F [] = [aI (momF F).y, aI (momF F).m, aI (momF F).d, aI (momF F).h, aI (momF F).mi, aI (momF F).s] := by
  simp [celsM, celM, dfl, momF, List.range_succ]
theorem celsM_none {F : Fnd} {left : List Nat} (hn : left.Nodup) {j : Nat} (hF : F j = none) : celsM F (left.erase j) = celsM F left := by
  refine List.map_congr_left fun k _ => ?_
  unfold celM
  by_cases hk : k = j
  · subst hk; rw [hF]; simp
  · simp only [List.mem_erase_of_ne hk]
theorem celsM_some {F : Fnd} {left : List Nat} (hn : left.Nodup) {j : Nat} (hj : j < 6) {x : Int} (hF : F j = some x) : splice (celsM F left) j [aI x] = celsM F (left.erase j) := by
  unfold splice
  apply List.ext_getElem?
  intro k
  simp only [List.length_singleton]
  by_cases h1 : k < j
  · rw [List.getElem?_append_left (by simp; omega), List.getElem?_append_left (by simp; omega), List.getElem?_take_of_lt h1]
    rw [List.getElem?_map, List.getElem?_map, List.getElem?_range (by omega)]
    simp only [Option.map_some, celM]
    simp only [List.mem_erase_of_ne (show k ≠ j by omega)]
  · by_cases h2 : k = j
    · subst h2
      rw [List.getElem?_append_left (by simp; omega), List.getElem?_append_right (by simp; omega)]
      rw [List.getElem?_map, List.getElem?_range (by omega)]
      have h3 : k - (List.take k (celsM F left)).length = 0 := by simp; omega
      have h4 : ¬ k ∈ left.erase k := fun h => hn.not_mem_erase h
      simp only [h3, List.getElem?_cons_zero, Option.map_some, celM, h4, if_false, hF, Option.getD_some]
    · rw [List.getElem?_append_right (by simp; omega), List.getElem?_drop]
      have e : j + 1 + (k - (List.take j (celsM F left) ++ [aI x]).length) = k := by simp; omega
      rw [e, List.getElem?_map, List.getElem?_map]
      by_cases h5 : k < 6
      · rw [List.getElem?_range h5]
        simp only [Option.map_some, celM]
        simp only [List.mem_erase_of_ne (show k ≠ j by omega)]
      · have : (List.range 6)[k]? = none := by rw [List.getElem?_eq_none]; simp; omega
        rw [this]; rfl
abbrev z6 : List AV := [aI 0, aI 0, aI 0, aI 0, aI 0, aI 0]
attribute [local simp] xz00 aw_reg aw_seq xz01 xz02 xz03 xz04 aw_ret aw_bad aw_kp aw_ke xz05 xz06 xz07 xz08 xz09 xz0a xz0b xz0c xz0d xz0e xz0f xz0g xz0h xz0i scV pe xz0j xz0k xz0l xz0m xz0n xz0o xz0p xz0q xz0r xz0s xz0t spg_mv xz0u xz0v xz0w xz0x xz0y xz0z xz10 xz11 xz12 xz13 xz14 xz15 xz16 xz17 xz18 xz19 xz1a xz1b xz1c xz1d xz1e spg_mm xz1f spm_mv xz1g xz1h xz1i xz1j xz1k xz1l xz1m xz1n xz1o xz1p xz1q xz1r xz1s xz1t xz1u xz1v xz1w xz1x xz1y xz1z xz20 xz21 xz22 xz23 xz24 spm_mm xz25 xz26 xz27 xz28 xz29 xz2a xz2b xz2c xz2d xz2e xz2f xz2g xz2h xz2i xz2j xz2k xz2l xz2m xz2n xz2o xz2p xz2q xz2r xz2s List.mem_cons guardK guardJ anyE undE op_mv xz2t op_bin op_eqs op_eqb op_eqn op_eqp op_eqi op_neg op_not op_cvi xz2u xz2v op_cut xz2w xz2x xz2y xz2z xz30 xz31 op_len xz32 xz33 xz34 xz35 xz36 xz37 op_mm op_b2s op_r2s op_upc op_usd xz38 xz39 op_ust xz3a op_box xz3b op_bsl op_app xz3c op_s2b op_s2s xz3d xz3e xz3f xz3g xz3h xz3i xz3j xz3k ngV eqsV eqbV negV notV cviV fieldV sidxV aidxV xz3l lenSV extrV nilckV buildV mmV b2sV r2sV eqppV s2bK s2sK msetS mgetV keyOkK mfind msetL keyEq callvK ev get put putO keepE xz3m xz3n xz3o xz3p xz3q xz3r condK part loadAV xz3s xz3t xz3u isNil isNilP isNilI binAV intBin strBin xz3v xz3w xz3x xz3y xz3z xz40 xz41 xz42 xz43 xz44 xz45 xz46 xz47 xz48 xz49 xz4a AV.fits AV.cells ones AV.one upcAV updnAV usdAV ustAV cutB cutSV xz4b xz4c xz4d xz4e resOf resVs resV argE xz4f shpSz u8e u8lit xz4g xz4h List.getElem?_cons_zero List.getElem?_cons_succ op_rng op_nxt op_ent xz4i xz4j xz4k entV xz4l xz4m xz4n xz4o xz4p xz4q
set_option maxHeartbeats 1000000 in
theorem moment_go (s : Str) (i : Int) (gm g n : Nat) (conf : Bool) (l : FL) (hl : okL l) (H : AHeap) (n1 : Nat) (H1 : AHeap) (g2 g3 g9 gi : Nat) (ES : List (AV × AV)) (hES : ∀ j, j < 6 → ES[j]? = some (keyA j, .ptr g3 j)) (hEl : ES.length = 6)
    (q2 : H1 g2 = some (.cells 23 z6)) (q3 : H1 g3 = some (.cells 23 (celsM (lkF l) (List.range 6)))) (q9 : H1 g9 = some (.map (some .u8) ES)) (qi : H1 gi = some (.iter g9 6 (List.range 6) none))
    (qg : H1 g = some (.cells 89 (rCe s i gm conf))) (qm : H1 gm = some (.map (some .u8) (encF l))) (o1 : g < n) (o2 : gm < n) (o3 : n ≤ g2) (o4 : g2 < g3) (o5 : g3 < g9) (o6 : g9 < gi) (o7 : gi < n1) (hsame : SameB n H H1) :
    LoopK (fun Q s => aw Tryd.prog c64_L3 Q s) (blockA 0 (thenA (aw Tryd.prog c64_k1 (finP (aM (momF (lkF l))) n H [.cell 2 (some 6)])) (finP (aM (momF (lkF l))) n H [.cell 2 (some 6)])))
      ⟨[(0, .ptr g 0), (2, .ptr g2 0), (3, .ptr g3 0), (17, .ptr gi 0)], n1, H1⟩ := by
  refine LoopK.go (fun q st => ∃ (left : List Nat) (cur : Option Nat) (H' : AHeap), left.length = q ∧ st = ⟨[(0, .ptr g 0), (2, .ptr g2 0), (3, .ptr g3 0), (17, .ptr gi 0)], n1, H'⟩ ∧ left.Nodup ∧ (∀ j ∈ left, j < 6) ∧
    H' g2 = some (.cells 23 z6) ∧ H' g3 = some (.cells 23 (celsM (lkF l) left)) ∧ H' g9 = some (.map (some .u8) ES) ∧ H' gi = some (.iter g9 6 left cur) ∧ H' g = some (.cells 89 (rCe s i gm conf)) ∧ H' gm = some (.map (some .u8) (encF l)) ∧ SameB n H H') 6
    ⟨List.range 6, none, H1, by simp, rfl, List.nodup_range, fun j hj => List.mem_range.1 hj, q2, q3, q9, qi, qg, qm, hsame⟩ ?_
  clear q2 q3 q9 qi qg qm hsame H1
  rintro q st ⟨left, cur, H1, hq, rfl, hnd, hlt, q2, q3, q9, qi, qg, qm, hsame⟩ J hJ
  
  simp -implicitDefEqProofs [c64_L3_go, -getElem?_pos, qi, q9]
  refine nxtJ_go hEl (fun h0 => ?_) (fun j hj k v hv => ?_)
  · subst h0
    rw [celsM_end] at q3
    repeat' (first | (simp -implicitDefEqProofs [c64_k1_go, c64_k2_go, c64_L3_go, c64, -getElem?_pos, q2, q3, splice, simA_refl]) | (simp (disch := omega) only [upd_ne, xz4f, if_pos, if_neg, IntWalk.i64_in, Int.tdiv_eq_ediv_of_nonneg, Int.tmod_eq_emod_of_nonneg]) | (with_reducible refine fin_r ?_ ?_ ?_) | (with_reducible exact SameB.rfl_ _ _) | (with_reducible refine SameB.upd ?_ ?_ _) | (with_reducible assumption) | (with_reducible refine newPM_of ?_) | (with_reducible refine newP_go ?_) | (with_reducible refine newM_go ?_) | (with_reducible refine newI_go ?_) | (with_reducible intro _g _hg) | (with_reducible refine And.intro ?_ ?_) | (with_reducible intro _hc) | omega)
  · have hj6 := hlt j hj
    have hjE := hES j hj6
    rw [hjE] at hv
    injection hv with hv; injection hv with hv1 hv2
    subst hv1; subst hv2
    have hf := find_enc (k := j) (by omega) hl.1
    have hle : ∀ F L, (celsM F L).length = 6 := fun F L => by simp
    have hjl : (left.erase j).length < q := by
      have := List.length_erase_of_mem hj
      have := List.length_pos_of_mem hj
      omega
    have hn2 := hnd.erase j
    have hl2 : ∀ k ∈ left.erase j, k < 6 := fun k hk => hlt k (List.mem_of_mem_erase hk)
    obtain ⟨kk, hkk⟩ : ∃ kk : Nat, keyA j = .int .u8 kk := ⟨_, rfl⟩
    rw [hkk] at hf hjE ⊢
    cases hF : lkF l j with
    | none =>
      rw [hF] at hf
      have hcn := celsM_none hnd hF
      generalize encF l = es at *
      generalize celsM (lkF l) left = cl at *
      repeat' (first | (simp -implicitDefEqProofs [c64_k2_go, -getElem?_pos, q9, qg, qm, hEl, hjE, hf]) | (simp (disch := omega) only [upd_ne, xz4f, if_pos, if_neg, IntWalk.i64_in, Int.tdiv_eq_ediv_of_nonneg, Int.tmod_eq_emod_of_nonneg]) | (with_reducible refine fin_r ?_ ?_ ?_) | (with_reducible exact SameB.rfl_ _ _) | (with_reducible assumption) | (with_reducible refine newPM_of ?_) | (with_reducible refine newP_go ?_) | (with_reducible refine newM_go ?_) | (with_reducible refine newI_go ?_) | (with_reducible intro _g _hg) | (with_reducible refine And.intro ?_ ?_) | (with_reducible intro _hc) | omega)
      refine hJ _ _ hjl ⟨left.erase j, some j, _, rfl, rfl, hn2, hl2, ?_, ?_, ?_, xz4f _ _ _, ?_, ?_, ?_⟩
      · rw [upd_ne (by omega)]; exact q2
      · rw [upd_ne (by omega), hcn]; exact q3
      · rw [upd_ne (by omega)]; exact q9
      · rw [upd_ne (by omega)]; exact qg
      · rw [upd_ne (by omega)]; exact qm
      · intro k hk; rw [upd_ne (by omega)]; exact hsame k hk
    | some x =>
      rw [hF] at hf
      have hcs := celsM_some hnd hj6 hF
      have hcl := hle (lkF l) left
      generalize encF l = es at *
      generalize celsM (lkF l) left = cl at *
      have hjb : j + 1 ≤ cl.length := by omega
      repeat' (first | (simp -implicitDefEqProofs [c64_k2_go, -getElem?_pos, q9, qg, qm, q3, hEl, hjE, hf, hjb]) | (simp (disch := omega) only [upd_ne, xz4f, if_pos, if_neg, IntWalk.i64_in, Int.tdiv_eq_ediv_of_nonneg, Int.tmod_eq_emod_of_nonneg]) | (with_reducible refine fin_r ?_ ?_ ?_) | (with_reducible exact SameB.rfl_ _ _) | (with_reducible assumption) | (with_reducible refine newPM_of ?_) | (with_reducible refine newP_go ?_) | (with_reducible refine newM_go ?_) | (with_reducible refine newI_go ?_) | (with_reducible intro _g _hg) | (with_reducible refine And.intro ?_ ?_) | (with_reducible intro _hc) | omega)
      refine hJ _ _ hjl ⟨left.erase j, some j, _, rfl, rfl, hn2, hl2, ?_, by rw [xz4f, hcs], ?_, ?_, ?_, ?_, ?_⟩
      · rw [upd_ne (by omega), upd_ne (by omega)]; exact q2
      · rw [upd_ne (by omega), upd_ne (by omega)]; exact q9
      · rw [upd_ne (by omega)]; exact xz4f _ _ _
      · rw [upd_ne (by omega), upd_ne (by omega)]; exact qg
      · rw [upd_ne (by omega), upd_ne (by omega)]; exact qm
      · intro k hk; rw [upd_ne (by omega), upd_ne (by omega)]; exact hsame k hk
theorem moment_r (s : Str) (i : Int) (gm g n : Nat) (conf : Bool) (l : FL) (hl : okL l) (H : AHeap) (hg : H g = some (.cells 89 (rCe s i gm conf))) (hgm : H gm = some (.map (some .u8) (encF l))) (hne : g ≠ gm) :
    APureAt Tryd.prog 64 [.ptr g 0] n H (aM (momF (lkF l))) := by
  refine apureAt_intro Tryd.func64 cmp64 rfl fun hH => ?_
  have hgn := lt_above hg hH
  have hmn := lt_above hgm hH
  repeat' (first | (simp -implicitDefEqProofs [c64, -getElem?_pos, splice]) | (simp (disch := omega) only [upd_ne, xz4f, if_pos, if_neg, IntWalk.i64_in, Int.tdiv_eq_ediv_of_nonneg, Int.tmod_eq_emod_of_nonneg]) | (with_reducible refine fin_r ?_ ?_ ?_) | (with_reducible exact SameB.rfl_ _ _) | (with_reducible assumption) | (with_reducible refine newPM_of ?_) | (with_reducible refine newP_go ?_) | (with_reducible refine newM_go ?_) | (with_reducible refine newI_go ?_) | (with_reducible intro _g _hg) | (with_reducible refine And.intro ?_ ?_) | (with_reducible intro _hc) | omega)
  rename_i g2 hg2 g3 hg3 g9 hg9
  refine moment_go s i gm g n conf l hl H _ _ g2 g3 g9 _g [(keyA 0, .ptr g3 0), (keyA 1, .ptr g3 1), (keyA 2, .ptr g3 2), (keyA 3, .ptr g3 3), (keyA 4, .ptr g3 4), (keyA 5, .ptr g3 5)] ?_ rfl ?_ ?_ ?_ ?_ ?_ ?_ hgn hmn hg2 (by omega) (by omega) (by omega) (by omega) ?_
  · intro j hj
    rcases (by omega : j = 0 ∨ j = 1 ∨ j = 2 ∨ j = 3 ∨ j = 4 ∨ j = 5) with rfl | rfl | rfl | rfl | rfl | rfl <;> rfl
  · simp (disch := omega) only [upd_ne, xz4f]
  · simp (disch := omega) only [upd_ne, xz4f] <;> rfl
  · simp (disch := omega) only [upd_ne, xz4f] <;> rfl
  · simp (disch := omega) only [upd_ne, xz4f] <;> rfl
  · simp (disch := omega) only [upd_ne, xz4f]; exact hg
  · simp (disch := omega) only [upd_ne, xz4f]; exact hgm
  · intro k hk; simp (disch := omega) only [upd_ne, xz4f]
end Go.Proofs.YtnmkpadgogbgkaaDoor

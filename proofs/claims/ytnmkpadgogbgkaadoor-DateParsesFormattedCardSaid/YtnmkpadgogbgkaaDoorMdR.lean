/- What the reference reads of a text, walked; no condition. -/
import Derived.Test.YtnmkpadgogbgkaaDoorMdQ
set_option linter.all false
set_option linter.unusedSimpArgs false
set_option linter.unusedVariables false
namespace Go.Proofs.YtnmkpadgogbgkaaDoor
attribute [local simp] xz00 aw_reg aw_seq xz01 xz02 xz03 xz04 aw_ret aw_bad aw_kp aw_ke xz05 xz06 xz07 xz08 xz09 xz0a xz0b xz0c xz0d xz0e xz0f xz0g xz0h xz0i scV pe xz0j xz0k xz0l xz0m xz0n xz0o xz0p xz0q xz0r xz0s xz0t spg_mv xz0u xz0v xz0w xz0x xz0y xz0z xz10 xz11 xz12 xz13 xz14 xz15 xz16 xz17 xz18 xz19 xz1a xz1b xz1c xz1d xz1e spg_mm xz1f spm_mv xz1g xz1h xz1i xz1j xz1k xz1l xz1m xz1n xz1o xz1p xz1q xz1r xz1s xz1t xz1u xz1v xz1w xz1x xz1y xz1z xz20 xz21 xz22 xz23 xz24 spm_mm xz25 xz26 xz27 xz28 xz29 xz2a xz2b xz2c xz2d xz2e xz2f xz2g xz2h xz2i xz2j xz2k xz2l xz2m xz2n xz2o xz2p xz2q xz2r xz2s List.mem_cons guardK guardJ anyE undE op_mv xz2t op_bin op_eqs op_eqb op_eqn op_eqp op_eqi op_neg op_not op_cvi xz2u xz2v op_cut xz2w xz2x xz2y xz2z xz30 xz31 op_len xz32 xz33 xz34 xz35 xz36 xz37 op_mm op_b2s op_r2s op_upc op_usd xz38 xz39 op_ust xz3a op_box xz3b op_bsl op_app xz3c op_s2b op_s2s xz3d xz3e xz3f xz3g xz3h xz3i xz3j xz3k ngV eqsV eqbV negV notV cviV fieldV sidxV aidxV xz3l lenSV extrV nilckV buildV mmV b2sV r2sV eqppV s2bK s2sK msetS mgetV keyOkK mfind msetL keyEq callvK ev get put putO keepE xz3m xz3n xz3o xz3p xz3q xz3r condK part loadAV xz3s xz3t xz3u isNil isNilP isNilI binAV intBin strBin xz3v xz3w xz3x xz3y xz3z xz40 xz41 xz42 xz43 xz44 xz45 xz46 xz47 xz48 xz49 xz4a AV.fits AV.cells ones AV.one upcAV updnAV usdAV ustAV cutB cutSV xz4b xz4c xz4d xz4e resOf resVs resV argE xz4f shpSz u8e u8lit xz4g xz4h List.getElem?_cons_zero List.getElem?_cons_succ op_rng op_nxt op_ent xz4i xz4j xz4k entV xz4l xz4m xz4n xz4o xz4p xz4q
set_option maxHeartbeats 1000000 in
theorem read_k16 {Q : AExit → AS → Prop} {e : AEnv} {s p : Str} {i q v : Int} {j n1 g6 : Nat} {conf : Bool} {F : Fnd} {H1 : AHeap} {a4 a5 : AV} (hj : j < 12) (hF : ∀ k x, F k = some x → 0 ≤ x) (q6 : H1 g6 = some (.cells 3 (foundC F)))
    (e0 : get e 0 = .str s) (e1 : get e 1 = .str p) (e4 : get e 4 = a4) (e5 : get e 5 = a5) (e6 : get e 6 = slF g6) (e7 : get e 7 = .bool conf) (e8 : get e 8 = aI i) (e9 : get e 9 = aI q) (e10 : get e 10 = aI j) (e11 : get e 11 = aI v)
    (h : ∀ e', get e' 0 = .str s → get e' 1 = .str p → get e' 4 = a4 → get e' 5 = a5 → get e' 6 = slF g6 → get e' 7 = .bool (conf || diffF (F j) v) → get e' 8 = aI i → get e' 9 = aI q → Q .normal ⟨e', n1, upd H1 g6 (some (.cells 3 (foundC (setF F j v))))⟩) :
    aw Tryd.prog c40_k16 Q ⟨e, n1, H1⟩ := by
  have hfa := found_at F hj
  have hfl : (foundC F).length = 12 := by simp
  have hfs := found_set F hj v
  have hj' : (j : Int) < 12 := by omega
  have hjl : j + 1 ≤ (foundC F).length := by omega
  rw [← hfs] at h
  generalize foundC F = fc at *
  cases hf : F j with
  | none =>
    rw [hf] at hfa h
    have hfa : fc[j]? = some (aI (-1)) := hfa
    
    repeat' (first | (simp -implicitDefEqProofs [c40_k16_go, c40_k15_go, -getElem?_pos, e0, e1, e4, e5, e6, e7, e8, e9, e10, e11, q6, hfa, hj', hjl]) | (simp (disch := omega) only [upd_ne, xz4f, if_pos, if_neg, IntWalk.i64_in, Int.tdiv_eq_ediv_of_nonneg, Int.tmod_eq_emod_of_nonneg]) | (with_reducible refine fin_r ?_ ?_ ?_) | (with_reducible exact SameB.rfl_ _ _) | (with_reducible refine SameB.upd ?_ ?_ _) | (with_reducible assumption) | (with_reducible refine newPM_of ?_) | (with_reducible refine newSM_of ?_) | (with_reducible refine newP_go ?_) | (with_reducible refine newS_go ?_) | (with_reducible refine newB_own ?_) | (with_reducible intro _g _hg) | (with_reducible refine And.intro ?_ ?_) | (with_reducible intro _hc) | omega)
    exact h _ rfl rfl rfl rfl rfl (by simp [get, diffF]) rfl rfl
  | some x =>
    rw [hf] at hfa h
    have hx0 := hF j x hf
    have hfa : fc[j]? = some (aI x) := hfa
    by_cases hx : x = v
    · have hd : diffF (some x) v = false := by simp [diffF, hx]
      rw [hd] at h
      
      repeat' (first | (simp -implicitDefEqProofs [c40_k16_go, c40_k15_go, -getElem?_pos, e0, e1, e4, e5, e6, e7, e8, e9, e10, e11, q6, hfa, hj', hjl, hx0, hx]) | (simp (disch := omega) only [upd_ne, xz4f, if_pos, if_neg, IntWalk.i64_in, Int.tdiv_eq_ediv_of_nonneg, Int.tmod_eq_emod_of_nonneg]) | (with_reducible refine fin_r ?_ ?_ ?_) | (with_reducible exact SameB.rfl_ _ _) | (with_reducible refine SameB.upd ?_ ?_ _) | (with_reducible assumption) | (with_reducible refine newPM_of ?_) | (with_reducible refine newSM_of ?_) | (with_reducible refine newP_go ?_) | (with_reducible refine newS_go ?_) | (with_reducible refine newB_own ?_) | (with_reducible intro _g _hg) | (with_reducible refine And.intro ?_ ?_) | (with_reducible intro _hc) | omega)
      exact h _ rfl rfl rfl rfl rfl (by simp [get]) rfl rfl
    · have hd : diffF (some x) v = true := by simp [diffF, hx]
      rw [hd] at h
      
      repeat' (first | (simp -implicitDefEqProofs [c40_k16_go, c40_k15_go, -getElem?_pos, e0, e1, e4, e5, e6, e7, e8, e9, e10, e11, q6, hfa, hj', hjl, hx0, hx]) | (simp (disch := omega) only [upd_ne, xz4f, if_pos, if_neg, IntWalk.i64_in, Int.tdiv_eq_ediv_of_nonneg, Int.tmod_eq_emod_of_nonneg]) | (with_reducible refine fin_r ?_ ?_ ?_) | (with_reducible exact SameB.rfl_ _ _) | (with_reducible refine SameB.upd ?_ ?_ _) | (with_reducible assumption) | (with_reducible refine newPM_of ?_) | (with_reducible refine newSM_of ?_) | (with_reducible refine newP_go ?_) | (with_reducible refine newS_go ?_) | (with_reducible refine newB_own ?_) | (with_reducible intro _g _hg) | (with_reducible refine And.intro ?_ ?_) | (with_reducible intro _hc) | omega)
      exact h _ rfl rfl rfl rfl rfl (by simp [get]) rfl rfl
abbrev widthsT : Str := [52, 50, 50, 50, 50, 50, 51, 52, 50, 49, 48, 48]
theorem widths_at {j : Nat} (h : j < 12) : ∃ b : UInt8, widthsT[j]? = some b ∧ b.toNat = widthsL.getD j 0 + 48 := by
  have : ∀ j : Fin 12, ∃ b : UInt8, widthsT[j.val]? = some b ∧ b.toNat = widthsL.getD j.val 0 + 48 := by
    intro j
    rcases j with ⟨j, hj⟩
    rcases (by omega : j = 0 ∨ j = 1 ∨ j = 2 ∨ j = 3 ∨ j = 4 ∨ j = 5 ∨ j = 6 ∨ j = 7 ∨ j = 8 ∨ j = 9 ∨ j = 10 ∨ j = 11) with rfl | rfl | rfl | rfl | rfl | rfl | rfl | rfl | rfl | rfl | rfl | rfl <;> exact ⟨_, rfl, rfl⟩
  exact this ⟨j, h⟩
theorem readS_inl {s p : Str} {j : Nat} (h : readG id p (start s) = .inl j) : readS s p = (noMo, (1, (j : Int))) := by
  unfold readS; rw [h]
theorem readS_inr {s p : Str} {i : Nat} {conf : Bool} {F : Fnd} (h : readG id p (start s) = .inr ⟨s.drop i, i, F, conf⟩) : readS s p = tailS s i conf F := by
  unfold readS tailS
  rw [h]
  simp only
  by_cases hi : i < s.length
  · rw [if_pos (show s.drop i ≠ [] by simp; omega), if_pos hi]
  · rw [if_neg (show ¬ s.drop i ≠ [] by simp; omega), if_neg hi]
    rfl
abbrev rdE (s p : Str) (g4 g5 g6 : Nat) (conf : Bool) (i k : Int) : AEnv := [(0, .str s), (1, .str p), (4, .ptr g4 0), (5, .ptr g5 0), (6, slF g6), (7, .bool conf), (8, aI i), (9, aI k)]
set_option maxHeartbeats 2000000 in
theorem read_loop (s p : Str) (hpl : p.length ≤ 200) (hpo : patOk p = true) (n : Nat) (H : AHeap) (n1 : Nat) (H1 : AHeap) (g4 g5 g6 : Nat)
    (q4 : H1 g4 = some m6Ob) (q5 : H1 g5 = some f2Ob) (q6 : H1 g6 = some (.cells 3 (foundC fun _ => none)))
    (o1 : n ≤ g4) (o2 : g4 < g5) (o3 : g5 < g6) (o5 : g6 < n1) (hsame : SameB n H H1) (hsup : ∀ k, n1 ≤ k → H1 k = none) :
    LoopK (fun Q s => aw Tryd.prog c40_L32 Q s) (blockA 0 (thenA (aw Tryd.prog c40_k13 (parF (readS s p) n H)) (parF (readS s p) n H)))
      ⟨rdE s p g4 g5 g6 false 0 0, n1, H1⟩ := by
  have hn45 : g4 ≠ g5 := by omega
  refine LoopK.go (fun m st => ∃ (k i : Nat) (conf : Bool) (F : Fnd) (H' : AHeap), k + m = p.length ∧ st = ⟨rdE s p g4 g5 g6 conf i k, n1, H'⟩ ∧
    (∀ k x, F k = some x → 0 ≤ x) ∧ i ≤ s.length ∧ i ≤ 4 * k ∧ readG id p (start s) = readG id (p.drop k) ⟨s.drop i, i, F, conf⟩ ∧ patOk (p.drop k) = true ∧
    H' g4 = some m6Ob ∧ H' g5 = some f2Ob ∧ H' g6 = some (.cells 3 (foundC F)) ∧ SameB n H H' ∧ ∀ k, n1 ≤ k → H' k = none) p.length
    ⟨0, 0, false, fun _ => none, H1, by omega, rfl, (by intro k x h; cases h), by omega, by omega, rfl, hpo, q4, q5, q6, hsame, hsup⟩ ?_
  clear q4 q5 q6 hsame hsup H1
  rintro m st ⟨k, i, conf, F, H1, hk, rfl, hF, hi, hik, hE, hpk, q4, q5, q6, hsame, hsup⟩ J hJ
  rcases hd : p.drop k with _ | ⟨c, cs⟩
  · have hkl : k = p.length := by have := drop_none hd; omega
    have hkl' : ¬ (k : Int) < p.length := by omega
    rw [hd] at hE
    rw [readS_inr hE]
    
    repeat' (first | (simp -implicitDefEqProofs [c40_L32_go, -getElem?_pos, hkl']) | (simp (disch := omega) only [upd_ne, xz4f, if_pos, if_neg, IntWalk.i64_in, Int.tdiv_eq_ediv_of_nonneg, Int.tmod_eq_emod_of_nonneg]) | (with_reducible refine fin_r ?_ ?_ ?_) | (with_reducible exact SameB.rfl_ _ _) | (with_reducible refine SameB.upd ?_ ?_ _) | (with_reducible assumption) | (with_reducible refine newPM_of ?_) | (with_reducible refine newSM_of ?_) | (with_reducible refine newP_go ?_) | (with_reducible refine newS_go ?_) | (with_reducible refine newB_own ?_) | (with_reducible intro _g _hg) | (with_reducible refine And.intro ?_ ?_) | (with_reducible intro _hc) | omega)
    exact read_tail s p i k conf F hF n H n1 H1 g4 g5 g6 q4 q5 q6 o1 o2 o3 o5 hsame hsup
  · obtain ⟨hc, hcs, hkl⟩ := drop_cons hd
    have hkl' : (k : Int) < p.length := by omega
    rw [hd] at hE hpk
    by_cases hp : c = 37
    · subst hp
      rcases cs with _ | ⟨c2, cs⟩
      · simp [patOk] at hpk
      · obtain ⟨hc2, hcs2, hkl2⟩ := drop_cons hcs
        have hk1 : ((k : Int) + 1).toNat = k + 1 := by omega
        have hk0 : (0 : Int) ≤ (k : Int) + 1 := by omega
        have hpk2 : patOk cs = true := by simp [patOk] at hpk; exact hpk.2
        rw [readG, if_pos rfl] at hE
        by_cases h37 : c2 = 37
        · subst h37
          rw [if_pos rfl] at hE
          have hlt := letter_a 37
          have hl37 : ltrI 37 = -1 := by decide
          rw [hl37] at hlt
          rcases hs : s.drop i with _ | ⟨x, t⟩
          · have hil : i = s.length := by have := drop_none hs; omega
            have hil' : (i : Int) = s.length := by omega
            rw [hs] at hE
            rw [readS_inl hE]
            
            repeat' (first | (simp -implicitDefEqProofs [c40_L32_go, c40_k31_go, c40_t30_go, c40_k29_go, c40_t28_go, -getElem?_pos, hkl', hc, hc2, hk1, hk0, hil', q4, q5, splice]) | (simp (disch := omega) only [upd_ne, xz4f, if_pos, if_neg, IntWalk.i64_in, Int.tdiv_eq_ediv_of_nonneg, Int.tmod_eq_emod_of_nonneg]) | ((with_reducible refine CallP.chk (f := 50) ?_); (refine' CallP.sf ?_ (hlt) ?_); (focus first | (with_reducible exact simL_refl _) | (simp [simL, simA, simA_refl, simL_refl]; done))) | ((with_reducible refine CallP.chk (f := 29) ?_); (refine' CallP.sf ?_ (at_a _ _) ?_); (focus first | (with_reducible exact simL_refl _) | (simp [simL, simA, simA_refl, simL_refl]; done))) | (with_reducible refine fin_r ?_ ?_ ?_) | (with_reducible exact SameB.rfl_ _ _) | (with_reducible refine SameB.upd ?_ ?_ _) | (with_reducible assumption) | (with_reducible refine newPM_of ?_) | (with_reducible refine newSM_of ?_) | (with_reducible refine newP_go ?_) | (with_reducible refine newS_go ?_) | (with_reducible refine newB_own ?_) | (with_reducible intro _g _hg) | (with_reducible refine And.intro ?_ ?_) | (with_reducible intro _hc) | omega)
            all_goals exact simA_refl _
          · obtain ⟨hx, hxs, hxl⟩ := drop_cons hs
            have hil' : ¬ (i : Int) = s.length := by omega
            rw [hs] at hE
            simp only [litW] at hE
            by_cases hx37 : x = 37
            · subst hx37
              rw [if_pos rfl] at hE
              
              repeat' (first | (simp -implicitDefEqProofs [c40_L32_go, c40_k31_go, c40_t30_go, c40_k29_go, c40_t28_go, c40_k27_go, c40_k14_go, -getElem?_pos, hkl', hc, hc2, hk1, hk0, hil', hx]) | (simp (disch := omega) only [upd_ne, xz4f, if_pos, if_neg, IntWalk.i64_in, Int.tdiv_eq_ediv_of_nonneg, Int.tmod_eq_emod_of_nonneg]) | ((with_reducible refine CallP.chk (f := 50) ?_); (refine' CallP.sf ?_ (hlt) ?_); (focus first | (with_reducible exact simL_refl _) | (simp [simL, simA, simA_refl, simL_refl]; done))) | ((with_reducible refine CallP.chk (f := 29) ?_); (refine' CallP.sf ?_ (at_a _ _) ?_); (focus first | (with_reducible exact simL_refl _) | (simp [simL, simA, simA_refl, simL_refl]; done))) | (with_reducible refine fin_r ?_ ?_ ?_) | (with_reducible exact SameB.rfl_ _ _) | (with_reducible refine SameB.upd ?_ ?_ _) | (with_reducible assumption) | (with_reducible refine newPM_of ?_) | (with_reducible refine newSM_of ?_) | (with_reducible refine newP_go ?_) | (with_reducible refine newS_go ?_) | (with_reducible refine newB_own ?_) | (with_reducible intro _g _hg) | (with_reducible refine And.intro ?_ ?_) | (with_reducible intro _hc) | omega)
              exact hJ (p.length - (k + 2)) _ (by omega) ⟨k + 2, i + 1, conf, F, H1, by omega, rfl, hF, by omega, by omega, by rw [hE, hcs2, hxs], by rw [hcs2]; exact hpk2, q4, q5, q6, hsame, hsup⟩
            · rw [if_neg hx37] at hE
              have hx37' : ¬ (x.toNat : Int) = 37 := fun e => hx37 ((u8n 37 rfl).1 e)
              rw [readS_inl hE]
              
              repeat' (first | (simp -implicitDefEqProofs [c40_L32_go, c40_k31_go, c40_t30_go, c40_k29_go, c40_t28_go, -getElem?_pos, hkl', hc, hc2, hk1, hk0, hil', hx, hx37', q4, q5, splice]) | (simp (disch := omega) only [upd_ne, xz4f, if_pos, if_neg, IntWalk.i64_in, Int.tdiv_eq_ediv_of_nonneg, Int.tmod_eq_emod_of_nonneg]) | ((with_reducible refine CallP.chk (f := 50) ?_); (refine' CallP.sf ?_ (hlt) ?_); (focus first | (with_reducible exact simL_refl _) | (simp [simL, simA, simA_refl, simL_refl]; done))) | ((with_reducible refine CallP.chk (f := 29) ?_); (refine' CallP.sf ?_ (at_a _ _) ?_); (focus first | (with_reducible exact simL_refl _) | (simp [simL, simA, simA_refl, simL_refl]; done))) | (with_reducible refine fin_r ?_ ?_ ?_) | (with_reducible exact SameB.rfl_ _ _) | (with_reducible refine SameB.upd ?_ ?_ _) | (with_reducible assumption) | (with_reducible refine newPM_of ?_) | (with_reducible refine newSM_of ?_) | (with_reducible refine newP_go ?_) | (with_reducible refine newS_go ?_) | (with_reducible refine newB_own ?_) | (with_reducible intro _g _hg) | (with_reducible refine And.intro ?_ ?_) | (with_reducible intro _hc) | omega)
              all_goals exact simA_refl _
        · rw [if_neg h37] at hE
          have hln : ¬ ltrI c2 < 0 := by
            intro hneg
            simp [patOk, h37, hneg] at hpk
          obtain ⟨j, hj, hj12, hjl⟩ := ltr_lt c2 hln
          have hlt := letter_a c2
          rw [hj] at hlt
          have hjn : (ltrI c2).toNat = j := by omega
          rw [hjn] at hE
          have hda := dirW_at (s := s) (i := i) hj12 hi
          -- behind the number
          have finJ : ∀ (v : Int) (u : Str) (i2 : Nat), dirW j (s.drop i) i = (some (v, u), i2) → 0 ≤ v → J ⟨rdE s p g4 g5 g6 (conf || diffF (F j) v) i2 ((k : Int) + 1 + 1), n1, upd H1 g6 (some (.cells 3 (foundC (setF F j v))))⟩ := by
            intro v u i2 hr hv
            rw [hr] at hE hda
            simp only at hE hda
            have hu := hda.2.2.2 v u rfl
            subst hu
            refine hJ (p.length - (k + 2)) _ (by omega) ⟨k + 2, i2, conf || diffF (F j) v, setF F j v, _, by omega, rfl, ?_, hda.2.2.1, by omega, by rw [hE, hcs2]; rfl, by rw [hcs2]; exact hpk2, ?_, ?_, xz4f _ _ _, ?_, ?_⟩
            · intro k' x hx
              unfold setF at hx
              split at hx
              · injection hx with hx; omega
              · exact hF k' x hx
            · rw [upd_ne (by omega)]; exact q4
            · rw [upd_ne (by omega)]; exact q5
            · intro k hk; rw [upd_ne (by omega)]; exact hsame k hk
            · intro k hk; rw [upd_ne (by omega)]; exact hsup k hk
          have finB : ∀ (u : Option (Int × Str)) (i2 : Nat), dirW j (s.drop i) i = (none, i2) → readS s p = (noMo, (1, (i2 : Int))) := by
            intro u i2 hr
            rw [hr] at hE
            exact readS_inl hE
          have hj0 : ¬ (j : Int) < 0 := by omega
          by_cases h10 : j < 10
          · have hj10 : ¬ (10 : Int) ≤ j := by omega
            have hdw : dirW j (s.drop i) i = numW (widthsL.getD j 0) 0 (s.drop i) i := by unfold dirW; rw [if_neg (by omega), if_neg (by omega)]
            obtain ⟨b, hb, hbw⟩ := widths_at hj12
            have hb : ([52, 50, 50, 50, 50, 50, 51, 52, 50, 49, 48, 48] : List UInt8)[j]? = some b := hb
            have hwl : widthsL.getD j 0 ≤ 4 := by
              unfold widthsL
              rcases j with _ | _ | _ | _ | _ | _ | _ | _ | _ | _ | _ | _ | j <;> simp
            rw [hdw] at finJ finB
            clear hdw hda hE
            generalize widthsL.getD j 0 = w at *
            
            repeat' (first | (simp -implicitDefEqProofs [c40_L32_go, c40_k31_go, c40_t30_go, c40_k29_go, c40_k26_go, c40_e25_go, -getElem?_pos, hkl', hc, hc2, hk1, hk0, hj0, hj10]) | (simp (disch := omega) only [upd_ne, xz4f, if_pos, if_neg, IntWalk.i64_in, Int.tdiv_eq_ediv_of_nonneg, Int.tmod_eq_emod_of_nonneg]) | ((with_reducible refine CallP.chk (f := 50) ?_); (refine' CallP.sf ?_ (hlt) ?_); (focus first | (with_reducible exact simL_refl _) | (simp [simL, simA, simA_refl, simL_refl]; done))) | (with_reducible refine fin_r ?_ ?_ ?_) | (with_reducible exact SameB.rfl_ _ _) | (with_reducible refine SameB.upd ?_ ?_ _) | (with_reducible assumption) | (with_reducible refine newPM_of ?_) | (with_reducible refine newSM_of ?_) | (with_reducible refine newP_go ?_) | (with_reducible refine newS_go ?_) | (with_reducible refine newB_own ?_) | (with_reducible intro _g _hg) | (with_reducible refine And.intro ?_ ?_) | (with_reducible intro _hc) | omega)
            refine LoopK.go (fun m st => ∃ (q : Nat) (acc : Int), q + m = w ∧ st = ⟨[(0, .str s), (1, .str p), (4, .ptr g4 0), (5, .ptr g5 0), (6, slF g6), (7, .bool conf), (8, aI ((i + q : Nat) : Int)), (9, aI ((k : Int) + 1)), (10, aI j), (11, aI acc), (13, aI q)], n1, H1⟩ ∧ i + q ≤ s.length ∧ 0 ≤ acc ∧ acc < 10 ^ q ∧
              numW w 0 (s.drop i) i = numW m acc (s.drop (i + q)) (i + q)) w ⟨0, 0, by omega, rfl, by omega, by omega, by decide, rfl⟩ ?_
            rintro m2 st ⟨q, acc, hq, rfl, hiq, h0, hacc, hE⟩ J2 hJ2
            cases m2 with
            | zero =>
              have hqw : ¬ (q : Int) < (b.toNat : Int) - 48 := by omega
              simp only [numW] at hE
              have fj := finJ acc _ _ hE h0
              
              repeat' (first | (simp -implicitDefEqProofs [c40_L23_go, -getElem?_pos, hb, hqw]) | (simp (disch := omega) only [upd_ne, xz4f, if_pos, if_neg, IntWalk.i64_in, Int.tdiv_eq_ediv_of_nonneg, Int.tmod_eq_emod_of_nonneg]) | (with_reducible refine fin_r ?_ ?_ ?_) | (with_reducible exact SameB.rfl_ _ _) | (with_reducible refine SameB.upd ?_ ?_ _) | (with_reducible assumption) | (with_reducible refine newPM_of ?_) | (with_reducible refine newSM_of ?_) | (with_reducible refine newP_go ?_) | (with_reducible refine newS_go ?_) | (with_reducible refine newB_own ?_) | (with_reducible intro _g _hg) | (with_reducible refine And.intro ?_ ?_) | (with_reducible intro _hc) | omega)
              refine read_k16 hj12 hF q6 rfl rfl rfl rfl rfl rfl rfl rfl rfl rfl fun e' e0 e1 e4 e5 e6 e7 e8 e9 => ?_
              
              repeat' (first | (simp -implicitDefEqProofs [c40_k14_go, -getElem?_pos, e0, e1, e4, e5, e6, e7, e8, e9]) | (simp (disch := omega) only [upd_ne, xz4f, if_pos, if_neg, IntWalk.i64_in, Int.tdiv_eq_ediv_of_nonneg, Int.tmod_eq_emod_of_nonneg]) | (with_reducible refine fin_r ?_ ?_ ?_) | (with_reducible exact SameB.rfl_ _ _) | (with_reducible refine SameB.upd ?_ ?_ _) | (with_reducible assumption) | (with_reducible refine newPM_of ?_) | (with_reducible refine newSM_of ?_) | (with_reducible refine newP_go ?_) | (with_reducible refine newS_go ?_) | (with_reducible refine newB_own ?_) | (with_reducible intro _g _hg) | (with_reducible refine And.intro ?_ ?_) | (with_reducible intro _hc) | omega)
              exact fj
            | succ m2 =>
              have hqw : (q : Int) < (b.toNat : Int) - 48 := by omega
              have hp10 := pow_le (show q ≤ 3 by omega)
              have hps : (10 : Int) ^ (q + 1) = 10 ^ q * 10 := Int.pow_succ 10 q
              rcases hds : s.drop (i + q) with _ | ⟨x, t⟩
              · have hil : i + q = s.length := by have := drop_none hds; omega
                have hil' : (i : Int) + q = s.length := by omega
                rw [hds] at hE
                simp only [numW] at hE
                rw [finB none _ hE]
                
                repeat' (first | (simp -implicitDefEqProofs [c40_L23_go, c40_k22_go, -getElem?_pos, hb, hqw, hil', q4, q5, splice]) | (simp (disch := omega) only [upd_ne, xz4f, if_pos, if_neg, IntWalk.i64_in, Int.tdiv_eq_ediv_of_nonneg, Int.tmod_eq_emod_of_nonneg]) | ((with_reducible refine CallP.chk (f := 66) ?_); (refine' CallP.sf ?_ (digit_a _) ?_); (focus first | (with_reducible exact simL_refl _) | (simp [simL, simA, simA_refl, simL_refl]; done))) | ((with_reducible refine CallP.chk (f := 29) ?_); (refine' CallP.sf ?_ (at_a _ _) ?_); (focus first | (with_reducible exact simL_refl _) | (simp [simL, simA, simA_refl, simL_refl]; done))) | (with_reducible refine fin_r ?_ ?_ ?_) | (with_reducible exact SameB.rfl_ _ _) | (with_reducible refine SameB.upd ?_ ?_ _) | (with_reducible assumption) | (with_reducible refine newPM_of ?_) | (with_reducible refine newSM_of ?_) | (with_reducible refine newP_go ?_) | (with_reducible refine newS_go ?_) | (with_reducible refine newB_own ?_) | (with_reducible intro _g _hg) | (with_reducible refine And.intro ?_ ?_) | (with_reducible intro _hc) | omega)
                all_goals exact simA_refl _
              · obtain ⟨hx, hxs, hxl⟩ := drop_cons hds
                have hil' : ¬ (i : Int) + q = s.length := by omega
                have htn : ((i : Int) + q).toNat = i + q := by omega
                have hpos : (0 : Int) ≤ (i : Int) + q := by omega
                have hdx := digit_a x
                rw [hds] at hE
                simp only [numW] at hE
                by_cases hdg : digB x = true
                · rw [if_pos hdg] at hE
                  rw [hdg] at hdx
                  have hdg2 : 48 ≤ x.toNat ∧ x.toNat ≤ 57 := by simpa [digB] using hdg
                  
                  repeat' (first | (simp -implicitDefEqProofs [c40_L23_go, c40_k22_go, c40_k21_go, c40_k20_go, -getElem?_pos, hb, hqw, hil', htn, hpos, hx]) | (simp (disch := omega) only [upd_ne, xz4f, if_pos, if_neg, IntWalk.i64_in, Int.tdiv_eq_ediv_of_nonneg, Int.tmod_eq_emod_of_nonneg]) | ((with_reducible refine CallP.chk (f := 66) ?_); (refine' CallP.sf ?_ (hdx) ?_); (focus first | (with_reducible exact simL_refl _) | (simp [simL, simA, simA_refl, simL_refl]; done))) | ((with_reducible refine CallP.chk (f := 29) ?_); (refine' CallP.sf ?_ (at_a _ _) ?_); (focus first | (with_reducible exact simL_refl _) | (simp [simL, simA, simA_refl, simL_refl]; done))) | (with_reducible refine fin_r ?_ ?_ ?_) | (with_reducible exact SameB.rfl_ _ _) | (with_reducible refine SameB.upd ?_ ?_ _) | (with_reducible assumption) | (with_reducible refine newPM_of ?_) | (with_reducible refine newSM_of ?_) | (with_reducible refine newP_go ?_) | (with_reducible refine newS_go ?_) | (with_reducible refine newB_own ?_) | (with_reducible intro _g _hg) | (with_reducible refine And.intro ?_ ?_) | (with_reducible intro _hc) | omega)
                  exact hJ2 m2 _ (by omega) ⟨q + 1, 10 * acc + ((x.toNat : Int) - 48), by omega, by simp [Int.add_assoc, Int.add_sub_assoc], by omega, by omega, by omega, by rw [hE, ← hxs]; rfl⟩
                · rw [if_neg hdg] at hE
                  have hdg : digB x = false := by simpa using hdg
                  rw [hdg] at hdx
                  rw [finB none _ hE]
                  
                  repeat' (first | (simp -implicitDefEqProofs [c40_L23_go, c40_k22_go, -getElem?_pos, hb, hqw, hil', htn, hpos, hx, q4, q5, splice]) | (simp (disch := omega) only [upd_ne, xz4f, if_pos, if_neg, IntWalk.i64_in, Int.tdiv_eq_ediv_of_nonneg, Int.tmod_eq_emod_of_nonneg]) | ((with_reducible refine CallP.chk (f := 66) ?_); (refine' CallP.sf ?_ (hdx) ?_); (focus first | (with_reducible exact simL_refl _) | (simp [simL, simA, simA_refl, simL_refl]; done))) | ((with_reducible refine CallP.chk (f := 29) ?_); (refine' CallP.sf ?_ (at_a _ _) ?_); (focus first | (with_reducible exact simL_refl _) | (simp [simL, simA, simA_refl, simL_refl]; done))) | (with_reducible refine fin_r ?_ ?_ ?_) | (with_reducible exact SameB.rfl_ _ _) | (with_reducible refine SameB.upd ?_ ?_ _) | (with_reducible assumption) | (with_reducible refine newPM_of ?_) | (with_reducible refine newSM_of ?_) | (with_reducible refine newP_go ?_) | (with_reducible refine newS_go ?_) | (with_reducible refine newB_own ?_) | (with_reducible intro _g _hg) | (with_reducible refine And.intro ?_ ?_) | (with_reducible intro _hc) | omega)
                  all_goals exact simA_refl _
          · -- words
            have hj10 : (10 : Int) ≤ j := by omega
            have names : ∀ (L : List Str) (T : Str), L.length ≤ 100 → (∀ x, x.length = 3 → APure Tryd.prog 65 [.str T, .str x] (aI (idxI (idxW x L)))) → (∀ x ∈ L, x.length = 3) → dirW j (s.drop i) i = (match namW L (s.drop i) with | some j => (some ((j : Int) + 1, (s.drop i).drop 3), i + 3) | none => (none, i)) →
                ∀ e, get e 0 = .str s → get e 1 = .str p → get e 4 = .ptr g4 0 → get e 5 = .ptr g5 0 → get e 6 = slF g6 → get e 7 = .bool conf → get e 8 = aI i → get e 9 = aI ((k : Int) + 1) → get e 10 = aI j → get e 11 = aI (-1) → get e 12 = .str T →
                aw Tryd.prog c40_k19 (thenA (aw Tryd.prog c40_k16 (blockA 1 (thenA (aw Tryd.prog c40_k14 (keepQ [0, 1, 4, 5, 6, 7, 8, 9] (thenA J (blockA 0 (thenA (aw Tryd.prog c40_k13 (parF (readS s p) n H)) (parF (readS s p) n H)))))) (keepQ [0, 1, 4, 5, 6, 7, 8, 9] (thenA J (blockA 0 (thenA (aw Tryd.prog c40_k13 (parF (readS s p) n H)) (parF (readS s p) n H)))))))) (blockA 1 (thenA (aw Tryd.prog c40_k14 (keepQ [0, 1, 4, 5, 6, 7, 8, 9] (thenA J (blockA 0 (thenA (aw Tryd.prog c40_k13 (parF (readS s p) n H)) (parF (readS s p) n H)))))) (keepQ [0, 1, 4, 5, 6, 7, 8, 9] (thenA J (blockA 0 (thenA (aw Tryd.prog c40_k13 (parF (readS s p) n H)) (parF (readS s p) n H)))))))) ⟨e, n1, H1⟩ := by
              intro L T hLl hW hL3 hdw e e0 e1 e4 e5 e6 e7 e8 e9 e10 e11 e12
              by_cases hi3 : i + 3 ≤ s.length
              · have hi3' : (i : Int) + 3 ≤ s.length := by omega
                have hk3 : ((i : Int) + 3).toNat = i + 3 := by omega
                have hcut : (s.take (i + 3)).drop i = (s.drop i).take 3 := by rw [List.drop_take, show i + 3 - i = 3 by omega]
                have hx3 : ((s.drop i).take 3).length = 3 := by simp; omega
                have hw := hW _ hx3
                rw [namW_idx (by simp; omega) L hL3] at hdw
                cases hq : idxW ((s.drop i).take 3) L with
                | none =>
                  rw [hq] at hw hdw
                  have hw : APure Tryd.prog 65 [.str T, .str ((s.drop i).take 3)] (aI (-1)) := hw
                  rw [finB none _ hdw]
                  generalize (s.drop i).take 3 = x at *
                  
                  repeat' (first | (simp -implicitDefEqProofs [c40_k19_go, c40_k18_go, -getElem?_pos, e0, e1, e4, e5, e6, e7, e8, e9, e10, e11, e12, hi3, hi3', hk3, hcut, q4, q5, splice]) | (simp (disch := omega) only [upd_ne, xz4f, if_pos, if_neg, IntWalk.i64_in, Int.tdiv_eq_ediv_of_nonneg, Int.tmod_eq_emod_of_nonneg]) | ((with_reducible refine CallP.chk (f := 65) ?_); (refine' CallP.sf ?_ (hw) ?_); (focus first | (with_reducible exact simL_refl _) | (simp [simL, simA, simA_refl, simL_refl]; done))) | ((with_reducible refine CallP.chk (f := 29) ?_); (refine' CallP.sf ?_ (at_a _ _) ?_); (focus first | (with_reducible exact simL_refl _) | (simp [simL, simA, simA_refl, simL_refl]; done))) | (with_reducible refine fin_r ?_ ?_ ?_) | (with_reducible exact SameB.rfl_ _ _) | (with_reducible refine SameB.upd ?_ ?_ _) | (with_reducible assumption) | (with_reducible refine newPM_of ?_) | (with_reducible refine newSM_of ?_) | (with_reducible refine newP_go ?_) | (with_reducible refine newS_go ?_) | (with_reducible refine newB_own ?_) | (with_reducible intro _g _hg) | (with_reducible refine And.intro ?_ ?_) | (with_reducible intro _hc) | omega)
                  all_goals exact simA_refl _
                | some y =>
                  rw [hq] at hw hdw
                  have hw : APure Tryd.prog 65 [.str T, .str ((s.drop i).take 3)] (aI y) := hw
                  have hyb : (y : Int) ≤ 100 := by
                    have : ∀ (L : List Str) (x : Str) (y : Nat), idxW x L = some y → y < L.length := by
                      intro L x
                      induction L with
                      | nil => intro y h; cases h
                      | cons w L ih =>
                        intro y h
                        simp only [idxW] at h
                        split at h
                        · injection h with h; simp only [List.length_cons]; omega
                        · obtain ⟨y', h1, h2⟩ := Option.map_eq_some_iff.1 h
                          have := ih y' h1
                          simp only [List.length_cons]; omega
                    have := this L _ y hq
                    omega
                  have fj := finJ _ _ _ hdw (by omega)
                  generalize (s.drop i).take 3 = x at *
                  
                  repeat' (first | (simp -implicitDefEqProofs [c40_k19_go, c40_k18_go, c40_k17_go, -getElem?_pos, e0, e1, e4, e5, e6, e7, e8, e9, e10, e11, e12, hi3, hi3', hk3, hcut]) | (simp (disch := omega) only [upd_ne, xz4f, if_pos, if_neg, IntWalk.i64_in, Int.tdiv_eq_ediv_of_nonneg, Int.tmod_eq_emod_of_nonneg]) | ((with_reducible refine CallP.chk (f := 65) ?_); (refine' CallP.sf ?_ (hw) ?_); (focus first | (with_reducible exact simL_refl _) | (simp [simL, simA, simA_refl, simL_refl]; done))) | ((with_reducible refine CallP.chk (f := 29) ?_); (refine' CallP.sf ?_ (at_a _ _) ?_); (focus first | (with_reducible exact simL_refl _) | (simp [simL, simA, simA_refl, simL_refl]; done))) | (with_reducible refine fin_r ?_ ?_ ?_) | (with_reducible exact SameB.rfl_ _ _) | (with_reducible refine SameB.upd ?_ ?_ _) | (with_reducible assumption) | (with_reducible refine newPM_of ?_) | (with_reducible refine newSM_of ?_) | (with_reducible refine newP_go ?_) | (with_reducible refine newS_go ?_) | (with_reducible refine newB_own ?_) | (with_reducible intro _g _hg) | (with_reducible refine And.intro ?_ ?_) | (with_reducible intro _hc) | omega)
                  refine read_k16 hj12 hF q6 rfl rfl rfl rfl rfl rfl rfl rfl rfl rfl fun e' e0 e1 e4 e5 e6 e7 e8 e9 => ?_
                  
                  repeat' (first | (simp -implicitDefEqProofs [c40_k14_go, -getElem?_pos, e0, e1, e4, e5, e6, e7, e8, e9]) | (simp (disch := omega) only [upd_ne, xz4f, if_pos, if_neg, IntWalk.i64_in, Int.tdiv_eq_ediv_of_nonneg, Int.tmod_eq_emod_of_nonneg]) | (with_reducible refine fin_r ?_ ?_ ?_) | (with_reducible exact SameB.rfl_ _ _) | (with_reducible refine SameB.upd ?_ ?_ _) | (with_reducible assumption) | (with_reducible refine newPM_of ?_) | (with_reducible refine newSM_of ?_) | (with_reducible refine newP_go ?_) | (with_reducible refine newS_go ?_) | (with_reducible refine newB_own ?_) | (with_reducible intro _g _hg) | (with_reducible refine And.intro ?_ ?_) | (with_reducible intro _hc) | omega)
                  exact fj
              · have hi3' : ¬ (i : Int) + 3 ≤ s.length := by omega
                have hn : namW L (s.drop i) = none := by
                  cases hq : namW L (s.drop i) with
                  | none => rfl
                  | some y => have := namW_len L _ y hL3 hq; simp only [List.length_drop] at this; omega
                rw [hn] at hdw
                rw [finB none _ hdw]
                
                repeat' (first | (simp -implicitDefEqProofs [c40_k19_go, c40_k18_go, -getElem?_pos, e0, e1, e4, e5, e6, e7, e8, e9, e10, e11, e12, hi3', q4, q5, splice]) | (simp (disch := omega) only [upd_ne, xz4f, if_pos, if_neg, IntWalk.i64_in, Int.tdiv_eq_ediv_of_nonneg, Int.tmod_eq_emod_of_nonneg]) | ((with_reducible refine CallP.chk (f := 29) ?_); (refine' CallP.sf ?_ (at_a _ _) ?_); (focus first | (with_reducible exact simL_refl _) | (simp [simL, simA, simA_refl, simL_refl]; done))) | (with_reducible refine fin_r ?_ ?_ ?_) | (with_reducible exact SameB.rfl_ _ _) | (with_reducible refine SameB.upd ?_ ?_ _) | (with_reducible assumption) | (with_reducible refine newPM_of ?_) | (with_reducible refine newSM_of ?_) | (with_reducible refine newP_go ?_) | (with_reducible refine newS_go ?_) | (with_reducible refine newB_own ?_) | (with_reducible intro _g _hg) | (with_reducible refine And.intro ?_ ?_) | (with_reducible intro _hc) | omega)
                all_goals exact simA_refl _
            rcases (by omega : j = 10 ∨ j = 11) with rfl | rfl
            · 
              repeat' (first | (simp -implicitDefEqProofs [c40_L32_go, c40_k31_go, c40_t30_go, c40_k29_go, c40_k26_go, c40_t24_go, -getElem?_pos, hkl', hc, hc2, hk1, hk0]) | (simp (disch := omega) only [upd_ne, xz4f, if_pos, if_neg, IntWalk.i64_in, Int.tdiv_eq_ediv_of_nonneg, Int.tmod_eq_emod_of_nonneg]) | ((with_reducible refine CallP.chk (f := 50) ?_); (refine' CallP.sf ?_ (hlt) ?_); (focus first | (with_reducible exact simL_refl _) | (simp [simL, simA, simA_refl, simL_refl]; done))) | (with_reducible refine fin_r ?_ ?_ ?_) | (with_reducible exact SameB.rfl_ _ _) | (with_reducible refine SameB.upd ?_ ?_ _) | (with_reducible assumption) | (with_reducible refine newPM_of ?_) | (with_reducible refine newSM_of ?_) | (with_reducible refine newP_go ?_) | (with_reducible refine newS_go ?_) | (with_reducible refine newB_own ?_) | (with_reducible intro _g _hg) | (with_reducible refine And.intro ?_ ?_) | (with_reducible intro _hc) | omega)
              exact names daysL daysT (by decide) (fun x hx => word_a daysT daysL (by decide) (by decide) daysT_ok x hx) days3 rfl _ rfl rfl rfl rfl rfl rfl rfl rfl rfl rfl rfl
            · 
              repeat' (first | (simp -implicitDefEqProofs [c40_L32_go, c40_k31_go, c40_t30_go, c40_k29_go, c40_k26_go, c40_t24_go, -getElem?_pos, hkl', hc, hc2, hk1, hk0]) | (simp (disch := omega) only [upd_ne, xz4f, if_pos, if_neg, IntWalk.i64_in, Int.tdiv_eq_ediv_of_nonneg, Int.tmod_eq_emod_of_nonneg]) | ((with_reducible refine CallP.chk (f := 50) ?_); (refine' CallP.sf ?_ (hlt) ?_); (focus first | (with_reducible exact simL_refl _) | (simp [simL, simA, simA_refl, simL_refl]; done))) | (with_reducible refine fin_r ?_ ?_ ?_) | (with_reducible exact SameB.rfl_ _ _) | (with_reducible refine SameB.upd ?_ ?_ _) | (with_reducible assumption) | (with_reducible refine newPM_of ?_) | (with_reducible refine newSM_of ?_) | (with_reducible refine newP_go ?_) | (with_reducible refine newS_go ?_) | (with_reducible refine newB_own ?_) | (with_reducible intro _g _hg) | (with_reducible refine And.intro ?_ ?_) | (with_reducible intro _hc) | omega)
              exact names monthsL monthsT (by decide) (fun x hx => word_a monthsT monthsL (by decide) (by decide) monthsT_ok x hx) months3 rfl _ rfl rfl rfl rfl rfl rfl rfl rfl rfl rfl rfl
    · rw [readG_lit hp] at hE
      have hpk2 : patOk cs = true := by
        cases cs with
        | nil => rfl
        | cons c2 cs => simpa [patOk, hp] using hpk
      have h37 : ¬ (c.toNat : Int) = 37 := fun e => hp ((u8n 37 rfl).1 e)
      rcases hs : s.drop i with _ | ⟨x, t⟩
      · have hil : i = s.length := by have := drop_none hs; omega
        have hil' : (i : Int) = s.length := by omega
        rw [hs] at hE
        rw [readS_inl hE]
        
        repeat' (first | (simp -implicitDefEqProofs [c40_L32_go, c40_k31_go, c40_k29_go, c40_t28_go, -getElem?_pos, hkl', hc, h37, hil', q4, q5, splice]) | (simp (disch := omega) only [upd_ne, xz4f, if_pos, if_neg, IntWalk.i64_in, Int.tdiv_eq_ediv_of_nonneg, Int.tmod_eq_emod_of_nonneg]) | ((with_reducible refine CallP.chk (f := 29) ?_); (refine' CallP.sf ?_ (at_a _ _) ?_); (focus first | (with_reducible exact simL_refl _) | (simp [simL, simA, simA_refl, simL_refl]; done))) | (with_reducible refine fin_r ?_ ?_ ?_) | (with_reducible exact SameB.rfl_ _ _) | (with_reducible refine SameB.upd ?_ ?_ _) | (with_reducible assumption) | (with_reducible refine newPM_of ?_) | (with_reducible refine newSM_of ?_) | (with_reducible refine newP_go ?_) | (with_reducible refine newS_go ?_) | (with_reducible refine newB_own ?_) | (with_reducible intro _g _hg) | (with_reducible refine And.intro ?_ ?_) | (with_reducible intro _hc) | omega)
        all_goals exact simA_refl _
      · obtain ⟨hx, hxs, hxl⟩ := drop_cons hs
        have hil' : ¬ (i : Int) = s.length := by omega
        rw [hs] at hE
        simp only [litW] at hE
        by_cases hxc : x = c
        · subst hxc
          rw [if_pos rfl] at hE
          
          repeat' (first | (simp -implicitDefEqProofs [c40_L32_go, c40_k31_go, c40_k29_go, c40_t28_go, c40_k27_go, c40_k14_go, -getElem?_pos, hkl', hc, h37, hil', hx]) | (simp (disch := omega) only [upd_ne, xz4f, if_pos, if_neg, IntWalk.i64_in, Int.tdiv_eq_ediv_of_nonneg, Int.tmod_eq_emod_of_nonneg]) | ((with_reducible refine CallP.chk (f := 29) ?_); (refine' CallP.sf ?_ (at_a _ _) ?_); (focus first | (with_reducible exact simL_refl _) | (simp [simL, simA, simA_refl, simL_refl]; done))) | (with_reducible refine fin_r ?_ ?_ ?_) | (with_reducible exact SameB.rfl_ _ _) | (with_reducible refine SameB.upd ?_ ?_ _) | (with_reducible assumption) | (with_reducible refine newPM_of ?_) | (with_reducible refine newSM_of ?_) | (with_reducible refine newP_go ?_) | (with_reducible refine newS_go ?_) | (with_reducible refine newB_own ?_) | (with_reducible intro _g _hg) | (with_reducible refine And.intro ?_ ?_) | (with_reducible intro _hc) | omega)
          exact hJ (p.length - (k + 1)) _ (by omega) ⟨k + 1, i + 1, conf, F, H1, by omega, rfl, hF, by omega, by omega, by rw [hE, hcs, hxs], by rw [hcs]; exact hpk2, q4, q5, q6, hsame, hsup⟩
        · rw [if_neg hxc] at hE
          have hxc' : ¬ (x.toNat : Int) = c.toNat := fun e => hxc (UInt8.toNat_inj.1 (by omega))
          rw [readS_inl hE]
          
          repeat' (first | (simp -implicitDefEqProofs [c40_L32_go, c40_k31_go, c40_k29_go, c40_t28_go, -getElem?_pos, hkl', hc, h37, hil', hx, hxc', q4, q5, splice]) | (simp (disch := omega) only [upd_ne, xz4f, if_pos, if_neg, IntWalk.i64_in, Int.tdiv_eq_ediv_of_nonneg, Int.tmod_eq_emod_of_nonneg]) | ((with_reducible refine CallP.chk (f := 29) ?_); (refine' CallP.sf ?_ (at_a _ _) ?_); (focus first | (with_reducible exact simL_refl _) | (simp [simL, simA, simA_refl, simL_refl]; done))) | (with_reducible refine fin_r ?_ ?_ ?_) | (with_reducible exact SameB.rfl_ _ _) | (with_reducible refine SameB.upd ?_ ?_ _) | (with_reducible assumption) | (with_reducible refine newPM_of ?_) | (with_reducible refine newSM_of ?_) | (with_reducible refine newP_go ?_) | (with_reducible refine newS_go ?_) | (with_reducible refine newB_own ?_) | (with_reducible intro _g _hg) | (with_reducible refine And.intro ?_ ?_) | (with_reducible intro _hc) | omega)
          all_goals exact simA_refl _
end Go.Proofs.YtnmkpadgogbgkaaDoor

/- The text of a moment as the program writes it, on plain data; no condition. -/
import Derived.Test.YtnmkpadgogbgkaaDoorMdO
import Derived.Test.YtnmkpadgogbgkaaDoorMgE
import Derived.Test.YtnmkpadgogbgkaaDoorMdB
set_option linter.all false
set_option linter.unusedSimpArgs false
set_option linter.unusedVariables false
namespace Go.Proofs.YtnmkpadgogbgkaaDoor
/-- the function of a directive -/
abbrev dirFn : List Nat := [71, 72, 73, 74, 75, 76, 77, 79, 80, 70, 70, 81]
abbrev nmA (k : Nat) : AV := if k = 10 then .sl 1 (daysL.map AV.str) .ro else if k = 11 then .sl 1 (monthsL.map AV.str) .ro else .sl 0 [] .nil
def dirMap : List (AV × AV) := (List.range 12).map fun k => (.int .u8 ((lettersL.getD k 0).toNat : Nat), .agg [.int .i64 ((widthsL.getD k 0 : Nat)), nmA k, .fn (dirFn.getD k 0) [] []])
theorem dirMap_eq : dirMap = [(.int .u8 89, .agg [aI 4, .sl 0 [] .nil, .fn 71 [] []]), (.int .u8 109, .agg [aI 2, .sl 0 [] .nil, .fn 72 [] []]), (.int .u8 100, .agg [aI 2, .sl 0 [] .nil, .fn 73 [] []]),
    (.int .u8 72, .agg [aI 2, .sl 0 [] .nil, .fn 74 [] []]), (.int .u8 77, .agg [aI 2, .sl 0 [] .nil, .fn 75 [] []]), (.int .u8 83, .agg [aI 2, .sl 0 [] .nil, .fn 76 [] []]),
    (.int .u8 106, .agg [aI 3, .sl 0 [] .nil, .fn 77 [] []]), (.int .u8 71, .agg [aI 4, .sl 0 [] .nil, .fn 79 [] []]), (.int .u8 86, .agg [aI 2, .sl 0 [] .nil, .fn 80 [] []]),
    (.int .u8 117, .agg [aI 1, .sl 0 [] .nil, .fn 70 [] []]), (.int .u8 97, .agg [aI 0, .sl 1 (daysL.map AV.str) .ro, .fn 70 [] []]), (.int .u8 98, .agg [aI 0, .sl 1 (monthsL.map AV.str) .ro, .fn 81 [] []])] := by rfl
theorem dirMap_find {c : UInt8} {k : Nat} (h : lettersL[k]? = some c) : mfind (.int .u8 c.toNat) dirMap = some (.agg [.int .i64 ((widthsL.getD k 0 : Nat)), nmA k, .fn (dirFn.getD k 0) [] []]) := by
  have hk := (List.getElem?_eq_some_iff.1 h).1
  have hk12 : k < 12 := hk
  rw [dirMap_eq]
  rcases (by omega : k = 0 ∨ k = 1 ∨ k = 2 ∨ k = 3 ∨ k = 4 ∨ k = 5 ∨ k = 6 ∨ k = 7 ∨ k = 8 ∨ k = 9 ∨ k = 10 ∨ k = 11) with rfl | rfl | rfl | rfl | rfl | rfl | rfl | rfl | rfl | rfl | rfl | rfl <;> (injection h with h; subst h; rfl)
attribute [local simp] xz00 aw_reg aw_seq xz01 xz02 xz03 xz04 aw_ret aw_bad aw_kp aw_ke xz05 xz06 xz07 xz08 xz09 xz0a xz0b xz0c xz0d xz0e xz0f xz0g xz0h xz0i scV pe xz0j xz0k xz0l xz0m xz0n xz0o xz0p xz0q xz0r xz0s xz0t spg_mv xz0u xz0v xz0w xz0x xz0y xz0z xz10 xz11 xz12 xz13 xz14 xz15 xz16 xz17 xz18 xz19 xz1a xz1b xz1c xz1d xz1e spg_mm xz1f spm_mv xz1g xz1h xz1i xz1j xz1k xz1l xz1m xz1n xz1o xz1p xz1q xz1r xz1s xz1t xz1u xz1v xz1w xz1x xz1y xz1z xz20 xz21 xz22 xz23 xz24 spm_mm xz25 xz26 xz27 xz28 xz29 xz2a xz2b xz2c xz2d xz2e xz2f xz2g xz2h xz2i xz2j xz2k xz2l xz2m xz2n xz2o xz2p xz2q xz2r xz2s List.mem_cons guardK guardJ anyE undE op_mv xz2t op_bin op_eqs op_eqb op_eqn op_eqp op_eqi op_neg op_not op_cvi xz2u xz2v op_cut xz2w xz2x xz2y xz2z xz30 xz31 op_len xz32 xz33 xz34 xz35 xz36 xz37 op_mm op_b2s op_r2s op_upc op_usd xz38 xz39 op_ust xz3a op_box xz3b op_bsl op_app xz3c op_s2b op_s2s xz3d xz3e xz3f xz3g xz3h xz3i xz3j xz3k ngV eqsV eqbV negV notV cviV fieldV sidxV aidxV xz3l lenSV extrV nilckV buildV mmV b2sV r2sV eqppV s2bK s2sK msetS mgetV keyOkK mfind msetL keyEq callvK ev get put putO keepE xz3m xz3n xz3o xz3p xz3q xz3r condK part loadAV xz3s xz3t xz3u isNil isNilP isNilI binAV intBin strBin xz3v xz3w xz3x xz3y xz3z xz40 xz41 xz42 xz43 xz44 xz45 xz46 xz47 xz48 xz49 xz4a AV.fits AV.cells ones AV.one upcAV updnAV usdAV ustAV cutB cutSV xz4b xz4c xz4d xz4e resOf resVs resV argE xz4f shpSz u8e u8lit xz4g xz4h List.getElem?_cons_zero List.getElem?_cons_succ op_rng op_nxt op_ent xz4i xz4j xz4k entV xz4l xz4m xz4n xz4o xz4p xz4q
theorem dirFn_a (a : Mo) (h : a.ok) (k : Nat) (hk : k < 12) : APure Tryd.prog (dirFn.getD k 0) [aM a] (aI (fldV a k)) := by
  have hw := week_a a h
  have hd := dayNumber_a a h
  have hb := h.dayB
  have hwd := weekday_a a.day (by omega)
  have hj := dayOfYear_a a.y a.m a.d (by have := h.1; omega) ⟨h.2.2.1, h.2.2.2.1⟩ (by have := h.2.2.2.2.1; have := h.2.2.2.2.2.1; have := dom_pos a.y a.m; omega)
  unfold fldV
  rcases (by omega : k = 0 ∨ k = 1 ∨ k = 2 ∨ k = 3 ∨ k = 4 ∨ k = 5 ∨ k = 6 ∨ k = 7 ∨ k = 8 ∨ k = 9 ∨ k = 10 ∨ k = 11) with rfl | rfl | rfl | rfl | rfl | rfl | rfl | rfl | rfl | rfl | rfl | rfl
  · show APure Tryd.prog 71 _ _
    refine apure_intro Tryd.func71 cmp71 rfl fun n H hH => ?_
    repeat' (first | (simp -implicitDefEqProofs [c71, -getElem?_pos, simA]) | (simp (disch := omega) only [upd_ne, xz4f, if_pos, if_neg, IntWalk.i64_in, Int.tdiv_eq_ediv_of_nonneg, Int.tmod_eq_emod_of_nonneg]) | (with_reducible refine fin_r ?_ ?_ ?_) | (with_reducible exact SameB.rfl_ _ _) | (with_reducible refine SameB.upd ?_ ?_ _) | (with_reducible assumption) | (with_reducible refine newPM_of ?_) | (with_reducible refine newP_go ?_) | (with_reducible intro _g _hg) | (with_reducible refine And.intro ?_ ?_) | (with_reducible intro _hc) | omega)
    all_goals rfl
  · show APure Tryd.prog 72 _ _
    refine apure_intro Tryd.func72 cmp72 rfl fun n H hH => ?_
    repeat' (first | (simp -implicitDefEqProofs [c72, -getElem?_pos, simA]) | (simp (disch := omega) only [upd_ne, xz4f, if_pos, if_neg, IntWalk.i64_in, Int.tdiv_eq_ediv_of_nonneg, Int.tmod_eq_emod_of_nonneg]) | (with_reducible refine fin_r ?_ ?_ ?_) | (with_reducible exact SameB.rfl_ _ _) | (with_reducible refine SameB.upd ?_ ?_ _) | (with_reducible assumption) | (with_reducible refine newPM_of ?_) | (with_reducible refine newP_go ?_) | (with_reducible intro _g _hg) | (with_reducible refine And.intro ?_ ?_) | (with_reducible intro _hc) | omega)
    all_goals rfl
  · show APure Tryd.prog 73 _ _
    refine apure_intro Tryd.func73 cmp73 rfl fun n H hH => ?_
    repeat' (first | (simp -implicitDefEqProofs [c73, -getElem?_pos, simA]) | (simp (disch := omega) only [upd_ne, xz4f, if_pos, if_neg, IntWalk.i64_in, Int.tdiv_eq_ediv_of_nonneg, Int.tmod_eq_emod_of_nonneg]) | (with_reducible refine fin_r ?_ ?_ ?_) | (with_reducible exact SameB.rfl_ _ _) | (with_reducible refine SameB.upd ?_ ?_ _) | (with_reducible assumption) | (with_reducible refine newPM_of ?_) | (with_reducible refine newP_go ?_) | (with_reducible intro _g _hg) | (with_reducible refine And.intro ?_ ?_) | (with_reducible intro _hc) | omega)
    all_goals rfl
  · show APure Tryd.prog 74 _ _
    refine apure_intro Tryd.func74 cmp74 rfl fun n H hH => ?_
    repeat' (first | (simp -implicitDefEqProofs [c74, -getElem?_pos, simA]) | (simp (disch := omega) only [upd_ne, xz4f, if_pos, if_neg, IntWalk.i64_in, Int.tdiv_eq_ediv_of_nonneg, Int.tmod_eq_emod_of_nonneg]) | (with_reducible refine fin_r ?_ ?_ ?_) | (with_reducible exact SameB.rfl_ _ _) | (with_reducible refine SameB.upd ?_ ?_ _) | (with_reducible assumption) | (with_reducible refine newPM_of ?_) | (with_reducible refine newP_go ?_) | (with_reducible intro _g _hg) | (with_reducible refine And.intro ?_ ?_) | (with_reducible intro _hc) | omega)
    all_goals rfl
  · show APure Tryd.prog 75 _ _
    refine apure_intro Tryd.func75 cmp75 rfl fun n H hH => ?_
    repeat' (first | (simp -implicitDefEqProofs [c75, -getElem?_pos, simA]) | (simp (disch := omega) only [upd_ne, xz4f, if_pos, if_neg, IntWalk.i64_in, Int.tdiv_eq_ediv_of_nonneg, Int.tmod_eq_emod_of_nonneg]) | (with_reducible refine fin_r ?_ ?_ ?_) | (with_reducible exact SameB.rfl_ _ _) | (with_reducible refine SameB.upd ?_ ?_ _) | (with_reducible assumption) | (with_reducible refine newPM_of ?_) | (with_reducible refine newP_go ?_) | (with_reducible intro _g _hg) | (with_reducible refine And.intro ?_ ?_) | (with_reducible intro _hc) | omega)
    all_goals rfl
  · show APure Tryd.prog 76 _ _
    refine apure_intro Tryd.func76 cmp76 rfl fun n H hH => ?_
    repeat' (first | (simp -implicitDefEqProofs [c76, -getElem?_pos, simA]) | (simp (disch := omega) only [upd_ne, xz4f, if_pos, if_neg, IntWalk.i64_in, Int.tdiv_eq_ediv_of_nonneg, Int.tmod_eq_emod_of_nonneg]) | (with_reducible refine fin_r ?_ ?_ ?_) | (with_reducible exact SameB.rfl_ _ _) | (with_reducible refine SameB.upd ?_ ?_ _) | (with_reducible assumption) | (with_reducible refine newPM_of ?_) | (with_reducible refine newP_go ?_) | (with_reducible intro _g _hg) | (with_reducible refine And.intro ?_ ?_) | (with_reducible intro _hc) | omega)
    all_goals rfl
  · show APure Tryd.prog 77 _ _
    refine apure_intro Tryd.func77 cmp77 rfl fun n H hH => ?_
    repeat' (first | (simp -implicitDefEqProofs [c77, -getElem?_pos, simA]) | (simp (disch := omega) only [upd_ne, xz4f, if_pos, if_neg, IntWalk.i64_in, Int.tdiv_eq_ediv_of_nonneg, Int.tmod_eq_emod_of_nonneg]) | ((with_reducible refine CallP.chk (f := 78) ?_); (refine' CallP.sf ?_ (hj) ?_); (focus first | (with_reducible exact simL_refl _) | (simp [simL, simA, simA_refl, simL_refl]; done))) | (with_reducible refine fin_r ?_ ?_ ?_) | (with_reducible exact SameB.rfl_ _ _) | (with_reducible refine SameB.upd ?_ ?_ _) | (with_reducible assumption) | (with_reducible refine newPM_of ?_) | (with_reducible refine newP_go ?_) | (with_reducible intro _g _hg) | (with_reducible refine And.intro ?_ ?_) | (with_reducible intro _hc) | omega)
    all_goals rfl
  · show APure Tryd.prog 79 _ _
    refine apure_intro Tryd.func79 cmp79 rfl fun n H hH => ?_
    repeat' (first | (simp -implicitDefEqProofs [c79, -getElem?_pos, simA]) | (simp (disch := omega) only [upd_ne, xz4f, if_pos, if_neg, IntWalk.i64_in, Int.tdiv_eq_ediv_of_nonneg, Int.tmod_eq_emod_of_nonneg]) | ((with_reducible refine CallP.chk (f := 57) ?_); (refine' CallP.sf ?_ (hw) ?_); (focus first | (with_reducible exact simL_refl _) | (simp [simL, simA, simA_refl, simL_refl]; done))) | (with_reducible refine fin_r ?_ ?_ ?_) | (with_reducible exact SameB.rfl_ _ _) | (with_reducible refine SameB.upd ?_ ?_ _) | (with_reducible assumption) | (with_reducible refine newPM_of ?_) | (with_reducible refine newP_go ?_) | (with_reducible intro _g _hg) | (with_reducible refine And.intro ?_ ?_) | (with_reducible intro _hc) | omega)
    all_goals rfl
  · show APure Tryd.prog 80 _ _
    refine apure_intro Tryd.func80 cmp80 rfl fun n H hH => ?_
    repeat' (first | (simp -implicitDefEqProofs [c80, -getElem?_pos, simA]) | (simp (disch := omega) only [upd_ne, xz4f, if_pos, if_neg, IntWalk.i64_in, Int.tdiv_eq_ediv_of_nonneg, Int.tmod_eq_emod_of_nonneg]) | ((with_reducible refine CallP.chk (f := 57) ?_); (refine' CallP.sf ?_ (hw) ?_); (focus first | (with_reducible exact simL_refl _) | (simp [simL, simA, simA_refl, simL_refl]; done))) | (with_reducible refine fin_r ?_ ?_ ?_) | (with_reducible exact SameB.rfl_ _ _) | (with_reducible refine SameB.upd ?_ ?_ _) | (with_reducible assumption) | (with_reducible refine newPM_of ?_) | (with_reducible refine newP_go ?_) | (with_reducible intro _g _hg) | (with_reducible refine And.intro ?_ ?_) | (with_reducible intro _hc) | omega)
    all_goals rfl
  · show APure Tryd.prog 70 _ _
    refine apure_intro Tryd.func70 cmp70 rfl fun n H hH => ?_
    repeat' (first | (simp -implicitDefEqProofs [c70, -getElem?_pos, simA]) | (simp (disch := omega) only [upd_ne, xz4f, if_pos, if_neg, IntWalk.i64_in, Int.tdiv_eq_ediv_of_nonneg, Int.tmod_eq_emod_of_nonneg]) | ((with_reducible refine CallP.chk (f := 56) ?_); (refine' CallP.sf ?_ (hd) ?_); (focus first | (with_reducible exact simL_refl _) | (simp [simL, simA, simA_refl, simL_refl]; done))) | ((with_reducible refine CallP.chk (f := 55) ?_); (refine' CallP.sf ?_ (hwd) ?_); (focus first | (with_reducible exact simL_refl _) | (simp [simL, simA, simA_refl, simL_refl]; done))) | (with_reducible refine fin_r ?_ ?_ ?_) | (with_reducible exact SameB.rfl_ _ _) | (with_reducible refine SameB.upd ?_ ?_ _) | (with_reducible assumption) | (with_reducible refine newPM_of ?_) | (with_reducible refine newP_go ?_) | (with_reducible intro _g _hg) | (with_reducible refine And.intro ?_ ?_) | (with_reducible intro _hc) | omega)
    all_goals rfl
  · show APure Tryd.prog 70 _ _
    refine apure_intro Tryd.func70 cmp70 rfl fun n H hH => ?_
    repeat' (first | (simp -implicitDefEqProofs [c70, -getElem?_pos, simA]) | (simp (disch := omega) only [upd_ne, xz4f, if_pos, if_neg, IntWalk.i64_in, Int.tdiv_eq_ediv_of_nonneg, Int.tmod_eq_emod_of_nonneg]) | ((with_reducible refine CallP.chk (f := 56) ?_); (refine' CallP.sf ?_ (hd) ?_); (focus first | (with_reducible exact simL_refl _) | (simp [simL, simA, simA_refl, simL_refl]; done))) | ((with_reducible refine CallP.chk (f := 55) ?_); (refine' CallP.sf ?_ (hwd) ?_); (focus first | (with_reducible exact simL_refl _) | (simp [simL, simA, simA_refl, simL_refl]; done))) | (with_reducible refine fin_r ?_ ?_ ?_) | (with_reducible exact SameB.rfl_ _ _) | (with_reducible refine SameB.upd ?_ ?_ _) | (with_reducible assumption) | (with_reducible refine newPM_of ?_) | (with_reducible refine newP_go ?_) | (with_reducible intro _g _hg) | (with_reducible refine And.intro ?_ ?_) | (with_reducible intro _hc) | omega)
    all_goals rfl
  · show APure Tryd.prog 81 _ _
    refine apure_intro Tryd.func81 cmp81 rfl fun n H hH => ?_
    repeat' (first | (simp -implicitDefEqProofs [c81, -getElem?_pos, simA]) | (simp (disch := omega) only [upd_ne, xz4f, if_pos, if_neg, IntWalk.i64_in, Int.tdiv_eq_ediv_of_nonneg, Int.tmod_eq_emod_of_nonneg]) | (with_reducible refine fin_r ?_ ?_ ?_) | (with_reducible exact SameB.rfl_ _ _) | (with_reducible refine SameB.upd ?_ ?_ _) | (with_reducible assumption) | (with_reducible refine newPM_of ?_) | (with_reducible refine newP_go ?_) | (with_reducible intro _g _hg) | (with_reducible refine And.intro ?_ ?_) | (with_reducible intro _hc) | omega)
    all_goals rfl
theorem dirFn_call (k : Nat) (hk : k < 12) : callable Tryd.prog (dirFn.getD k 0) = true := by
  rcases (by omega : k = 0 ∨ k = 1 ∨ k = 2 ∨ k = 3 ∨ k = 4 ∨ k = 5 ∨ k = 6 ∨ k = 7 ∨ k = 8 ∨ k = 9 ∨ k = 10 ∨ k = 11) with rfl | rfl | rfl | rfl | rfl | rfl | rfl | rfl | rfl | rfl | rfl | rfl <;> kernel_rfl
section
variable {n0 n : Nat} {H0 H : AHeap} {bs : List (Nat × AObj)} {os : List OwnR}
set_option maxHeartbeats 4000000 in
theorem directives_o (h : Owns n0 H0 bs os n H) : ACalls Tryd.prog 43 [] n H fun r n' H' => ∃ g, r = .mp g ∧ n ≤ g ∧ n ≤ n' ∧ Owns n0 H0 ((g, .map (some .u8) dirMap) :: bs) os n' H' := by
  have h1 := fields_a daysS (by decide) (by decide) (by rw [fields_ok.1]; decide)
  have h2 := fields_a monthsS (by decide) (by decide) (by rw [fields_ok.2]; decide)
  rw [fields_ok.1] at h1
  rw [fields_ok.2] at h2
  refine acalls_intro Tryd.func43 cmp43 rfl fun hs => ?_
  repeat' (first | (simp -implicitDefEqProofs [c43, -getElem?_pos]) | (simp (disch := omega) only [upd_ne, xz4f, if_pos, if_neg, IntWalk.i64_in, Int.tdiv_eq_ediv_of_nonneg, Int.tmod_eq_emod_of_nonneg]) | ((with_reducible refine CallP.chk (f := 69) ?_); (refine' CallP.sf ?_ (h1) ?_); (focus first | (with_reducible exact simL_refl _) | (simp [simL, simA, simA_refl, simL_refl]; done))) | ((with_reducible refine CallP.chk (f := 69) ?_); (refine' CallP.sf ?_ (h2) ?_); (focus first | (with_reducible exact simL_refl _) | (simp [simL, simA, simA_refl, simL_refl]; done))) | (with_reducible refine fin_r ?_ ?_ ?_) | (with_reducible exact SameB.rfl_ _ _) | (with_reducible refine SameB.upd ?_ ?_ _) | (with_reducible assumption) | (with_reducible refine newM_go ?_) | (with_reducible intro _g _hg) | (with_reducible refine And.intro ?_ ?_) | (with_reducible intro _hc) | omega)
  simp only [upd_upd]
  have hO := h.addOb _hg (.map (some .u8) dirMap) (by intro _ _ h; cases h)
  rw [dirMap_eq] at hO ⊢
  exact fin_ret (r := .mp _) rfl (by omega) hO.mem.sup ⟨_, rfl, by omega, by omega, hO⟩
end
abbrev mOb (a : Mo) : AObj := .cells 23 [aI a.y, aI a.m, aI a.d, aI a.h, aI a.mi, aI a.s]
abbrev fOb : AObj := .cells 25 [aI 0, aI 0]
set_option maxHeartbeats 8000000 in
theorem format_go (a : Mo) (h : a.ok) (p : Str) (hl : p.length ≤ 200) (hp : patOk p = true) (n : Nat) (H : AHeap) (g2 g5 n1 : Nat) (H1 : AHeap) (e : AEnv) (h25 : g2 ≠ g5) (q5 : H1 g5 = some fOb) (q2 : H1 g2 = some (mOb a)) (l2 : n ≤ g2) (l5 : n ≤ g5) (ln : n ≤ n1) (hsup : ∀ k, n1 ≤ k → H1 k = none) (hsame : SameB n H H1) (e1 : get e 1 = .str p) (e2 : get e 2 = .ptr g2 0) (e5 : get e 5 = .ptr g5 0) :
    aw Tryd.prog c15_k8 (finP (.tup [.str (fmtF a p), aF (0, 0)]) n H c15.res) ⟨e, n1, H1⟩ := by
  have hO : Owns n H [(g5, fOb), (g2, mOb a)] [] n1 H1 := ⟨⟨ln, hsup, hsame⟩, by simp [q5, q2, l2, l5], by simp, .nil⟩
  
  simp -implicitDefEqProofs [c15_k8_go, -getElem?_pos, e1, e2, e5]
  refine ⟨_, directives_o hO, ?_⟩
  rintro _ n2 H2 hn2 hs2 ⟨g8, rfl, _, hle2, hO2⟩
  have _hb := hO2.boxF
  dsimp only [BoxF, BoxF0, RowF] at _hb
  repeat' (first | (simp -implicitDefEqProofs [c15, -getElem?_pos, splice, _hb]) | (simp (disch := omega) only [upd_ne, xz4f, if_pos, if_neg, IntWalk.i64_in, Int.tdiv_eq_ediv_of_nonneg, Int.tmod_eq_emod_of_nonneg]) | (with_reducible refine fin_r ?_ ?_ ?_) | (with_reducible exact SameB.rfl_ _ _) | (with_reducible refine SameB.upd ?_ ?_ _) | (with_reducible assumption) | (with_reducible refine newPM_of ?_) | ((with_reducible refine newP_own (by assumption) (fun _g _hg _hO => ?_)); (have _hb := And.intro _hb _hO.boxF); dsimp only [BoxF, BoxF0, RowF] at _hb) | (with_reducible exact Owns.le (by assumption)) | (with_reducible exact Owns.same (by assumption)) | (with_reducible refine newPM_of ?_) | (with_reducible refine newP_go ?_) | (with_reducible intro _g _hg) | (with_reducible refine And.intro ?_ ?_) | (with_reducible intro _hc) | omega)
  clear q5 q2
  have q8 : g8 < _g := by omega
  have q5 : g5 < _g := by omega
  have q2 : g2 < _g := by omega
  have hne : ∀ x ∈ [(g8, AObj.map (some .u8) dirMap), (g5, fOb), (g2, mOb a)], x.1 ≠ _g := by simp; omega
  refine LoopK.go (fun m st => ∃ (k : Nat) (acc : Str) (a0 xb : AV) (n' : Nat) (H' : AHeap), k + m = p.length ∧ st = ⟨[(1, .str p), (2, .ptr g2 0), (5, .ptr g5 0), (8, .mp g8), (9, .ptr _g 0), (10, aI k)], n', H'⟩ ∧
    Owns n H [(_g, bOb a0 xb), (g8, .map (some .u8) dirMap), (g5, fOb), (g2, mOb a)] [bRow xb acc] n' H' ∧ (a0 = .np ∨ a0 = .ptr _g 0) ∧ (acc = [] → ∃ z, xb = .sl z [] .nil) ∧ fmtF a p = acc ++ fmtF a (p.drop k) ∧ acc.length ≤ 4 * k ∧ patOk (p.drop k) = true) p.length
    ⟨0, [], _, _, _, _, by omega, rfl, _hO.addNil 5 1 0, .inl rfl, fun _ => ⟨0, rfl⟩, by simp, by simp, by simpa using hp⟩ ?_
  clear _hb _hO
  rintro m st ⟨k, acc, a0, xb, n3, H3, hk, rfl, _hO, h0, hz, hE, ha, hpk⟩ J hJ
  have _hb := _hO.boxF
  dsimp only [BoxF, BoxF0, RowF] at _hb
  rcases hd : p.drop k with _ | ⟨c, cs⟩
  · have hkl : k = p.length := by have := drop_none hd; omega
    subst hkl
    rw [hd] at hE
    have hE : fmtF a p = acc := by rw [hE]; simp [fmtF]
    rw [hE]
    have hbs := bldString_o _hO h0 hz (by omega)
    
    repeat' (first | (simp -implicitDefEqProofs [c15_k1_go, c15_k2_go, c15_k3_go, c15_k4_go, c15_k5_go, c15_k6_go, c15_L7_go, c15_k8_go, c15_k9_go, c15, -getElem?_pos, splice, _hb]) | (simp (disch := omega) only [upd_ne, xz4f, if_pos, if_neg, IntWalk.i64_in, Int.tdiv_eq_ediv_of_nonneg, Int.tmod_eq_emod_of_nonneg]) | ((with_reducible refine CallK.chk (f := 48) ?_); (refine' CallK.sfAt ?_ (hbs) ?_); (focus first | (with_reducible exact simL_refl _) | (simp [simL, simA, simA_refl, simL_refl]; done))) | (with_reducible refine fin_r ?_ ?_ ?_) | (with_reducible exact SameB.rfl_ _ _) | (with_reducible refine SameB.upd ?_ ?_ _) | (with_reducible assumption) | (with_reducible refine newPM_of ?_) | ((with_reducible refine newP_own (by assumption) (fun _g _hg _hO => ?_)); (have _hb := And.intro _hb _hO.boxF); dsimp only [BoxF, BoxF0, RowF] at _hb) | (with_reducible exact Owns.le (by assumption)) | (with_reducible exact Owns.same (by assumption)) | (with_reducible refine newPM_of ?_) | (with_reducible refine newP_go ?_) | (with_reducible intro _g _hg) | (with_reducible refine And.intro ?_ ?_) | (with_reducible intro _hc) | omega)
    all_goals exact simA_refl _
  · obtain ⟨hc, hcs, hkl⟩ := drop_cons hd
    have hkl' : (k : Int) < p.length := by omega
    rw [hd] at hE hpk
    by_cases hpc : c = 37
    · subst hpc
      rcases cs with _ | ⟨c2, cs⟩
      · simp [patOk] at hpk
      · obtain ⟨hc2, hcs2, hkl2⟩ := drop_cons hcs
        have hpk2 : patOk cs = true := by simp [patOk] at hpk; exact hpk.2
        by_cases h37 : c2 = 37
        · have h37' := (u8n 37 rfl).2 h37
          have hE : fmtF a p = (acc ++ [37]) ++ fmtF a cs := by rw [hE]; simp [fmtF, h37]
          repeat' (first | (simp -implicitDefEqProofs [c15_k1_go, c15_k2_go, c15_k3_go, c15_k4_go, c15_k5_go, c15_k6_go, c15_L7_go, c15_k8_go, c15_k9_go, c15, -getElem?_pos, splice, hc, hc2, hkl', h37', _hb]) | (simp (disch := omega) only [upd_ne, xz4f, if_pos, if_neg, IntWalk.i64_in, Int.tdiv_eq_ediv_of_nonneg, Int.tmod_eq_emod_of_nonneg]) | (with_reducible refine fin_r ?_ ?_ ?_) | (with_reducible exact SameB.rfl_ _ _) | (with_reducible refine SameB.upd ?_ ?_ _) | (with_reducible assumption) | (with_reducible refine newPM_of ?_) | ((with_reducible refine newP_own (by assumption) (fun _g _hg _hO => ?_)); (have _hb := And.intro _hb _hO.boxF); dsimp only [BoxF, BoxF0, RowF] at _hb) | (with_reducible exact Owns.le (by assumption)) | (with_reducible exact Owns.same (by assumption)) | (with_reducible refine newPM_of ?_) | (with_reducible refine newP_go ?_) | (with_reducible intro _g _hg) | (with_reducible refine And.intro ?_ ?_) | (with_reducible intro _hc) | omega)
          refine ⟨_, writeByte_o 37 _hO h0 hne (by omega), ?_⟩; (rintro _ _n2 _H2 _hn2 _hs2 ⟨rfl, _hle2, _xb, _hO⟩); (have _hb := _hO.boxF); (dsimp only [BoxF, BoxF0, RowF] at _hb)
          
          repeat' (first | (simp -implicitDefEqProofs [c15_k1_go, c15_k2_go, c15_k3_go, c15_k4_go, c15_k5_go, c15_k6_go, c15_L7_go, c15_k8_go, c15_k9_go, c15, -getElem?_pos, splice, _hb]) | (simp (disch := omega) only [upd_ne, xz4f, if_pos, if_neg, IntWalk.i64_in, Int.tdiv_eq_ediv_of_nonneg, Int.tmod_eq_emod_of_nonneg]) | (with_reducible refine fin_r ?_ ?_ ?_) | (with_reducible exact SameB.rfl_ _ _) | (with_reducible refine SameB.upd ?_ ?_ _) | (with_reducible assumption) | (with_reducible refine newPM_of ?_) | ((with_reducible refine newP_own (by assumption) (fun _g _hg _hO => ?_)); (have _hb := And.intro _hb _hO.boxF); dsimp only [BoxF, BoxF0, RowF] at _hb) | (with_reducible exact Owns.le (by assumption)) | (with_reducible exact Owns.same (by assumption)) | (with_reducible refine newPM_of ?_) | (with_reducible refine newP_go ?_) | (with_reducible intro _g _hg) | (with_reducible refine And.intro ?_ ?_) | (with_reducible intro _hc) | omega)
          exact hJ (m - 2) _ (by omega) ⟨k + 2, acc ++ [37], _, _, _, _, by omega, by simp; omega, _hO, .inr rfl, by simp, by rw [hE, hcs2], by simp; omega, by rw [hcs2]; exact hpk2⟩
        · have hln : ¬ ltrI c2 < 0 := by
            intro hneg
            simp [patOk, h37, hneg] at hpk
          obtain ⟨j, hj, hj12, hjl⟩ := ltr_lt c2 hln
          have hE : fmtF a p = (acc ++ dirT a j) ++ fmtF a cs := by rw [hE]; simp [fmtF, h37, hj]
          have hdl := dirT_len h j
          have h37' : ¬ (c2.toNat : Int) = 37 := fun e => h37 ((u8n 37 rfl).1 e)
          have hfd := dirMap_find hjl
          have hcl := dirFn_call j hj12
          have hdf := dirFn_a a h j hj12
          have fin : ∀ (T : Str) (b0 yb : AV) (n' : Nat) (H' : AHeap), T = dirT a j → T ≠ [] → (b0 = .np ∨ b0 = .ptr _g 0) → Owns n H [(_g, bOb b0 yb), (g8, .map (some .u8) dirMap), (g5, fOb), (g2, mOb a)] [bRow yb (acc ++ T)] n' H' → J ⟨[(1, .str p), (2, .ptr g2 0), (5, .ptr g5 0), (8, .mp g8), (9, .ptr _g 0), (10, aI ((k : Int) + 1 + 1))], n', H'⟩ := by
            rintro T b0 yb n' H' rfl hT hb0 hO'
            exact hJ (m - 2) _ (by omega) ⟨k + 2, acc ++ dirT a j, _, _, _, _, by omega, by simp; omega, hO', hb0, by simp [hT], by rw [hE, hcs2], by simp; omega, by rw [hcs2]; exact hpk2⟩
          generalize hfn : dirFn.getD j 0 = f at hfd hcl hdf
          by_cases h10 : j = 10
          · subst h10
            have hnn := fld_name h
            have hT : dirT a 10 = daysL.getD (fldV a 10 - 1).toNat [] := rfl
            have hnm : nmA 10 = .sl 1 (daysL.map AV.str) .ro := rfl
            rw [hnm] at hfd
            have hsome : ∃ s, (daysL.map AV.str)[(fldV a 10 - 1).toNat]? = some (.str s) ∧ s = dirT a 10 ∧ s ≠ [] := by
              rw [hT]
              rcases (by omega : fldV a 10 = 1 ∨ fldV a 10 = 2 ∨ fldV a 10 = 3 ∨ fldV a 10 = 4 ∨ fldV a 10 = 5 ∨ fldV a 10 = 6 ∨ fldV a 10 = 7) with e | e | e | e | e | e | e <;> rw [e] <;> exact ⟨_, rfl, rfl, by decide⟩
            obtain ⟨s, hs, hsT, hsn⟩ := hsome
            have hnil : isNil (.sl 1 (daysL.map AV.str) .ro) = some false := rfl
            generalize daysL.map AV.str = L at hfd hs hnil
            generalize hx : fldV a 10 = x at *
            have hs2 : L[x.toNat - 1]? = some (.str s) := by rw [show x.toNat - 1 = (x - 1).toNat from by omega]; exact hs
            
            repeat' (first | (simp -implicitDefEqProofs [c15_k1_go, c15_k2_go, c15_k3_go, c15_k4_go, c15_k5_go, c15_k6_go, c15_L7_go, c15_k8_go, c15_k9_go, c15, -getElem?_pos, splice, hc, hc2, hkl', h37', hfd, hcl, hnil, -isNil, hs, hs2, _hb]) | (simp (disch := omega) only [upd_ne, xz4f, if_pos, if_neg, IntWalk.i64_in, Int.tdiv_eq_ediv_of_nonneg, Int.tmod_eq_emod_of_nonneg]) | ((with_reducible refine CallK.chk (f := _) ?_); (refine' CallK.sfAt ?_ ((hdf.at_ _ _)) ?_); (focus first | (with_reducible exact simL_refl _) | (simp [simL, simA, simA_refl, simL_refl]; done))) | (with_reducible refine fin_r ?_ ?_ ?_) | (with_reducible exact SameB.rfl_ _ _) | (with_reducible refine SameB.upd ?_ ?_ _) | (with_reducible assumption) | (with_reducible refine newPM_of ?_) | ((with_reducible refine newP_own (by assumption) (fun _g _hg _hO => ?_)); (have _hb := And.intro _hb _hO.boxF); dsimp only [BoxF, BoxF0, RowF] at _hb) | (with_reducible exact Owns.le (by assumption)) | (with_reducible exact Owns.same (by assumption)) | (with_reducible refine newPM_of ?_) | (with_reducible refine newP_go ?_) | (with_reducible intro _g _hg) | (with_reducible refine And.intro ?_ ?_) | (with_reducible intro _hc) | omega)
            refine ⟨_, writeString_o s ((_hO.set0 (by simp; omega) _ _).dropBox) h0 hne (by rw [hsT]; omega), ?_⟩; (rintro _ _n2 _H2 _hn2 _hs2 ⟨rfl, _hle2, _xb, _hO⟩); (have _hb := _hO.boxF); (dsimp only [BoxF, BoxF0, RowF] at _hb)
            
            repeat' (first | (simp -implicitDefEqProofs [c15_k1_go, c15_k2_go, c15_k3_go, c15_k4_go, c15_k5_go, c15_k6_go, c15_L7_go, c15_k8_go, c15_k9_go, c15, -getElem?_pos, splice, _hb]) | (simp (disch := omega) only [upd_ne, xz4f, if_pos, if_neg, IntWalk.i64_in, Int.tdiv_eq_ediv_of_nonneg, Int.tmod_eq_emod_of_nonneg]) | (with_reducible refine fin_r ?_ ?_ ?_) | (with_reducible exact SameB.rfl_ _ _) | (with_reducible refine SameB.upd ?_ ?_ _) | (with_reducible assumption) | (with_reducible refine newPM_of ?_) | ((with_reducible refine newP_own (by assumption) (fun _g _hg _hO => ?_)); (have _hb := And.intro _hb _hO.boxF); dsimp only [BoxF, BoxF0, RowF] at _hb) | (with_reducible exact Owns.le (by assumption)) | (with_reducible exact Owns.same (by assumption)) | (with_reducible refine newPM_of ?_) | (with_reducible refine newP_go ?_) | (with_reducible intro _g _hg) | (with_reducible refine And.intro ?_ ?_) | (with_reducible intro _hc) | omega)
            exact fin _ _ _ _ _ hsT hsn (.inr rfl) _hO
          · by_cases h11 : j = 11
            · subst h11
              have hnn := fld_name h
              have hT : dirT a 11 = monthsL.getD (fldV a 11 - 1).toNat [] := rfl
              have hnm : nmA 11 = .sl 1 (monthsL.map AV.str) .ro := rfl
              rw [hnm] at hfd
              have hsome : ∃ s, (monthsL.map AV.str)[(fldV a 11 - 1).toNat]? = some (.str s) ∧ s = dirT a 11 ∧ s ≠ [] := by
                rw [hT]
                rcases (by omega : fldV a 11 = 1 ∨ fldV a 11 = 2 ∨ fldV a 11 = 3 ∨ fldV a 11 = 4 ∨ fldV a 11 = 5 ∨ fldV a 11 = 6 ∨ fldV a 11 = 7 ∨ fldV a 11 = 8 ∨ fldV a 11 = 9 ∨ fldV a 11 = 10 ∨ fldV a 11 = 11 ∨ fldV a 11 = 12) with e | e | e | e | e | e | e | e | e | e | e | e <;> rw [e] <;> exact ⟨_, rfl, rfl, by decide⟩
              obtain ⟨s, hs, hsT, hsn⟩ := hsome
              have hnil : isNil (.sl 1 (monthsL.map AV.str) .ro) = some false := rfl
              generalize monthsL.map AV.str = L at hfd hs hnil
              generalize hx : fldV a 11 = x at *
              have hs2 : L[x.toNat - 1]? = some (.str s) := by rw [show x.toNat - 1 = (x - 1).toNat from by omega]; exact hs
              
              repeat' (first | (simp -implicitDefEqProofs [c15_k1_go, c15_k2_go, c15_k3_go, c15_k4_go, c15_k5_go, c15_k6_go, c15_L7_go, c15_k8_go, c15_k9_go, c15, -getElem?_pos, splice, hc, hc2, hkl', h37', hfd, hcl, hnil, -isNil, hs, hs2, _hb]) | (simp (disch := omega) only [upd_ne, xz4f, if_pos, if_neg, IntWalk.i64_in, Int.tdiv_eq_ediv_of_nonneg, Int.tmod_eq_emod_of_nonneg]) | ((with_reducible refine CallK.chk (f := _) ?_); (refine' CallK.sfAt ?_ ((hdf.at_ _ _)) ?_); (focus first | (with_reducible exact simL_refl _) | (simp [simL, simA, simA_refl, simL_refl]; done))) | (with_reducible refine fin_r ?_ ?_ ?_) | (with_reducible exact SameB.rfl_ _ _) | (with_reducible refine SameB.upd ?_ ?_ _) | (with_reducible assumption) | (with_reducible refine newPM_of ?_) | ((with_reducible refine newP_own (by assumption) (fun _g _hg _hO => ?_)); (have _hb := And.intro _hb _hO.boxF); dsimp only [BoxF, BoxF0, RowF] at _hb) | (with_reducible exact Owns.le (by assumption)) | (with_reducible exact Owns.same (by assumption)) | (with_reducible refine newPM_of ?_) | (with_reducible refine newP_go ?_) | (with_reducible intro _g _hg) | (with_reducible refine And.intro ?_ ?_) | (with_reducible intro _hc) | omega)
              refine ⟨_, writeString_o s ((_hO.set0 (by simp; omega) _ _).dropBox) h0 hne (by rw [hsT]; omega), ?_⟩; (rintro _ _n2 _H2 _hn2 _hs2 ⟨rfl, _hle2, _xb, _hO⟩); (have _hb := _hO.boxF); (dsimp only [BoxF, BoxF0, RowF] at _hb)
              
              repeat' (first | (simp -implicitDefEqProofs [c15_k1_go, c15_k2_go, c15_k3_go, c15_k4_go, c15_k5_go, c15_k6_go, c15_L7_go, c15_k8_go, c15_k9_go, c15, -getElem?_pos, splice, _hb]) | (simp (disch := omega) only [upd_ne, xz4f, if_pos, if_neg, IntWalk.i64_in, Int.tdiv_eq_ediv_of_nonneg, Int.tmod_eq_emod_of_nonneg]) | (with_reducible refine fin_r ?_ ?_ ?_) | (with_reducible exact SameB.rfl_ _ _) | (with_reducible refine SameB.upd ?_ ?_ _) | (with_reducible assumption) | (with_reducible refine newPM_of ?_) | ((with_reducible refine newP_own (by assumption) (fun _g _hg _hO => ?_)); (have _hb := And.intro _hb _hO.boxF); dsimp only [BoxF, BoxF0, RowF] at _hb) | (with_reducible exact Owns.le (by assumption)) | (with_reducible exact Owns.same (by assumption)) | (with_reducible refine newPM_of ?_) | (with_reducible refine newP_go ?_) | (with_reducible intro _g _hg) | (with_reducible refine And.intro ?_ ?_) | (with_reducible intro _hc) | omega)
              exact fin _ _ _ _ _ hsT hsn (.inr rfl) _hO
            · have hnm : nmA j = .sl 0 [] .nil := by simp [nmA, h10, h11]
              rw [hnm] at hfd
              have hfb := fld_bounds h j
              have hil := itoa_len hfb.1 hfb.2
              have hwl : widthsL.getD j 0 ≤ 4 := by
                unfold widthsL
                rcases j with _ | _ | _ | _ | _ | _ | _ | _ | _ | _ | _ | _ | j <;> simp
              have hit := itoa_a (fldV a j) (by omega)
              have hT : dirT a j = wideF (fldV a j) (widthsL.getD j 0) := by unfold dirT; rw [if_neg h10, if_neg h11]
              have hTne : dirT a j ≠ [] := by
                rw [hT]; unfold wideF
                intro e
                have := congrArg List.length e
                simp only [List.length_append, List.length_replicate, List.length_nil] at this; omega
              have hrp := repeat_a 48 (widthsL.getD j 0 - (Lib.itoa (fldV a j)).length) (by omega)
              have hmx : max (0 : Int) ((widthsL.getD j 0 : Nat) - ((Lib.itoa (fldV a j)).length : Int)) = ((widthsL.getD j 0 - (Lib.itoa (fldV a j)).length : Nat) : Int) := by omega
              unfold wideF at hT
              generalize hx : fldV a j = x at *
              generalize hw : widthsL.getD j 0 = w at *
              generalize hi : Lib.itoa x = it at *
              generalize hdd : dirT a j = T at *
              have hTl : T.length = (w - it.length) + it.length := by rw [hT]; simp
              have hadd : ¬ (9223372036854775807 : Int) < ((w - it.length : Nat) : Int) + it.length := by omega
              
              repeat' (first | (simp -implicitDefEqProofs [c15_k1_go, c15_k2_go, c15_k3_go, c15_k4_go, c15_k5_go, c15_k6_go, c15_L7_go, c15_k8_go, c15_k9_go, c15, -getElem?_pos, splice, hc, hc2, hkl', h37', hfd, hcl, hmx, hadd, _hb]) | (simp (disch := omega) only [upd_ne, xz4f, if_pos, if_neg, IntWalk.i64_in, Int.tdiv_eq_ediv_of_nonneg, Int.tmod_eq_emod_of_nonneg]) | ((with_reducible refine CallK.chk (f := _) ?_); (refine' CallK.sfAt ?_ ((hdf.at_ _ _)) ?_); (focus first | (with_reducible exact simL_refl _) | (simp [simL, simA, simA_refl, simL_refl]; done))) | ((with_reducible refine CallP.chk (f := 46) ?_); (refine' CallP.sf ?_ (hit) ?_); (focus first | (with_reducible exact simL_refl _) | (simp [simL, simA, simA_refl, simL_refl]; done))) | ((with_reducible refine CallP.chk (f := 47) ?_); (refine' CallP.sf ?_ (hrp) ?_); (focus first | (with_reducible exact simL_refl _) | (simp [simL, simA, simA_refl, simL_refl]; done))) | (with_reducible refine fin_r ?_ ?_ ?_) | (with_reducible exact SameB.rfl_ _ _) | (with_reducible refine SameB.upd ?_ ?_ _) | (with_reducible assumption) | (with_reducible refine newPM_of ?_) | ((with_reducible refine newP_own (by assumption) (fun _g _hg _hO => ?_)); (have _hb := And.intro _hb _hO.boxF); dsimp only [BoxF, BoxF0, RowF] at _hb) | (with_reducible exact Owns.le (by assumption)) | (with_reducible exact Owns.same (by assumption)) | (with_reducible refine newPM_of ?_) | (with_reducible refine newP_go ?_) | (with_reducible intro _g _hg) | (with_reducible refine And.intro ?_ ?_) | (with_reducible intro _hc) | omega)
              refine ⟨_, writeString_o (List.replicate (w - it.length) 48 ++ it) ((_hO.set0 (by simp; omega) _ _).dropBox) h0 hne (by simp; omega), ?_⟩; (rintro _ _n2 _H2 _hn2 _hs2 ⟨rfl, _hle2, _xb, _hO⟩); (have _hb := _hO.boxF); (dsimp only [BoxF, BoxF0, RowF] at _hb)
              
              repeat' (first | (simp -implicitDefEqProofs [c15_k1_go, c15_k2_go, c15_k3_go, c15_k4_go, c15_k5_go, c15_k6_go, c15_L7_go, c15_k8_go, c15_k9_go, c15, -getElem?_pos, splice, _hb]) | (simp (disch := omega) only [upd_ne, xz4f, if_pos, if_neg, IntWalk.i64_in, Int.tdiv_eq_ediv_of_nonneg, Int.tmod_eq_emod_of_nonneg]) | (with_reducible refine fin_r ?_ ?_ ?_) | (with_reducible exact SameB.rfl_ _ _) | (with_reducible refine SameB.upd ?_ ?_ _) | (with_reducible assumption) | (with_reducible refine newPM_of ?_) | ((with_reducible refine newP_own (by assumption) (fun _g _hg _hO => ?_)); (have _hb := And.intro _hb _hO.boxF); dsimp only [BoxF, BoxF0, RowF] at _hb) | (with_reducible exact Owns.le (by assumption)) | (with_reducible exact Owns.same (by assumption)) | (with_reducible refine newPM_of ?_) | (with_reducible refine newP_go ?_) | (with_reducible intro _g _hg) | (with_reducible refine And.intro ?_ ?_) | (with_reducible intro _hc) | omega)
              exact fin _ _ _ _ _ hT.symm (by rw [← hT]; exact hTne) (.inr rfl) _hO
    · have hE : fmtF a p = (acc ++ [c]) ++ fmtF a cs := by
        rw [hE]
        cases cs with
        | nil => simp [fmtF]
        | cons c2 cs => simp [fmtF, hpc]
      have hpk2 : patOk cs = true := by
        cases cs with
        | nil => rfl
        | cons c2 cs => simpa [patOk, hpc] using hpk
      have h37 : ¬ (c.toNat : Int) = 37 := fun e => hpc ((u8n 37 rfl).1 e)
      repeat' (first | (simp -implicitDefEqProofs [c15_k1_go, c15_k2_go, c15_k3_go, c15_k4_go, c15_k5_go, c15_k6_go, c15_L7_go, c15_k8_go, c15_k9_go, c15, -getElem?_pos, splice, hc, hkl', h37, _hb]) | (simp (disch := omega) only [upd_ne, xz4f, if_pos, if_neg, IntWalk.i64_in, Int.tdiv_eq_ediv_of_nonneg, Int.tmod_eq_emod_of_nonneg]) | (with_reducible refine fin_r ?_ ?_ ?_) | (with_reducible exact SameB.rfl_ _ _) | (with_reducible refine SameB.upd ?_ ?_ _) | (with_reducible assumption) | (with_reducible refine newPM_of ?_) | ((with_reducible refine newP_own (by assumption) (fun _g _hg _hO => ?_)); (have _hb := And.intro _hb _hO.boxF); dsimp only [BoxF, BoxF0, RowF] at _hb) | (with_reducible exact Owns.le (by assumption)) | (with_reducible exact Owns.same (by assumption)) | (with_reducible refine newPM_of ?_) | (with_reducible refine newP_go ?_) | (with_reducible intro _g _hg) | (with_reducible refine And.intro ?_ ?_) | (with_reducible intro _hc) | omega)
      refine ⟨_, writeByte_o c _hO h0 hne (by omega), ?_⟩; (rintro _ _n2 _H2 _hn2 _hs2 ⟨rfl, _hle2, _xb, _hO⟩); (have _hb := _hO.boxF); (dsimp only [BoxF, BoxF0, RowF] at _hb)
      
      repeat' (first | (simp -implicitDefEqProofs [c15_k1_go, c15_k2_go, c15_k3_go, c15_k4_go, c15_k5_go, c15_k6_go, c15_L7_go, c15_k8_go, c15_k9_go, c15, -getElem?_pos, splice, _hb]) | (simp (disch := omega) only [upd_ne, xz4f, if_pos, if_neg, IntWalk.i64_in, Int.tdiv_eq_ediv_of_nonneg, Int.tmod_eq_emod_of_nonneg]) | (with_reducible refine fin_r ?_ ?_ ?_) | (with_reducible exact SameB.rfl_ _ _) | (with_reducible refine SameB.upd ?_ ?_ _) | (with_reducible assumption) | (with_reducible refine newPM_of ?_) | ((with_reducible refine newP_own (by assumption) (fun _g _hg _hO => ?_)); (have _hb := And.intro _hb _hO.boxF); dsimp only [BoxF, BoxF0, RowF] at _hb) | (with_reducible exact Owns.le (by assumption)) | (with_reducible exact Owns.same (by assumption)) | (with_reducible refine newPM_of ?_) | (with_reducible refine newP_go ?_) | (with_reducible intro _g _hg) | (with_reducible refine And.intro ?_ ?_) | (with_reducible intro _hc) | omega)
      exact hJ (m - 1) _ (by omega) ⟨k + 1, acc ++ [c], _, _, _, _, by omega, by simp, _hO, .inr rfl, by simp, by rw [hE, hcs], by simp; omega, by rw [hcs]; exact hpk2⟩
end Go.Proofs.YtnmkpadgogbgkaaDoor
namespace Go.Proofs.YtnmkpadgogbgkaaDoor
def fmtR (a : Mo) (p : Str) : Str × (Int × Int) :=
  if (moF a).1 ≠ 0 then ([], moF a) else if (patF p 100).1 ≠ 0 then ([], patF p 100) else (fmtF a p, (0, 0))
attribute [local simp] xz00 aw_reg aw_seq xz01 xz02 xz03 xz04 aw_ret aw_bad aw_kp aw_ke xz05 xz06 xz07 xz08 xz09 xz0a xz0b xz0c xz0d xz0e xz0f xz0g xz0h xz0i scV pe xz0j xz0k xz0l xz0m xz0n xz0o xz0p xz0q xz0r xz0s xz0t spg_mv xz0u xz0v xz0w xz0x xz0y xz0z xz10 xz11 xz12 xz13 xz14 xz15 xz16 xz17 xz18 xz19 xz1a xz1b xz1c xz1d xz1e spg_mm xz1f spm_mv xz1g xz1h xz1i xz1j xz1k xz1l xz1m xz1n xz1o xz1p xz1q xz1r xz1s xz1t xz1u xz1v xz1w xz1x xz1y xz1z xz20 xz21 xz22 xz23 xz24 spm_mm xz25 xz26 xz27 xz28 xz29 xz2a xz2b xz2c xz2d xz2e xz2f xz2g xz2h xz2i xz2j xz2k xz2l xz2m xz2n xz2o xz2p xz2q xz2r xz2s List.mem_cons guardK guardJ anyE undE op_mv xz2t op_bin op_eqs op_eqb op_eqn op_eqp op_eqi op_neg op_not op_cvi xz2u xz2v op_cut xz2w xz2x xz2y xz2z xz30 xz31 op_len xz32 xz33 xz34 xz35 xz36 xz37 op_mm op_b2s op_r2s op_upc op_usd xz38 xz39 op_ust xz3a op_box xz3b op_bsl op_app xz3c op_s2b op_s2s xz3d xz3e xz3f xz3g xz3h xz3i xz3j xz3k ngV eqsV eqbV negV notV cviV fieldV sidxV aidxV xz3l lenSV extrV nilckV buildV mmV b2sV r2sV eqppV s2bK s2sK msetS mgetV keyOkK mfind msetL keyEq callvK ev get put putO keepE xz3m xz3n xz3o xz3p xz3q xz3r condK part loadAV xz3s xz3t xz3u isNil isNilP isNilI binAV intBin strBin xz3v xz3w xz3x xz3y xz3z xz40 xz41 xz42 xz43 xz44 xz45 xz46 xz47 xz48 xz49 xz4a AV.fits AV.cells ones AV.one upcAV updnAV usdAV ustAV cutB cutSV xz4b xz4c xz4d xz4e resOf resVs resV argE xz4f shpSz u8e u8lit xz4g xz4h List.getElem?_cons_zero List.getElem?_cons_succ op_rng op_nxt op_ent xz4i xz4j xz4k entV xz4l xz4m xz4n xz4o xz4p xz4q
set_option maxHeartbeats 4000000 in
theorem format_a (a : Mo) (p : Str) : APure Tryd.prog 15 [aM a, .str p] (.tup [.str (fmtR a p).1, aF (fmtR a p).2]) := by
  have hc := check_a a
  have hq := checkPattern_a p 100 (by omega)
  unfold fmtR
  refine apure_intro Tryd.func15 cmp15 rfl fun n H hH => ?_
  have _hb : True := trivial
  have _hO : Owns n H [] [] n H := Owns.start hH
  by_cases h1 : (moF a).1 = 0
  · have hok := moF_ok.1 h1
    rw [moF_zero hok] at hc
    rw [if_neg (by simpa using h1)]
    by_cases h2 : (patF p 100).1 = 0
    · obtain ⟨e, hl, hp⟩ := patF_ok h2
      rw [e] at hq
      rw [if_neg (by simpa using h2)]
      have key := format_go a hok p hl hp n H
      
      repeat' (first | (simp -implicitDefEqProofs [c15, c15_k9_go, -getElem?_pos, splice, _hb]) | (simp (disch := omega) only [upd_ne, xz4f, if_pos, if_neg, IntWalk.i64_in, Int.tdiv_eq_ediv_of_nonneg, Int.tmod_eq_emod_of_nonneg]) | ((with_reducible refine CallP.chk (f := 41) ?_); (refine' CallP.sf ?_ (hc) ?_); (focus first | (with_reducible exact simL_refl _) | (simp [simL, simA, simA_refl, simL_refl]; done))) | ((with_reducible refine CallP.chk (f := 42) ?_); (refine' CallP.sf ?_ (hq) ?_); (focus first | (with_reducible exact simL_refl _) | (simp [simL, simA, simA_refl, simL_refl]; done))) | (with_reducible refine fin_r ?_ ?_ ?_) | (with_reducible exact SameB.rfl_ _ _) | (with_reducible refine SameB.upd ?_ ?_ _) | (with_reducible assumption) | (with_reducible refine newPM_of ?_) | ((with_reducible refine newP_own (by assumption) (fun _g _hg _hO => ?_)); (have _hb := And.intro _hb _hO.boxF); dsimp only [BoxF, BoxF0, RowF] at _hb) | (with_reducible exact Owns.le (by assumption)) | (with_reducible exact Owns.same (by assumption)) | (with_reducible refine newPM_of ?_) | (with_reducible refine newP_go ?_) | (with_reducible intro _g _hg) | (with_reducible refine And.intro ?_ ?_) | (with_reducible intro _hc) | omega)
      refine key _ _ _ _ _ ?_ ?_ ?_ ?_ ?_ ?_ ?_ ?_ rfl rfl rfl
      all_goals (first | omega | (simp (disch := omega) only [upd_ne, xz4f]; done) | (intro k hk; simp (disch := omega) only [upd_ne]; done) | (intro k hk; simp (disch := omega) only [upd_ne]; exact hH k (by omega)))
    · rw [if_pos h2]
      repeat' (first | (simp -implicitDefEqProofs [c15, c15_k9_go, -getElem?_pos, splice, h2, _hb]) | (simp (disch := omega) only [upd_ne, xz4f, if_pos, if_neg, IntWalk.i64_in, Int.tdiv_eq_ediv_of_nonneg, Int.tmod_eq_emod_of_nonneg]) | ((with_reducible refine CallP.chk (f := 41) ?_); (refine' CallP.sf ?_ (hc) ?_); (focus first | (with_reducible exact simL_refl _) | (simp [simL, simA, simA_refl, simL_refl]; done))) | ((with_reducible refine CallP.chk (f := 42) ?_); (refine' CallP.sf ?_ (hq) ?_); (focus first | (with_reducible exact simL_refl _) | (simp [simL, simA, simA_refl, simL_refl]; done))) | (with_reducible refine fin_r ?_ ?_ ?_) | (with_reducible exact SameB.rfl_ _ _) | (with_reducible refine SameB.upd ?_ ?_ _) | (with_reducible assumption) | (with_reducible refine newPM_of ?_) | ((with_reducible refine newP_own (by assumption) (fun _g _hg _hO => ?_)); (have _hb := And.intro _hb _hO.boxF); dsimp only [BoxF, BoxF0, RowF] at _hb) | (with_reducible exact Owns.le (by assumption)) | (with_reducible exact Owns.same (by assumption)) | (with_reducible refine newPM_of ?_) | (with_reducible refine newP_go ?_) | (with_reducible intro _g _hg) | (with_reducible refine And.intro ?_ ?_) | (with_reducible intro _hc) | omega)
      all_goals exact simA_refl _
  · rw [if_pos h1]
    repeat' (first | (simp -implicitDefEqProofs [c15, -getElem?_pos, splice, h1, _hb]) | (simp (disch := omega) only [upd_ne, xz4f, if_pos, if_neg, IntWalk.i64_in, Int.tdiv_eq_ediv_of_nonneg, Int.tmod_eq_emod_of_nonneg]) | ((with_reducible refine CallP.chk (f := 41) ?_); (refine' CallP.sf ?_ (hc) ?_); (focus first | (with_reducible exact simL_refl _) | (simp [simL, simA, simA_refl, simL_refl]; done))) | (with_reducible refine fin_r ?_ ?_ ?_) | (with_reducible exact SameB.rfl_ _ _) | (with_reducible refine SameB.upd ?_ ?_ _) | (with_reducible assumption) | (with_reducible refine newPM_of ?_) | ((with_reducible refine newP_own (by assumption) (fun _g _hg _hO => ?_)); (have _hb := And.intro _hb _hO.boxF); dsimp only [BoxF, BoxF0, RowF] at _hb) | (with_reducible exact Owns.le (by assumption)) | (with_reducible exact Owns.same (by assumption)) | (with_reducible refine newPM_of ?_) | (with_reducible refine newP_go ?_) | (with_reducible intro _g _hg) | (with_reducible refine And.intro ?_ ?_) | (with_reducible intro _hc) | omega)
    all_goals exact simA_refl _
theorem newYear_a : APure Tryd.prog 51 [] (aM ⟨2021, 1, 1, 0, 0, 0⟩) := by
  refine apure_intro Tryd.func51 cmp51 rfl fun n H hH => ?_
  repeat' (first | (simp -implicitDefEqProofs [c51, -getElem?_pos, splice, simA, simL]) | (simp (disch := omega) only [upd_ne, xz4f, if_pos, if_neg, IntWalk.i64_in, Int.tdiv_eq_ediv_of_nonneg, Int.tmod_eq_emod_of_nonneg]) | (with_reducible refine fin_r ?_ ?_ ?_) | (with_reducible exact SameB.rfl_ _ _) | (with_reducible refine SameB.upd ?_ ?_ _) | (with_reducible assumption) | (with_reducible refine newPM_of ?_) | (with_reducible refine newP_go ?_) | (with_reducible intro _g _hg) | (with_reducible refine And.intro ?_ ?_) | (with_reducible intro _hc) | omega)
abbrev ny : Mo := ⟨2021, 1, 1, 0, 0, 0⟩
theorem dated_a : APure Tryd.prog 18 [] (.bool true) := by
  have h1 := number__a ⟨1, 1, 2, 0, 1, 5⟩
  have e1 : (moF ⟨1, 1, 2, 0, 1, 5⟩) = (0, 0) := by decide
  have e2 : (⟨1, 1, 2, 0, 1, 5⟩ : Mo).num = 86465 := by decide
  rw [e1, e2] at h1
  have h2 := week__a ny
  have e3 : moF ny = (0, 0) := by decide
  have e4 : wkR ny.day = (2020, 53) := by decide +kernel
  rw [e3, e4] at h2
  have h3 := format_a ny [37, 97, 32, 37, 100, 46, 37, 109, 46, 37, 89]
  have e5 : fmtR ny [37, 97, 32, 37, 100, 46, 37, 109, 46, 37, 89] = ([70, 114, 105, 32, 48, 49, 46, 48, 49, 46, 50, 48, 50, 49], (0, 0)) := by decide +kernel
  rw [e5] at h3
  refine apure_intro Tryd.func18 cmp18 rfl fun n H hH => ?_
  repeat' (first | (simp -implicitDefEqProofs [c18, -getElem?_pos, splice, simA]) | (simp (disch := omega) only [upd_ne, xz4f, if_pos, if_neg, IntWalk.i64_in, Int.tdiv_eq_ediv_of_nonneg, Int.tmod_eq_emod_of_nonneg]) | ((with_reducible refine CallP.chk (f := 51) ?_); (refine' CallP.sf ?_ (newYear_a) ?_); (focus first | (with_reducible exact simL_refl _) | (simp [simL, simA, simA_refl, simL_refl]; done))) | ((with_reducible refine CallP.chk (f := 20) ?_); (refine' CallP.sf ?_ (h1) ?_); (focus first | (with_reducible exact simL_refl _) | (simp [simL, simA, simA_refl, simL_refl]; done))) | ((with_reducible refine CallP.chk (f := 22) ?_); (refine' CallP.sf ?_ (h2) ?_); (focus first | (with_reducible exact simL_refl _) | (simp [simL, simA, simA_refl, simL_refl]; done))) | ((with_reducible refine CallP.chk (f := 15) ?_); (refine' CallP.sf ?_ (h3) ?_); (focus first | (with_reducible exact simL_refl _) | (simp [simL, simA, simA_refl, simL_refl]; done))) | (with_reducible refine fin_r ?_ ?_ ?_) | (with_reducible exact SameB.rfl_ _ _) | (with_reducible refine SameB.upd ?_ ?_ _) | (with_reducible assumption) | (with_reducible refine newPM_of ?_) | (with_reducible refine newP_go ?_) | (with_reducible intro _g _hg) | (with_reducible refine And.intro ?_ ?_) | (with_reducible intro _hc) | omega)
end Go.Proofs.YtnmkpadgogbgkaaDoor

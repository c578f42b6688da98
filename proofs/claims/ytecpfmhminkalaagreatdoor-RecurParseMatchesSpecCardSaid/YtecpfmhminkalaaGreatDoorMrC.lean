/- What is wrong with a rule, on plain data; no condition. -/
import Derived.Test.YtecpfmhminkalaaGreatDoorMrB
set_option linter.all false
set_option linter.unusedSimpArgs false
set_option linter.unusedVariables false
namespace Go.Proofs.YtecpfmhminkalaaGreatDoor
def fbF : List Int → Int → Int × Int
  | [], _ => (0, 0)
  | c :: cs, i => if c = 0 then fbF cs (i + 1) else (c, i)
/-- the faults of the parts of a rule -/
def cdF (r : Rule) : List Int := [if r.unit < 1 ∨ 4 < r.unit then 5 else 0, wthF r.step 1 1000, chkF pMon r.months, chkF (pSgn 31) r.mdays, chkF pWd r.wdays, chkF (pSgn 366) r.picks, wthF r.count 0 20001, wthF r.untl 0 3652059]
theorem wth_01 (x a b : Int) : wthF x a b = if a ≤ x ∧ x ≤ b then 0 else 4 := by
  unfold wthF; split <;> split <;> first | rfl | omega
theorem ruleF_fb (r : Rule) : ruleF r = fbF (cdF r) 0 := by
  have w1 := wth_01 r.step 1 1000
  have w6 := wth_01 r.count 0 20001
  have w7 := wth_01 r.untl 0 3652059
  unfold ruleF cdF
  simp only [fbF]
  generalize wthF r.step 1 1000 = c1 at *
  generalize wthF r.count 0 20001 = c6 at *
  generalize wthF r.untl 0 3652059 = c7 at *
  generalize chkF pMon r.months = c2
  generalize chkF (pSgn 31) r.mdays = c3
  generalize chkF pWd r.wdays = c4
  generalize chkF (pSgn 366) r.picks = c5
  by_cases h0 : r.unit < 1 ∨ 4 < r.unit
  · rw [if_pos h0, if_pos h0]; rfl
  · rw [if_neg h0, if_neg h0, if_pos rfl]
    by_cases h1 : c1 = 0
    · by_cases h2 : c2 = 0
      · by_cases h3 : c3 = 0
        · by_cases h4 : c4 = 0
          · by_cases h5 : c5 = 0
            · by_cases h6 : c6 = 0
              · by_cases h7 : c7 = 0
                · simp [h1, h2, h3, h4, h5, h6, h7]
                · have : c7 = 4 := by rw [w7]; split <;> simp_all
                  simp [h1, h2, h3, h4, h5, h6, this]
              · have : c6 = 4 := by rw [w6]; split <;> simp_all
                simp [h1, h2, h3, h4, h5, this]
            · simp [h1, h2, h3, h4, h5]
          · simp [h1, h2, h3, h4]
        · simp [h1, h2, h3]
      · simp [h1, h2]
    · have : c1 = 4 := by rw [w1]; split <;> simp_all
      simp [this]
theorem wth_or (x a b : Int) : (a ≤ x ∧ x ≤ b ∧ wthF x a b = 0) ∨ (¬(a ≤ x ∧ x ≤ b) ∧ wthF x a b = 4) := by
  unfold wthF; split <;> omega
theorem pRng_mon (x : Int) : pRng 1 12 x = pMon x := by
  unfold pRng pMon; rw [Bool.eq_iff_iff]; simp; omega
theorem pRng_sgn (m x : Int) : pRng (-m) m x = pSgn m x := by
  unfold pRng pSgn; rw [Bool.eq_iff_iff]; simp; omega
attribute [local simp] YL Z7 Z9 YM YN YO YP Z8 Z3 Z5 Z4 YQ YR YS YT YU YV YW YX YY YZ Ya Yb Yc Yd scV pe Ye Yf Yg Yh Yi Yj Yk Yl Ym Yn Yo spg_mv Yp Yq Yr Ys Yt Yu Yv Yw Yx Yy Yz X0 X1 X2 X3 X4 X5 X6 X7 X8 X9 spg_mm XA YD XB XC XD XE XF XG XH XI XJ XK XL XM XN XO XP XQ XR XS XT XU XV XW XX XY XZ YC Xa Xb Xc Xd Xe Xf Xg Xh Xi Xj Xk Xl Xm Xn Xo Xp Xq Xr Xs Xt Xu Xv Xw Xx List.mem_cons ZO ZN Z1 YG Zu Xy Zi Zr Zn Zp Zq Zo Zv Zw Zm Xz Q0 Zl Q1 Q2 Q4 Q5 Q6 Q7 Zs Q8 Q9 QA QB QC QD Zt Zh Zx Y1 Y2 QE QF Y3 QG Zj QH Zk Zg QI Zy Zz QJ QK QM QN QO QP QR QS Zd ZK ZI Zc Zf ZH ZM YB Z0 QT ZV ZL Ze ZC ZZ ZA Y5 ZJ Y8 Y9 Zb ZY ZU ZX Za ZT ZD ev get put Y4 ZS QU QV QW QX QY QZ ZE part ZW Qb Qc Qd isNil ZR ZQ ZB ZP YE Qe Qf Qg Qh Qi Qj Qk Ql Qm Qn Qo Qp Qq Qr Qs Qt AV.fits AV.cells ones AV.one YH YI YJ YK ZF ZG Qu Qv Qw Qx Y6 Y7 resV Z2 Qy YA u8e YF Qz V0 List.getElem?_cons_zero List.getElem?_cons_succ
set_option maxHeartbeats 4000000 in
theorem ruleFault_a (r : Rule) : APure Tryz.prog 9 [aR r] (aF (ruleF r)) := by
  rw [ruleF_fb]
  have hm := listFault_a r.months 1 12
  have hd := listFault_a r.mdays (-31) 31
  have hp := listFault_a r.picks (-366) 366
  rw [chkF_congr pRng_mon] at hm
  rw [chkF_congr (pRng_sgn 31)] at hd
  rw [chkF_congr (pRng_sgn 366)] at hp
  have w1 := wth_or r.step 1 1000
  have w6 := wth_or r.count 0 20001
  have w7 := wth_or r.untl 0 3652059
  unfold cdF
  generalize wthF r.step 1 1000 = c1 at *
  generalize wthF r.count 0 20001 = c6 at *
  generalize wthF r.untl 0 3652059 = c7 at *
  generalize chkF pMon r.months = c2 at *
  generalize chkF (pSgn 31) r.mdays = c3 at *
  generalize chkF (pSgn 366) r.picks = c5 at *
  have w0 : (1 ≤ r.unit ∧ r.unit ≤ 4 ∧ (if r.unit < 1 ∨ 4 < r.unit then (5 : Int) else 0) = 0) ∨ (¬(1 ≤ r.unit ∧ r.unit ≤ 4) ∧ (if r.unit < 1 ∨ 4 < r.unit then (5 : Int) else 0) = 5) := by split <;> omega
  generalize (if r.unit < 1 ∨ 4 < r.unit then (5 : Int) else 0) = c0 at *
  refine apure_intro Tryz.func9 cmp9 rfl fun n H hH => ?_
  by_cases h12 : 12 < r.wdays.length
  · have e4 : chkF pWd r.wdays = 2 := by unfold chkF; rw [if_pos h12]
    rw [e4]
    repeat' (first | (simp -implicitDefEqProofs [c9_k1_go, c9_k2_go, c9_k3_go, c9_k4_go, c9_k5_go, c9_k6_go, c9_k7_go, c9_L8_go, c9_k9_go, c9_k10_go, c9_L11_go, c9_k12_go, c9_k13_go, c9_k14_go, c9_k15_go, c9_k16_go, c9, -getElem?_pos, splice, h12]) | (simp (disch := omega) only [upd_ne, Qy, if_pos, if_neg, IntWalk.i64_in, Int.tdiv_eq_ediv_of_nonneg, Int.tmod_eq_emod_of_nonneg]) | ((with_reducible refine CallP.chk (f := 11) ?_); (refine' CallP.sf ?_ (in_a _ _ _) ?_); (focus first | (with_reducible exact simL_refl _) | (simp [simL, simA, simA_refl, simL_refl]; done))) | ((with_reducible refine CallP.chk (f := 12) ?_); (refine' CallP.sf ?_ (at_a _ _) ?_); (focus first | (with_reducible exact simL_refl _) | (simp [simL, simA, simA_refl, simL_refl]; done))) | ((with_reducible refine CallP.chk (f := 41) ?_); (refine' CallP.sf ?_ (hm) ?_); (focus first | (with_reducible exact simL_refl _) | (simp [simL, simA, simA_refl, simL_refl]; done))) | ((with_reducible refine CallP.chk (f := 41) ?_); (refine' CallP.sf ?_ (hd) ?_); (focus first | (with_reducible exact simL_refl _) | (simp [simL, simA, simA_refl, simL_refl]; done))) | ((with_reducible refine CallP.chk (f := 41) ?_); (refine' CallP.sf ?_ (hp) ?_); (focus first | (with_reducible exact simL_refl _) | (simp [simL, simA, simA_refl, simL_refl]; done))) | (with_reducible refine fin_r ?_ ?_ ?_) | (with_reducible exact SameB.rfl_ _ _) | (with_reducible refine SameB.upd ?_ ?_ _) | (with_reducible assumption) | (with_reducible refine newPM_of ?_) | (with_reducible refine newP_go ?_) | (with_reducible intro _g _hg) | (with_reducible refine And.intro ?_ ?_) | (with_reducible intro _hc) | omega)
    all_goals (simp only [fbF]; (repeat' split) <;> first | exact simA_refl _ | (exfalso; omega) | (simp [simA, simL]; omega))
  have e4 : chkF pWd r.wdays = chkG pWd r.wdays [] := by unfold chkF; rw [if_neg h12]
  rw [e4]
  repeat' (first | (simp -implicitDefEqProofs [c9_k1_go, c9_k2_go, c9_k3_go, c9_k4_go, c9_k5_go, c9_k6_go, c9_k7_go, c9_L8_go, c9_k9_go, c9_k10_go, c9_L11_go, c9_k12_go, c9_k13_go, c9_k14_go, c9_k15_go, c9_k16_go, c9, -getElem?_pos, splice, h12]) | (simp (disch := omega) only [upd_ne, Qy, if_pos, if_neg, IntWalk.i64_in, Int.tdiv_eq_ediv_of_nonneg, Int.tmod_eq_emod_of_nonneg]) | ((with_reducible refine CallP.chk (f := 11) ?_); (refine' CallP.sf ?_ (in_a _ _ _) ?_); (focus first | (with_reducible exact simL_refl _) | (simp [simL, simA, simA_refl, simL_refl]; done))) | ((with_reducible refine CallP.chk (f := 12) ?_); (refine' CallP.sf ?_ (at_a _ _) ?_); (focus first | (with_reducible exact simL_refl _) | (simp [simL, simA, simA_refl, simL_refl]; done))) | ((with_reducible refine CallP.chk (f := 41) ?_); (refine' CallP.sf ?_ (hm) ?_); (focus first | (with_reducible exact simL_refl _) | (simp [simL, simA, simA_refl, simL_refl]; done))) | ((with_reducible refine CallP.chk (f := 41) ?_); (refine' CallP.sf ?_ (hd) ?_); (focus first | (with_reducible exact simL_refl _) | (simp [simL, simA, simA_refl, simL_refl]; done))) | ((with_reducible refine CallP.chk (f := 41) ?_); (refine' CallP.sf ?_ (hp) ?_); (focus first | (with_reducible exact simL_refl _) | (simp [simL, simA, simA_refl, simL_refl]; done))) | (with_reducible refine fin_r ?_ ?_ ?_) | (with_reducible exact SameB.rfl_ _ _) | (with_reducible refine SameB.upd ?_ ?_ _) | (with_reducible assumption) | (with_reducible refine newPM_of ?_) | (with_reducible refine newP_go ?_) | (with_reducible intro _g _hg) | (with_reducible refine And.intro ?_ ?_) | (with_reducible intro _hc) | omega)
  rotate_right
  · rename_i g1 hg1 g2 hg2 u0 u1 m0 d0
    have f0 : c0 = 0 := by omega
    have f1 : c1 = 0 := by omega
    refine LoopK.go (fun q s => ∃ k : Nat, k + q = r.wdays.length ∧ s = ⟨[(1, .ptr g1 0), (2, .ptr g2 0), (5, aI k)], g2 + 1, upd (upd H g1 (some (.cells 25 (aRc r)))) g2 (some (.cells 27 [aI 0, aI 0]))⟩ ∧
      chkG pWd r.wdays [] = chkG pWd (r.wdays.drop k) (r.wdays.take k)) r.wdays.length ⟨0, by omega, rfl, by simp⟩ ?_
    rintro q s ⟨k, hkq, rfl, hE⟩ J hJ
    by_cases hk : k < r.wdays.length
    · obtain ⟨y, hy⟩ : ∃ y, r.wdays[k]? = some y := ⟨_, List.getElem?_eq_getElem hk⟩
      rw [drop_at hy, chkG, ← take_at hy] at hE
      by_cases hpy : pWd y = false
      · rw [if_pos hpy] at hE
        rw [hE]
        have hf : fbF [c0, c1, c2, c3, 4, c5, c6, c7] 0 = (4, 4) := by simp [fbF, f0, f1, m0, d0]
        rw [hf]
        repeat' (first | (simp -implicitDefEqProofs [c9_k1_go, c9_k2_go, c9_k3_go, c9_k4_go, c9_k5_go, c9_k6_go, c9_k7_go, c9_L8_go, c9_k9_go, c9_k10_go, c9_L11_go, c9_k12_go, c9_k13_go, c9_k14_go, c9_k15_go, c9_k16_go, c9, -getElem?_pos, splice, hy, simA, simL]) | (simp (disch := omega) only [upd_ne, Qy, if_pos, if_neg, IntWalk.i64_in, Int.tdiv_eq_ediv_of_nonneg, Int.tmod_eq_emod_of_nonneg]) | ((with_reducible refine CallP.chk (f := 11) ?_); (refine' CallP.sf ?_ (in_a _ _ _) ?_); (focus first | (with_reducible exact simL_refl _) | (simp [simL, simA, simA_refl, simL_refl]; done))) | ((with_reducible refine CallP.chk (f := 12) ?_); (refine' CallP.sf ?_ (at_a _ _) ?_); (focus first | (with_reducible exact simL_refl _) | (simp [simL, simA, simA_refl, simL_refl]; done))) | (with_reducible refine fin_r ?_ ?_ ?_) | (with_reducible exact SameB.rfl_ _ _) | (with_reducible refine SameB.upd ?_ ?_ _) | (with_reducible assumption) | (with_reducible refine newPM_of ?_) | (with_reducible refine newP_go ?_) | (with_reducible intro _g _hg) | (with_reducible refine And.intro ?_ ?_) | (with_reducible intro _hc) | omega)
        all_goals (exfalso; simp_all [pWd]; try omega)
      · rw [if_neg hpy] at hE
        have hpy2 : 0 ≤ y.1 ∧ y.1 ≤ 6 ∧ -5 ≤ y.2 ∧ y.2 ≤ 5 := by simp [pWd] at hpy; omega
        repeat' (first | (simp -implicitDefEqProofs [c9_k1_go, c9_k2_go, c9_k3_go, c9_k4_go, c9_k5_go, c9_k6_go, c9_k7_go, c9_L8_go, c9_k9_go, c9_k10_go, c9_L11_go, c9_k12_go, c9_k13_go, c9_k14_go, c9_k15_go, c9_k16_go, c9, -getElem?_pos, splice, hy, simA, simL, hpy2]) | (simp (disch := omega) only [upd_ne, Qy, if_pos, if_neg, IntWalk.i64_in, Int.tdiv_eq_ediv_of_nonneg, Int.tmod_eq_emod_of_nonneg]) | ((with_reducible refine CallP.chk (f := 11) ?_); (refine' CallP.sf ?_ (in_a _ _ _) ?_); (focus first | (with_reducible exact simL_refl _) | (simp [simL, simA, simA_refl, simL_refl]; done))) | ((with_reducible refine CallP.chk (f := 12) ?_); (refine' CallP.sf ?_ (at_a _ _) ?_); (focus first | (with_reducible exact simL_refl _) | (simp [simL, simA, simA_refl, simL_refl]; done))) | (with_reducible refine fin_r ?_ ?_ ?_) | (with_reducible exact SameB.rfl_ _ _) | (with_reducible refine SameB.upd ?_ ?_ _) | (with_reducible assumption) | (with_reducible refine newPM_of ?_) | (with_reducible refine newP_go ?_) | (with_reducible intro _g _hg) | (with_reducible refine And.intro ?_ ?_) | (with_reducible intro _hc) | omega)
        refine LoopK.go (fun q s => ∃ j : Nat, j + q = k ∧ s = ⟨[(1, .ptr g1 0), (2, .ptr g2 0), (5, aI k), (6, aI j)], g2 + 1, upd (upd H g1 (some (.cells 25 (aRc r)))) g2 (some (.cells 27 [aI 0, aI 0]))⟩ ∧
          y ∉ r.wdays.take j) k ⟨0, by omega, rfl, by simp⟩ ?_
        rintro q2 s ⟨j, hjq, rfl, hjn⟩ J2 hJ2
        by_cases hj : j < k
        · obtain ⟨z, hz⟩ : ∃ z, r.wdays[j]? = some z := ⟨_, List.getElem?_eq_getElem (by omega)⟩
          have hzy := @Prod.ext_iff _ _ z y
          by_cases hc : z = y
          · subst hc
            have hmem : z ∈ r.wdays.take k := List.mem_of_getElem? (i := j) (by rw [List.getElem?_take_of_lt hj]; exact hz)
            rw [if_pos hmem] at hE
            rw [hE]
            have hf : fbF [c0, c1, c2, c3, 8, c5, c6, c7] 0 = (8, 4) := by simp [fbF, f0, f1, m0, d0]
            rw [hf]
            repeat' (first | (simp -implicitDefEqProofs [c9_k1_go, c9_k2_go, c9_k3_go, c9_k4_go, c9_k5_go, c9_k6_go, c9_k7_go, c9_L8_go, c9_k9_go, c9_k10_go, c9_L11_go, c9_k12_go, c9_k13_go, c9_k14_go, c9_k15_go, c9_k16_go, c9, -getElem?_pos, splice, hy, hz, simA, simL]) | (simp (disch := omega) only [upd_ne, Qy, if_pos, if_neg, IntWalk.i64_in, Int.tdiv_eq_ediv_of_nonneg, Int.tmod_eq_emod_of_nonneg]) | ((with_reducible refine CallP.chk (f := 11) ?_); (refine' CallP.sf ?_ (in_a _ _ _) ?_); (focus first | (with_reducible exact simL_refl _) | (simp [simL, simA, simA_refl, simL_refl]; done))) | ((with_reducible refine CallP.chk (f := 12) ?_); (refine' CallP.sf ?_ (at_a _ _) ?_); (focus first | (with_reducible exact simL_refl _) | (simp [simL, simA, simA_refl, simL_refl]; done))) | (with_reducible refine fin_r ?_ ?_ ?_) | (with_reducible exact SameB.rfl_ _ _) | (with_reducible refine SameB.upd ?_ ?_ _) | (with_reducible assumption) | (with_reducible refine newPM_of ?_) | (with_reducible refine newP_go ?_) | (with_reducible intro _g _hg) | (with_reducible refine And.intro ?_ ?_) | (with_reducible intro _hc) | omega)
          · repeat' (first | (simp -implicitDefEqProofs [c9_k1_go, c9_k2_go, c9_k3_go, c9_k4_go, c9_k5_go, c9_k6_go, c9_k7_go, c9_L8_go, c9_k9_go, c9_k10_go, c9_L11_go, c9_k12_go, c9_k13_go, c9_k14_go, c9_k15_go, c9_k16_go, c9, -getElem?_pos, splice, hy, hz, simA, simL]) | (simp (disch := omega) only [upd_ne, Qy, if_pos, if_neg, IntWalk.i64_in, Int.tdiv_eq_ediv_of_nonneg, Int.tmod_eq_emod_of_nonneg]) | ((with_reducible refine CallP.chk (f := 11) ?_); (refine' CallP.sf ?_ (in_a _ _ _) ?_); (focus first | (with_reducible exact simL_refl _) | (simp [simL, simA, simA_refl, simL_refl]; done))) | ((with_reducible refine CallP.chk (f := 12) ?_); (refine' CallP.sf ?_ (at_a _ _) ?_); (focus first | (with_reducible exact simL_refl _) | (simp [simL, simA, simA_refl, simL_refl]; done))) | (with_reducible refine fin_r ?_ ?_ ?_) | (with_reducible exact SameB.rfl_ _ _) | (with_reducible refine SameB.upd ?_ ?_ _) | (with_reducible assumption) | (with_reducible refine newPM_of ?_) | (with_reducible refine newP_go ?_) | (with_reducible intro _g _hg) | (with_reducible refine And.intro ?_ ?_) | (with_reducible intro _hc) | omega)
            all_goals first
              | exact hJ2 (q2 - 1) _ (by omega) ⟨j + 1, by omega, rfl, by rw [take_at hz]; simp [hjn]; exact fun h => hc h.symm⟩
              | (exfalso; exact hc (hzy.2 (by simp_all)))
        · have hj0 : j = k := by omega
          subst hj0
          rw [if_neg hjn] at hE
          repeat' (first | (simp -implicitDefEqProofs [c9_k1_go, c9_k2_go, c9_k3_go, c9_k4_go, c9_k5_go, c9_k6_go, c9_k7_go, c9_L8_go, c9_k9_go, c9_k10_go, c9_L11_go, c9_k12_go, c9_k13_go, c9_k14_go, c9_k15_go, c9_k16_go, c9, -getElem?_pos, splice, hy, simA, simL]) | (simp (disch := omega) only [upd_ne, Qy, if_pos, if_neg, IntWalk.i64_in, Int.tdiv_eq_ediv_of_nonneg, Int.tmod_eq_emod_of_nonneg]) | ((with_reducible refine CallP.chk (f := 11) ?_); (refine' CallP.sf ?_ (in_a _ _ _) ?_); (focus first | (with_reducible exact simL_refl _) | (simp [simL, simA, simA_refl, simL_refl]; done))) | ((with_reducible refine CallP.chk (f := 12) ?_); (refine' CallP.sf ?_ (at_a _ _) ?_); (focus first | (with_reducible exact simL_refl _) | (simp [simL, simA, simA_refl, simL_refl]; done))) | (with_reducible refine fin_r ?_ ?_ ?_) | (with_reducible exact SameB.rfl_ _ _) | (with_reducible refine SameB.upd ?_ ?_ _) | (with_reducible assumption) | (with_reducible refine newPM_of ?_) | (with_reducible refine newP_go ?_) | (with_reducible intro _g _hg) | (with_reducible refine And.intro ?_ ?_) | (with_reducible intro _hc) | omega)
          all_goals exact hJ (q - 1) _ (by omega) ⟨j + 1, by omega, rfl, hE⟩
    · have hk0 : k = r.wdays.length := by omega
      subst hk0
      simp [chkG] at hE
      rw [hE]
      have hf : fbF [c0, c1, c2, c3, 0, c5, c6, c7] 0 = fbF [c5, c6, c7] 5 := by simp [fbF, f0, f1, m0, d0]
      rw [hf]
      repeat' (first | (simp -implicitDefEqProofs [c9_k1_go, c9_k2_go, c9_k3_go, c9_k4_go, c9_k5_go, c9_k6_go, c9_k7_go, c9_L8_go, c9_k9_go, c9_k10_go, c9_L11_go, c9_k12_go, c9_k13_go, c9_k14_go, c9_k15_go, c9_k16_go, c9, -getElem?_pos, splice]) | (simp (disch := omega) only [upd_ne, Qy, if_pos, if_neg, IntWalk.i64_in, Int.tdiv_eq_ediv_of_nonneg, Int.tmod_eq_emod_of_nonneg]) | ((with_reducible refine CallP.chk (f := 11) ?_); (refine' CallP.sf ?_ (in_a _ _ _) ?_); (focus first | (with_reducible exact simL_refl _) | (simp [simL, simA, simA_refl, simL_refl]; done))) | ((with_reducible refine CallP.chk (f := 12) ?_); (refine' CallP.sf ?_ (at_a _ _) ?_); (focus first | (with_reducible exact simL_refl _) | (simp [simL, simA, simA_refl, simL_refl]; done))) | ((with_reducible refine CallP.chk (f := 41) ?_); (refine' CallP.sf ?_ (hp) ?_); (focus first | (with_reducible exact simL_refl _) | (simp [simL, simA, simA_refl, simL_refl]; done))) | (with_reducible refine fin_r ?_ ?_ ?_) | (with_reducible exact SameB.rfl_ _ _) | (with_reducible refine SameB.upd ?_ ?_ _) | (with_reducible assumption) | (with_reducible refine newPM_of ?_) | (with_reducible refine newP_go ?_) | (with_reducible intro _g _hg) | (with_reducible refine And.intro ?_ ?_) | (with_reducible intro _hc) | omega)
      all_goals (simp only [fbF]; (repeat' split) <;> first | exact simA_refl _ | (exfalso; omega) | (simp [simA, simL]; omega))
  all_goals (simp only [fbF]; (repeat' split) <;> first | exact simA_refl _ | (exfalso; omega) | (simp [simA, simL]; omega))
end Go.Proofs.YtecpfmhminkalaaGreatDoor
namespace Go.Proofs.YtecpfmhminkalaaGreatDoor
attribute [local simp] YL Z7 Z9 YM YN YO YP Z8 Z3 Z5 Z4 YQ YR YS YT YU YV YW YX YY YZ Ya Yb Yc Yd scV pe Ye Yf Yg Yh Yi Yj Yk Yl Ym Yn Yo spg_mv Yp Yq Yr Ys Yt Yu Yv Yw Yx Yy Yz X0 X1 X2 X3 X4 X5 X6 X7 X8 X9 spg_mm XA YD XB XC XD XE XF XG XH XI XJ XK XL XM XN XO XP XQ XR XS XT XU XV XW XX XY XZ YC Xa Xb Xc Xd Xe Xf Xg Xh Xi Xj Xk Xl Xm Xn Xo Xp Xq Xr Xs Xt Xu Xv Xw Xx List.mem_cons ZO ZN Z1 YG Zu Xy Zi Zr Zn Zp Zq Zo Zv Zw Zm Xz Q0 Zl Q1 Q2 Q4 Q5 Q6 Q7 Zs Q8 Q9 QA QB QC QD Zt Zh Zx Y1 Y2 QE QF Y3 QG Zj QH Zk Zg QI Zy Zz QJ QK QM QN QO QP QR QS Zd ZK ZI Zc Zf ZH ZM YB Z0 QT ZV ZL Ze ZC ZZ ZA Y5 ZJ Y8 Y9 Zb ZY ZU ZX Za ZT ZD ev get put Y4 ZS QU QV QW QX QY QZ ZE part ZW Qb Qc Qd isNil ZR ZQ ZB ZP YE Qe Qf Qg Qh Qi Qj Qk Ql Qm Qn Qo Qp Qq Qr Qs Qt AV.fits AV.cells ones AV.one YH YI YJ YK ZF ZG Qu Qv Qw Qx Y6 Y7 resV Z2 Qy YA u8e YF Qz V0 List.getElem?_cons_zero List.getElem?_cons_succ
section
variable {n g : Nat} {H : AHeap} (r : Rule) (hg : H g = some (.cells 25 (aRc r)))
include hg
theorem val1_at : APureAt Tryz.prog 25 [.ptr g 0] n H (aI (if r.unit < 1 ∨ 4 < r.unit then 5 else 0)) := by
  refine apureAt_intro Tryz.func25 cmp25 rfl fun hH => ?_
  repeat' (first | (simp -implicitDefEqProofs [c25_k1_go, c25, -getElem?_pos, simA, hg]) | (simp (disch := omega) only [upd_ne, Qy, if_pos, if_neg, IntWalk.i64_in, Int.tdiv_eq_ediv_of_nonneg, Int.tmod_eq_emod_of_nonneg]) | (with_reducible refine fin_r ?_ ?_ ?_) | (with_reducible exact SameB.rfl_ _ _) | (with_reducible refine SameB.upd ?_ ?_ _) | (with_reducible assumption) | (with_reducible intro _g _hg) | (with_reducible refine And.intro ?_ ?_) | (with_reducible intro _hc) | omega)
  all_goals first | (rw [if_pos (by omega)]) | (rw [if_neg (by omega)])
theorem val2_at : APureAt Tryz.prog 26 [.ptr g 0] n H (aI (wthF r.step 1 1000)) := by
  refine apureAt_intro Tryz.func26 cmp26 rfl fun hH => ?_
  repeat' (first | (simp -implicitDefEqProofs [c26, -getElem?_pos, simA, hg]) | (simp (disch := omega) only [upd_ne, Qy, if_pos, if_neg, IntWalk.i64_in, Int.tdiv_eq_ediv_of_nonneg, Int.tmod_eq_emod_of_nonneg]) | ((with_reducible refine CallP.chk (f := 27) ?_); (refine' CallP.sf ?_ (within_a _ _ _) ?_); (focus first | (with_reducible exact simL_refl _) | (simp [simL, simA, simA_refl, simL_refl]; done))) | (with_reducible refine fin_r ?_ ?_ ?_) | (with_reducible exact SameB.rfl_ _ _) | (with_reducible refine SameB.upd ?_ ?_ _) | (with_reducible assumption) | (with_reducible intro _g _hg) | (with_reducible refine And.intro ?_ ?_) | (with_reducible intro _hc) | omega)
theorem val7_at : APureAt Tryz.prog 39 [.ptr g 0] n H (aI (wthF r.count 0 20001)) := by
  refine apureAt_intro Tryz.func39 cmp39 rfl fun hH => ?_
  repeat' (first | (simp -implicitDefEqProofs [c39, -getElem?_pos, simA, hg]) | (simp (disch := omega) only [upd_ne, Qy, if_pos, if_neg, IntWalk.i64_in, Int.tdiv_eq_ediv_of_nonneg, Int.tmod_eq_emod_of_nonneg]) | ((with_reducible refine CallP.chk (f := 27) ?_); (refine' CallP.sf ?_ (within_a _ _ _) ?_); (focus first | (with_reducible exact simL_refl _) | (simp [simL, simA, simA_refl, simL_refl]; done))) | (with_reducible refine fin_r ?_ ?_ ?_) | (with_reducible exact SameB.rfl_ _ _) | (with_reducible refine SameB.upd ?_ ?_ _) | (with_reducible assumption) | (with_reducible intro _g _hg) | (with_reducible refine And.intro ?_ ?_) | (with_reducible intro _hc) | omega)
theorem val8_at : APureAt Tryz.prog 40 [.ptr g 0] n H (aI (wthF r.untl 0 3652059)) := by
  refine apureAt_intro Tryz.func40 cmp40 rfl fun hH => ?_
  repeat' (first | (simp -implicitDefEqProofs [c40, -getElem?_pos, simA, hg]) | (simp (disch := omega) only [upd_ne, Qy, if_pos, if_neg, IntWalk.i64_in, Int.tdiv_eq_ediv_of_nonneg, Int.tmod_eq_emod_of_nonneg]) | ((with_reducible refine CallP.chk (f := 27) ?_); (refine' CallP.sf ?_ (within_a _ _ _) ?_); (focus first | (with_reducible exact simL_refl _) | (simp [simL, simA, simA_refl, simL_refl]; done))) | (with_reducible refine fin_r ?_ ?_ ?_) | (with_reducible exact SameB.rfl_ _ _) | (with_reducible refine SameB.upd ?_ ?_ _) | (with_reducible assumption) | (with_reducible intro _g _hg) | (with_reducible refine And.intro ?_ ?_) | (with_reducible intro _hc) | omega)
end
theorem mon_a (x : Int) : APure Tryz.prog 30 [aI x] (.bool (pMon x)) := by
  refine apure_intro Tryz.func30 cmp30 rfl fun n H hH => ?_
  repeat' (first | (simp -implicitDefEqProofs [c30, -getElem?_pos, simA, pMon]) | (simp (disch := omega) only [upd_ne, Qy, if_pos, if_neg, IntWalk.i64_in, Int.tdiv_eq_ediv_of_nonneg, Int.tmod_eq_emod_of_nonneg]) | (with_reducible refine fin_r ?_ ?_ ?_) | (with_reducible exact SameB.rfl_ _ _) | (with_reducible refine SameB.upd ?_ ?_ _) | (with_reducible assumption) | (with_reducible intro _g _hg) | (with_reducible refine And.intro ?_ ?_) | (with_reducible intro _hc) | omega)
theorem mday_a (x : Int) : APure Tryz.prog 32 [aI x] (.bool (pSgn 31 x)) := by
  refine apure_intro Tryz.func32 cmp32 rfl fun n H hH => ?_
  repeat' (first | (simp -implicitDefEqProofs [c32, -getElem?_pos, simA]) | (simp (disch := omega) only [upd_ne, Qy, if_pos, if_neg, IntWalk.i64_in, Int.tdiv_eq_ediv_of_nonneg, Int.tmod_eq_emod_of_nonneg]) | ((with_reducible refine CallP.chk (f := 33) ?_); (refine' CallP.sf ?_ (signed_a x 31 (by omega)) ?_); (focus first | (with_reducible exact simL_refl _) | (simp [simL, simA, simA_refl, simL_refl]; done))) | (with_reducible refine fin_r ?_ ?_ ?_) | (with_reducible exact SameB.rfl_ _ _) | (with_reducible refine SameB.upd ?_ ?_ _) | (with_reducible assumption) | (with_reducible intro _g _hg) | (with_reducible refine And.intro ?_ ?_) | (with_reducible intro _hc) | omega)
theorem pck_a (x : Int) : APure Tryz.prog 38 [aI x] (.bool (pSgn 366 x)) := by
  refine apure_intro Tryz.func38 cmp38 rfl fun n H hH => ?_
  repeat' (first | (simp -implicitDefEqProofs [c38, -getElem?_pos, simA]) | (simp (disch := omega) only [upd_ne, Qy, if_pos, if_neg, IntWalk.i64_in, Int.tdiv_eq_ediv_of_nonneg, Int.tmod_eq_emod_of_nonneg]) | ((with_reducible refine CallP.chk (f := 33) ?_); (refine' CallP.sf ?_ (signed_a x 366 (by omega)) ?_); (focus first | (with_reducible exact simL_refl _) | (simp [simL, simA, simA_refl, simL_refl]; done))) | (with_reducible refine fin_r ?_ ?_ ?_) | (with_reducible exact SameB.rfl_ _ _) | (with_reducible refine SameB.upd ?_ ?_ _) | (with_reducible assumption) | (with_reducible intro _g _hg) | (with_reducible refine And.intro ?_ ?_) | (with_reducible intro _hc) | omega)
theorem wday_a (x : Int × Int) : APure Tryz.prog 36 [aWd x] (.bool (pWd x)) := by
  refine apure_intro Tryz.func36 cmp36 rfl fun n H hH => ?_
  repeat' (first | (simp -implicitDefEqProofs [c36, -getElem?_pos, simA, pWd]) | (simp (disch := omega) only [upd_ne, Qy, if_pos, if_neg, IntWalk.i64_in, Int.tdiv_eq_ediv_of_nonneg, Int.tmod_eq_emod_of_nonneg]) | (with_reducible refine fin_r ?_ ?_ ?_) | (with_reducible exact SameB.rfl_ _ _) | (with_reducible refine SameB.upd ?_ ?_ _) | (with_reducible assumption) | (with_reducible refine newPM_of ?_) | (with_reducible refine newP_go ?_) | (with_reducible intro _g _hg) | (with_reducible refine And.intro ?_ ?_) | (with_reducible intro _hc) | omega)
theorem calM : callable Tryz.prog 30 = true := by kernel_rfl
theorem calD : callable Tryz.prog 32 = true := by kernel_rfl
theorem calP : callable Tryz.prog 38 = true := by kernel_rfl
theorem calW : callable Tryz.prog 36 = true := by kernel_rfl
theorem cal1 : callable Tryz.prog 25 = true := by kernel_rfl
theorem cal2 : callable Tryz.prog 26 = true := by kernel_rfl
theorem cal3 : callable Tryz.prog 28 = true := by kernel_rfl
theorem cal4 : callable Tryz.prog 31 = true := by kernel_rfl
theorem cal5 : callable Tryz.prog 34 = true := by kernel_rfl
theorem cal6 : callable Tryz.prog 37 = true := by kernel_rfl
theorem cal7 : callable Tryz.prog 39 = true := by kernel_rfl
theorem cal8 : callable Tryz.prog 40 = true := by kernel_rfl
theorem chkM_a (l : List Int) : APure Tryz.prog 29 [aL l, .fn 30 [] []] (aI (chkF pMon l)) := fun n H => chk_at l 30 [] [] pMon calM (fun x => (mon_a x).at_ n H)
theorem chkD_a (l : List Int) : APure Tryz.prog 29 [aL l, .fn 32 [] []] (aI (chkF (pSgn 31) l)) := fun n H => chk_at l 32 [] [] (pSgn 31) calD (fun x => (mday_a x).at_ n H)
theorem chkP_a (l : List Int) : APure Tryz.prog 29 [aL l, .fn 38 [] []] (aI (chkF (pSgn 366) l)) := fun n H => chk_at l 38 [] [] (pSgn 366) calP (fun x => (pck_a x).at_ n H)
theorem chkW_a (l : List (Int × Int)) : APure Tryz.prog 35 [aWs l, .fn 36 [] []] (aI (chkF pWd l)) := fun n H => chkW_at l 36 [] [] pWd calW (fun x n H => (wday_a x).at_ n H)
section
variable {n g : Nat} {H : AHeap} (r : Rule) (hg : H g = some (.cells 25 (aRc r)))
include hg
theorem val3_at : APureAt Tryz.prog 28 [.ptr g 0] n H (aI (chkF pMon r.months)) := by
  refine apureAt_intro Tryz.func28 cmp28 rfl fun hH => ?_
  repeat' (first | (simp -implicitDefEqProofs [c28, -getElem?_pos, simA, hg]) | (simp (disch := omega) only [upd_ne, Qy, if_pos, if_neg, IntWalk.i64_in, Int.tdiv_eq_ediv_of_nonneg, Int.tmod_eq_emod_of_nonneg]) | ((with_reducible refine CallP.chk (f := 29) ?_); (refine' CallP.sf ?_ (chkM_a _) ?_); (focus first | (with_reducible exact simL_refl _) | (simp [simL, simA, simA_refl, simL_refl]; done))) | (with_reducible refine fin_r ?_ ?_ ?_) | (with_reducible exact SameB.rfl_ _ _) | (with_reducible refine SameB.upd ?_ ?_ _) | (with_reducible assumption) | (with_reducible intro _g _hg) | (with_reducible refine And.intro ?_ ?_) | (with_reducible intro _hc) | omega)
theorem val4_at : APureAt Tryz.prog 31 [.ptr g 0] n H (aI (chkF (pSgn 31) r.mdays)) := by
  refine apureAt_intro Tryz.func31 cmp31 rfl fun hH => ?_
  repeat' (first | (simp -implicitDefEqProofs [c31, -getElem?_pos, simA, hg]) | (simp (disch := omega) only [upd_ne, Qy, if_pos, if_neg, IntWalk.i64_in, Int.tdiv_eq_ediv_of_nonneg, Int.tmod_eq_emod_of_nonneg]) | ((with_reducible refine CallP.chk (f := 29) ?_); (refine' CallP.sf ?_ (chkD_a _) ?_); (focus first | (with_reducible exact simL_refl _) | (simp [simL, simA, simA_refl, simL_refl]; done))) | (with_reducible refine fin_r ?_ ?_ ?_) | (with_reducible exact SameB.rfl_ _ _) | (with_reducible refine SameB.upd ?_ ?_ _) | (with_reducible assumption) | (with_reducible intro _g _hg) | (with_reducible refine And.intro ?_ ?_) | (with_reducible intro _hc) | omega)
theorem val5_at : APureAt Tryz.prog 34 [.ptr g 0] n H (aI (chkF pWd r.wdays)) := by
  refine apureAt_intro Tryz.func34 cmp34 rfl fun hH => ?_
  repeat' (first | (simp -implicitDefEqProofs [c34, -getElem?_pos, simA, hg]) | (simp (disch := omega) only [upd_ne, Qy, if_pos, if_neg, IntWalk.i64_in, Int.tdiv_eq_ediv_of_nonneg, Int.tmod_eq_emod_of_nonneg]) | ((with_reducible refine CallP.chk (f := 35) ?_); (refine' CallP.sf ?_ (chkW_a _) ?_); (focus first | (with_reducible exact simL_refl _) | (simp [simL, simA, simA_refl, simL_refl]; done))) | (with_reducible refine fin_r ?_ ?_ ?_) | (with_reducible exact SameB.rfl_ _ _) | (with_reducible refine SameB.upd ?_ ?_ _) | (with_reducible assumption) | (with_reducible intro _g _hg) | (with_reducible refine And.intro ?_ ?_) | (with_reducible intro _hc) | omega)
theorem val6_at : APureAt Tryz.prog 37 [.ptr g 0] n H (aI (chkF (pSgn 366) r.picks)) := by
  refine apureAt_intro Tryz.func37 cmp37 rfl fun hH => ?_
  repeat' (first | (simp -implicitDefEqProofs [c37, -getElem?_pos, simA, hg]) | (simp (disch := omega) only [upd_ne, Qy, if_pos, if_neg, IntWalk.i64_in, Int.tdiv_eq_ediv_of_nonneg, Int.tmod_eq_emod_of_nonneg]) | ((with_reducible refine CallP.chk (f := 29) ?_); (refine' CallP.sf ?_ (chkP_a _) ?_); (focus first | (with_reducible exact simL_refl _) | (simp [simL, simA, simA_refl, simL_refl]; done))) | (with_reducible refine fin_r ?_ ?_ ?_) | (with_reducible exact SameB.rfl_ _ _) | (with_reducible refine SameB.upd ?_ ?_ _) | (with_reducible assumption) | (with_reducible intro _g _hg) | (with_reducible refine And.intro ?_ ?_) | (with_reducible intro _hc) | omega)
end
set_option maxHeartbeats 4000000 in
theorem validate_a (r : Rule) : APure Tryz.prog 8 [aR r] (aF (ruleF r)) := by
  rw [ruleF_fb]
  unfold cdF
  refine apure_intro Tryz.func8 cmp8 rfl fun n H hH => ?_
  repeat' (first | (simp -implicitDefEqProofs [c8_k1_go, c8_k2_go, c8_k3_go, c8_L4_go, c8, -getElem?_pos, simA, splice]) | (simp (disch := omega) only [upd_ne, Qy, if_pos, if_neg, IntWalk.i64_in, Int.tdiv_eq_ediv_of_nonneg, Int.tmod_eq_emod_of_nonneg]) | (with_reducible refine fin_r ?_ ?_ ?_) | (with_reducible exact SameB.rfl_ _ _) | (with_reducible refine SameB.upd ?_ ?_ _) | (with_reducible assumption) | (with_reducible refine newPM_of ?_) | (with_reducible refine newP_go ?_) | (with_reducible intro _g _hg) | (with_reducible refine And.intro ?_ ?_) | (with_reducible intro _hc) | omega)
  rename_i g1 hg1 g2 hg2
  obtain ⟨HH, hHH⟩ : ∃ HH, HH = (upd (upd (upd (upd H g1 (some (.cells 25 (aRc r)))) g2 (some (.cells 27 [aI 0, aI 0]))) _g (some (.cells 58 [AV.nfn, AV.nfn, AV.nfn, AV.nfn, AV.nfn, AV.nfn, AV.nfn, AV.nfn]))) _g (some (.cells 58 [.fn 25 [] [.ptr g1 0], .fn 26 [] [.ptr g1 0], .fn 28 [] [.ptr g1 0], .fn 31 [] [.ptr g1 0], .fn 34 [] [.ptr g1 0], .fn 37 [] [.ptr g1 0], .fn 39 [] [.ptr g1 0], .fn 40 [] [.ptr g1 0]]))) := ⟨_, rfl⟩
  rw [← hHH]
  have h1 : HH g1 = some (.cells 25 (aRc r)) := by rw [hHH, upd_ne (by omega), upd_ne (by omega), upd_ne (by omega), Qy]
  have h2 : HH g2 = some (.cells 27 [aI 0, aI 0]) := by rw [hHH, upd_ne (by omega), upd_ne (by omega), Qy]
  have hS : SameB n H HH := by
    rw [hHH]
    exact (((SameB.rfl_ n H).upd (by omega) _).upd (by omega) _).upd (by omega) _ |>.upd (by omega) _
  have hle : n ≤ _g + 1 := by omega
  clear hHH
  generalize hc0 : (if r.unit < 1 ∨ 4 < r.unit then (5 : Int) else 0) = c0
  generalize hc1 : wthF r.step 1 1000 = c1
  generalize hc2 : chkF pMon r.months = c2
  generalize hc3 : chkF (pSgn 31) r.mdays = c3
  generalize hc4 : chkF pWd r.wdays = c4
  generalize hc5 : chkF (pSgn 366) r.picks = c5
  generalize hc6 : wthF r.count 0 20001 = c6
  generalize hc7 : wthF r.untl 0 3652059 = c7
  obtain ⟨F, hF⟩ : ∃ F, F = fbF [c0, c1, c2, c3, c4, c5, c6, c7] 0 := ⟨_, rfl⟩
  rw [← hF]
  refine LoopK.go (fun q s => ∃ k : Nat, k + q = 8 ∧ s = ⟨[(2, .ptr g2 0), (16, .agg [.fn 25 [] [.ptr g1 0], .fn 26 [] [.ptr g1 0], .fn 28 [] [.ptr g1 0], .fn 31 [] [.ptr g1 0], .fn 34 [] [.ptr g1 0], .fn 37 [] [.ptr g1 0], .fn 39 [] [.ptr g1 0], .fn 40 [] [.ptr g1 0]]), (17, aI k)], _g + 1, HH⟩ ∧
    F = fbF ([c0, c1, c2, c3, c4, c5, c6, c7].drop k) k) 8 ⟨0, by omega, rfl, hF⟩ ?_
  rintro q s ⟨k, hk, rfl, hE⟩ J hJ
  have hk8 : k = 0 ∨ k = 1 ∨ k = 2 ∨ k = 3 ∨ k = 4 ∨ k = 5 ∨ k = 6 ∨ k = 7 ∨ k = 8 := by omega
  rcases hk8 with rfl | rfl | rfl | rfl | rfl | rfl | rfl | rfl | rfl
  · have hv := val1_at (n := _g + 1) r h1
    rw [hc0] at hv
    simp only [List.drop, fbF] at hE
    repeat' (first | (simp -implicitDefEqProofs [c8_k1_go, c8_k2_go, c8_k3_go, c8_L4_go, c8, -getElem?_pos, simA, simL, cal1, h2, splice]) | (simp (disch := omega) only [upd_ne, Qy, if_pos, if_neg, IntWalk.i64_in, Int.tdiv_eq_ediv_of_nonneg, Int.tmod_eq_emod_of_nonneg]) | ((with_reducible refine CallK.chk (f := 25) ?_); (refine' CallK.sfAt ?_ (hv) ?_); (focus first | (with_reducible exact simL_refl _) | (simp [simL, simA, simA_refl, simL_refl]; done))) | (with_reducible refine fin_r ?_ ?_ ?_) | (with_reducible exact SameB.rfl_ _ _) | (with_reducible refine SameB.upd ?_ ?_ _) | (with_reducible assumption) | (with_reducible refine newPM_of ?_) | (with_reducible refine newP_go ?_) | (with_reducible intro _g _hg) | (with_reducible refine And.intro ?_ ?_) | (with_reducible intro _hc) | omega)
    all_goals first
      | exact hJ (q - 1) _ (by omega) ⟨1, by omega, rfl, by rw [hE, if_pos (by simp_all)]; rfl⟩
      | exact hS.upd (by omega) _
      | (simp [hE, *]; done)
  · have hv := val2_at (n := _g + 1) r h1
    rw [hc1] at hv
    simp only [List.drop, fbF] at hE
    repeat' (first | (simp -implicitDefEqProofs [c8_k1_go, c8_k2_go, c8_k3_go, c8_L4_go, c8, -getElem?_pos, simA, simL, cal2, h2, splice]) | (simp (disch := omega) only [upd_ne, Qy, if_pos, if_neg, IntWalk.i64_in, Int.tdiv_eq_ediv_of_nonneg, Int.tmod_eq_emod_of_nonneg]) | ((with_reducible refine CallK.chk (f := 26) ?_); (refine' CallK.sfAt ?_ (hv) ?_); (focus first | (with_reducible exact simL_refl _) | (simp [simL, simA, simA_refl, simL_refl]; done))) | (with_reducible refine fin_r ?_ ?_ ?_) | (with_reducible exact SameB.rfl_ _ _) | (with_reducible refine SameB.upd ?_ ?_ _) | (with_reducible assumption) | (with_reducible refine newPM_of ?_) | (with_reducible refine newP_go ?_) | (with_reducible intro _g _hg) | (with_reducible refine And.intro ?_ ?_) | (with_reducible intro _hc) | omega)
    all_goals first
      | exact hJ (q - 1) _ (by omega) ⟨2, by omega, rfl, by rw [hE, if_pos (by simp_all)]; rfl⟩
      | exact hS.upd (by omega) _
      | (simp [hE, *]; done)
  · have hv := val3_at (n := _g + 1) r h1
    rw [hc2] at hv
    simp only [List.drop, fbF] at hE
    repeat' (first | (simp -implicitDefEqProofs [c8_k1_go, c8_k2_go, c8_k3_go, c8_L4_go, c8, -getElem?_pos, simA, simL, cal3, h2, splice]) | (simp (disch := omega) only [upd_ne, Qy, if_pos, if_neg, IntWalk.i64_in, Int.tdiv_eq_ediv_of_nonneg, Int.tmod_eq_emod_of_nonneg]) | ((with_reducible refine CallK.chk (f := 28) ?_); (refine' CallK.sfAt ?_ (hv) ?_); (focus first | (with_reducible exact simL_refl _) | (simp [simL, simA, simA_refl, simL_refl]; done))) | (with_reducible refine fin_r ?_ ?_ ?_) | (with_reducible exact SameB.rfl_ _ _) | (with_reducible refine SameB.upd ?_ ?_ _) | (with_reducible assumption) | (with_reducible refine newPM_of ?_) | (with_reducible refine newP_go ?_) | (with_reducible intro _g _hg) | (with_reducible refine And.intro ?_ ?_) | (with_reducible intro _hc) | omega)
    all_goals first
      | exact hJ (q - 1) _ (by omega) ⟨3, by omega, rfl, by rw [hE, if_pos (by simp_all)]; rfl⟩
      | exact hS.upd (by omega) _
      | (simp [hE, *]; done)
  · have hv := val4_at (n := _g + 1) r h1
    rw [hc3] at hv
    simp only [List.drop, fbF] at hE
    repeat' (first | (simp -implicitDefEqProofs [c8_k1_go, c8_k2_go, c8_k3_go, c8_L4_go, c8, -getElem?_pos, simA, simL, cal4, h2, splice]) | (simp (disch := omega) only [upd_ne, Qy, if_pos, if_neg, IntWalk.i64_in, Int.tdiv_eq_ediv_of_nonneg, Int.tmod_eq_emod_of_nonneg]) | ((with_reducible refine CallK.chk (f := 31) ?_); (refine' CallK.sfAt ?_ (hv) ?_); (focus first | (with_reducible exact simL_refl _) | (simp [simL, simA, simA_refl, simL_refl]; done))) | (with_reducible refine fin_r ?_ ?_ ?_) | (with_reducible exact SameB.rfl_ _ _) | (with_reducible refine SameB.upd ?_ ?_ _) | (with_reducible assumption) | (with_reducible refine newPM_of ?_) | (with_reducible refine newP_go ?_) | (with_reducible intro _g _hg) | (with_reducible refine And.intro ?_ ?_) | (with_reducible intro _hc) | omega)
    all_goals first
      | exact hJ (q - 1) _ (by omega) ⟨4, by omega, rfl, by rw [hE, if_pos (by simp_all)]; rfl⟩
      | exact hS.upd (by omega) _
      | (simp [hE, *]; done)
  · have hv := val5_at (n := _g + 1) r h1
    rw [hc4] at hv
    simp only [List.drop, fbF] at hE
    repeat' (first | (simp -implicitDefEqProofs [c8_k1_go, c8_k2_go, c8_k3_go, c8_L4_go, c8, -getElem?_pos, simA, simL, cal5, h2, splice]) | (simp (disch := omega) only [upd_ne, Qy, if_pos, if_neg, IntWalk.i64_in, Int.tdiv_eq_ediv_of_nonneg, Int.tmod_eq_emod_of_nonneg]) | ((with_reducible refine CallK.chk (f := 34) ?_); (refine' CallK.sfAt ?_ (hv) ?_); (focus first | (with_reducible exact simL_refl _) | (simp [simL, simA, simA_refl, simL_refl]; done))) | (with_reducible refine fin_r ?_ ?_ ?_) | (with_reducible exact SameB.rfl_ _ _) | (with_reducible refine SameB.upd ?_ ?_ _) | (with_reducible assumption) | (with_reducible refine newPM_of ?_) | (with_reducible refine newP_go ?_) | (with_reducible intro _g _hg) | (with_reducible refine And.intro ?_ ?_) | (with_reducible intro _hc) | omega)
    all_goals first
      | exact hJ (q - 1) _ (by omega) ⟨5, by omega, rfl, by rw [hE, if_pos (by simp_all)]; rfl⟩
      | exact hS.upd (by omega) _
      | (simp [hE, *]; done)
  · have hv := val6_at (n := _g + 1) r h1
    rw [hc5] at hv
    simp only [List.drop, fbF] at hE
    repeat' (first | (simp -implicitDefEqProofs [c8_k1_go, c8_k2_go, c8_k3_go, c8_L4_go, c8, -getElem?_pos, simA, simL, cal6, h2, splice]) | (simp (disch := omega) only [upd_ne, Qy, if_pos, if_neg, IntWalk.i64_in, Int.tdiv_eq_ediv_of_nonneg, Int.tmod_eq_emod_of_nonneg]) | ((with_reducible refine CallK.chk (f := 37) ?_); (refine' CallK.sfAt ?_ (hv) ?_); (focus first | (with_reducible exact simL_refl _) | (simp [simL, simA, simA_refl, simL_refl]; done))) | (with_reducible refine fin_r ?_ ?_ ?_) | (with_reducible exact SameB.rfl_ _ _) | (with_reducible refine SameB.upd ?_ ?_ _) | (with_reducible assumption) | (with_reducible refine newPM_of ?_) | (with_reducible refine newP_go ?_) | (with_reducible intro _g _hg) | (with_reducible refine And.intro ?_ ?_) | (with_reducible intro _hc) | omega)
    all_goals first
      | exact hJ (q - 1) _ (by omega) ⟨6, by omega, rfl, by rw [hE, if_pos (by simp_all)]; rfl⟩
      | exact hS.upd (by omega) _
      | (simp [hE, *]; done)
  · have hv := val7_at (n := _g + 1) r h1
    rw [hc6] at hv
    simp only [List.drop, fbF] at hE
    repeat' (first | (simp -implicitDefEqProofs [c8_k1_go, c8_k2_go, c8_k3_go, c8_L4_go, c8, -getElem?_pos, simA, simL, cal7, h2, splice]) | (simp (disch := omega) only [upd_ne, Qy, if_pos, if_neg, IntWalk.i64_in, Int.tdiv_eq_ediv_of_nonneg, Int.tmod_eq_emod_of_nonneg]) | ((with_reducible refine CallK.chk (f := 39) ?_); (refine' CallK.sfAt ?_ (hv) ?_); (focus first | (with_reducible exact simL_refl _) | (simp [simL, simA, simA_refl, simL_refl]; done))) | (with_reducible refine fin_r ?_ ?_ ?_) | (with_reducible exact SameB.rfl_ _ _) | (with_reducible refine SameB.upd ?_ ?_ _) | (with_reducible assumption) | (with_reducible refine newPM_of ?_) | (with_reducible refine newP_go ?_) | (with_reducible intro _g _hg) | (with_reducible refine And.intro ?_ ?_) | (with_reducible intro _hc) | omega)
    all_goals first
      | exact hJ (q - 1) _ (by omega) ⟨7, by omega, rfl, by rw [hE, if_pos (by simp_all)]; rfl⟩
      | exact hS.upd (by omega) _
      | (simp [hE, *]; done)
  · have hv := val8_at (n := _g + 1) r h1
    rw [hc7] at hv
    simp only [List.drop, fbF] at hE
    repeat' (first | (simp -implicitDefEqProofs [c8_k1_go, c8_k2_go, c8_k3_go, c8_L4_go, c8, -getElem?_pos, simA, simL, cal8, h2, splice]) | (simp (disch := omega) only [upd_ne, Qy, if_pos, if_neg, IntWalk.i64_in, Int.tdiv_eq_ediv_of_nonneg, Int.tmod_eq_emod_of_nonneg]) | ((with_reducible refine CallK.chk (f := 40) ?_); (refine' CallK.sfAt ?_ (hv) ?_); (focus first | (with_reducible exact simL_refl _) | (simp [simL, simA, simA_refl, simL_refl]; done))) | (with_reducible refine fin_r ?_ ?_ ?_) | (with_reducible exact SameB.rfl_ _ _) | (with_reducible refine SameB.upd ?_ ?_ _) | (with_reducible assumption) | (with_reducible refine newPM_of ?_) | (with_reducible refine newP_go ?_) | (with_reducible intro _g _hg) | (with_reducible refine And.intro ?_ ?_) | (with_reducible intro _hc) | omega)
    all_goals first
      | exact hJ (q - 1) _ (by omega) ⟨8, by omega, rfl, by rw [hE, if_pos (by simp_all)]; rfl⟩
      | exact hS.upd (by omega) _
      | (simp [hE, *]; done)
  · simp only [List.drop, fbF] at hE
    rw [hE]
    repeat' (first | (simp -implicitDefEqProofs [c8_k1_go, c8_k2_go, c8_k3_go, c8_L4_go, c8, -getElem?_pos, simA, simL, h2, splice]) | (simp (disch := omega) only [upd_ne, Qy, if_pos, if_neg, IntWalk.i64_in, Int.tdiv_eq_ediv_of_nonneg, Int.tmod_eq_emod_of_nonneg]) | (with_reducible refine fin_r ?_ ?_ ?_) | (with_reducible exact SameB.rfl_ _ _) | (with_reducible refine SameB.upd ?_ ?_ _) | (with_reducible assumption) | (with_reducible refine newPM_of ?_) | (with_reducible refine newP_go ?_) | (with_reducible intro _g _hg) | (with_reducible refine And.intro ?_ ?_) | (with_reducible intro _hc) | omega)
end Go.Proofs.YtecpfmhminkalaaGreatDoor

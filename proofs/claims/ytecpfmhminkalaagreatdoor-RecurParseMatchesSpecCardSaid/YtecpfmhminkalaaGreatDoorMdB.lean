/- Days, months and years on plain data: the small functions; no condition. -/
import Derived.Test.YtecpfmhminkalaaGreatDoorMgE
import Derived.Test.YtecpfmhminkalaaGreatDoorAdA
import Derived.Test.YtecpfmhminkalaaGreatDoorMdA
import Derived.Test.YtecpfmhminkalaaGreatDoorAdC
set_option linter.all false
set_option linter.unusedSimpArgs false
set_option linter.unusedVariables false
namespace Go.Proofs.YtecpfmhminkalaaGreatDoor
abbrev aI (n : Int) : AV := .int .i64 n
abbrev aF (f : Int × Int) : AV := .agg [.int .i64 f.1, .int .i64 f.2]
abbrev aM (a : Mo) : AV := .agg [.int .i64 a.y, .int .i64 a.m, .int .i64 a.d, .int .i64 a.h, .int .i64 a.mi, .int .i64 a.s]
attribute [local simp] YL Z7 Z9 YM YN YO YP Z8 Z3 Z5 Z4 YQ YR YS YT YU YV YW YX YY YZ Ya Yb Yc Yd scV pe Ye Yf Yg Yh Yi Yj Yk Yl Ym Yn Yo spg_mv Yp Yq Yr Ys Yt Yu Yv Yw Yx Yy Yz X0 X1 X2 X3 X4 X5 X6 X7 X8 X9 spg_mm XA YD XB XC XD XE XF XG XH XI XJ XK XL XM XN XO XP XQ XR XS XT XU XV XW XX XY XZ YC Xa Xb Xc Xd Xe Xf Xg Xh Xi Xj Xk Xl Xm Xn Xo Xp Xq Xr Xs Xt Xu Xv Xw Xx List.mem_cons ZO ZN Z1 YG Zu Xy Zi Zr Zn Zp Zq Zo Zv Zw Zm Xz Q0 Zl Q1 Q2 Q4 Q5 Q6 Q7 Zs Q8 Q9 QA QB QC QD Zt Zh Zx Y1 Y2 QE QF Y3 QG Zj QH Zk Zg QI Zy Zz QJ QK QM QN QO QP QR QS Zd ZK ZI Zc Zf ZH ZM YB Z0 QT ZV ZL Ze ZC ZZ ZA Y5 ZJ Y8 Y9 Zb ZY ZU ZX Za ZT ZD ev get put Y4 ZS QU QV QW QX QY QZ ZE part ZW Qb Qc Qd isNil ZR ZQ ZB ZP YE Qe Qf Qg Qh Qi Qj Qk Ql Qm Qn Qo Qp Qq Qr Qs Qt AV.fits AV.cells ones AV.one YH YI YJ YK ZF ZG Qu Qv Qw Qx Y6 Y7 resV Z2 Qy YA u8e YF Qz V0 List.getElem?_cons_zero List.getElem?_cons_succ
theorem at_a (c i : Int) : APure Tryz.prog 12 [aI c, aI i] (aF (c, i)) := by
  refine apure_intro Tryz.func12 cmp12 rfl fun n H hH => ?_
  repeat' (first | (simp -implicitDefEqProofs [c12, -getElem?_pos, aF, splice, simA, simL]) | (simp (disch := omega) only [upd_ne, Qy, if_pos, if_neg, IntWalk.i64_in, Int.tdiv_eq_ediv_of_nonneg, Int.tmod_eq_emod_of_nonneg]) | (with_reducible refine fin_r ?_ ?_ ?_) | (with_reducible exact SameB.rfl_ _ _) | (with_reducible refine SameB.upd ?_ ?_ _) | (with_reducible assumption) | (with_reducible refine newPM_of ?_) | (with_reducible refine newP_go ?_) | (with_reducible intro _g _hg) | (with_reducible refine And.intro ?_ ?_) | (with_reducible intro _hc) | omega)
theorem in_a (x a b : Int) : APure Tryz.prog 11 [aI x, aI a, aI b] (.bool (decide (a ≤ x) && decide (x ≤ b))) := by
  refine apure_intro Tryz.func11 cmp11 rfl fun n H hH => ?_
  repeat' (first | (simp -implicitDefEqProofs [c11, -getElem?_pos, simA]) | (simp (disch := omega) only [upd_ne, Qy, if_pos, if_neg, IntWalk.i64_in, Int.tdiv_eq_ediv_of_nonneg, Int.tmod_eq_emod_of_nonneg]) | (with_reducible refine fin_r ?_ ?_ ?_) | (with_reducible exact SameB.rfl_ _ _) | (with_reducible refine SameB.upd ?_ ?_ _) | (with_reducible assumption) | (with_reducible intro _g _hg) | (with_reducible refine And.intro ?_ ?_) | (with_reducible intro _hc) | omega)
theorem leap_a (y : Int) (h : 0 ≤ y) : APure Tryz.prog 157 [aI y] (.bool (decide (lpY y))) := by
  refine apure_intro Tryz.func157 cmp157 rfl fun n H hH => ?_
  repeat' (first | (simp -implicitDefEqProofs [c157, -getElem?_pos, simA]) | (simp (disch := omega) only [upd_ne, Qy, if_pos, if_neg, IntWalk.i64_in, Int.tdiv_eq_ediv_of_nonneg, Int.tmod_eq_emod_of_nonneg]) | (with_reducible refine fin_r ?_ ?_ ?_) | (with_reducible exact SameB.rfl_ _ _) | (with_reducible refine SameB.upd ?_ ?_ _) | (with_reducible assumption) | (with_reducible intro _g _hg) | (with_reducible refine And.intro ?_ ?_) | (with_reducible intro _hc) | omega)
  · rw [Bool.eq_iff_iff]; simp only [decide_eq_true_eq, beq_iff_eq]; unfold lpY; omega
  · unfold lpY; omega
  · unfold lpY; omega
theorem daysOfMonth_a (y m : Int) (h : 0 ≤ y) : APure Tryz.prog 136 [aI y, aI m] (aI (dom y m)) := by
  refine apure_intro Tryz.func136 cmp136 rfl fun n H hH => ?_
  repeat' (first | (simp -implicitDefEqProofs [c136_k1_go, c136_k2_go, c136_k3_go, c136_e4_go, c136_e5_go, c136_t6_go, c136_e7_go, c136, -getElem?_pos, simA]) | (simp (disch := omega) only [upd_ne, Qy, if_pos, if_neg, IntWalk.i64_in, Int.tdiv_eq_ediv_of_nonneg, Int.tmod_eq_emod_of_nonneg]) | ((with_reducible refine CallP.chk (f := 157) ?_); (refine' CallP.sf ?_ (leap_a _ h) ?_); (focus first | (with_reducible exact simL_refl _) | (simp [simL, simA, simA_refl, simL_refl]; done))) | (with_reducible refine fin_r ?_ ?_ ?_) | (with_reducible exact SameB.rfl_ _ _) | (with_reducible refine SameB.upd ?_ ?_ _) | (with_reducible assumption) | (with_reducible intro _g _hg) | (with_reducible refine And.intro ?_ ?_) | (with_reducible intro _hc) | omega)
  all_goals simp_all [dom]
theorem daysBefore_a (y : Int) (h : 1 ≤ y ∧ y ≤ 20000) : APure Tryz.prog 158 [aI y] (aI (bef y)) := by
  refine apure_intro Tryz.func158 cmp158 rfl fun n H hH => ?_
  repeat' (first | (simp -implicitDefEqProofs [c158, -getElem?_pos, simA]) | (simp (disch := omega) only [upd_ne, Qy, if_pos, if_neg, IntWalk.i64_in, Int.tdiv_eq_ediv_of_nonneg, Int.tmod_eq_emod_of_nonneg]) | (with_reducible refine fin_r ?_ ?_ ?_) | (with_reducible exact SameB.rfl_ _ _) | (with_reducible refine SameB.upd ?_ ?_ _) | (with_reducible assumption) | (with_reducible intro _g _hg) | (with_reducible refine And.intro ?_ ?_) | (with_reducible intro _hc) | omega)
  rfl
theorem cum_le (y : Int) (k : Nat) (h : k ≤ 12) : 0 ≤ cumD y k ∧ cumD y k ≤ 366 := by
  have h0 := cum_mono y (a := 0) (b := k) (by omega)
  have h1 := cum_mono y h
  have h2 : cumD y 0 = 0 := rfl
  have h3 := (cum_cases y).2.2.2.2.2.2.2.2.2.2.2.2
  have h4 : (if lpY y then (1 : Int) else 0) ≤ 1 := by split <;> omega
  omega
theorem dayOfYear_a (y m d : Int) (hy : 0 ≤ y) (hm : 1 ≤ m ∧ m ≤ 12) (hd : 0 ≤ d ∧ d ≤ 40) : APure Tryz.prog 159 [aI y, aI m, aI d] (aI (doy y m d)) := by
  refine apure_intro Tryz.func159 cmp159 rfl fun n H hH => ?_
  repeat' (first | (simp -implicitDefEqProofs [c159, -getElem?_pos, simA]) | (simp (disch := omega) only [upd_ne, Qy, if_pos, if_neg, IntWalk.i64_in, Int.tdiv_eq_ediv_of_nonneg, Int.tmod_eq_emod_of_nonneg]) | (with_reducible refine fin_r ?_ ?_ ?_) | (with_reducible exact SameB.rfl_ _ _) | (with_reducible refine SameB.upd ?_ ?_ _) | (with_reducible assumption) | (with_reducible intro _g _hg) | (with_reducible refine And.intro ?_ ?_) | (with_reducible intro _hc) | omega)
  refine LoopK.go (fun q s => ∃ (k : Nat), (k : Int) + 1 + q = m ∧ s = ⟨[(0, aI y), (1, aI m), (2, aI (d + cumD y k)), (7, aI ((k : Int) + 1))], n, H⟩) (m - 1).toNat ⟨0, by omega, by simp [cumD]⟩ ?_
  rintro q s ⟨k, hk, rfl⟩ J hJ
  have hc := cum_le y k (by omega)
  have hdm := dom_pos y ((k : Int) + 1)
  repeat' (first | (simp -implicitDefEqProofs [c159_k1_go, c159_k2_go, c159_k3_go, c159_L4_go, c159, -getElem?_pos, simA]) | (simp (disch := omega) only [upd_ne, Qy, if_pos, if_neg, IntWalk.i64_in, Int.tdiv_eq_ediv_of_nonneg, Int.tmod_eq_emod_of_nonneg]) | ((with_reducible refine CallP.chk (f := 136) ?_); (refine' CallP.sf ?_ (daysOfMonth_a _ _ hy) ?_); (focus first | (with_reducible exact simL_refl _) | (simp [simL, simA, simA_refl, simL_refl]; done))) | (with_reducible refine fin_r ?_ ?_ ?_) | (with_reducible exact SameB.rfl_ _ _) | (with_reducible refine SameB.upd ?_ ?_ _) | (with_reducible assumption) | (with_reducible intro _g _hg) | (with_reducible refine And.intro ?_ ?_) | (with_reducible intro _hc) | omega)
  · exact hJ (q - 1) _ (by omega) ⟨k + 1, by omega, by simp [cumD]; omega⟩
  · have e : (m - 1).toNat = k := by omega
    unfold doy; rw [e]
theorem doy_bounds (y m d : Int) (hm : 1 ≤ m ∧ m ≤ 12) : d ≤ doy y m d ∧ doy y m d ≤ d + 366 := by
  have := cum_le y (m - 1).toNat (by omega)
  unfold doy; omega
theorem bef_bounds (y : Int) (h : 1 ≤ y ∧ y ≤ 20000) : 0 ≤ bef y ∧ bef y ≤ 8000000 := by unfold bef; omega
theorem dayNumber_a (a : Mo) (h : a.ok) : APure Tryz.prog 137 [aM a] (aI a.day) := by
  obtain ⟨h1, h2, h3, h4, h5, h6, h7, h8, h9, h10, h11, h12⟩ := h
  have hb := bef_bounds a.y (by omega)
  have hd := dom_pos a.y a.m
  have hq := doy_bounds a.y a.m a.d (by omega)
  refine apure_intro Tryz.func137 cmp137 rfl fun n H hH => ?_
  repeat' (first | (simp -implicitDefEqProofs [c137, -getElem?_pos, simA]) | (simp (disch := omega) only [upd_ne, Qy, if_pos, if_neg, IntWalk.i64_in, Int.tdiv_eq_ediv_of_nonneg, Int.tmod_eq_emod_of_nonneg]) | ((with_reducible refine CallP.chk (f := 158) ?_); (refine' CallP.sf ?_ (daysBefore_a a.y (by omega)) ?_); (focus first | (with_reducible exact simL_refl _) | (simp [simL, simA, simA_refl, simL_refl]; done))) | ((with_reducible refine CallP.chk (f := 159) ?_); (refine' CallP.sf ?_ (dayOfYear_a a.y a.m a.d (by omega) (by omega) (by omega)) ?_); (focus first | (with_reducible exact simL_refl _) | (simp [simL, simA, simA_refl, simL_refl]; done))) | (with_reducible refine fin_r ?_ ?_ ?_) | (with_reducible exact SameB.rfl_ _ _) | (with_reducible refine SameB.upd ?_ ?_ _) | (with_reducible assumption) | (with_reducible refine newPM_of ?_) | (with_reducible refine newP_go ?_) | (with_reducible intro _g _hg) | (with_reducible refine And.intro ?_ ?_) | (with_reducible intro _hc) | omega)
  rfl
theorem number_a (a : Mo) (h : a.ok) : APure Tryz.prog 118 [aM a] (aI a.num) := by
  have hdn := dayNumber_a a h
  have hb := h.dayB
  obtain ⟨h1, h2, h3, h4, h5, h6, h7, h8, h9, h10, h11, h12⟩ := h
  refine apure_intro Tryz.func118 cmp118 rfl fun n H hH => ?_
  repeat' (first | (simp -implicitDefEqProofs [c118, -getElem?_pos, simA]) | (simp (disch := omega) only [upd_ne, Qy, if_pos, if_neg, IntWalk.i64_in, Int.tdiv_eq_ediv_of_nonneg, Int.tmod_eq_emod_of_nonneg]) | ((with_reducible refine CallP.chk (f := 137) ?_); (refine' CallP.sf ?_ (hdn) ?_); (focus first | (with_reducible exact simL_refl _) | (simp [simL, simA, simA_refl, simL_refl]; done))) | (with_reducible refine fin_r ?_ ?_ ?_) | (with_reducible exact SameB.rfl_ _ _) | (with_reducible refine SameB.upd ?_ ?_ _) | (with_reducible assumption) | (with_reducible refine newPM_of ?_) | (with_reducible refine newP_go ?_) | (with_reducible intro _g _hg) | (with_reducible refine And.intro ?_ ?_) | (with_reducible intro _hc) | omega)
  unfold Mo.num Mo.sec; omega
end Go.Proofs.YtecpfmhminkalaaGreatDoor
namespace Go.Proofs.YtecpfmhminkalaaGreatDoor
attribute [local simp] YL Z7 Z9 YM YN YO YP Z8 Z3 Z5 Z4 YQ YR YS YT YU YV YW YX YY YZ Ya Yb Yc Yd scV pe Ye Yf Yg Yh Yi Yj Yk Yl Ym Yn Yo spg_mv Yp Yq Yr Ys Yt Yu Yv Yw Yx Yy Yz X0 X1 X2 X3 X4 X5 X6 X7 X8 X9 spg_mm XA YD XB XC XD XE XF XG XH XI XJ XK XL XM XN XO XP XQ XR XS XT XU XV XW XX XY XZ YC Xa Xb Xc Xd Xe Xf Xg Xh Xi Xj Xk Xl Xm Xn Xo Xp Xq Xr Xs Xt Xu Xv Xw Xx List.mem_cons ZO ZN Z1 YG Zu Xy Zi Zr Zn Zp Zq Zo Zv Zw Zm Xz Q0 Zl Q1 Q2 Q4 Q5 Q6 Q7 Zs Q8 Q9 QA QB QC QD Zt Zh Zx Y1 Y2 QE QF Y3 QG Zj QH Zk Zg QI Zy Zz QJ QK QM QN QO QP QR QS Zd ZK ZI Zc Zf ZH ZM YB Z0 QT ZV ZL Ze ZC ZZ ZA Y5 ZJ Y8 Y9 Zb ZY ZU ZX Za ZT ZD ev get put Y4 ZS QU QV QW QX QY QZ ZE part ZW Qb Qc Qd isNil ZR ZQ ZB ZP YE Qe Qf Qg Qh Qi Qj Qk Ql Qm Qn Qo Qp Qq Qr Qs Qt AV.fits AV.cells ones AV.one YH YI YJ YK ZF ZG Qu Qv Qw Qx Y6 Y7 resV Z2 Qy YA u8e YF Qz V0 List.getElem?_cons_zero List.getElem?_cons_succ
set_option maxHeartbeats 4000000 in
theorem check_a (a : Mo) : APure Tryz.prog 117 [aM a] (aF (moF a)) := by
  refine apure_intro Tryz.func117 cmp117 rfl fun n H hH => ?_
  have _hb : True := trivial
  have _hO : Owns n H [] [] n H := Owns.start hH
  repeat' (first | (simp -implicitDefEqProofs [c117, -getElem?_pos, splice, _hb]) | (simp (disch := omega) only [upd_ne, Qy, if_pos, if_neg, IntWalk.i64_in, Int.tdiv_eq_ediv_of_nonneg, Int.tmod_eq_emod_of_nonneg]) | (with_reducible refine fin_r ?_ ?_ ?_) | (with_reducible exact SameB.rfl_ _ _) | (with_reducible refine SameB.upd ?_ ?_ _) | (with_reducible assumption) | (with_reducible refine newPM_of ?_) | ((with_reducible refine newP_own (by assumption) (fun _g _hg _hO => ?_)); (have _hb := And.intro _hb _hO.boxF); dsimp only [BoxF, BoxF0, RowF] at _hb) | (with_reducible exact Owns.le (by assumption)) | (with_reducible exact Owns.same (by assumption)) | (with_reducible refine newPM_of ?_) | (with_reducible refine newP_go ?_) | (with_reducible intro _g _hg) | (with_reducible refine And.intro ?_ ?_) | (with_reducible intro _hc) | omega)
  rename_i b0 o0 g1 hg1 o1 b1 g2 hg2 o2 b2
  refine LoopK.go (fun q s => ∃ (k : Nat) (n' : Nat) (H' : AHeap), k + q = 6 ∧ s = ⟨[(1, .ptr g1 0), (2, .ptr g2 0), (25, .agg [aI a.y, aI 1, aI 9999, aI a.m, aI 1, aI 12, aI a.d, aI 1, aI 31, aI a.h, aI 0, aI 23, aI a.mi, aI 0, aI 59, aI a.s, aI 0, aI 59]), (26, aI k)], n', H'⟩ ∧
    Owns n H [(g2, .cells 27 [aI 0, aI 0]), (g1, .cells 99 [aI a.y, aI a.m, aI a.d, aI a.h, aI a.mi, aI a.s])] [] n' H' ∧ (1 ≤ k → 1 ≤ a.y ∧ a.y ≤ 9999) ∧ (2 ≤ k → 1 ≤ a.m ∧ a.m ≤ 12) ∧ (3 ≤ k → 1 ≤ a.d ∧ a.d ≤ dom a.y a.m) ∧ (4 ≤ k → 0 ≤ a.h ∧ a.h ≤ 23) ∧ (5 ≤ k → 0 ≤ a.mi ∧ a.mi ≤ 59) ∧ (6 ≤ k → 0 ≤ a.s ∧ a.s ≤ 59)) 6 ⟨0, _, _, by omega, rfl, (_hO.set0 (by simp; omega) _ _).dropBox, by omega, by omega, by omega, by omega, by omega, by omega⟩ ?_
  rintro q s ⟨k, n1, H1, hk, rfl, _hO, h1, h2, h3, h4, h5, h6⟩ J hJ
  have _hb := _hO.boxF
  dsimp only [BoxF, BoxF0, RowF] at _hb
  have hk6 : k = 0 ∨ k = 1 ∨ k = 2 ∨ k = 3 ∨ k = 4 ∨ k = 5 ∨ k = 6 := by omega
  rcases hk6 with rfl | rfl | rfl | rfl | rfl | rfl | rfl
  · repeat' (first | (simp -implicitDefEqProofs [c117_k1_go, c117_k2_go, c117_k3_go, c117_k4_go, c117_L5_go, c117, -getElem?_pos, splice, _hb]) | (simp (disch := omega) only [upd_ne, Qy, if_pos, if_neg, IntWalk.i64_in, Int.tdiv_eq_ediv_of_nonneg, Int.tmod_eq_emod_of_nonneg]) | (with_reducible refine fin_r ?_ ?_ ?_) | (with_reducible exact SameB.rfl_ _ _) | (with_reducible refine SameB.upd ?_ ?_ _) | (with_reducible assumption) | (with_reducible refine newPM_of ?_) | ((with_reducible refine newP_own (by assumption) (fun _g _hg _hO => ?_)); (have _hb := And.intro _hb _hO.boxF); dsimp only [BoxF, BoxF0, RowF] at _hb) | (with_reducible exact Owns.le (by assumption)) | (with_reducible exact Owns.same (by assumption)) | (with_reducible refine newPM_of ?_) | (with_reducible refine newP_go ?_) | (with_reducible intro _g _hg) | (with_reducible refine And.intro ?_ ?_) | (with_reducible intro _hc) | omega)
    · have hm : moF a = (4, 0) := by unfold moF; (repeat' split) <;> first | rfl | (exfalso; omega)
      rw [hm]; exact simA_refl _
    · exact hJ (q - 1) _ (by omega) ⟨1, _, _, by omega, rfl, (_hO.set0 (by simp; omega) _ _).dropBox, by omega, by omega, by omega, by omega, by omega, by omega⟩
  · repeat' (first | (simp -implicitDefEqProofs [c117_k1_go, c117_k2_go, c117_k3_go, c117_k4_go, c117_L5_go, c117, -getElem?_pos, splice, _hb]) | (simp (disch := omega) only [upd_ne, Qy, if_pos, if_neg, IntWalk.i64_in, Int.tdiv_eq_ediv_of_nonneg, Int.tmod_eq_emod_of_nonneg]) | (with_reducible refine fin_r ?_ ?_ ?_) | (with_reducible exact SameB.rfl_ _ _) | (with_reducible refine SameB.upd ?_ ?_ _) | (with_reducible assumption) | (with_reducible refine newPM_of ?_) | ((with_reducible refine newP_own (by assumption) (fun _g _hg _hO => ?_)); (have _hb := And.intro _hb _hO.boxF); dsimp only [BoxF, BoxF0, RowF] at _hb) | (with_reducible exact Owns.le (by assumption)) | (with_reducible exact Owns.same (by assumption)) | (with_reducible refine newPM_of ?_) | (with_reducible refine newP_go ?_) | (with_reducible intro _g _hg) | (with_reducible refine And.intro ?_ ?_) | (with_reducible intro _hc) | omega)
    · have hm : moF a = (4, 1) := by unfold moF; (repeat' split) <;> first | rfl | (exfalso; omega)
      rw [hm]; exact simA_refl _
    · exact hJ (q - 1) _ (by omega) ⟨2, _, _, by omega, rfl, (_hO.set0 (by simp; omega) _ _).dropBox, by omega, by omega, by omega, by omega, by omega, by omega⟩
  · have hdm := daysOfMonth_a a.y a.m (by omega)
    have hdp := dom_pos a.y a.m
    repeat' (first | (simp -implicitDefEqProofs [c117_k1_go, c117_k2_go, c117_k3_go, c117_k4_go, c117_L5_go, c117, -getElem?_pos, splice, _hb]) | (simp (disch := omega) only [upd_ne, Qy, if_pos, if_neg, IntWalk.i64_in, Int.tdiv_eq_ediv_of_nonneg, Int.tmod_eq_emod_of_nonneg]) | ((with_reducible refine CallP.chk (f := 136) ?_); (refine' CallP.sf ?_ (hdm) ?_); (focus first | (with_reducible exact simL_refl _) | (simp [simL, simA, simA_refl, simL_refl]; done))) | (with_reducible refine fin_r ?_ ?_ ?_) | (with_reducible exact SameB.rfl_ _ _) | (with_reducible refine SameB.upd ?_ ?_ _) | (with_reducible assumption) | (with_reducible refine newPM_of ?_) | ((with_reducible refine newP_own (by assumption) (fun _g _hg _hO => ?_)); (have _hb := And.intro _hb _hO.boxF); dsimp only [BoxF, BoxF0, RowF] at _hb) | (with_reducible exact Owns.le (by assumption)) | (with_reducible exact Owns.same (by assumption)) | (with_reducible refine newPM_of ?_) | (with_reducible refine newP_go ?_) | (with_reducible intro _g _hg) | (with_reducible refine And.intro ?_ ?_) | (with_reducible intro _hc) | omega)
    · have hm : moF a = (4, 2) := by unfold moF; (repeat' split) <;> first | rfl | (exfalso; omega)
      rw [hm]; exact simA_refl _
    · exact hJ (q - 1) _ (by omega) ⟨3, _, _, by omega, rfl, ((_hO.set0 (by simp; omega) _ _).set0 (by simp; omega) _ _).dropBox, by omega, by omega, by omega, by omega, by omega, by omega⟩
  · repeat' (first | (simp -implicitDefEqProofs [c117_k1_go, c117_k2_go, c117_k3_go, c117_k4_go, c117_L5_go, c117, -getElem?_pos, splice, _hb]) | (simp (disch := omega) only [upd_ne, Qy, if_pos, if_neg, IntWalk.i64_in, Int.tdiv_eq_ediv_of_nonneg, Int.tmod_eq_emod_of_nonneg]) | (with_reducible refine fin_r ?_ ?_ ?_) | (with_reducible exact SameB.rfl_ _ _) | (with_reducible refine SameB.upd ?_ ?_ _) | (with_reducible assumption) | (with_reducible refine newPM_of ?_) | ((with_reducible refine newP_own (by assumption) (fun _g _hg _hO => ?_)); (have _hb := And.intro _hb _hO.boxF); dsimp only [BoxF, BoxF0, RowF] at _hb) | (with_reducible exact Owns.le (by assumption)) | (with_reducible exact Owns.same (by assumption)) | (with_reducible refine newPM_of ?_) | (with_reducible refine newP_go ?_) | (with_reducible intro _g _hg) | (with_reducible refine And.intro ?_ ?_) | (with_reducible intro _hc) | omega)
    · have hm : moF a = (4, 3) := by unfold moF; (repeat' split) <;> first | rfl | (exfalso; omega)
      rw [hm]; exact simA_refl _
    · exact hJ (q - 1) _ (by omega) ⟨4, _, _, by omega, rfl, (_hO.set0 (by simp; omega) _ _).dropBox, by omega, by omega, by omega, by omega, by omega, by omega⟩
  · repeat' (first | (simp -implicitDefEqProofs [c117_k1_go, c117_k2_go, c117_k3_go, c117_k4_go, c117_L5_go, c117, -getElem?_pos, splice, _hb]) | (simp (disch := omega) only [upd_ne, Qy, if_pos, if_neg, IntWalk.i64_in, Int.tdiv_eq_ediv_of_nonneg, Int.tmod_eq_emod_of_nonneg]) | (with_reducible refine fin_r ?_ ?_ ?_) | (with_reducible exact SameB.rfl_ _ _) | (with_reducible refine SameB.upd ?_ ?_ _) | (with_reducible assumption) | (with_reducible refine newPM_of ?_) | ((with_reducible refine newP_own (by assumption) (fun _g _hg _hO => ?_)); (have _hb := And.intro _hb _hO.boxF); dsimp only [BoxF, BoxF0, RowF] at _hb) | (with_reducible exact Owns.le (by assumption)) | (with_reducible exact Owns.same (by assumption)) | (with_reducible refine newPM_of ?_) | (with_reducible refine newP_go ?_) | (with_reducible intro _g _hg) | (with_reducible refine And.intro ?_ ?_) | (with_reducible intro _hc) | omega)
    · have hm : moF a = (4, 4) := by unfold moF; (repeat' split) <;> first | rfl | (exfalso; omega)
      rw [hm]; exact simA_refl _
    · exact hJ (q - 1) _ (by omega) ⟨5, _, _, by omega, rfl, (_hO.set0 (by simp; omega) _ _).dropBox, by omega, by omega, by omega, by omega, by omega, by omega⟩
  · repeat' (first | (simp -implicitDefEqProofs [c117_k1_go, c117_k2_go, c117_k3_go, c117_k4_go, c117_L5_go, c117, -getElem?_pos, splice, _hb]) | (simp (disch := omega) only [upd_ne, Qy, if_pos, if_neg, IntWalk.i64_in, Int.tdiv_eq_ediv_of_nonneg, Int.tmod_eq_emod_of_nonneg]) | (with_reducible refine fin_r ?_ ?_ ?_) | (with_reducible exact SameB.rfl_ _ _) | (with_reducible refine SameB.upd ?_ ?_ _) | (with_reducible assumption) | (with_reducible refine newPM_of ?_) | ((with_reducible refine newP_own (by assumption) (fun _g _hg _hO => ?_)); (have _hb := And.intro _hb _hO.boxF); dsimp only [BoxF, BoxF0, RowF] at _hb) | (with_reducible exact Owns.le (by assumption)) | (with_reducible exact Owns.same (by assumption)) | (with_reducible refine newPM_of ?_) | (with_reducible refine newP_go ?_) | (with_reducible intro _g _hg) | (with_reducible refine And.intro ?_ ?_) | (with_reducible intro _hc) | omega)
    · have hm : moF a = (4, 5) := by unfold moF; (repeat' split) <;> first | rfl | (exfalso; omega)
      rw [hm]; exact simA_refl _
    · exact hJ (q - 1) _ (by omega) ⟨6, _, _, by omega, rfl, (_hO.set0 (by simp; omega) _ _).dropBox, by omega, by omega, by omega, by omega, by omega, by omega⟩
  · repeat' (first | (simp -implicitDefEqProofs [c117_k1_go, c117_k2_go, c117_k3_go, c117_k4_go, c117_L5_go, c117, -getElem?_pos, splice, _hb]) | (simp (disch := omega) only [upd_ne, Qy, if_pos, if_neg, IntWalk.i64_in, Int.tdiv_eq_ediv_of_nonneg, Int.tmod_eq_emod_of_nonneg]) | (with_reducible refine fin_r ?_ ?_ ?_) | (with_reducible exact SameB.rfl_ _ _) | (with_reducible refine SameB.upd ?_ ?_ _) | (with_reducible assumption) | (with_reducible refine newPM_of ?_) | ((with_reducible refine newP_own (by assumption) (fun _g _hg _hO => ?_)); (have _hb := And.intro _hb _hO.boxF); dsimp only [BoxF, BoxF0, RowF] at _hb) | (with_reducible exact Owns.le (by assumption)) | (with_reducible exact Owns.same (by assumption)) | (with_reducible refine newPM_of ?_) | (with_reducible refine newP_go ?_) | (with_reducible intro _g _hg) | (with_reducible refine And.intro ?_ ?_) | (with_reducible intro _hc) | omega)
    have hm : moF a = (0, 0) := by unfold moF; (repeat' split) <;> first | rfl | (exfalso; omega)
    rw [hm]; exact simA_refl _
set_option maxHeartbeats 4000000 in
theorem fromDay_a (day : Int) (h : 1 ≤ day ∧ day ≤ 3652059) : APure Tryz.prog 156 [aI day] (aM (dateM day)) := by
  refine apure_intro Tryz.func156 cmp156 rfl fun n H hH => ?_
  repeat' (first | (simp -implicitDefEqProofs [c156, -getElem?_pos, simA]) | (simp (disch := omega) only [upd_ne, Qy, if_pos, if_neg, IntWalk.i64_in, Int.tdiv_eq_ediv_of_nonneg, Int.tmod_eq_emod_of_nonneg]) | (with_reducible refine fin_r ?_ ?_ ?_) | (with_reducible exact SameB.rfl_ _ _) | (with_reducible refine SameB.upd ?_ ?_ _) | (with_reducible assumption) | (with_reducible refine newPM_of ?_) | (with_reducible refine newP_go ?_) | (with_reducible intro _g _hg) | (with_reducible refine And.intro ?_ ?_) | (with_reducible intro _hc) | omega)
  refine LoopK.go (fun q s => ∃ y : Int, y + q = 10000 ∧ 1 ≤ y ∧ bef y < day ∧ s = ⟨[(0, aI day), (2, .ptr _g 0), (3, aI y)], _g + 1, upd H _g (some (.cells 99 [aI 0, aI 0, aI 0, aI 0, aI 0, aI 0]))⟩) (10000 - (day / 366 + 1)).toNat ⟨day / 366 + 1, by omega, by omega, by unfold bef; omega, rfl⟩ ?_
  rintro q s ⟨y, hq, hy, hb, rfl⟩ J hJ
  have h9 : y ≤ 9999 := by
    rcases Int.lt_or_le 9999 y with h5 | h5
    · have := bef_mono (show 10000 ≤ y by omega)
      have := bef_at
      omega
    · exact h5
  have hbb := bef_bounds (y + 1) (by omega)
  have hb0 := bef_bounds y (by omega)
  by_cases hlt : bef (y + 1) < day
  · repeat' (first | (simp -implicitDefEqProofs [c156_k1_go, c156_k2_go, c156_L3_go, c156_k4_go, c156_k5_go, c156_L6_go, c156, -getElem?_pos, simA, hlt]) | (simp (disch := omega) only [upd_ne, Qy, if_pos, if_neg, IntWalk.i64_in, Int.tdiv_eq_ediv_of_nonneg, Int.tmod_eq_emod_of_nonneg]) | ((with_reducible refine CallP.chk (f := 158) ?_); (refine' CallP.sf ?_ (daysBefore_a (y + 1) (by omega)) ?_); (focus first | (with_reducible exact simL_refl _) | (simp [simL, simA, simA_refl, simL_refl]; done))) | (with_reducible refine fin_r ?_ ?_ ?_) | (with_reducible exact SameB.rfl_ _ _) | (with_reducible refine SameB.upd ?_ ?_ _) | (with_reducible assumption) | (with_reducible refine newPM_of ?_) | (with_reducible refine newP_go ?_) | (with_reducible intro _g _hg) | (with_reducible refine And.intro ?_ ?_) | (with_reducible intro _hc) | omega)
    exact hJ (q - 1) _ (by omega) ⟨y + 1, by omega, by omega, hlt, rfl⟩
  · have hY : bef y < day ∧ day ≤ bef (y + 1) := ⟨hb, by omega⟩
    repeat' (first | (simp -implicitDefEqProofs [c156_L6_go, c156_k5_go, -getElem?_pos, simA, hlt]) | (simp (disch := omega) only [upd_ne, Qy, if_pos, if_neg, IntWalk.i64_in, Int.tdiv_eq_ediv_of_nonneg, Int.tmod_eq_emod_of_nonneg]) | ((with_reducible refine CallP.chk (f := 158) ?_); (refine' CallP.sf ?_ (daysBefore_a (y + 1) (by omega)) ?_); (focus first | (with_reducible exact simL_refl _) | (simp [simL, simA, simA_refl, simL_refl]; done))) | (with_reducible refine fin_r ?_ ?_ ?_) | (with_reducible exact SameB.rfl_ _ _) | (with_reducible refine SameB.upd ?_ ?_ _) | (with_reducible assumption) | (with_reducible refine newPM_of ?_) | (with_reducible refine newP_go ?_) | (with_reducible intro _g _hg) | (with_reducible refine And.intro ?_ ?_) | (with_reducible intro _hc) | omega)
    repeat' (first | (simp -implicitDefEqProofs [c156_k4_go, -getElem?_pos, simA]) | (simp (disch := omega) only [upd_ne, Qy, if_pos, if_neg, IntWalk.i64_in, Int.tdiv_eq_ediv_of_nonneg, Int.tmod_eq_emod_of_nonneg]) | ((with_reducible refine CallP.chk (f := 158) ?_); (refine' CallP.sf ?_ (daysBefore_a y (by omega)) ?_); (focus first | (with_reducible exact simL_refl _) | (simp [simL, simA, simA_refl, simL_refl]; done))) | (with_reducible refine fin_r ?_ ?_ ?_) | (with_reducible exact SameB.rfl_ _ _) | (with_reducible refine SameB.upd ?_ ?_ _) | (with_reducible assumption) | (with_reducible refine newPM_of ?_) | (with_reducible refine newP_go ?_) | (with_reducible intro _g _hg) | (with_reducible refine And.intro ?_ ?_) | (with_reducible intro _hc) | omega)
    clear hJ J
    refine LoopK.go (fun q s => ∃ k : Nat, k + q = 11 ∧ cumD y k < day - bef y ∧ s = ⟨[(2, .ptr _g 0), (3, aI y), (4, aI (day - bef y - cumD y k)), (5, aI ((k : Int) + 1))], _g + 1, upd H _g (some (.cells 99 [aI 0, aI 0, aI 0, aI 0, aI 0, aI 0]))⟩) 11 ⟨0, by omega, by simp only [cumD]; omega, by simp [cumD]⟩ ?_
    rintro q s ⟨k, hk, hc, rfl⟩ J hJ
    have hdm := dom_pos y ((k : Int) + 1)
    have hcl := cum_le y k (by omega)
    by_cases hgt : day - bef y - cumD y k > dom y ((k : Int) + 1)
    · have hk11 : k < 11 := by
        rcases Nat.lt_or_ge k 11 with h5 | h5
        · exact h5
        · have : k = 11 := by omega
          subst this
          have hy12 := cum_year y
          have : cumD y 12 = cumD y 11 + dom y ((11 : Nat) + 1 : Int) := rfl
          omega
      repeat' (first | (simp -implicitDefEqProofs [c156_L3_go, c156_k2_go, -getElem?_pos, simA, hgt]) | (simp (disch := omega) only [upd_ne, Qy, if_pos, if_neg, IntWalk.i64_in, Int.tdiv_eq_ediv_of_nonneg, Int.tmod_eq_emod_of_nonneg]) | ((with_reducible refine CallP.chk (f := 136) ?_); (refine' CallP.sf ?_ (daysOfMonth_a y _ (by omega)) ?_); (focus first | (with_reducible exact simL_refl _) | (simp [simL, simA, simA_refl, simL_refl]; done))) | (with_reducible refine fin_r ?_ ?_ ?_) | (with_reducible exact SameB.rfl_ _ _) | (with_reducible refine SameB.upd ?_ ?_ _) | (with_reducible assumption) | (with_reducible refine newPM_of ?_) | (with_reducible refine newP_go ?_) | (with_reducible intro _g _hg) | (with_reducible refine And.intro ?_ ?_) | (with_reducible intro _hc) | omega)
      exact hJ (q - 1) _ (by omega) ⟨k + 1, by omega, by simp only [cumD]; push_cast; omega, by simp [cumD]; omega⟩
    · have hM : dateM day = ⟨y, (k : Int) + 1, day - bef y - cumD y k, 0, 0, 0⟩ := by
        refine dateM_uniq h.1 ⟨hy, by omega, by omega, by omega, by omega⟩ ?_
        unfold dayN doy
        have e : ((k : Int) + 1 - 1).toNat = k := by omega
        rw [e]; omega
      rw [hM]
      repeat' (first | (simp -implicitDefEqProofs [c156_k1_go, c156_k2_go, c156_L3_go, c156_k4_go, c156_k5_go, c156_L6_go, c156, -getElem?_pos, simA, hgt, splice, simL]) | (simp (disch := omega) only [upd_ne, Qy, if_pos, if_neg, IntWalk.i64_in, Int.tdiv_eq_ediv_of_nonneg, Int.tmod_eq_emod_of_nonneg]) | ((with_reducible refine CallP.chk (f := 136) ?_); (refine' CallP.sf ?_ (daysOfMonth_a y _ (by omega)) ?_); (focus first | (with_reducible exact simL_refl _) | (simp [simL, simA, simA_refl, simL_refl]; done))) | (with_reducible refine fin_r ?_ ?_ ?_) | (with_reducible exact SameB.rfl_ _ _) | (with_reducible refine SameB.upd ?_ ?_ _) | (with_reducible assumption) | (with_reducible refine newPM_of ?_) | (with_reducible refine newP_go ?_) | (with_reducible intro _g _hg) | (with_reducible refine And.intro ?_ ?_) | (with_reducible intro _hc) | omega)
      all_goals exact simA_refl _
end Go.Proofs.YtecpfmhminkalaaGreatDoor
namespace Go.Proofs.YtecpfmhminkalaaGreatDoor
attribute [local simp] YL Z7 Z9 YM YN YO YP Z8 Z3 Z5 Z4 YQ YR YS YT YU YV YW YX YY YZ Ya Yb Yc Yd scV pe Ye Yf Yg Yh Yi Yj Yk Yl Ym Yn Yo spg_mv Yp Yq Yr Ys Yt Yu Yv Yw Yx Yy Yz X0 X1 X2 X3 X4 X5 X6 X7 X8 X9 spg_mm XA YD XB XC XD XE XF XG XH XI XJ XK XL XM XN XO XP XQ XR XS XT XU XV XW XX XY XZ YC Xa Xb Xc Xd Xe Xf Xg Xh Xi Xj Xk Xl Xm Xn Xo Xp Xq Xr Xs Xt Xu Xv Xw Xx List.mem_cons ZO ZN Z1 YG Zu Xy Zi Zr Zn Zp Zq Zo Zv Zw Zm Xz Q0 Zl Q1 Q2 Q4 Q5 Q6 Q7 Zs Q8 Q9 QA QB QC QD Zt Zh Zx Y1 Y2 QE QF Y3 QG Zj QH Zk Zg QI Zy Zz QJ QK QM QN QO QP QR QS Zd ZK ZI Zc Zf ZH ZM YB Z0 QT ZV ZL Ze ZC ZZ ZA Y5 ZJ Y8 Y9 Zb ZY ZU ZX Za ZT ZD ev get put Y4 ZS QU QV QW QX QY QZ ZE part ZW Qb Qc Qd isNil ZR ZQ ZB ZP YE Qe Qf Qg Qh Qi Qj Qk Ql Qm Qn Qo Qp Qq Qr Qs Qt AV.fits AV.cells ones AV.one YH YI YJ YK ZF ZG Qu Qv Qw Qx Y6 Y7 resV Z2 Qy YA u8e YF Qz V0 List.getElem?_cons_zero List.getElem?_cons_succ
theorem at__a (k : Int) (h : 0 ≤ k ∧ k ≤ 315537897599) : APure Tryz.prog 135 [aI k] (aM (momAt k)) := by
  have hf := fromDay_a (k / 86400 + 1) (by omega)
  refine apure_intro Tryz.func135 cmp135 rfl fun n H hH => ?_
  repeat' (first | (simp -implicitDefEqProofs [c135, -getElem?_pos, splice, simA, simL, momAt]) | (simp (disch := omega) only [upd_ne, Qy, if_pos, if_neg, IntWalk.i64_in, Int.tdiv_eq_ediv_of_nonneg, Int.tmod_eq_emod_of_nonneg]) | ((with_reducible refine CallP.chk (f := 156) ?_); (refine' CallP.sf ?_ (hf) ?_); (focus first | (with_reducible exact simL_refl _) | (simp [simL, simA, simA_refl, simL_refl]; done))) | (with_reducible refine fin_r ?_ ?_ ?_) | (with_reducible exact SameB.rfl_ _ _) | (with_reducible refine SameB.upd ?_ ?_ _) | (with_reducible assumption) | (with_reducible refine newPM_of ?_) | (with_reducible refine newP_go ?_) | (with_reducible intro _g _hg) | (with_reducible refine And.intro ?_ ?_) | (with_reducible intro _hc) | omega)
  all_goals skip
end Go.Proofs.YtecpfmhminkalaaGreatDoor
namespace Go.Proofs.YtecpfmhminkalaaGreatDoor
attribute [local simp] YL Z7 Z9 YM YN YO YP Z8 Z3 Z5 Z4 YQ YR YS YT YU YV YW YX YY YZ Ya Yb Yc Yd scV pe Ye Yf Yg Yh Yi Yj Yk Yl Ym Yn Yo spg_mv Yp Yq Yr Ys Yt Yu Yv Yw Yx Yy Yz X0 X1 X2 X3 X4 X5 X6 X7 X8 X9 spg_mm XA YD XB XC XD XE XF XG XH XI XJ XK XL XM XN XO XP XQ XR XS XT XU XV XW XX XY XZ YC Xa Xb Xc Xd Xe Xf Xg Xh Xi Xj Xk Xl Xm Xn Xo Xp Xq Xr Xs Xt Xu Xv Xw Xx List.mem_cons ZO ZN Z1 YG Zu Xy Zi Zr Zn Zp Zq Zo Zv Zw Zm Xz Q0 Zl Q1 Q2 Q4 Q5 Q6 Q7 Zs Q8 Q9 QA QB QC QD Zt Zh Zx Y1 Y2 QE QF Y3 QG Zj QH Zk Zg QI Zy Zz QJ QK QM QN QO QP QR QS Zd ZK ZI Zc Zf ZH ZM YB Z0 QT ZV ZL Ze ZC ZZ ZA Y5 ZJ Y8 Y9 Zb ZY ZU ZX Za ZT ZD ev get put Y4 ZS QU QV QW QX QY QZ ZE part ZW Qb Qc Qd isNil ZR ZQ ZB ZP YE Qe Qf Qg Qh Qi Qj Qk Ql Qm Qn Qo Qp Qq Qr Qs Qt AV.fits AV.cells ones AV.one YH YI YJ YK ZF ZG Qu Qv Qw Qx Y6 Y7 resV Z2 Qy YA u8e YF Qz V0 List.getElem?_cons_zero List.getElem?_cons_succ
theorem moF_code (a : Mo) : (moF a).1 = 0 ∧ (moF a).2 = 0 ∨ (moF a).1 = 4 ∧ 0 ≤ (moF a).2 ∧ (moF a).2 ≤ 5 := by
  unfold moF; repeat' split
  all_goals simp
theorem moF_zero {a : Mo} (h : a.ok) : moF a = (0, 0) := by
  have h1 := moF_ok.2 h
  have h2 := moF_code a
  rcases h2 with ⟨e1, e2⟩ | ⟨e1, _⟩
  · exact Prod.ext e1 e2
  · omega
theorem number__a (a : Mo) : APure Tryz.prog 100 [aM a] (.tup [aI (if (moF a).1 = 0 then a.num else 0), aF (moF a)]) := by
  have hc := check_a a
  refine apure_intro Tryz.func100 cmp100 rfl fun n H hH => ?_
  by_cases h : (moF a).1 = 0
  · have hok := moF_ok.1 h
    have hn := number_a a hok
    have hz := moF_zero hok
    rw [hz] at hc
    simp only [h, if_true]
    rw [hz]
    repeat' (first | (simp -implicitDefEqProofs [c100_k1_go, c100, -getElem?_pos, splice]) | (simp (disch := omega) only [upd_ne, Qy, if_pos, if_neg, IntWalk.i64_in, Int.tdiv_eq_ediv_of_nonneg, Int.tmod_eq_emod_of_nonneg]) | ((with_reducible refine CallP.chk (f := 117) ?_); (refine' CallP.sf ?_ (hc) ?_); (focus first | (with_reducible exact simL_refl _) | (simp [simL, simA, simA_refl, simL_refl]; done))) | ((with_reducible refine CallP.chk (f := 118) ?_); (refine' CallP.sf ?_ (hn) ?_); (focus first | (with_reducible exact simL_refl _) | (simp [simL, simA, simA_refl, simL_refl]; done))) | (with_reducible refine fin_r ?_ ?_ ?_) | (with_reducible exact SameB.rfl_ _ _) | (with_reducible refine SameB.upd ?_ ?_ _) | (with_reducible assumption) | (with_reducible refine newPM_of ?_) | (with_reducible refine newP_go ?_) | (with_reducible intro _g _hg) | (with_reducible refine And.intro ?_ ?_) | (with_reducible intro _hc) | omega)
    all_goals exact simA_refl _
  · simp only [h, if_false]
    repeat' (first | (simp -implicitDefEqProofs [c100_k1_go, c100, -getElem?_pos, splice, h]) | (simp (disch := omega) only [upd_ne, Qy, if_pos, if_neg, IntWalk.i64_in, Int.tdiv_eq_ediv_of_nonneg, Int.tmod_eq_emod_of_nonneg]) | ((with_reducible refine CallP.chk (f := 117) ?_); (refine' CallP.sf ?_ (hc) ?_); (focus first | (with_reducible exact simL_refl _) | (simp [simL, simA, simA_refl, simL_refl]; done))) | (with_reducible refine fin_r ?_ ?_ ?_) | (with_reducible exact SameB.rfl_ _ _) | (with_reducible refine SameB.upd ?_ ?_ _) | (with_reducible assumption) | (with_reducible refine newPM_of ?_) | (with_reducible refine newP_go ?_) | (with_reducible intro _g _hg) | (with_reducible refine And.intro ?_ ?_) | (with_reducible intro _hc) | omega)
    all_goals exact simA_refl _
theorem at___a (k : Int) : APure Tryz.prog 116 [aI k] (.tup [aM (if 0 ≤ k ∧ k ≤ 315537897599 then momAt k else noMo), aF (if 0 ≤ k ∧ k ≤ 315537897599 then (0, 0) else (4, -1))]) := by
  refine apure_intro Tryz.func116 cmp116 rfl fun n H hH => ?_
  by_cases h : 0 ≤ k ∧ k ≤ 315537897599
  · have ha := at__a k h
    simp only [if_pos h]
    repeat' (first | (simp -implicitDefEqProofs [c116_k1_go, c116, -getElem?_pos, splice]) | (simp (disch := omega) only [upd_ne, Qy, if_pos, if_neg, IntWalk.i64_in, Int.tdiv_eq_ediv_of_nonneg, Int.tmod_eq_emod_of_nonneg]) | ((with_reducible refine CallP.chk (f := 135) ?_); (refine' CallP.sf ?_ (ha) ?_); (focus first | (with_reducible exact simL_refl _) | (simp [simL, simA, simA_refl, simL_refl]; done))) | (with_reducible refine fin_r ?_ ?_ ?_) | (with_reducible exact SameB.rfl_ _ _) | (with_reducible refine SameB.upd ?_ ?_ _) | (with_reducible assumption) | (with_reducible refine newPM_of ?_) | (with_reducible refine newP_go ?_) | (with_reducible intro _g _hg) | (with_reducible refine And.intro ?_ ?_) | (with_reducible intro _hc) | omega)
    all_goals (first | exact simA_refl _ | (exfalso; omega))
  · simp only [if_neg h, noMo]
    repeat' (first | (simp -implicitDefEqProofs [c116_k1_go, c116, -getElem?_pos, splice]) | (simp (disch := omega) only [upd_ne, Qy, if_pos, if_neg, IntWalk.i64_in, Int.tdiv_eq_ediv_of_nonneg, Int.tmod_eq_emod_of_nonneg]) | (with_reducible refine fin_r ?_ ?_ ?_) | (with_reducible exact SameB.rfl_ _ _) | (with_reducible refine SameB.upd ?_ ?_ _) | (with_reducible assumption) | (with_reducible refine newPM_of ?_) | (with_reducible refine newP_go ?_) | (with_reducible intro _g _hg) | (with_reducible refine And.intro ?_ ?_) | (with_reducible intro _hc) | omega)
    all_goals (first | exact simA_refl _ | (exfalso; omega))
end Go.Proofs.YtecpfmhminkalaaGreatDoor

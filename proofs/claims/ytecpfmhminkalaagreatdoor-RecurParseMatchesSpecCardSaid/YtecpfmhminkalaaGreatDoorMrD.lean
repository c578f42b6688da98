/- Days and what rules ask of them: walked; no condition. -/
import Derived.Test.YtecpfmhminkalaaGreatDoorMrC
import Derived.Test.YtecpfmhminkalaaGreatDoorAdC
import Derived.Test.YtecpfmhminkalaaGreatDoorMgE
set_option linter.all false
set_option linter.unusedSimpArgs false
set_option linter.unusedVariables false
namespace Go.Proofs.YtecpfmhminkalaaGreatDoor
theorem left_pos {n : Int} (h : 1 ≤ n) : 1 ≤ leftF n ∧ leftF n ≤ 31 := by
  obtain ⟨⟨h1, h2, h3, h4, h5⟩, h6⟩ := day_of h
  have := dom_pos (dateM n).y (dateM n).m
  unfold leftF; omega
theorem same_month {n j : Int} (h : 1 ≤ n) (hj : 0 ≤ j) (hl : j < leftF n) : dateM (n + j) = ⟨(dateM n).y, (dateM n).m, (dateM n).d + j, 0, 0, 0⟩ := by
  obtain ⟨⟨h1, h2, h3, h4, h5⟩, h6⟩ := day_of h
  unfold leftF at hl
  refine dateM_uniq (by omega) ⟨h1, h2, h3, by omega, by omega⟩ ?_
  rw [dayN_moB _ _ _ h2 h3] at h6 ⊢
  omega
theorem next_month {n : Int} (h : 1 ≤ n) : (dateM (n + leftF n)).m ≠ (dateM n).m := by
  obtain ⟨⟨h1, h2, h3, h4, h5⟩, h6⟩ := day_of h
  rw [dayN_moB _ _ _ h2 h3] at h6
  have h7 := moB_succ (12 * (dateM n).y + (dateM n).m - 1)
  have e1 : (12 * (dateM n).y + (dateM n).m - 1) / 12 = (dateM n).y := by omega
  have e2 : (12 * (dateM n).y + (dateM n).m - 1) % 12 + 1 = (dateM n).m := by omega
  rw [e1, e2] at h7
  by_cases h12 : (dateM n).m = 12
  · have hd := dom_pos ((dateM n).y + 1) 1
    have e : dateM (n + leftF n) = ⟨(dateM n).y + 1, 1, 1, 0, 0, 0⟩ := by
      refine dateM_uniq (by unfold leftF; omega) ⟨by omega, by omega, by omega, by omega, by omega⟩ ?_
      rw [dayN_moB _ _ _ (by omega) (by omega)]
      have e3 : 12 * ((dateM n).y + 1) + 1 - 1 = 12 * (dateM n).y + (dateM n).m - 1 + 1 := by omega
      rw [e3]; unfold leftF; omega
    rw [e]; simp only; omega
  · have hd := dom_pos (dateM n).y ((dateM n).m + 1)
    have e : dateM (n + leftF n) = ⟨(dateM n).y, (dateM n).m + 1, 1, 0, 0, 0⟩ := by
      refine dateM_uniq (by unfold leftF; omega) ⟨by omega, by omega, by omega, by omega, by omega⟩ ?_
      rw [dayN_moB _ _ _ (by omega) (by omega)]
      have e3 : 12 * (dateM n).y + ((dateM n).m + 1) - 1 = 12 * (dateM n).y + (dateM n).m - 1 + 1 := by omega
      rw [e3]; unfold leftF; omega
    rw [e]; simp only; omega
theorem left_max {n : Int} (h : 1 ≤ n) (hm : n ≤ 3652059) : n + leftF n - 1 ≤ 3652059 := by
  have h1 := left_pos h
  have h2 := same_month (n := n) (j := leftF n - 1) h (by omega) (by omega)
  rcases Int.lt_or_le 3652059 (n + (leftF n - 1)) with h3 | h3
  · exfalso
    -- the day MaxDay lies in the month, and is its last
    have h4 := same_month (n := n) (j := 3652059 - n) h (by omega) (by omega)
    have e1 : n + (3652059 - n) = 3652059 := by omega
    rw [e1] at h4
    have e2 : dateM 3652059 = ⟨9999, 12, 31, 0, 0, 0⟩ := dateM_uniq (by omega) ⟨by omega, by omega, by omega, by omega, by decide⟩ (by decide)
    rw [e2] at h4
    injection h4 with a1 a2 a3
    unfold leftF at h3
    rw [← a1, ← a2] at h3
    have : dom 9999 12 = 31 := by decide
    omega
  · omega
theorem left_succ {n : Int} (h : 1 ≤ n) (hl : 1 < leftF n) : leftF (n + 1) = leftF n - 1 := by
  have := same_month (n := n) (j := 1) h (by omega) hl
  unfold leftF
  rw [this]; simp only; omega
/-- what stands of a day -/
abbrev aDc (n : Int) : List AV := [aI n, aI (dateM n).y, aI (dateM n).m, aI (dateM n).d, aI (leftF n), aI (wdF n)]
abbrev aDay (n : Int) : AV := .agg (aDc n)
attribute [local simp] YL Z7 Z9 YM YN YO YP Z8 Z3 Z5 Z4 YQ YR YS YT YU YV YW YX YY YZ Ya Yb Yc Yd scV pe Ye Yf Yg Yh Yi Yj Yk Yl Ym Yn Yo spg_mv Yp Yq Yr Ys Yt Yu Yv Yw Yx Yy Yz X0 X1 X2 X3 X4 X5 X6 X7 X8 X9 spg_mm XA YD XB XC XD XE XF XG XH XI XJ XK XL XM XN XO XP XQ XR XS XT XU XV XW XX XY XZ YC Xa Xb Xc Xd Xe Xf Xg Xh Xi Xj Xk Xl Xm Xn Xo Xp Xq Xr Xs Xt Xu Xv Xw Xx List.mem_cons ZO ZN Z1 YG Zu Xy Zi Zr Zn Zp Zq Zo Zv Zw Zm Xz Q0 Zl Q1 Q2 Q4 Q5 Q6 Q7 Zs Q8 Q9 QA QB QC QD Zt Zh Zx Y1 Y2 QE QF Y3 QG Zj QH Zk Zg QI Zy Zz QJ QK QM QN QO QP QR QS Zd ZK ZI Zc Zf ZH ZM YB Z0 QT ZV ZL Ze ZC ZZ ZA Y5 ZJ Y8 Y9 Zb ZY ZU ZX Za ZT ZD ev get put Y4 ZS QU QV QW QX QY QZ ZE part ZW Qb Qc Qd isNil ZR ZQ ZB ZP YE Qe Qf Qg Qh Qi Qj Qk Ql Qm Qn Qo Qp Qq Qr Qs Qt AV.fits AV.cells ones AV.one YH YI YJ YK ZF ZG Qu Qv Qw Qx Y6 Y7 resV Z2 Qy YA u8e YF Qz V0 List.getElem?_cons_zero List.getElem?_cons_succ
theorem moment_a (n : Int) (hb : -1000000000 ≤ n ∧ n ≤ 1000000000) : APure Tryz.prog 99 [aI n] (aM (if 1 ≤ n ∧ n ≤ 3652059 then dateM n else noMo)) := by
  have ha := at___a ((n - 1) * 24 * 60 * 60)
  have e : (if 0 ≤ (n - 1) * 24 * 60 * 60 ∧ (n - 1) * 24 * 60 * 60 ≤ 315537897599 then momAt ((n - 1) * 24 * 60 * 60) else noMo) = if 1 ≤ n ∧ n ≤ 3652059 then dateM n else noMo := by
    by_cases h : 1 ≤ n ∧ n ≤ 3652059
    · rw [if_pos h, if_pos (by omega)]
      have e1 : (n - 1) * 24 * 60 * 60 / 86400 + 1 = n := by omega
      have e2 : (n - 1) * 24 * 60 * 60 % 86400 = 0 := by omega
      unfold momAt
      rw [e1, e2]; rfl
    · rw [if_neg h, if_neg (by omega)]
  rw [e] at ha
  generalize (if 1 ≤ n ∧ n ≤ 3652059 then dateM n else noMo) = M at *
  generalize (if 0 ≤ (n - 1) * 24 * 60 * 60 ∧ (n - 1) * 24 * 60 * 60 ≤ 315537897599 then ((0 : Int), (0 : Int)) else (4, -1)) = F at *
  refine apure_intro Tryz.func99 cmp99 rfl fun n H hH => ?_
  repeat' (first | (simp -implicitDefEqProofs [c99, -getElem?_pos, splice, simA, simL]) | (simp (disch := omega) only [upd_ne, Qy, if_pos, if_neg, IntWalk.i64_in, Int.tdiv_eq_ediv_of_nonneg, Int.tmod_eq_emod_of_nonneg]) | ((with_reducible refine CallP.chk (f := 116) ?_); (refine' CallP.sf ?_ (ha) ?_); (focus first | (with_reducible exact simL_refl _) | (simp [simL, simA, simA_refl, simL_refl]; done))) | (with_reducible refine fin_r ?_ ?_ ?_) | (with_reducible exact SameB.rfl_ _ _) | (with_reducible refine SameB.upd ?_ ?_ _) | (with_reducible assumption) | (with_reducible refine newPM_of ?_) | (with_reducible refine newP_go ?_) | (with_reducible intro _g _hg) | (with_reducible refine And.intro ?_ ?_) | (with_reducible intro _hc) | omega)
theorem wd_tmod (n : Int) (h : 1 ≤ n) : (n - 1).tmod 7 = wdF n := by unfold wdF; exact Int.tmod_eq_emod_of_nonneg (by omega)
set_option maxHeartbeats 2000000 in
theorem dayOf_a (x : Int) (h : 1 ≤ x ∧ x ≤ 3652059) : APure Tryz.prog 64 [aI x] (aDay x) := by
  have hl := left_pos h.1
  have hmx := left_max h.1 h.2
  have hm := moment_a x (by omega)
  rw [if_pos h] at hm
  refine apure_intro Tryz.func64 cmp64 rfl fun n H hH => ?_
  repeat' (first | (simp -implicitDefEqProofs [c64_k1_go, c64_k2_go, c64_L3_go, c64, -getElem?_pos, splice, simA, simL, wd_tmod x h.1]) | (simp (disch := omega) only [upd_ne, Qy, if_pos, if_neg, IntWalk.i64_in, Int.tdiv_eq_ediv_of_nonneg, Int.tmod_eq_emod_of_nonneg]) | ((with_reducible refine CallP.chk (f := 99) ?_); (refine' CallP.sf ?_ (hm) ?_); (focus first | (with_reducible exact simL_refl _) | (simp [simL, simA, simA_refl, simL_refl]; done))) | (with_reducible refine fin_r ?_ ?_ ?_) | (with_reducible exact SameB.rfl_ _ _) | (with_reducible refine SameB.upd ?_ ?_ _) | (with_reducible assumption) | (with_reducible refine newPM_of ?_) | (with_reducible refine newP_go ?_) | (with_reducible intro _g _hg) | (with_reducible refine And.intro ?_ ?_) | (with_reducible intro _hc) | omega)
  rename_i g2 hg2 g3 hg3 g4 hg4
  refine LoopK.go (fun q s => ∃ (j : Int) (HH : AHeap), 0 ≤ j ∧ j + q = 40 ∧ j ≤ leftF x ∧ x + j ≤ 3652059 ∧ s = ⟨[(0, aI x), (2, .ptr g2 0), (3, .ptr g3 0), (4, .ptr g4 0), (5, .ptr _g 0)], _g + 1, HH⟩ ∧ SameB n H HH ∧
    (∃ cs, cs.length = 6 ∧ HH g2 = some (.cells 85 cs)) ∧ HH g3 = some (.cells 99 (aM (dateM x)).cells) ∧
    HH g4 = some (.cells 85 [aI x, aI (dateM x).y, aI (dateM x).m, aI (dateM x).d, aI j, aI (wdF x)]) ∧ HH _g = some (.cells 99 (aM (dateM (x + j))).cells)) 40 ⟨0, _, by omega, by omega, by omega, by omega, rfl, ?_, ?_, ?_, ?_, ?_⟩ ?_
  · repeat' (first | exact SameB.rfl_ _ _ | refine SameB.upd ?_ (by omega) _)
  · exact ⟨[aI 0, aI 0, aI 0, aI 0, aI 0, aI 0], rfl, by simp (disch := omega) only [upd_ne, Qy]⟩
  · simp (disch := omega) only [upd_ne, Qy]; rfl
  · simp (disch := omega) only [upd_ne, Qy]; rfl
  · simp (disch := omega) only [upd_ne, Qy, Int.add_zero]; rfl
  rintro q s ⟨j, HH, hj0, hq, hjl, hxj, rfl, hS, ⟨cs, hcs, h2⟩, h3, h4, h5⟩ J hJ
  obtain ⟨z0, z1, z2, z3, z4, z5, rfl⟩ : ∃ z0 z1 z2 z3 z4 z5, cs = [z0, z1, z2, z3, z4, z5] := by
    match cs, hcs with
    | [z0, z1, z2, z3, z4, z5], _ => exact ⟨z0, z1, z2, z3, z4, z5, rfl⟩
  by_cases hlt : j < leftF x
  · have hsm := same_month h.1 hj0 hlt
    have hm2 := moment_a (x + (j + 1)) (by omega)
    rw [hsm] at h5
    by_cases hend : x + (j + 1) ≤ 3652059
    · rw [if_pos (by omega)] at hm2
      generalize hM : dateM (x + (j + 1)) = M at hm2
      repeat' (first | (simp -implicitDefEqProofs [c64_k1_go, c64_k2_go, c64_L3_go, c64, -getElem?_pos, splice, h2, h3, h4, h5]) | (simp (disch := omega) only [upd_ne, Qy, if_pos, if_neg, IntWalk.i64_in, Int.tdiv_eq_ediv_of_nonneg, Int.tmod_eq_emod_of_nonneg]) | ((with_reducible refine CallP.chk (f := 99) ?_); (refine' CallP.sf ?_ (hm2) ?_); (focus first | (with_reducible exact simL_refl _) | (simp [simL, simA, simA_refl, simL_refl]; done))) | (with_reducible refine fin_r ?_ ?_ ?_) | (with_reducible exact SameB.rfl_ _ _) | (with_reducible refine SameB.upd ?_ ?_ _) | (with_reducible assumption) | (with_reducible refine newPM_of ?_) | (with_reducible refine newP_go ?_) | (with_reducible intro _g _hg) | (with_reducible refine And.intro ?_ ?_) | (with_reducible intro _hc) | omega)
      refine hJ (q - 1) _ (by omega) ⟨j + 1, _, by omega, by omega, by omega, by omega, rfl, ?_, ?_, ?_, ?_, ?_⟩
      · repeat' (first | assumption | refine SameB.upd ?_ (by omega) _)
      · exact ⟨[z0, z1, z2, z3, z4, z5], rfl, by simp (disch := omega) only [upd_ne]; exact h2⟩
      · simp (disch := omega) only [upd_ne]; exact h3
      · simp (disch := omega) only [upd_ne, Qy]
      · rw [hM]; simp (disch := omega) only [upd_ne, Qy]; rfl
    · have hjl2 : j + 1 = leftF x := by omega
      rw [if_neg (by omega)] at hm2
      simp only [noMo] at hm2
      repeat' (first | (simp -implicitDefEqProofs [c64_k1_go, c64_k2_go, c64_L3_go, c64, -getElem?_pos, splice, h2, h3, h4, h5, simA, simL]) | (simp (disch := omega) only [upd_ne, Qy, if_pos, if_neg, IntWalk.i64_in, Int.tdiv_eq_ediv_of_nonneg, Int.tmod_eq_emod_of_nonneg]) | ((with_reducible refine CallP.chk (f := 99) ?_); (refine' CallP.sf ?_ (hm2) ?_); (focus first | (with_reducible exact simL_refl _) | (simp [simL, simA, simA_refl, simL_refl]; done))) | (with_reducible refine fin_r ?_ ?_ ?_) | (with_reducible exact SameB.rfl_ _ _) | (with_reducible refine SameB.upd ?_ ?_ _) | (with_reducible assumption) | (with_reducible refine newPM_of ?_) | (with_reducible refine newP_go ?_) | (with_reducible intro _g _hg) | (with_reducible refine And.intro ?_ ?_) | (with_reducible intro _hc) | omega)
  · have hjl2 : j = leftF x := by omega
    subst hjl2
    have hnm := next_month h.1
    repeat' (first | (simp -implicitDefEqProofs [c64_k1_go, c64_k2_go, c64_L3_go, c64, -getElem?_pos, splice, h2, h3, h4, h5, simA, simL, hnm]) | (simp (disch := omega) only [upd_ne, Qy, if_pos, if_neg, IntWalk.i64_in, Int.tdiv_eq_ediv_of_nonneg, Int.tmod_eq_emod_of_nonneg]) | (with_reducible refine fin_r ?_ ?_ ?_) | (with_reducible exact SameB.rfl_ _ _) | (with_reducible refine SameB.upd ?_ ?_ _) | (with_reducible assumption) | (with_reducible refine newPM_of ?_) | (with_reducible refine newP_go ?_) | (with_reducible intro _g _hg) | (with_reducible refine And.intro ?_ ?_) | (with_reducible intro _hc) | omega)
end Go.Proofs.YtecpfmhminkalaaGreatDoor
namespace Go.Proofs.YtecpfmhminkalaaGreatDoor
/-- the number of the period out of what stands of a day -/
def perC (u nu y m : Int) : Int := if u = 2 then (nu - 1) / 7 else if u = 3 then 12 * y + m else if u = 4 then y else nu
attribute [local simp] YL Z7 Z9 YM YN YO YP Z8 Z3 Z5 Z4 YQ YR YS YT YU YV YW YX YY YZ Ya Yb Yc Yd scV pe Ye Yf Yg Yh Yi Yj Yk Yl Ym Yn Yo spg_mv Yp Yq Yr Ys Yt Yu Yv Yw Yx Yy Yz X0 X1 X2 X3 X4 X5 X6 X7 X8 X9 spg_mm XA YD XB XC XD XE XF XG XH XI XJ XK XL XM XN XO XP XQ XR XS XT XU XV XW XX XY XZ YC Xa Xb Xc Xd Xe Xf Xg Xh Xi Xj Xk Xl Xm Xn Xo Xp Xq Xr Xs Xt Xu Xv Xw Xx List.mem_cons ZO ZN Z1 YG Zu Xy Zi Zr Zn Zp Zq Zo Zv Zw Zm Xz Q0 Zl Q1 Q2 Q4 Q5 Q6 Q7 Zs Q8 Q9 QA QB QC QD Zt Zh Zx Y1 Y2 QE QF Y3 QG Zj QH Zk Zg QI Zy Zz QJ QK QM QN QO QP QR QS Zd ZK ZI Zc Zf ZH ZM YB Z0 QT ZV ZL Ze ZC ZZ ZA Y5 ZJ Y8 Y9 Zb ZY ZU ZX Za ZT ZD ev get put Y4 ZS QU QV QW QX QY QZ ZE part ZW Qb Qc Qd isNil ZR ZQ ZB ZP YE Qe Qf Qg Qh Qi Qj Qk Ql Qm Qn Qo Qp Qq Qr Qs Qt AV.fits AV.cells ones AV.one YH YI YJ YK ZF ZG Qu Qv Qw Qx Y6 Y7 resV Z2 Qy YA u8e YF Qz V0 List.getElem?_cons_zero List.getElem?_cons_succ
theorem period_a (nu y m d l w u : Int) (h : 1 ≤ nu ∧ nu ≤ 100000000 ∧ 0 ≤ y ∧ y ≤ 100000 ∧ 0 ≤ m ∧ m ≤ 100) : APure Tryz.prog 67 [.agg [aI nu, aI y, aI m, aI d, aI l, aI w], aI u] (aI (perC u nu y m)) := by
  refine apure_intro Tryz.func67 cmp67 rfl fun n H hH => ?_
  repeat' (first | (simp -implicitDefEqProofs [c67_k1_go, c67_e2_go, c67_e3_go, c67, -getElem?_pos, simA, simL]) | (simp (disch := omega) only [upd_ne, Qy, if_pos, if_neg, IntWalk.i64_in, Int.tdiv_eq_ediv_of_nonneg, Int.tmod_eq_emod_of_nonneg]) | (with_reducible refine fin_r ?_ ?_ ?_) | (with_reducible exact SameB.rfl_ _ _) | (with_reducible refine SameB.upd ?_ ?_ _) | (with_reducible assumption) | (with_reducible refine newPM_of ?_) | (with_reducible refine newP_go ?_) | (with_reducible intro _g _hg) | (with_reducible refine And.intro ?_ ?_) | (with_reducible intro _hc) | omega)
  all_goals unfold perC
  all_goals simp_all
theorem per_c {u n : Int} (h : 1 ≤ n) : perC u n (dateM n).y (dateM n).m = perF u n := by
  rfl
theorem date_b {n : Int} (h : 1 ≤ n) (h' : n ≤ 3652059) : 1 ≤ (dateM n).y ∧ (dateM n).y ≤ 9999 ∧ 1 ≤ (dateM n).m ∧ (dateM n).m ≤ 12 ∧ 1 ≤ (dateM n).d ∧ (dateM n).d ≤ 31 := by
  obtain ⟨⟨h1, h2, h3, h4, h5⟩, h6⟩ := day_of h
  have hd := dom_pos (dateM n).y (dateM n).m
  obtain ⟨hok, _⟩ := dateM_ok h h'
  obtain ⟨a1, a2, a3, a4, a5, a6, _⟩ := hok
  omega
theorem first_a (x u : Int) (h : 1 ≤ x ∧ x ≤ 3652059) : APure Tryz.prog 69 [aDay x, aI u] (aI (fiF u x 0)) := by
  obtain ⟨h1, h2, h3, h4, h5, h6⟩ := date_b h.1 h.2
  have hl := left_pos h.1
  have hw : 0 ≤ wdF x ∧ wdF x ≤ 6 := by unfold wdF; omega
  have hb := bef_bounds (dateM x).y (by omega)
  have hok : (⟨(dateM x).y, 1, 1, 0, 0, 0⟩ : Mo).ok := ⟨by omega, by omega, by simp, by simp, by simp, by have := dom_pos (dateM x).y 1; simp only; omega, by simp, by simp, by simp, by simp, by simp, by simp⟩
  have hn := number__a ⟨(dateM x).y, 1, 1, 0, 0, 0⟩
  rw [moF_zero hok] at hn
  have e1 : (⟨(dateM x).y, 1, 1, 0, 0, 0⟩ : Mo).num = bef (dateM x).y * 86400 := by
    unfold Mo.num Mo.sec Mo.day
    have : dayN (dateM x).y 1 1 = bef (dateM x).y + 1 := by unfold dayN doy; simp [cumD]
    simp only [this]; omega
  simp only [if_true, e1] at hn
  obtain ⟨_, h9⟩ := day_of h.1
  have hmb : moB (12 * (dateM x).y + (dateM x).m - 1) + (dateM x).d = x := by rw [dayN_moB _ _ _ h3 h4] at h9; exact h9
  refine apure_intro Tryz.func69 cmp69 rfl fun n H hH => ?_
  repeat' (first | (simp -implicitDefEqProofs [c69_k1_go, c69_t2_go, c69_e3_go, c69_e4_go, c69, -getElem?_pos, simA, simL, splice]) | (simp (disch := omega) only [upd_ne, Qy, if_pos, if_neg, IntWalk.i64_in, Int.tdiv_eq_ediv_of_nonneg, Int.tmod_eq_emod_of_nonneg]) | ((with_reducible refine CallP.chk (f := 100) ?_); (refine' CallP.sf ?_ (hn) ?_); (focus first | (with_reducible exact simL_refl _) | (simp [simL, simA, simA_refl, simL_refl]; done))) | (with_reducible refine fin_r ?_ ?_ ?_) | (with_reducible exact SameB.rfl_ _ _) | (with_reducible refine SameB.upd ?_ ?_ _) | (with_reducible assumption) | (with_reducible refine newPM_of ?_) | (with_reducible refine newP_go ?_) | (with_reducible intro _g _hg) | (with_reducible refine And.intro ?_ ?_) | (with_reducible intro _hc) | omega)
  all_goals unfold fiF
  all_goals simp_all
  all_goals omega
theorem named_a (x : Int) (w : Int × Int) (h : 1 ≤ x ∧ x ≤ 3652059) (hw : -1000 ≤ w.2 ∧ w.2 ≤ 1000) : APure Tryz.prog 102 [aDay x, aWd w] (.bool (namedF x w)) := by
  obtain ⟨h1, h2, h3, h4, h5, h6⟩ := date_b h.1 h.2
  have hl := left_pos h.1
  refine apure_intro Tryz.func102 cmp102 rfl fun n H hH => ?_
  repeat' (first | (simp -implicitDefEqProofs [c102_k1_go, c102_e2_go, c102_e3_go, c102, -getElem?_pos, simA, simL]) | (simp (disch := omega) only [upd_ne, Qy, if_pos, if_neg, IntWalk.i64_in, Int.tdiv_eq_ediv_of_nonneg, Int.tmod_eq_emod_of_nonneg]) | (with_reducible refine fin_r ?_ ?_ ?_) | (with_reducible exact SameB.rfl_ _ _) | (with_reducible refine SameB.upd ?_ ?_ _) | (with_reducible assumption) | (with_reducible refine newPM_of ?_) | (with_reducible refine newP_go ?_) | (with_reducible intro _g _hg) | (with_reducible refine And.intro ?_ ?_) | (with_reducible intro _hc) | omega)
  all_goals unfold namedF
  all_goals simp_all
  all_goals first | omega | (rw [Bool.eq_iff_iff]; simp; omega)
theorem calN : callable Tryz.prog 102 = true := by kernel_rfl
theorem indexN_a (x : Int) (l : List (Int × Int)) (h : 1 ≤ x ∧ x ≤ 3652059) (hmx : l.length ≤ 1000000) (hw : ∀ w ∈ l, -1000 ≤ w.2 ∧ w.2 ≤ 1000) : APure Tryz.prog 119 [aWs l, .fn 102 [aDay x] []] (aI (if l.any (namedF x) then (l.findIdx (namedF x) : Int) else -1)) := by
  refine apure_intro Tryz.func119 cmp119 rfl fun n H hH => ?_
  repeat' (first | (simp -implicitDefEqProofs [c119, -getElem?_pos, simA]) | (simp (disch := omega) only [upd_ne, Qy, if_pos, if_neg, IntWalk.i64_in, Int.tdiv_eq_ediv_of_nonneg, Int.tmod_eq_emod_of_nonneg]) | (with_reducible refine fin_r ?_ ?_ ?_) | (with_reducible exact SameB.rfl_ _ _) | (with_reducible refine SameB.upd ?_ ?_ _) | (with_reducible assumption) | (with_reducible intro _g _hg) | (with_reducible refine And.intro ?_ ?_) | (with_reducible intro _hc) | omega)
  refine LoopK.go (fun m s => ∃ (k : Nat), k + m = l.length ∧ s = ⟨[(0, aWs l), (1, .fn 102 [aDay x] []), (7, aI l.length), (8, aI k)], n, H⟩ ∧ ∀ w ∈ l.take k, namedF x w = false) l.length ⟨0, by omega, rfl, by simp⟩ ?_
  rintro m s ⟨k, hkm, rfl, hE⟩ J hJ
  by_cases hk : k < l.length
  · obtain ⟨y, hy⟩ : ∃ y, l[k]? = some y := ⟨_, List.getElem?_eq_getElem hk⟩
    have hym := List.mem_of_getElem? hy
    have hn := (named_a x y h (hw y hym)).at_ n H
    by_cases hc : namedF x y = true
    · have hany : l.any (namedF x) = true := List.any_eq_true.2 ⟨y, hym, hc⟩
      have hfi : l.findIdx (namedF x) = k := by
        refine (List.findIdx_eq hk).2 ⟨?_, fun j hj => ?_⟩
        · rw [List.getElem?_eq_getElem hk] at hy; injection hy with hy; rw [hy]; exact hc
        · have hjl : j < l.length := by omega
          refine hE l[j] (List.mem_of_getElem? (i := j) ?_)
          rw [List.getElem?_take_of_lt hj, List.getElem?_eq_getElem hjl]
      rw [hany, hfi]
      rw [hc] at hn
      repeat' (first | (simp -implicitDefEqProofs [c119_k1_go, c119_k2_go, c119_k3_go, c119_L4_go, c119, -getElem?_pos, simA, hy, calN]) | (simp (disch := omega) only [upd_ne, Qy, if_pos, if_neg, IntWalk.i64_in, Int.tdiv_eq_ediv_of_nonneg, Int.tmod_eq_emod_of_nonneg]) | ((with_reducible refine CallK.chk (f := 102) ?_); (refine' CallK.sfAt ?_ (hn) ?_); (focus first | (with_reducible exact simL_refl _) | (simp [simL, simA, simA_refl, simL_refl]; done))) | (with_reducible refine fin_r ?_ ?_ ?_) | (with_reducible exact SameB.rfl_ _ _) | (with_reducible refine SameB.upd ?_ ?_ _) | (with_reducible assumption) | (with_reducible intro _g _hg) | (with_reducible refine And.intro ?_ ?_) | (with_reducible intro _hc) | omega)
    · rw [Bool.not_eq_true] at hc
      rw [hc] at hn
      repeat' (first | (simp -implicitDefEqProofs [c119_k1_go, c119_k2_go, c119_k3_go, c119_L4_go, c119, -getElem?_pos, simA, hy, calN]) | (simp (disch := omega) only [upd_ne, Qy, if_pos, if_neg, IntWalk.i64_in, Int.tdiv_eq_ediv_of_nonneg, Int.tmod_eq_emod_of_nonneg]) | ((with_reducible refine CallK.chk (f := 102) ?_); (refine' CallK.sfAt ?_ (hn) ?_); (focus first | (with_reducible exact simL_refl _) | (simp [simL, simA, simA_refl, simL_refl]; done))) | (with_reducible refine fin_r ?_ ?_ ?_) | (with_reducible exact SameB.rfl_ _ _) | (with_reducible refine SameB.upd ?_ ?_ _) | (with_reducible assumption) | (with_reducible intro _g _hg) | (with_reducible refine And.intro ?_ ?_) | (with_reducible intro _hc) | omega)
      exact hJ (m - 1) _ (by omega) ⟨k + 1, by omega, rfl, by
        rw [take_at hy]; intro w hw; rcases List.mem_append.1 hw with hw | hw
        · exact hE w hw
        · simp at hw; subst hw; exact hc⟩
  · have hk0 : k = l.length := by omega
    subst hk0
    rw [List.take_length] at hE
    have hany : l.any (namedF x) = false := by rw [List.any_eq_false]; intro w hw; rw [hE w hw]; simp
    rw [hany]
    repeat' (first | (simp -implicitDefEqProofs [c119_k1_go, c119_k2_go, c119_k3_go, c119_L4_go, c119, -getElem?_pos, simA]) | (simp (disch := omega) only [upd_ne, Qy, if_pos, if_neg, IntWalk.i64_in, Int.tdiv_eq_ediv_of_nonneg, Int.tmod_eq_emod_of_nonneg]) | (with_reducible refine fin_r ?_ ?_ ?_) | (with_reducible exact SameB.rfl_ _ _) | (with_reducible refine SameB.upd ?_ ?_ _) | (with_reducible assumption) | (with_reducible intro _g _hg) | (with_reducible refine And.intro ?_ ?_) | (with_reducible intro _hc) | omega)
theorem containsN_a (x : Int) (l : List (Int × Int)) (h : 1 ≤ x ∧ x ≤ 3652059) (hmx : l.length ≤ 1000000) (hw : ∀ w ∈ l, -1000 ≤ w.2 ∧ w.2 ≤ 1000) : APure Tryz.prog 101 [aWs l, .fn 102 [aDay x] []] (.bool (l.any (namedF x))) := by
  have hi := indexN_a x l h hmx hw
  refine apure_intro Tryz.func101 cmp101 rfl fun n H hH => ?_
  cases hany : l.any (namedF x)
  · rw [hany] at hi
    repeat' (first | (simp -implicitDefEqProofs [c101, -getElem?_pos, simA]) | (simp (disch := omega) only [upd_ne, Qy, if_pos, if_neg, IntWalk.i64_in, Int.tdiv_eq_ediv_of_nonneg, Int.tmod_eq_emod_of_nonneg]) | ((with_reducible refine CallP.chk (f := 119) ?_); (refine' CallP.sf ?_ (hi) ?_); (focus first | (with_reducible exact simL_refl _) | (simp [simL, simA, simA_refl, simL_refl]; done))) | (with_reducible refine fin_r ?_ ?_ ?_) | (with_reducible exact SameB.rfl_ _ _) | (with_reducible refine SameB.upd ?_ ?_ _) | (with_reducible assumption) | (with_reducible intro _g _hg) | (with_reducible refine And.intro ?_ ?_) | (with_reducible intro _hc) | omega)
  · rw [hany] at hi
    repeat' (first | (simp -implicitDefEqProofs [c101, -getElem?_pos, simA]) | (simp (disch := omega) only [upd_ne, Qy, if_pos, if_neg, IntWalk.i64_in, Int.tdiv_eq_ediv_of_nonneg, Int.tmod_eq_emod_of_nonneg]) | ((with_reducible refine CallP.chk (f := 119) ?_); (refine' CallP.sf ?_ (hi) ?_); (focus first | (with_reducible exact simL_refl _) | (simp [simL, simA, simA_refl, simL_refl]; done))) | (with_reducible refine fin_r ?_ ?_ ?_) | (with_reducible exact SameB.rfl_ _ _) | (with_reducible refine SameB.upd ?_ ?_ _) | (with_reducible assumption) | (with_reducible intro _g _hg) | (with_reducible refine And.intro ?_ ?_) | (with_reducible intro _hc) | omega)
end Go.Proofs.YtecpfmhminkalaaGreatDoor
namespace Go.Proofs.YtecpfmhminkalaaGreatDoor
structure okR (r : Rule) : Prop where
  u : 1 ≤ r.unit ∧ r.unit ≤ 4
  st : 1 ≤ r.step ∧ r.step ≤ 1000
  mo : r.months.length ≤ 12
  md : r.mdays.length ≤ 12
  wl : r.wdays.length ≤ 12
  wd : ∀ w ∈ r.wdays, -1000 ≤ w.2 ∧ w.2 ≤ 1000
  pl : r.picks.length ≤ 12
  ct : 0 ≤ r.count ∧ r.count ≤ 20001
  ut : 0 ≤ r.untl ∧ r.untl ≤ 3652059
attribute [local simp] YL Z7 Z9 YM YN YO YP Z8 Z3 Z5 Z4 YQ YR YS YT YU YV YW YX YY YZ Ya Yb Yc Yd scV pe Ye Yf Yg Yh Yi Yj Yk Yl Ym Yn Yo spg_mv Yp Yq Yr Ys Yt Yu Yv Yw Yx Yy Yz X0 X1 X2 X3 X4 X5 X6 X7 X8 X9 spg_mm XA YD XB XC XD XE XF XG XH XI XJ XK XL XM XN XO XP XQ XR XS XT XU XV XW XX XY XZ YC Xa Xb Xc Xd Xe Xf Xg Xh Xi Xj Xk Xl Xm Xn Xo Xp Xq Xr Xs Xt Xu Xv Xw Xx List.mem_cons ZO ZN Z1 YG Zu Xy Zi Zr Zn Zp Zq Zo Zv Zw Zm Xz Q0 Zl Q1 Q2 Q4 Q5 Q6 Q7 Zs Q8 Q9 QA QB QC QD Zt Zh Zx Y1 Y2 QE QF Y3 QG Zj QH Zk Zg QI Zy Zz QJ QK QM QN QO QP QR QS Zd ZK ZI Zc Zf ZH ZM YB Z0 QT ZV ZL Ze ZC ZZ ZA Y5 ZJ Y8 Y9 Zb ZY ZU ZX Za ZT ZD ev get put Y4 ZS QU QV QW QX QY QZ ZE part ZW Qb Qc Qd isNil ZR ZQ ZB ZP YE Qe Qf Qg Qh Qi Qj Qk Ql Qm Qn Qo Qp Qq Qr Qs Qt AV.fits AV.cells ones AV.one YH YI YJ YK ZF ZG Qu Qv Qw Qx Y6 Y7 resV Z2 Qy YA u8e YF Qz V0 List.getElem?_cons_zero List.getElem?_cons_succ
set_option maxHeartbeats 4000000 in
theorem fits_a (x s : Int) (r : Rule) (h : 1 ≤ x ∧ x ≤ 3652059) (hs : 1 ≤ s ∧ s ≤ 3652059) (hr : okR r) : APure Tryz.prog 71 [aDay x, aR r, aDay s] (.bool (fitsF r s x)) := by
  obtain ⟨h1, h2, h3, h4, h5, h6⟩ := date_b h.1 h.2
  obtain ⟨s1, s2, s3, s4, s5, s6⟩ := date_b hs.1 hs.2
  have hl := left_pos h.1
  have hm := contains_a r.months (dateM x).m (by have := hr.mo; omega)
  have hd := contains_a r.mdays (dateM x).d (by have := hr.md; omega)
  have hd2 := contains_a r.mdays (-leftF x) (by have := hr.md; omega)
  have hn := containsN_a x r.wdays h (by have := hr.wl; omega) hr.wd
  have lm := hr.mo
  have ld := hr.md
  have lw := hr.wl
  have em : r.months ≠ [] ↔ 0 < r.months.length := by rw [List.length_pos_iff]
  have ed : r.mdays ≠ [] ↔ 0 < r.mdays.length := by rw [List.length_pos_iff]
  have ew : r.wdays ≠ [] ↔ 0 < r.wdays.length := by rw [List.length_pos_iff]
  obtain ⟨V, hV⟩ : ∃ V, V = fitsF r s x := ⟨_, rfl⟩
  rw [← hV]
  unfold fitsF at hV
  simp only [em, ed, ew] at hV
  generalize hwN : List.any r.wdays (namedF x) = bw at *
  refine apure_intro Tryz.func71 cmp71 rfl fun n H hH => ?_
  repeat' (first | (simp -implicitDefEqProofs [c71_k1_go, c71_e2_go, c71_e3_go, c71_k4_go, c71_k5_go, c71_k6_go, c71_k7_go, c71, -getElem?_pos, simA, simL, splice]) | (simp (disch := omega) only [upd_ne, Qy, if_pos, if_neg, IntWalk.i64_in, Int.tdiv_eq_ediv_of_nonneg, Int.tmod_eq_emod_of_nonneg]) | ((with_reducible refine CallP.chk (f := 72) ?_); (refine' CallP.sf ?_ (hm) ?_); (focus first | (with_reducible exact simL_refl _) | (simp [simL, simA, simA_refl, simL_refl]; done))) | ((with_reducible refine CallP.chk (f := 72) ?_); (refine' CallP.sf ?_ (hd) ?_); (focus first | (with_reducible exact simL_refl _) | (simp [simL, simA, simA_refl, simL_refl]; done))) | ((with_reducible refine CallP.chk (f := 72) ?_); (refine' CallP.sf ?_ (hd2) ?_); (focus first | (with_reducible exact simL_refl _) | (simp [simL, simA, simA_refl, simL_refl]; done))) | ((with_reducible refine CallP.chk (f := 101) ?_); (refine' CallP.sf ?_ (hn) ?_); (focus first | (with_reducible exact simL_refl _) | (simp [simL, simA, simA_refl, simL_refl]; done))) | (with_reducible refine fin_r ?_ ?_ ?_) | (with_reducible exact SameB.rfl_ _ _) | (with_reducible refine SameB.upd ?_ ?_ _) | (with_reducible assumption) | (with_reducible refine newPM_of ?_) | (with_reducible refine newP_go ?_) | (with_reducible intro _g _hg) | (with_reducible refine And.intro ?_ ?_) | (with_reducible intro _hc) | omega)
  all_goals rw [hV]
  all_goals (repeat' split) <;> first | rfl | (exfalso; simp_all; done) | (exfalso; omega) | (rw [Bool.eq_iff_iff]; simp; done) | (simp_all; done) | (rw [Bool.eq_iff_iff]; simp_all; done)
end Go.Proofs.YtecpfmhminkalaaGreatDoor

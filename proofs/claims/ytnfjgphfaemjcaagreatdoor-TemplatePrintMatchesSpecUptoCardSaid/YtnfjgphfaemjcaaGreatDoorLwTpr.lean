/- Templates: the law of Print; no condition. -/
import Derived.Test.YtnfjgphfaemjcaaGreatDoorMgH
import Derived.Test.YtnfjgphfaemjcaaGreatDoorMdP
set_option linter.all false
set_option linter.unusedSimpArgs false
set_option linter.unusedVariables false
set_option maxHeartbeats 4000000
namespace Go.Proofs.YtnfjgphfaemjcaaGreatDoor
theorem Sp {l : List Pt} (h : (ER l).1 = 0) : ER l = (0, 0) ∧ (BC 0 0 0 l).2 = 0 ∧ (CL l).length ≤ 4000 := by
 unfold ER at h ⊢
 by_cases h1 : (BC 0 0 0 l).2 = 0
 ·rw [if_neg (by simpa using h1)] at h ⊢
  by_cases h2 : 4000 < (CL l).length
  ·rw [if_pos h2] at h; cases h
  ·rw [if_neg h2]; exact ⟨rfl, h1, by omega⟩
 ·rw [if_pos h1] at h; exact absurd h h1
attribute [local simp] Jw E1 Dy JJ KF KK JB Dz E3 G3 Fv JL J3 JF Jr JK II Hu I5 JD K0 Jt JU KQ JC PM pe KD JH Iw Ka KN Jv K9 JQ JO KR Kc Jh KT Ft OG N9 OS NT Nu OV Na Mt OJ N3 O9 NV OF ND NN Mz MW OU NP OB N8 FZ Nn Fa Oh MY Mw N7 N4 Mv Oa OC OA O5 NH Nq OQ NG MU MX Md Oc Nz Ml Ns Mo Nf Mg Od Fj OX NI Nk Nh O3 NF OM Nm NU Nt MZ Mx Mq Ob Nj Mc Nw Of Mm JG Jz Je KU KA J9 Kf K8 Iy Ke Ix HO Jy List.mem_cons guardK DT Dv EA Fx Nc FQ FV Fo Fr Fh Fk Fd Ff FW NM Nx FX JS N2 Oe Oi Ng NY FM J0 Mi NS JE Ju Nd Hj FO FT FN Fb NW Nr Fq NE FP Jx FU FS Jo Fm Fu Ma NA OD KH Nb Mn Kh K7 Qs I7 IK GD I0 IT IF Dc FF Ep Jb Ei Ez Df DS Sq IV I6 FJ IW I8 DL D6 BU BR CJ D7 D4 ev get put Di AG DG JR KI JI KV IQ J2 Dr part Az G6 K6 FY isNil Ci Cw DK Cx CQ Jf K5 JY Kj KO KZ Jj Iz KB Ki KG KL JT Jp J8 JV AV.fits AV.cells ones AV.one DX Bm DZ D1 Dg Du KP EH EQ CM Bk Cn Fc DM Ay BG Sx G0 Jn Iu List.getElem?_cons_zero List.getElem?_cons_succ FL Fp Fg J6 K3 J4 G7 J5 Jl Jc Kb KE Ja KX Mr Jg Jd Jm Ji JA JP J7 Jk Kg J1 KY K4 Iv JM JZ Jq K2 KJ JX Kd
theorem Qx (l : List Pt) (hl : l.length ≤ 2000000) (hs : Ec l) : APure Tryz.prog 3 [Dx l] (.bool true) := by
 have hpr := V2 l hl hs
 have hv := Lc l hl hs
 have hr := WP l hl hs
 have hst := Pp
 by_cases h0 : (ER l).1 = 0
 ·obtain ⟨h1, h2, h3⟩ := Sp h0
  have htx := Ru l (I2 l 0 0 0 hs h2) (by have := EC l 0 0 0 (by omega) h2; omega)
  have e : Lm l = (CL l, (0, 0)) := by unfold Lm; rw [if_neg (by simpa using h0)]
  rw [e] at hpr
  rw [h1] at hv hr
  generalize CL l = tl at *
  simp only at hpr
  refine A7 Tryz.func3 XW rfl fun n H hH => ?_
  repeat' (first | (simp -implicitDefEqProofs [P5, PR, c3, -getElem?_pos, splice]) | (simp (disch := omega) only [AF]) | ((with_reducible refine AH 11 ?_); (refine' CallP.sf ?_ (hpr) ?_); (focus first | (with_reducible exact A0 _) | (simp [AA, A9, A1, A0]; done))) | ((with_reducible refine AH 13 ?_); (refine' CallP.sf ?_ (hv) ?_); (focus first | (with_reducible exact A0 _) | (simp [AA, A9, A1, A0]; done))) | ((with_reducible refine AH 12 ?_); (refine' CallP.sf ?_ (hr) ?_); (focus first | (with_reducible exact A0 _) | (simp [AA, A9, A1, A0]; done))) | ((with_reducible refine AH 15 ?_); (refine' CallP.sf ?_ (htx) ?_); (focus first | (with_reducible exact A0 _) | (simp [AA, A9, A1, A0]; done))) | ((with_reducible refine AH 14 ?_); (refine' CallP.sf ?_ (hst) ?_); (focus first | (with_reducible exact A0 _) | (simp [AA, A9, A1, A0]; done))) | (with_reducible first | refine A6 ?_ ?_ ?_ | exact AC | assumption | refine A2 ?_ | refine KM.of ?_ | refine AE ?_ | refine A5 ?_ | refine A8 ?_ | intro _g _hg | refine AD ?_ ?_ | intro _hc) | omega)
  all_goals first | exact A1 _ | (intro g hg; simp (disch := omega) only [upd_ne])
 ·have e : Lm l = ([], ER l) := by unfold Lm; rw [if_pos h0]
  rw [e] at hpr
  generalize hf : ER l = f at *
  obtain ⟨f1, f2⟩ := f
  simp only at h0 hpr
  refine A7 Tryz.func3 XW rfl fun n H hH => ?_
  repeat' (first | (simp -implicitDefEqProofs [P5, PR, c3, -getElem?_pos, splice, h0]) | (simp (disch := omega) only [AF]) | ((with_reducible refine AH 11 ?_); (refine' CallP.sf ?_ (hpr) ?_); (focus first | (with_reducible exact A0 _) | (simp [AA, A9, A1, A0]; done))) | ((with_reducible refine AH 13 ?_); (refine' CallP.sf ?_ (hv) ?_); (focus first | (with_reducible exact A0 _) | (simp [AA, A9, A1, A0]; done))) | ((with_reducible refine AH 12 ?_); (refine' CallP.sf ?_ (hr) ?_); (focus first | (with_reducible exact A0 _) | (simp [AA, A9, A1, A0]; done))) | ((with_reducible refine AH 14 ?_); (refine' CallP.sf ?_ (hst) ?_); (focus first | (with_reducible exact A0 _) | (simp [AA, A9, A1, A0]; done))) | (with_reducible first | refine A6 ?_ ?_ ?_ | exact AC | assumption | refine A2 ?_ | refine KM.of ?_ | refine AE ?_ | refine A5 ?_ | refine A8 ?_ | intro _g _hg | refine AD ?_ ?_ | intro _hc) | omega)
  all_goals first | exact A1 _ | (intro g hg; simp (disch := omega) only [upd_ne])
end Go.Proofs.YtnfjgphfaemjcaaGreatDoor

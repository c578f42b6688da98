/- Templates: the law of what is written and read; no condition. -/
import Derived.Test.YtnfjgphfaemjcaaGreatDoorMgI
import Derived.Test.YtnfjgphfaemjcaaGreatDoorMdQ
import Derived.Test.YtnfjgphfaemjcaaGreatDoorMdR
set_option linter.all false
set_option linter.unusedSimpArgs false
set_option linter.unusedVariables false
set_option maxHeartbeats 4000000
namespace Go.Proofs.YtnfjgphfaemjcaaGreatDoor
attribute [local simp] Jm Dg Dj KG JZ J0 KK DQ DZ EU FW I7 Id IP KJ IM IT KR JD K4 IH Ix J2 Ju KD R5 pe Jg J3 JV K7 KF Jn Ip J9 KQ Jw KT ID J8 F0 Nd NU MY Mh MU Mj MN ML Nf MK M9 MQ NP Nn Mn Ms Np MB Mi M8 NA F2 NG FC MA NB No NL NF NX N2 NK Mp MH MC Nh MF N6 NC NM MG NN NZ MO Mm ND Nk NR NI Eu NJ Mv MX NE Me Mb NT MI NS Md Mt ME MJ N8 Nm MV NQ NO Mo I6 K5 Jv Ji Jb JQ I5 IZ IL Ig JA HM K9 List.mem_cons guardK Cs E6 EM Fd Ng Ew F1 Ez Es Ep F8 Eq F7 Ef MS MR Er Jq Ml NV Nl MM Mx El JG N3 Mc JT Jp Nc Gp F5 Ey Et FA Ni N5 F9 N4 Ej KI En Ek JE Ev FB My MT Mr IX Mu Nq J4 Jo Qz I0 Hd G4 HQ Hu Hx DC Ea EW JB Eb Ee DG Cv Su Hc HS Ec Hq Hs Cl Ch B1 Au Ba Ci Cb ev get put Dx AB CS K8 I4 Io Jh Hy Ib DP part Am Fo IF Fb isNil CI CP Cp CQ CR Im JM IC Ia Jx JO JS JN IA It KA IU Jt IK Is K0 AV.fits AV.cells ones AV.one D7 BY DB CY DK DM KO E5 EG C5 BB CD ER Cw AY Ao TZ FO K3 I9 List.getElem?_cons_zero List.getElem?_cons_succ Ei Eg Eh JC K2 Jy Fp Ih IQ IR Jz JP Iu J7 Mg Ij Ii JF IE KN JY IB JI Ie KH KP JW Je IG Jl JK Jk Jd J6 Jj
theorem Tc (l : List Pt) (hl : l.length ≤ 2000000) (hs : E4 l) : APure Tryz.prog 7 [E1 l] (.bool true) := by
 have hpr := Wk l hl hs
 have hst := Qt
 by_cases h0 : (CO l).1 = 0
 ·obtain ⟨h1, h2, h3⟩ := Tz h0
  have e : MP l = (CJ l, (0, 0)) := by unfold MP; rw [if_neg (by simpa using h0)]
  rw [e] at hpr
  have hpa := WV (CJ l) (by omega)
  rw [(Tn h0).1] at hpa
  have hsa := XY l hl hs
  unfold Kq at hsa
  generalize CJ l = tl at *
  simp only at hpr hpa
  refine AM Tryz.func7 Zq rfl fun n H hH => ?_
  repeat' (first | (simp -implicitDefEqProofs [Qc, c7, -getElem?_pos, splice]) | (simp (disch := omega) only [AJ]) | ((with_reducible refine AP 11 ?_); (refine' CallP.sf ?_ (hpr) ?_); (focus first | (with_reducible exact A0 _) | (simp [AC, AA, A1, A0]; done))) | ((with_reducible refine AP 16 ?_); (refine' CallP.sf ?_ (hpa) ?_); (focus first | (with_reducible exact A0 _) | (simp [AC, AA, A1, A0]; done))) | ((with_reducible refine AP 18 ?_); (refine' CallP.sf ?_ (hsa) ?_); (focus first | (with_reducible exact A0 _) | (simp [AC, AA, A1, A0]; done))) | ((with_reducible refine AP 14 ?_); (refine' CallP.sf ?_ (hst) ?_); (focus first | (with_reducible exact A0 _) | (simp [AC, AA, A1, A0]; done))) | (with_reducible first | refine A8 ?_ ?_ ?_ | exact AG | assumption | refine A3 ?_ | refine KM.of ?_ | refine AI ?_ | refine A5 ?_ | refine A7 ?_ | intro _g _hg | refine AK ?_ ?_ | intro _hc) | omega)
  all_goals first | exact A1 _ | (intro g hg; simp (disch := omega) only [upd_ne])
 ·have e : MP l = ([], CO l) := by unfold MP; rw [if_pos h0]
  rw [e] at hpr
  generalize hf : CO l = f at *
  obtain ⟨f1, f2⟩ := f
  simp only at h0 hpr
  refine AM Tryz.func7 Zq rfl fun n H hH => ?_
  repeat' (first | (simp -implicitDefEqProofs [Qc, c7, -getElem?_pos, splice, h0]) | (simp (disch := omega) only [AJ]) | ((with_reducible refine AP 11 ?_); (refine' CallP.sf ?_ (hpr) ?_); (focus first | (with_reducible exact A0 _) | (simp [AC, AA, A1, A0]; done))) | ((with_reducible refine AP 14 ?_); (refine' CallP.sf ?_ (hst) ?_); (focus first | (with_reducible exact A0 _) | (simp [AC, AA, A1, A0]; done))) | (with_reducible first | refine A8 ?_ ?_ ?_ | exact AG | assumption | refine A3 ?_ | refine KM.of ?_ | refine AI ?_ | refine A5 ?_ | refine A7 ?_ | intro _g _hg | refine AK ?_ ?_ | intro _hc) | omega)
  all_goals first | exact A1 _ | (intro g hg; simp (disch := omega) only [upd_ne])
end Go.Proofs.YtnfjgphfaemjcaaGreatDoor

/- Streams: the law of Fuse; no condition. -/
import Derived.Test.YtjdccdelcnmocaaGreatDoorMgJ
import Derived.Test.YtjdccdelcnmocaaGreatDoorMdR
import Derived.Test.YtjdccdelcnmocaaGreatDoorMdQ
import Derived.Test.YtjdccdelcnmocaaGreatDoorMdO
set_option linter.all false
set_option linter.unusedSimpArgs false
set_option linter.unusedVariables false
set_option maxHeartbeats 4000000
namespace Go.Proofs.YtjdccdelcnmocaaGreatDoor
attribute [local simp] Nj Fe FS L6 N3 NE LZ Fg F3 Fq HO MF Nf MS MH NT O6 Md Of L5 Me M5 Nc LI M0 TE pe Nt OB NM MM M1 Nw LN Mb Lh Lc NY Mk Lx FX MB MD Nd Lg MO N1 ME MK NN Mf LY LR Ma Ol Mm MC N7 Lm M6 Mr Ly FH ND Fh NJ Mz NC NU Ms Oa NO OS Mx Ld Lw LL LQ L7 OM Ot ON Mg Mn N2 OA O5 Ln O8 MU F9 Oi OY Nu LF Mw Ng Nm Mt Nr Np Nb Oh On OO OK Mo Ny LK Nz Lk LD MJ NK NF M9 L9 Nn LH NW LJ Hv M3 List.mem_cons guardK E5 Er FR HV LU FT Fd FO Fi FD FC F5 FW Fc Lb O9 FZ NH LB Mu Mp ML OW FG OR No OF O4 Lt M2 Hj FY FP F6 Fb Oo N5 FI OJ FF NX F4 FB M7 Fa F8 Ll N0 Ml LW NZ La MZ Lp TF Ju K2 HG KF Jz KD EN Ge Gb Od Ga GX EM E3 Us Jt Jx Gd Jp Jv Dl DQ Bz Bk CH DL BL ev get put EV Ad Cw L8 MP LM Lo K7 OV EF part BO Gn OD GV isNil Ct DJ Dm DN DM Nq Lu MV Mh NV KE NS OQ Og LO Lj M4 N4 Lq OH Mj AV.fits AV.cells ones AV.one E7 CI E1 DI EQ EI MY Es FU CK CB CQ Ew FV Ax Bn VW HB Nx LT List.getElem?_cons_zero List.getElem?_cons_succ FJ FM F7 OI Mc MX Gk Oc OG MI Lv Mi Ok MW Lr Ls MA LX
theorem Sx (s : St) (hf : Cg s) : APure Tryz.prog 11 [encS s] (.bool true) := by
 have hst := QG
 have hfu := W8 s hf
 have hw := KB s hf
 have hsn := T4 ⟨by simp, by simp, trivial⟩
 by_cases h0 : (GT s).1 = 0
 ·obtain ⟨h1, h2, h3, h4⟩ := RJ h0
  have hg : GoodS s := ⟨hf, h2, h3, h4⟩
  have hfr := U4 WY s hg
  have hsa := TU (Fj s) (JA s hg).1
  unfold Vj at hfu
  rw [if_pos h0, h1] at hfu
  rw [h1] at hw
  generalize Fj s = t at *
  obtain ⟨k, o, m', v, p⟩ := s
  obtain ⟨k1, o1, m1, v1, p1⟩ := t
  simp only [A7] at *
  
  refine A3 Tryz.func11 Vy rfl fun n H hH => ?_
  repeat' (first | (simp -implicitDefEqProofs [Kp, c11, -getElem?_pos, splice]) | (simp (disch := omega) only [AH]) | ((with_reducible refine Al 34 ?_); (refine' CallP.sf ?_ (hfu) ?_); (focus first | (with_reducible exact A0 _) | (simp [AK, AI, A1, A0]; done))) | ((with_reducible refine Al 14 ?_); (refine' CallP.sf ?_ (hw) ?_); (focus first | (with_reducible exact A0 _) | (simp [AK, AI, A1, A0]; done))) | ((with_reducible refine Al 35 ?_); (refine' CallP.sf ?_ (hfr) ?_); (focus first | (with_reducible exact A0 _) | (simp [AK, AI, A1, A0]; done))) | ((with_reducible refine Al 26 ?_); (refine' CallP.sf ?_ (hsa) ?_); (focus first | (with_reducible exact A0 _) | (simp [AK, AI, A1, A0]; done))) | ((with_reducible refine Al 16 ?_); (refine' CallP.sf ?_ (hst) ?_); (focus first | (with_reducible exact A0 _) | (simp [AK, AI, A1, A0]; done))) | (with_reducible first | refine A8 ?_ ?_ ?_ | exact AF | assumption | refine A4 ?_ | refine KM.of ?_ | refine AG ?_ | refine A2 ?_ | refine A5 ?_ | intro _g _hg | refine AE ?_ ?_ | intro _hc) | omega)
  all_goals first | exact A1 _ | (intro g hg; simp (disch := omega) only [upd_ne])
 ·unfold Vj at hfu
  rw [if_neg h0] at hfu
  have hb : ((GT s).1 == 0) = false := by simpa using h0
  generalize GT s = f at *
  obtain ⟨k, o, m', v, p⟩ := s
  simp only [A7, List.map_nil] at *
  
  refine A3 Tryz.func11 Vy rfl fun n H hH => ?_
  repeat' (first | (simp -implicitDefEqProofs [Kp, c11, -getElem?_pos, splice, h0, hb]) | (simp (disch := omega) only [AH]) | ((with_reducible refine Al 34 ?_); (refine' CallP.sf ?_ (hfu) ?_); (focus first | (with_reducible exact A0 _) | (simp [AK, AI, A1, A0]; done))) | ((with_reducible refine Al 14 ?_); (refine' CallP.sf ?_ (hw) ?_); (focus first | (with_reducible exact A0 _) | (simp [AK, AI, A1, A0]; done))) | ((with_reducible refine Al 26 ?_); (refine' CallP.sf ?_ (hsn) ?_); (focus first | (with_reducible exact A0 _) | (simp [AK, AI, A1, A0]; done))) | ((with_reducible refine Al 16 ?_); (refine' CallP.sf ?_ (hst) ?_); (focus first | (with_reducible exact A0 _) | (simp [AK, AI, A1, A0]; done))) | (with_reducible first | refine A8 ?_ ?_ ?_ | exact AF | assumption | refine A4 ?_ | refine KM.of ?_ | refine AG ?_ | refine A2 ?_ | refine A5 ?_ | intro _g _hg | refine AE ?_ ?_ | intro _hc) | omega)
  all_goals first | exact A1 _ | (intro g hg; simp (disch := omega) only [upd_ne])
end Go.Proofs.YtjdccdelcnmocaaGreatDoor

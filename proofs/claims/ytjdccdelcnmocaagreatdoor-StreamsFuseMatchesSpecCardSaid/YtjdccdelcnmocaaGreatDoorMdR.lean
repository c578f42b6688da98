/- Streams: the rules by the reference: no rule fits a node with one part (3, 3, 3, 3, 3); no condition. -/
import Derived.Test.YtjdccdelcnmocaaGreatDoorMgJ
import Derived.Test.YtjdccdelcnmocaaGreatDoorMdQ
import Derived.Test.YtjdccdelcnmocaaGreatDoorMdO
import Derived.Test.YtjdccdelcnmocaaGreatDoorMdK
set_option linter.all false
set_option linter.unusedSimpArgs false
set_option linter.unusedVariables false
set_option maxHeartbeats 8000000
namespace Go.Proofs.YtjdccdelcnmocaaGreatDoor
attribute [local simp] Nj Fe FS L6 N3 NE LZ Fg F3 Fq HO MF Nf MS MH NT O6 Md Of L5 Me M5 Nc LI M0 TE pe Nt OB NM MM M1 Nw LN Mb Lh Lc NY Mk Lx FX MB MD Nd Lg MO N1 ME MK NN Mf LY LR Ma Ol Mm MC N7 Lm M6 Mr Ly FH ND Fh NJ Mz NC NU Ms Oa NO OS Mx Ld Lw LL LQ L7 OM Ot ON Mg Mn N2 OA O5 Ln O8 MU F9 Oi OY Nu LF Mw Ng Nm Mt Nr Np Nb Oh On OO OK Mo Ny LK Nz Lk LD MJ NK NF M9 L9 Nn LH NW LJ Hv M3 List.mem_cons guardK E5 Er FR HV LU FT Fd FO Fi FD FC F5 FW Fc Lb O9 FZ NH LB Mu Mp ML OW FG OR No OF O4 Lt M2 Hj FY FP F6 Fb Oo N5 FI OJ FF NX F4 FB M7 Fa F8 Ll N0 Ml LW NZ La MZ Lp TF Ju K2 HG KF Jz KD EN Ge Gb Od Ga GX EM E3 Us Jt Jx Gd Jp Jv Dl DQ Bz Bk CH DL BL ev get put EV Ad Cw L8 MP LM Lo K7 OV EF part BO Gn OD GV isNil Ct DJ Dm DN DM Nq Lu MV Mh NV KE NS OQ Og LO Lj M4 N4 Lq OH Mj AV.fits AV.cells ones AV.one E7 CI E1 DI EQ EI MY Es FU CK CB CQ Ew FV Ax Bn VW HB Nx LT List.getElem?_cons_zero List.getElem?_cons_succ FJ FM F7 OI Mc MX Gk Oc OG MI Lv Mi Ok MW Lr Ls MA LX
set_option maxRecDepth 20000 in
theorem Y3 (o m k' o' m' : Int) (v v' : List Int) (pp : List St) (hk : (k' == 3) = false) (h1 : (o == 1) = false) (h3 : (o == 3) = false) : APure Tryz.prog 67 [encS (.mk 3 o m v [.mk k' o' m' v' pp])] (.tup [encS (.mk 3 o m v [.mk k' o' m' v' pp]), .bool false]) := by
 simp only [A7, AD, List.map_nil]
 generalize AD pp = ep at *
 generalize v.map aI = vb at *
 generalize v'.map aI = vc at *
 
 refine A3 Tryz.func67 Ar rfl fun n H hH => ?_
 repeat' (first | (simp -implicitDefEqProofs [Ab, AY, AU, AW, AT, AX, AZ, Aa, Ac, AO, AP, AR, AQ, AN, AL, c67, -getElem?_pos, hk, h1, h3, splice]) | (simp (disch := omega) only [AH]) | (with_reducible first | refine A8 ?_ ?_ ?_ | exact AF | refine SameB.upd ?_ ?_ _ | assumption | refine A4 ?_ | refine KM.of ?_ | refine AG ?_ | refine A2 ?_ | refine AA ?_ | refine A5 ?_ | refine AJ ?_ | refine AB ?_ | intro _g _hg | refine AE ?_ ?_ | intro _hc) | omega)
 all_goals first | exact A1 _ | exact Aj
set_option maxRecDepth 20000 in
theorem Xw (o m o' m' : Int) (v v' : List Int) (pp : List St) (ho : (o' == o) = false) (h1 : (o == 1) = false) (h3 : (o == 3) = false) : APure Tryz.prog 67 [encS (.mk 3 o m v [.mk 3 o' m' v' pp])] (.tup [encS (.mk 3 o m v [.mk 3 o' m' v' pp]), .bool false]) := by
 simp only [A7, AD, List.map_nil]
 generalize AD pp = ep at *
 generalize v.map aI = vb at *
 generalize v'.map aI = vc at *
 
 refine A3 Tryz.func67 Ar rfl fun n H hH => ?_
 repeat' (first | (simp -implicitDefEqProofs [Ab, AY, AU, AW, AT, AX, AZ, Aa, Ac, AO, AP, AR, AQ, AN, AL, c67, -getElem?_pos, ho, h1, h3, splice]) | (simp (disch := omega) only [AH]) | (with_reducible first | refine A8 ?_ ?_ ?_ | exact AF | refine SameB.upd ?_ ?_ _ | assumption | refine A4 ?_ | refine KM.of ?_ | refine AG ?_ | refine A2 ?_ | refine AA ?_ | refine A5 ?_ | refine AJ ?_ | refine AB ?_ | intro _g _hg | refine AE ?_ ?_ | intro _hc) | omega)
 all_goals first | exact A1 _ | exact Aj
set_option maxRecDepth 20000 in
theorem Ww (m k' o' m' : Int) (v v' : List Int) (pp : List St) (hk : (k' == 3) = false) (h1 : (m == 0) = false) : APure Tryz.prog 67 [encS (.mk 3 1 m v [.mk k' o' m' v' pp])] (.tup [encS (.mk 3 1 m v [.mk k' o' m' v' pp]), .bool false]) := by
 simp only [A7, AD, List.map_nil]
 generalize AD pp = ep at *
 generalize v.map aI = vb at *
 generalize v'.map aI = vc at *
 
 refine A3 Tryz.func67 Ar rfl fun n H hH => ?_
 repeat' (first | (simp -implicitDefEqProofs [Ab, AY, AU, AW, AT, AX, AZ, Aa, Ac, AO, AP, AR, AQ, AN, AL, c67, -getElem?_pos, hk, h1, splice]) | (simp (disch := omega) only [AH]) | (with_reducible first | refine A8 ?_ ?_ ?_ | exact AF | refine SameB.upd ?_ ?_ _ | assumption | refine A4 ?_ | refine KM.of ?_ | refine AG ?_ | refine A2 ?_ | refine AA ?_ | refine A5 ?_ | refine AJ ?_ | refine AB ?_ | intro _g _hg | refine AE ?_ ?_ | intro _hc) | omega)
 all_goals first | exact A1 _ | exact Aj
set_option maxRecDepth 20000 in
theorem Wz (m o' m' : Int) (v v' : List Int) (pp : List St) (ho : (o' == 1) = false) (h1 : (m == 0) = false) : APure Tryz.prog 67 [encS (.mk 3 1 m v [.mk 3 o' m' v' pp])] (.tup [encS (.mk 3 1 m v [.mk 3 o' m' v' pp]), .bool false]) := by
 simp only [A7, AD, List.map_nil]
 generalize AD pp = ep at *
 generalize v.map aI = vb at *
 generalize v'.map aI = vc at *
 
 refine A3 Tryz.func67 Ar rfl fun n H hH => ?_
 repeat' (first | (simp -implicitDefEqProofs [Ab, AY, AU, AW, AT, AX, AZ, Aa, Ac, AO, AP, AR, AQ, AN, AL, c67, -getElem?_pos, ho, h1, splice]) | (simp (disch := omega) only [AH]) | (with_reducible first | refine A8 ?_ ?_ ?_ | exact AF | refine SameB.upd ?_ ?_ _ | assumption | refine A4 ?_ | refine KM.of ?_ | refine AG ?_ | refine A2 ?_ | refine AA ?_ | refine A5 ?_ | refine AJ ?_ | refine AB ?_ | intro _g _hg | refine AE ?_ ?_ | intro _hc) | omega)
 all_goals first | exact A1 _ | exact Aj
set_option maxRecDepth 20000 in
theorem Wx (m k' o' m' : Int) (v v' : List Int) (pp : List St) (hk : (k' == 3) = false) (h1 : (m == 1) = false) : APure Tryz.prog 67 [encS (.mk 3 3 m v [.mk k' o' m' v' pp])] (.tup [encS (.mk 3 3 m v [.mk k' o' m' v' pp]), .bool false]) := by
 simp only [A7, AD, List.map_nil]
 generalize AD pp = ep at *
 generalize v.map aI = vb at *
 generalize v'.map aI = vc at *
 
 refine A3 Tryz.func67 Ar rfl fun n H hH => ?_
 repeat' (first | (simp -implicitDefEqProofs [Ab, AY, AU, AW, AT, AX, AZ, Aa, Ac, AO, AP, AR, AQ, AN, AL, c67, -getElem?_pos, hk, h1, splice]) | (simp (disch := omega) only [AH]) | (with_reducible first | refine A8 ?_ ?_ ?_ | exact AF | refine SameB.upd ?_ ?_ _ | assumption | refine A4 ?_ | refine KM.of ?_ | refine AG ?_ | refine A2 ?_ | refine AA ?_ | refine A5 ?_ | refine AJ ?_ | refine AB ?_ | intro _g _hg | refine AE ?_ ?_ | intro _hc) | omega)
 all_goals first | exact A1 _ | exact Aj
set_option maxRecDepth 20000 in
theorem XZ (m o' m' : Int) (v v' : List Int) (pp : List St) (ho : (o' == 3) = false) (h1 : (m == 1) = false) : APure Tryz.prog 67 [encS (.mk 3 3 m v [.mk 3 o' m' v' pp])] (.tup [encS (.mk 3 3 m v [.mk 3 o' m' v' pp]), .bool false]) := by
 simp only [A7, AD, List.map_nil]
 generalize AD pp = ep at *
 generalize v.map aI = vb at *
 generalize v'.map aI = vc at *
 
 refine A3 Tryz.func67 Ar rfl fun n H hH => ?_
 repeat' (first | (simp -implicitDefEqProofs [Ab, AY, AU, AW, AT, AX, AZ, Aa, Ac, AO, AP, AR, AQ, AN, AL, c67, -getElem?_pos, ho, h1, splice]) | (simp (disch := omega) only [AH]) | (with_reducible first | refine A8 ?_ ?_ ?_ | exact AF | refine SameB.upd ?_ ?_ _ | assumption | refine A4 ?_ | refine KM.of ?_ | refine AG ?_ | refine A2 ?_ | refine AA ?_ | refine A5 ?_ | refine AJ ?_ | refine AB ?_ | intro _g _hg | refine AE ?_ ?_ | intro _hc) | omega)
 all_goals first | exact A1 _ | exact Aj
set_option maxRecDepth 20000 in
theorem XS (m m' : Int) (v v' : List Int) (pp : List St) : APure Tryz.prog 67 [encS (.mk 3 2 m v [.mk 3 2 m' v' pp])] (.tup [encS (.mk 3 2 m v [.mk 3 2 m' v' pp]), .bool false]) := by
 simp only [A7, AD, List.map_nil]
 generalize AD pp = ep at *
 generalize v.map aI = vb at *
 generalize v'.map aI = vc at *
 
 refine A3 Tryz.func67 Ar rfl fun n H hH => ?_
 repeat' (first | (simp -implicitDefEqProofs [Ab, AY, AU, AW, AT, AX, AZ, Aa, Ac, AO, AP, AR, AQ, AN, AL, c67, -getElem?_pos, splice]) | (simp (disch := omega) only [AH]) | (with_reducible first | refine A8 ?_ ?_ ?_ | exact AF | refine SameB.upd ?_ ?_ _ | assumption | refine A4 ?_ | refine KM.of ?_ | refine AG ?_ | refine A2 ?_ | refine AA ?_ | refine A5 ?_ | refine AJ ?_ | refine AB ?_ | intro _g _hg | refine AE ?_ ?_ | intro _hc) | omega)
 all_goals first | exact A1 _ | exact Aj
set_option maxRecDepth 20000 in
theorem Wo (m m' : Int) (v v' : List Int) (pp : List St) : APure Tryz.prog 67 [encS (.mk 3 6 m v [.mk 3 6 m' v' pp])] (.tup [encS (.mk 3 6 m v [.mk 3 6 m' v' pp]), .bool false]) := by
 simp only [A7, AD, List.map_nil]
 generalize AD pp = ep at *
 generalize v.map aI = vb at *
 generalize v'.map aI = vc at *
 
 refine A3 Tryz.func67 Ar rfl fun n H hH => ?_
 repeat' (first | (simp -implicitDefEqProofs [Ab, AY, AU, AW, AT, AX, AZ, Aa, Ac, AO, AP, AR, AQ, AN, AL, c67, -getElem?_pos, splice]) | (simp (disch := omega) only [AH]) | (with_reducible first | refine A8 ?_ ?_ ?_ | exact AF | refine SameB.upd ?_ ?_ _ | assumption | refine A4 ?_ | refine KM.of ?_ | refine AG ?_ | refine A2 ?_ | refine AA ?_ | refine A5 ?_ | refine AJ ?_ | refine AB ?_ | intro _g _hg | refine AE ?_ ?_ | intro _hc) | omega)
 all_goals first | exact A1 _ | exact Aj
set_option maxRecDepth 20000 in
theorem Xu (o m k' o' m' : Int) (v v' : List Int) (pp : List St) (hk : (k' == 4) = false) : APure Tryz.prog 67 [encS (.mk 4 o m v [.mk k' o' m' v' pp])] (.tup [encS (.mk 4 o m v [.mk k' o' m' v' pp]), .bool false]) := by
 simp only [A7, AD, List.map_nil]
 generalize AD pp = ep at *
 generalize v.map aI = vb at *
 generalize v'.map aI = vc at *
 
 refine A3 Tryz.func67 Ar rfl fun n H hH => ?_
 repeat' (first | (simp -implicitDefEqProofs [Ab, AY, AU, AW, AT, AX, AZ, Aa, Ac, AO, AP, AR, AQ, AN, AL, c67, -getElem?_pos, hk, splice]) | (simp (disch := omega) only [AH]) | (with_reducible first | refine A8 ?_ ?_ ?_ | exact AF | refine SameB.upd ?_ ?_ _ | assumption | refine A4 ?_ | refine KM.of ?_ | refine AG ?_ | refine A2 ?_ | refine AA ?_ | refine A5 ?_ | refine AJ ?_ | refine AB ?_ | intro _g _hg | refine AE ?_ ?_ | intro _hc) | omega)
 all_goals first | exact A1 _ | exact Aj
set_option maxRecDepth 20000 in
theorem Y5 (o m o' m' : Int) (v v' : List Int) (pp : List St) (ho : (o' == o) = false) : APure Tryz.prog 67 [encS (.mk 4 o m v [.mk 4 o' m' v' pp])] (.tup [encS (.mk 4 o m v [.mk 4 o' m' v' pp]), .bool false]) := by
 simp only [A7, AD, List.map_nil]
 generalize AD pp = ep at *
 generalize v.map aI = vb at *
 generalize v'.map aI = vc at *
 
 refine A3 Tryz.func67 Ar rfl fun n H hH => ?_
 repeat' (first | (simp -implicitDefEqProofs [Ab, AY, AU, AW, AT, AX, AZ, Aa, Ac, AO, AP, AR, AQ, AN, AL, c67, -getElem?_pos, ho, splice]) | (simp (disch := omega) only [AH]) | (with_reducible first | refine A8 ?_ ?_ ?_ | exact AF | refine SameB.upd ?_ ?_ _ | assumption | refine A4 ?_ | refine KM.of ?_ | refine AG ?_ | refine A2 ?_ | refine AA ?_ | refine A5 ?_ | refine AJ ?_ | refine AB ?_ | intro _g _hg | refine AE ?_ ?_ | intro _hc) | omega)
 all_goals first | exact A1 _ | exact Aj
set_option maxRecDepth 20000 in
theorem XW (m m' : Int) (v v' : List Int) (pp : List St) : APure Tryz.prog 67 [encS (.mk 4 3 m v [.mk 4 3 m' v' pp])] (.tup [encS (.mk 4 3 m v [.mk 4 3 m' v' pp]), .bool false]) := by
 simp only [A7, AD, List.map_nil]
 generalize AD pp = ep at *
 generalize v.map aI = vb at *
 generalize v'.map aI = vc at *
 
 refine A3 Tryz.func67 Ar rfl fun n H hH => ?_
 repeat' (first | (simp -implicitDefEqProofs [Ab, AY, AU, AW, AT, AX, AZ, Aa, Ac, AO, AP, AR, AQ, AN, AL, c67, -getElem?_pos, splice]) | (simp (disch := omega) only [AH]) | (with_reducible first | refine A8 ?_ ?_ ?_ | exact AF | refine SameB.upd ?_ ?_ _ | assumption | refine A4 ?_ | refine KM.of ?_ | refine AG ?_ | refine A2 ?_ | refine AA ?_ | refine A5 ?_ | refine AJ ?_ | refine AB ?_ | intro _g _hg | refine AE ?_ ?_ | intro _hc) | omega)
 all_goals first | exact A1 _ | exact Aj
set_option maxRecDepth 20000 in
theorem YB (o m k' o' m' : Int) (v v' : List Int) (pp : List St) (hk : (k' == 5) = false) (b : Nat) (hb : APure Tryz.prog 17 [encS (.mk k' o' m' v' pp)] (aI b)) (hbn : ¬ (b : Int) < m) : APure Tryz.prog 67 [encS (.mk 5 o m v [.mk k' o' m' v' pp])] (.tup [encS (.mk 5 o m v [.mk k' o' m' v' pp]), .bool false]) := by
 simp only [A7] at hb
 simp only [A7, AD, List.map_nil]
 generalize AD pp = ep at *
 generalize v.map aI = vb at *
 generalize v'.map aI = vc at *
 
 refine A3 Tryz.func67 Ar rfl fun n H hH => ?_
 repeat' (first | (simp -implicitDefEqProofs [Ab, AY, AU, AW, AT, AX, AZ, Aa, Ac, AO, AP, AR, AQ, AN, AL, c67, -getElem?_pos, hk, hbn, splice]) | (simp (disch := omega) only [AH]) | ((with_reducible refine Al 17 ?_); (refine' CallP.sf ?_ (hb) ?_); (focus first | (with_reducible exact A0 _) | (simp [AK, AI, A1, A0]; done))) | (with_reducible first | refine A8 ?_ ?_ ?_ | exact AF | refine SameB.upd ?_ ?_ _ | assumption | refine A4 ?_ | refine KM.of ?_ | refine AG ?_ | refine A2 ?_ | refine AA ?_ | refine A5 ?_ | refine AJ ?_ | refine AB ?_ | intro _g _hg | refine AE ?_ ?_ | intro _hc) | omega)
 all_goals first | exact A1 _ | exact Aj
set_option maxRecDepth 20000 in
theorem Xx (o m o' m' : Int) (v v' : List Int) (pp : List St) (ho : (o' == o) = false) (b : Nat) (hb : APure Tryz.prog 17 [encS (.mk 5 o' m' v' pp)] (aI b)) (hbn : ¬ (b : Int) < m) : APure Tryz.prog 67 [encS (.mk 5 o m v [.mk 5 o' m' v' pp])] (.tup [encS (.mk 5 o m v [.mk 5 o' m' v' pp]), .bool false]) := by
 simp only [A7] at hb
 simp only [A7, AD, List.map_nil]
 generalize AD pp = ep at *
 generalize v.map aI = vb at *
 generalize v'.map aI = vc at *
 
 refine A3 Tryz.func67 Ar rfl fun n H hH => ?_
 repeat' (first | (simp -implicitDefEqProofs [Ab, AY, AU, AW, AT, AX, AZ, Aa, Ac, AO, AP, AR, AQ, AN, AL, c67, -getElem?_pos, ho, hbn, splice]) | (simp (disch := omega) only [AH]) | ((with_reducible refine Al 17 ?_); (refine' CallP.sf ?_ (hb) ?_); (focus first | (with_reducible exact A0 _) | (simp [AK, AI, A1, A0]; done))) | (with_reducible first | refine A8 ?_ ?_ ?_ | exact AF | refine SameB.upd ?_ ?_ _ | assumption | refine A4 ?_ | refine KM.of ?_ | refine AG ?_ | refine A2 ?_ | refine AA ?_ | refine A5 ?_ | refine AJ ?_ | refine AB ?_ | intro _g _hg | refine AE ?_ ?_ | intro _hc) | omega)
 all_goals first | exact A1 _ | exact Aj
set_option maxRecDepth 20000 in
theorem YD (o m k' o' m' : Int) (v v' : List Int) (pp : List St) (hk : (k' == 6) = false) (h1 : (m == 0) = false) : APure Tryz.prog 67 [encS (.mk 6 o m v [.mk k' o' m' v' pp])] (.tup [encS (.mk 6 o m v [.mk k' o' m' v' pp]), .bool false]) := by
 simp only [A7, AD, List.map_nil]
 generalize AD pp = ep at *
 generalize v.map aI = vb at *
 generalize v'.map aI = vc at *
 
 refine A3 Tryz.func67 Ar rfl fun n H hH => ?_
 repeat' (first | (simp -implicitDefEqProofs [Ab, AY, AU, AW, AT, AX, AZ, Aa, Ac, AO, AP, AR, AQ, AN, AL, c67, -getElem?_pos, hk, h1, splice]) | (simp (disch := omega) only [AH]) | (with_reducible first | refine A8 ?_ ?_ ?_ | exact AF | refine SameB.upd ?_ ?_ _ | assumption | refine A4 ?_ | refine KM.of ?_ | refine AG ?_ | refine A2 ?_ | refine AA ?_ | refine A5 ?_ | refine AJ ?_ | refine AB ?_ | intro _g _hg | refine AE ?_ ?_ | intro _hc) | omega)
 all_goals first | exact A1 _ | exact Aj
set_option maxRecDepth 20000 in
theorem YI (o m o' m' : Int) (v v' : List Int) (pp : List St) (ho : (o' == o) = false) (h1 : (m == 0) = false) : APure Tryz.prog 67 [encS (.mk 6 o m v [.mk 6 o' m' v' pp])] (.tup [encS (.mk 6 o m v [.mk 6 o' m' v' pp]), .bool false]) := by
 simp only [A7, AD, List.map_nil]
 generalize AD pp = ep at *
 generalize v.map aI = vb at *
 generalize v'.map aI = vc at *
 
 refine A3 Tryz.func67 Ar rfl fun n H hH => ?_
 repeat' (first | (simp -implicitDefEqProofs [Ab, AY, AU, AW, AT, AX, AZ, Aa, Ac, AO, AP, AR, AQ, AN, AL, c67, -getElem?_pos, ho, h1, splice]) | (simp (disch := omega) only [AH]) | (with_reducible first | refine A8 ?_ ?_ ?_ | exact AF | refine SameB.upd ?_ ?_ _ | assumption | refine A4 ?_ | refine KM.of ?_ | refine AG ?_ | refine A2 ?_ | refine AA ?_ | refine A5 ?_ | refine AJ ?_ | refine AB ?_ | intro _g _hg | refine AE ?_ ?_ | intro _hc) | omega)
 all_goals first | exact A1 _ | exact Aj
set_option maxRecDepth 20000 in
theorem XR (o m k' o' m' : Int) (v v' : List Int) (pp : List St) (hk : (k' == 11) = false) : APure Tryz.prog 67 [encS (.mk 11 o m v [.mk k' o' m' v' pp])] (.tup [encS (.mk 11 o m v [.mk k' o' m' v' pp]), .bool false]) := by
 simp only [A7, AD, List.map_nil]
 generalize AD pp = ep at *
 generalize v.map aI = vb at *
 generalize v'.map aI = vc at *
 
 refine A3 Tryz.func67 Ar rfl fun n H hH => ?_
 repeat' (first | (simp -implicitDefEqProofs [Ab, AY, AU, AW, AT, AX, AZ, Aa, Ac, AO, AP, AR, AQ, AN, AL, c67, -getElem?_pos, hk, splice]) | (simp (disch := omega) only [AH]) | (with_reducible first | refine A8 ?_ ?_ ?_ | exact AF | refine SameB.upd ?_ ?_ _ | assumption | refine A4 ?_ | refine KM.of ?_ | refine AG ?_ | refine A2 ?_ | refine AA ?_ | refine A5 ?_ | refine AJ ?_ | refine AB ?_ | intro _g _hg | refine AE ?_ ?_ | intro _hc) | omega)
 all_goals first | exact A1 _ | exact Aj
set_option maxRecDepth 20000 in
theorem XX (o m o' m' : Int) (v v' : List Int) (pp : List St) (ho : (o' == o) = false) : APure Tryz.prog 67 [encS (.mk 11 o m v [.mk 11 o' m' v' pp])] (.tup [encS (.mk 11 o m v [.mk 11 o' m' v' pp]), .bool false]) := by
 simp only [A7, AD, List.map_nil]
 generalize AD pp = ep at *
 generalize v.map aI = vb at *
 generalize v'.map aI = vc at *
 
 refine A3 Tryz.func67 Ar rfl fun n H hH => ?_
 repeat' (first | (simp -implicitDefEqProofs [Ab, AY, AU, AW, AT, AX, AZ, Aa, Ac, AO, AP, AR, AQ, AN, AL, c67, -getElem?_pos, ho, splice]) | (simp (disch := omega) only [AH]) | (with_reducible first | refine A8 ?_ ?_ ?_ | exact AF | refine SameB.upd ?_ ?_ _ | assumption | refine A4 ?_ | refine KM.of ?_ | refine AG ?_ | refine A2 ?_ | refine AA ?_ | refine A5 ?_ | refine AJ ?_ | refine AB ?_ | intro _g _hg | refine AE ?_ ?_ | intro _hc) | omega)
 all_goals first | exact A1 _ | exact Aj
set_option maxRecDepth 20000 in
theorem Y9 (o m k' o' m' : Int) (v v' : List Int) (pp : List St) (hk : (k' == 7) = false) : APure Tryz.prog 67 [encS (.mk 7 o m v [.mk k' o' m' v' pp])] (.tup [encS (.mk 7 o m v [.mk k' o' m' v' pp]), .bool false]) := by
 simp only [A7, AD, List.map_nil]
 generalize AD pp = ep at *
 generalize v.map aI = vb at *
 generalize v'.map aI = vc at *
 
 refine A3 Tryz.func67 Ar rfl fun n H hH => ?_
 repeat' (first | (simp -implicitDefEqProofs [Ab, AY, AU, AW, AT, AX, AZ, Aa, Ac, AO, AP, AR, AQ, AN, AL, c67, -getElem?_pos, hk, splice]) | (simp (disch := omega) only [AH]) | (with_reducible first | refine A8 ?_ ?_ ?_ | exact AF | refine SameB.upd ?_ ?_ _ | assumption | refine A4 ?_ | refine KM.of ?_ | refine AG ?_ | refine A2 ?_ | refine AA ?_ | refine A5 ?_ | refine AJ ?_ | refine AB ?_ | intro _g _hg | refine AE ?_ ?_ | intro _hc) | omega)
 all_goals first | exact A1 _ | exact Aj
set_option maxRecDepth 20000 in
theorem Y1 (o m o' m' : Int) (v v' : List Int) (pp : List St) (ho : (o' == o) = false) : APure Tryz.prog 67 [encS (.mk 7 o m v [.mk 7 o' m' v' pp])] (.tup [encS (.mk 7 o m v [.mk 7 o' m' v' pp]), .bool false]) := by
 simp only [A7, AD, List.map_nil]
 generalize AD pp = ep at *
 generalize v.map aI = vb at *
 generalize v'.map aI = vc at *
 
 refine A3 Tryz.func67 Ar rfl fun n H hH => ?_
 repeat' (first | (simp -implicitDefEqProofs [Ab, AY, AU, AW, AT, AX, AZ, Aa, Ac, AO, AP, AR, AQ, AN, AL, c67, -getElem?_pos, ho, splice]) | (simp (disch := omega) only [AH]) | (with_reducible first | refine A8 ?_ ?_ ?_ | exact AF | refine SameB.upd ?_ ?_ _ | assumption | refine A4 ?_ | refine KM.of ?_ | refine AG ?_ | refine A2 ?_ | refine AA ?_ | refine A5 ?_ | refine AJ ?_ | refine AB ?_ | intro _g _hg | refine AE ?_ ?_ | intro _hc) | omega)
 all_goals first | exact A1 _ | exact Aj
set_option maxRecDepth 20000 in
theorem YE (o m m' : Int) (v v' : List Int) (pp : List St) : APure Tryz.prog 67 [encS (.mk 7 o m v [.mk 7 o m' v' pp])] (.tup [encS (.mk 7 o m v [.mk 7 o m' v' pp]), .bool false]) := by
 simp only [A7, AD, List.map_nil]
 generalize AD pp = ep at *
 generalize v.map aI = vb at *
 generalize v'.map aI = vc at *
 
 refine A3 Tryz.func67 Ar rfl fun n H hH => ?_
 repeat' (first | (simp -implicitDefEqProofs [Ab, AY, AU, AW, AT, AX, AZ, Aa, Ac, AO, AP, AR, AQ, AN, AL, c67, -getElem?_pos, splice]) | (simp (disch := omega) only [AH]) | (with_reducible first | refine A8 ?_ ?_ ?_ | exact AF | refine SameB.upd ?_ ?_ _ | assumption | refine A4 ?_ | refine KM.of ?_ | refine AG ?_ | refine A2 ?_ | refine AA ?_ | refine A5 ?_ | refine AJ ?_ | refine AB ?_ | intro _g _hg | refine AE ?_ ?_ | intro _hc) | omega)
 all_goals first | exact A1 _ | exact Aj
set_option maxRecDepth 20000 in
theorem Y6 (o m k' o' m' : Int) (v v' : List Int) (pp : List St) (hk : (k' == 8) = false) : APure Tryz.prog 67 [encS (.mk 8 o m v [.mk k' o' m' v' pp])] (.tup [encS (.mk 8 o m v [.mk k' o' m' v' pp]), .bool false]) := by
 simp only [A7, AD, List.map_nil]
 generalize AD pp = ep at *
 generalize v.map aI = vb at *
 generalize v'.map aI = vc at *
 
 refine A3 Tryz.func67 Ar rfl fun n H hH => ?_
 repeat' (first | (simp -implicitDefEqProofs [Ab, AY, AU, AW, AT, AX, AZ, Aa, Ac, AO, AP, AR, AQ, AN, AL, c67, -getElem?_pos, hk, splice]) | (simp (disch := omega) only [AH]) | (with_reducible first | refine A8 ?_ ?_ ?_ | exact AF | refine SameB.upd ?_ ?_ _ | assumption | refine A4 ?_ | refine KM.of ?_ | refine AG ?_ | refine A2 ?_ | refine AA ?_ | refine A5 ?_ | refine AJ ?_ | refine AB ?_ | intro _g _hg | refine AE ?_ ?_ | intro _hc) | omega)
 all_goals first | exact A1 _ | exact Aj
set_option maxRecDepth 20000 in
theorem Y7 (o m o' m' : Int) (v v' : List Int) (pp : List St) (ho : (o' == o) = false) : APure Tryz.prog 67 [encS (.mk 8 o m v [.mk 8 o' m' v' pp])] (.tup [encS (.mk 8 o m v [.mk 8 o' m' v' pp]), .bool false]) := by
 simp only [A7, AD, List.map_nil]
 generalize AD pp = ep at *
 generalize v.map aI = vb at *
 generalize v'.map aI = vc at *
 
 refine A3 Tryz.func67 Ar rfl fun n H hH => ?_
 repeat' (first | (simp -implicitDefEqProofs [Ab, AY, AU, AW, AT, AX, AZ, Aa, Ac, AO, AP, AR, AQ, AN, AL, c67, -getElem?_pos, ho, splice]) | (simp (disch := omega) only [AH]) | (with_reducible first | refine A8 ?_ ?_ ?_ | exact AF | refine SameB.upd ?_ ?_ _ | assumption | refine A4 ?_ | refine KM.of ?_ | refine AG ?_ | refine A2 ?_ | refine AA ?_ | refine A5 ?_ | refine AJ ?_ | refine AB ?_ | intro _g _hg | refine AE ?_ ?_ | intro _hc) | omega)
 all_goals first | exact A1 _ | exact Aj
set_option maxRecDepth 20000 in
theorem YG (o m m' : Int) (v v' : List Int) (pp : List St) : APure Tryz.prog 67 [encS (.mk 8 o m v [.mk 8 o m' v' pp])] (.tup [encS (.mk 8 o m v [.mk 8 o m' v' pp]), .bool false]) := by
 simp only [A7, AD, List.map_nil]
 generalize AD pp = ep at *
 generalize v.map aI = vb at *
 generalize v'.map aI = vc at *
 
 refine A3 Tryz.func67 Ar rfl fun n H hH => ?_
 repeat' (first | (simp -implicitDefEqProofs [Ab, AY, AU, AW, AT, AX, AZ, Aa, Ac, AO, AP, AR, AQ, AN, AL, c67, -getElem?_pos, splice]) | (simp (disch := omega) only [AH]) | (with_reducible first | refine A8 ?_ ?_ ?_ | exact AF | refine SameB.upd ?_ ?_ _ | assumption | refine A4 ?_ | refine KM.of ?_ | refine AG ?_ | refine A2 ?_ | refine AA ?_ | refine A5 ?_ | refine AJ ?_ | refine AB ?_ | intro _g _hg | refine AE ?_ ?_ | intro _hc) | omega)
 all_goals first | exact A1 _ | exact Aj
set_option maxRecDepth 20000 in
theorem YJ (o m k' o' m' : Int) (v v' : List Int) (pp : List St) (hk : (k' == 9) = false) : APure Tryz.prog 67 [encS (.mk 9 o m v [.mk k' o' m' v' pp])] (.tup [encS (.mk 9 o m v [.mk k' o' m' v' pp]), .bool false]) := by
 simp only [A7, AD, List.map_nil]
 generalize AD pp = ep at *
 generalize v.map aI = vb at *
 generalize v'.map aI = vc at *
 
 refine A3 Tryz.func67 Ar rfl fun n H hH => ?_
 repeat' (first | (simp -implicitDefEqProofs [Ab, AY, AU, AW, AT, AX, AZ, Aa, Ac, AO, AP, AR, AQ, AN, AL, c67, -getElem?_pos, hk, splice]) | (simp (disch := omega) only [AH]) | (with_reducible first | refine A8 ?_ ?_ ?_ | exact AF | refine SameB.upd ?_ ?_ _ | assumption | refine A4 ?_ | refine KM.of ?_ | refine AG ?_ | refine A2 ?_ | refine AA ?_ | refine A5 ?_ | refine AJ ?_ | refine AB ?_ | intro _g _hg | refine AE ?_ ?_ | intro _hc) | omega)
 all_goals first | exact A1 _ | exact Aj
set_option maxRecDepth 20000 in
theorem Xz (o m o' m' : Int) (v v' : List Int) (pp : List St) (ho : (o' == o) = false) : APure Tryz.prog 67 [encS (.mk 9 o m v [.mk 9 o' m' v' pp])] (.tup [encS (.mk 9 o m v [.mk 9 o' m' v' pp]), .bool false]) := by
 simp only [A7, AD, List.map_nil]
 generalize AD pp = ep at *
 generalize v.map aI = vb at *
 generalize v'.map aI = vc at *
 
 refine A3 Tryz.func67 Ar rfl fun n H hH => ?_
 repeat' (first | (simp -implicitDefEqProofs [Ab, AY, AU, AW, AT, AX, AZ, Aa, Ac, AO, AP, AR, AQ, AN, AL, c67, -getElem?_pos, ho, splice]) | (simp (disch := omega) only [AH]) | (with_reducible first | refine A8 ?_ ?_ ?_ | exact AF | refine SameB.upd ?_ ?_ _ | assumption | refine A4 ?_ | refine KM.of ?_ | refine AG ?_ | refine A2 ?_ | refine AA ?_ | refine A5 ?_ | refine AJ ?_ | refine AB ?_ | intro _g _hg | refine AE ?_ ?_ | intro _hc) | omega)
 all_goals first | exact A1 _ | exact Aj
set_option maxRecDepth 20000 in
theorem Y8 (o m m' : Int) (v v' : List Int) (pp : List St) : APure Tryz.prog 67 [encS (.mk 9 o m v [.mk 9 o m' v' pp])] (.tup [encS (.mk 9 o m v [.mk 9 o m' v' pp]), .bool false]) := by
 simp only [A7, AD, List.map_nil]
 generalize AD pp = ep at *
 generalize v.map aI = vb at *
 generalize v'.map aI = vc at *
 
 refine A3 Tryz.func67 Ar rfl fun n H hH => ?_
 repeat' (first | (simp -implicitDefEqProofs [Ab, AY, AU, AW, AT, AX, AZ, Aa, Ac, AO, AP, AR, AQ, AN, AL, c67, -getElem?_pos, splice]) | (simp (disch := omega) only [AH]) | (with_reducible first | refine A8 ?_ ?_ ?_ | exact AF | refine SameB.upd ?_ ?_ _ | assumption | refine A4 ?_ | refine KM.of ?_ | refine AG ?_ | refine A2 ?_ | refine AA ?_ | refine A5 ?_ | refine AJ ?_ | refine AB ?_ | intro _g _hg | refine AE ?_ ?_ | intro _hc) | omega)
 all_goals first | exact A1 _ | exact Aj
set_option maxRecDepth 20000 in
theorem Wp (o m k' o' m' : Int) (v v' : List Int) (pp : List St) (hk : (k' == 10) = false) : APure Tryz.prog 67 [encS (.mk 10 o m v [.mk k' o' m' v' pp])] (.tup [encS (.mk 10 o m v [.mk k' o' m' v' pp]), .bool false]) := by
 simp only [A7, AD, List.map_nil]
 generalize AD pp = ep at *
 generalize v.map aI = vb at *
 generalize v'.map aI = vc at *
 
 refine A3 Tryz.func67 Ar rfl fun n H hH => ?_
 repeat' (first | (simp -implicitDefEqProofs [Ab, AY, AU, AW, AT, AX, AZ, Aa, Ac, AO, AP, AR, AQ, AN, AL, c67, -getElem?_pos, hk, splice]) | (simp (disch := omega) only [AH]) | (with_reducible first | refine A8 ?_ ?_ ?_ | exact AF | refine SameB.upd ?_ ?_ _ | assumption | refine A4 ?_ | refine KM.of ?_ | refine AG ?_ | refine A2 ?_ | refine AA ?_ | refine A5 ?_ | refine AJ ?_ | refine AB ?_ | intro _g _hg | refine AE ?_ ?_ | intro _hc) | omega)
 all_goals first | exact A1 _ | exact Aj
set_option maxRecDepth 20000 in
theorem Wq (o m o' m' : Int) (v v' : List Int) (pp : List St) (ho : (o' == o) = false) : APure Tryz.prog 67 [encS (.mk 10 o m v [.mk 10 o' m' v' pp])] (.tup [encS (.mk 10 o m v [.mk 10 o' m' v' pp]), .bool false]) := by
 simp only [A7, AD, List.map_nil]
 generalize AD pp = ep at *
 generalize v.map aI = vb at *
 generalize v'.map aI = vc at *
 
 refine A3 Tryz.func67 Ar rfl fun n H hH => ?_
 repeat' (first | (simp -implicitDefEqProofs [Ab, AY, AU, AW, AT, AX, AZ, Aa, Ac, AO, AP, AR, AQ, AN, AL, c67, -getElem?_pos, ho, splice]) | (simp (disch := omega) only [AH]) | (with_reducible first | refine A8 ?_ ?_ ?_ | exact AF | refine SameB.upd ?_ ?_ _ | assumption | refine A4 ?_ | refine KM.of ?_ | refine AG ?_ | refine A2 ?_ | refine AA ?_ | refine A5 ?_ | refine AJ ?_ | refine AB ?_ | intro _g _hg | refine AE ?_ ?_ | intro _hc) | omega)
 all_goals first | exact A1 _ | exact Aj
set_option maxRecDepth 20000 in
theorem XL (o m m' : Int) (v v' : List Int) (pp : List St) : APure Tryz.prog 67 [encS (.mk 10 o m v [.mk 10 o m' v' pp])] (.tup [encS (.mk 10 o m v [.mk 10 o m' v' pp]), .bool false]) := by
 simp only [A7, AD, List.map_nil]
 generalize AD pp = ep at *
 generalize v.map aI = vb at *
 generalize v'.map aI = vc at *
 
 refine A3 Tryz.func67 Ar rfl fun n H hH => ?_
 repeat' (first | (simp -implicitDefEqProofs [Ab, AY, AU, AW, AT, AX, AZ, Aa, Ac, AO, AP, AR, AQ, AN, AL, c67, -getElem?_pos, splice]) | (simp (disch := omega) only [AH]) | (with_reducible first | refine A8 ?_ ?_ ?_ | exact AF | refine SameB.upd ?_ ?_ _ | assumption | refine A4 ?_ | refine KM.of ?_ | refine AG ?_ | refine A2 ?_ | refine AA ?_ | refine A5 ?_ | refine AJ ?_ | refine AB ?_ | intro _g _hg | refine AE ?_ ?_ | intro _hc) | omega)
 all_goals first | exact A1 _ | exact Aj
set_option maxRecDepth 20000 in
theorem XI (o m k' o' m' : Int) (v v' : List Int) (pp : List St) (hk : (k' == 12) = false) (h1 : (m == 1) = false) : APure Tryz.prog 67 [encS (.mk 12 o m v [.mk k' o' m' v' pp])] (.tup [encS (.mk 12 o m v [.mk k' o' m' v' pp]), .bool false]) := by
 simp only [A7, AD, List.map_nil]
 generalize AD pp = ep at *
 generalize v.map aI = vb at *
 generalize v'.map aI = vc at *
 
 refine A3 Tryz.func67 Ar rfl fun n H hH => ?_
 repeat' (first | (simp -implicitDefEqProofs [Ab, AY, AU, AW, AT, AX, AZ, Aa, Ac, AO, AP, AR, AQ, AN, AL, c67, -getElem?_pos, hk, h1, splice]) | (simp (disch := omega) only [AH]) | (with_reducible first | refine A8 ?_ ?_ ?_ | exact AF | refine SameB.upd ?_ ?_ _ | assumption | refine A4 ?_ | refine KM.of ?_ | refine AG ?_ | refine A2 ?_ | refine AA ?_ | refine A5 ?_ | refine AJ ?_ | refine AB ?_ | intro _g _hg | refine AE ?_ ?_ | intro _hc) | omega)
 all_goals first | exact A1 _ | exact Aj
set_option maxRecDepth 20000 in
theorem XC (o m o' m' : Int) (v v' : List Int) (pp : List St) (ho : (o' == o) = false) (h1 : (m == 1) = false) : APure Tryz.prog 67 [encS (.mk 12 o m v [.mk 12 o' m' v' pp])] (.tup [encS (.mk 12 o m v [.mk 12 o' m' v' pp]), .bool false]) := by
 simp only [A7, AD, List.map_nil]
 generalize AD pp = ep at *
 generalize v.map aI = vb at *
 generalize v'.map aI = vc at *
 
 refine A3 Tryz.func67 Ar rfl fun n H hH => ?_
 repeat' (first | (simp -implicitDefEqProofs [Ab, AY, AU, AW, AT, AX, AZ, Aa, Ac, AO, AP, AR, AQ, AN, AL, c67, -getElem?_pos, ho, h1, splice]) | (simp (disch := omega) only [AH]) | (with_reducible first | refine A8 ?_ ?_ ?_ | exact AF | refine SameB.upd ?_ ?_ _ | assumption | refine A4 ?_ | refine KM.of ?_ | refine AG ?_ | refine A2 ?_ | refine AA ?_ | refine A5 ?_ | refine AJ ?_ | refine AB ?_ | intro _g _hg | refine AE ?_ ?_ | intro _hc) | omega)
 all_goals first | exact A1 _ | exact Aj
set_option maxRecDepth 20000 in
theorem X3 (o m m' : Int) (v v' : List Int) (pp : List St) (h1 : (m == 1) = false) : APure Tryz.prog 67 [encS (.mk 12 o m v [.mk 12 o m' v' pp])] (.tup [encS (.mk 12 o m v [.mk 12 o m' v' pp]), .bool false]) := by
 simp only [A7, AD, List.map_nil]
 generalize AD pp = ep at *
 generalize v.map aI = vb at *
 generalize v'.map aI = vc at *
 
 refine A3 Tryz.func67 Ar rfl fun n H hH => ?_
 repeat' (first | (simp -implicitDefEqProofs [Ab, AY, AU, AW, AT, AX, AZ, Aa, Ac, AO, AP, AR, AQ, AN, AL, c67, -getElem?_pos, h1, splice]) | (simp (disch := omega) only [AH]) | (with_reducible first | refine A8 ?_ ?_ ?_ | exact AF | refine SameB.upd ?_ ?_ _ | assumption | refine A4 ?_ | refine KM.of ?_ | refine AG ?_ | refine A2 ?_ | refine AA ?_ | refine A5 ?_ | refine AJ ?_ | refine AB ?_ | intro _g _hg | refine AE ?_ ?_ | intro _hc) | omega)
 all_goals first | exact A1 _ | exact Aj
theorem UV : ∀ {p : List St}, (p.any fun q => decide (q.k = 13)) = false → Ay p = p
 | [], _ => rfl
 | q :: r, h => by
  have e : Ay (q :: r) = (if q.k = 13 then q.p else [q]) ++ Ay r := rfl
  simp only [List.any_cons, Bool.or_eq_false_iff, decide_eq_false_iff_not] at h
  rw [e, if_neg h.1, UV h.2]; rfl
theorem UX : ∀ {p : List St}, (∀ q ∈ p, q.k = 13 → 2 ≤ q.p.length) → p.length ≤ (Ay p).length ∧ ((p.any fun q => decide (q.k = 13)) = true → p.length < (Ay p).length)
 | [], _ => ⟨Nat.le_refl _, fun h => by simp at h⟩
 | q :: r, h => by
  have e : Ay (q :: r) = (if q.k = 13 then q.p else [q]) ++ Ay r := rfl
  obtain ⟨h1, h2⟩ := UX (p := r) fun x hx => h x (List.mem_cons_of_mem _ hx)
  rw [e, List.length_append, List.length_cons]
  simp only [List.any_cons, Bool.or_eq_true, decide_eq_true_eq]
  by_cases hk : q.k = 13
  ·have := h q List.mem_cons_self hk
   rw [if_pos hk]
   exact ⟨by omega, fun _ => by omega⟩
  ·rw [if_neg hk]
   simp only [List.length_cons, List.length_nil]
   exact ⟨by omega, fun h => by have := h2 (h.resolve_left hk); omega⟩
theorem L1 {o n : Int} {v : List Int} {p : List St} (h : Ea 13 o n p = none) (hp : p ≠ []) : 2 ≤ p.length := by
 rcases p with _ | ⟨x, _ | ⟨y, r⟩⟩
 ·exact absurd rfl hp
 ·simp [Ea] at h
 ·simp
theorem V4 {q : St} (h : Wr q) (ho : Gz q) (hk : q.k = 13) : 2 ≤ q.p.length := by
 obtain ⟨k, o, n, v, p⟩ := q
 simp only [St.k] at hk; subst hk
 refine L1 (o := o) (n := n) (v := v) ?_ ((Bl ho.1).many (.inl rfl))
 have h1 := h.1
 simp only [CG] at h1
 split at h1
 ·cases h1
 ·assumption
theorem RZ : ∀ {p : List St}, H6 p → ∀ q ∈ p, Wr q
 | [], _, q, h => by simp at h
 | x :: r, h, q, hq => by
  rcases List.mem_cons.1 hq with rfl | hq
  ·exact h.1
  ·exact RZ h.2 q hq
theorem Qs {k o n : Int} {q : St} {r : List St} (h : Ea k o n (q :: r) = none) : ¬ ((k = 3 ∧ (o = 1 ∧ n = 0 ∨ o = 3 ∧ n = 1)) ∨ (k = 6 ∧ n = 0) ∨ (k = 12 ∧ n = 1) ∨ ((k = 13 ∨ k = 14) ∧ r = []) ∨ (k = 5 ∧ (Ah q : Int) < n)) := by
 intro hc
 unfold Ea at h
 dsimp only at h
 rw [if_pos hc] at h; cases h
theorem Tw {k o n k' o' m : Int} {v : List Int} {p : List St} (h : Fm k o n [.mk k' o' m v p] = none) : ¬ (k' = k ∧ o' = o) ∨ VT k o n m = none := by
 unfold Fm at h
 dsimp only at h
 by_cases hc : k' = k ∧ o' = o
 ·rw [if_pos hc] at h; exact .inr (by simpa using h)
 ·exact .inl hc
theorem Qx {k o n : Int} {v : List Int} {p : List St} (hN : NodeOk k o n v p) (h : EP k = true) : 0 ≤ n ∧ n ≤ 9999 ∧ (k = 5 ∨ k = 6 → n ≤ 5000) := by
 obtain ⟨h1, h2⟩ := hN.num h
 simp only [EP, Kr, Cq, G4, Jn, Jq] at *
 grind
theorem WY (t : St) (h : NG t) : APure Tryz.prog 67 [encS t] (.tup [encS ((CG t).getD t), .bool (CG t).isSome]) := by
 obtain ⟨hg, hn⟩ := h
 obtain ⟨k, o, m, v, p⟩ := t
 have hp := F0 k o m v p hg
 obtain ⟨hf, hok, hsm, hz⟩ := hg
 have hN := Bl hok.1
 have hMost : ∀ x ∈ p, APure Tryz.prog 17 [encS x] (aI (Ah x : Nat)) := fun x hx => by
  obtain ⟨a, b, c, d⟩ := hp x hx
  have h1 := UP x a b d
  have : min (Ah x) 100000 = Ah x := by obtain ⟨_, _, _, _, _⟩ := x; have := c.1; omega
  unfold Dr at h1; rwa [this] at h1
 cases hu : Ea k o m p with
 | some t' =>
  have e1 : CG (.mk k o m v p) = some t' := by simp only [CG, hu]
  rw [e1]
  unfold Ea at hu
  split at hu
  ·rename_i x r
   split at hu
   ·rename_i hc
    injection hu with hu; subst hu
    exact Uh k o m v x r (fun _ => hMost x List.mem_cons_self) hc
   ·cases hu
  ·cases hu
 | none =>
  cases hl : Fm k o m p with
  | some t' =>
   have e1 : CG (.mk k o m v p) = some t' := by simp only [CG, hu, hl]
   rw [e1]
   clear e1
   unfold Fm at hl
   split at hl
   ·rename_i k' o' m' v' pp
    split at hl
    ·rename_i hc
     obtain ⟨rfl, rfl⟩ := hc
     obtain ⟨j, hj, rfl⟩ := Option.map_eq_some_iff.1 hl
     have hN' := Bl hok.2.1.1
     obtain ⟨q1, q2⟩ := TY hN hN' hj
     have hus := Qs hu
     have hr1 := Qx hN
     have hr2 := Qx hN'
     have hM := hMost _ List.mem_cons_self
     unfold VT at hj
     split at hj
     ·rename_i hk
      obtain ⟨rfl, ho2, ho6⟩ := hk
      have hv' := hN'.nov (by decide) (by decide); subst hv'
      injection hj with hj; subst hj
      have hfn := hN.fn (by decide)
      have a1 := hr1 (by decide); have a2 := hr2 (by decide)
      have a3 := (q1 (by decide)).1
      refine Ti _ _ _ _ _ (by omega) ⟨a1.1, a1.2.1⟩ ⟨a2.1, a2.2.1⟩ ?_
      simp only [Jn] at a3
      grind
     ·split at hj
      ·rename_i hk
       injection hj with hj; subst hj
       rcases hk with ⟨rfl, rfl⟩ | rfl
       ·have hv' := hN'.nov (by decide) (by decide); subst hv'
        exact SK _ _ _ _ (hr1 (by decide)).1 (hr2 (by decide)).1
       ·have hv' := hN'.nov (by decide) (by decide); subst hv'
        have ho := hN.noo (by decide) (by decide); subst ho
        exact Ui _ _ _ _ _ hM (by omega) (hr1 (by decide)).1 (hr2 (by decide)).1
      ·split at hj
       ·rename_i hk
        obtain ⟨rfl, rfl⟩ := hk
        injection hj with hj; subst hj
        have hv' := hN'.nov (by decide) (by decide); subst hv'
        exact SV _ _ _ _ (hr1 (by decide)).1 (hr2 (by decide)).1
       ·split at hj
        ·rename_i hk
         subst hk
         injection hj with hj; subst hj
         have hv' := hN'.nov (by decide) (by decide); subst hv'
         have ho := hN.noo (by decide) (by decide); subst ho
         have a1 := hr1 (by decide); have a2 := hr2 (by decide)
         exact TG _ _ _ _ (by omega) a2.1 (a1.2.2 (.inr rfl)) (a2.2.2 (.inr rfl))
        ·split at hj
         ·rename_i hk
          subst hk
          injection hj with hj; subst hj
          have hv' := hN'.nov (by decide) (by decide); subst hv'
          exact Sq _ _ _ _ _
         ·cases hj
    ·cases hl
   ·cases hl
  | none =>
   by_cases k13 : k = 13
   ·subst k13
    have ho := hN.noo (by decide) (by decide); subst ho
    have hm := hN.non (by decide); subst hm
    have hv := hN.nov (by decide) (by decide); subst hv
    have h2 := L1 (v := []) hu (hN.many (.inl rfl))
    have hzp : Bm p ≤ 59 := by simp only [An] at hz; omega
    have hch := QX p h2 (by have := Bq p; omega) (fun j => by
     have h1 := Bq (Ay (p.take j))
     have h2 := (HT (p.take j)).1
     have h3 := J0 (p.take j) (p.drop j)
     rw [List.take_append_drop] at h3
     rw [Ao]; omega) (fun x hx => by
     obtain ⟨a, b, c, d⟩ := hp x hx
     obtain ⟨k, o, m, v, p⟩ := x
     have := Bq p
     simp only [An, St.p] at d ⊢
     omega)
    obtain ⟨c1, c2⟩ := UX (p := p) fun q hq hk => V4 (RZ hn q hq) (Cm hok.2 q hq) hk
    cases ha : p.any fun q => decide (q.k = 13) with
    | true =>
     have e1 : CG (.mk 13 0 0 [] p) = some (.mk 13 0 0 [] (Ay p)) := by
      simp only [CG, hu, hl]
      unfold HN
      rw [if_pos ⟨rfl, ha⟩]
     rw [e1]
     rw [decide_eq_true (by have := c2 ha; omega)] at hch
     exact hch
    | false =>
     have e1 : CG (.mk 13 0 0 [] p) = none := by
      simp only [CG, hu, hl]
      unfold HN
      rw [if_neg (fun h => by rw [ha] at h; exact absurd h.2 (by decide))]
     rw [e1]
     rw [UV ha, decide_eq_false (by omega)] at hch
     exact hch
   ·have e1 : CG (.mk k o m v p) = none := by
     simp only [CG, hu, hl]
     unfold HN
     rw [if_neg (fun h => k13 h.1)]
    rw [e1]
    simp only [Option.getD_none, Option.isSome_none]
    have hk1 := hN.k1
    have hk2 := hN.k2
    by_cases h12 : k = 1 ∨ k = 2
    ·have := hN.leaf h12; subst this
     exact So k o m v h12
    by_cases h14 : k = 14 ∨ k = 15 ∨ k = 16
    ·have h2 : 2 ≤ p.length := by
      rcases h14 with rfl | h
      ·rcases p with _ | ⟨x, _ | ⟨y, r⟩⟩
       ·exact absurd rfl (hN.many (.inr rfl))
       ·simp [Ea] at hu
       ·simp
      ·have := hN.two h; omega
     rcases p with _ | ⟨x, _ | ⟨y, r⟩⟩
     ·simp at h2
     ·simp at h2
     ·exact Tc k o m v x y r h14
    obtain ⟨x, rfl⟩ := List.length_eq_one_iff.1 (hN.one (by omega) (by omega) k13 (by omega) (by omega) (by omega))
    obtain ⟨k', o', m', v', pp⟩ := x
    have hus := Qs hu
    have hun := Tw hl
    have hM := hMost _ List.mem_cons_self
    clear hl hu hMost hp hf hsm hz hn e1
    unfold VT at hun
    rcases (by omega : k = 3 ∨ k = 4 ∨ k = 5 ∨ k = 6 ∨ k = 7 ∨ k = 8 ∨ k = 9 ∨ k = 10 ∨ k = 11 ∨ k = 12) with rfl | rfl | rfl | rfl | rfl | rfl | rfl | rfl | rfl | rfl
    ·have hfn := hN.fn (by decide)
     by_cases h1 : o = 1
     ·subst h1
      have hm0 : (m == 0) = false := by simp; omega
      by_cases hk : k' = 3
      ·subst hk
       exact Wz _ _ _ _ _ _ (by grind) hm0
      ·exact Ww _ _ _ _ _ _ _ (by simpa using hk) hm0
     ·by_cases h3 : o = 3
      ·subst h3
       have hm0 : (m == 1) = false := by simp; omega
       by_cases hk : k' = 3
       ·subst hk
        exact XZ _ _ _ _ _ _ (by grind) hm0
       ·exact Wx _ _ _ _ _ _ _ (by simpa using hk) hm0
      ·have b1 : (o == 1) = false := by simpa using h1
       have b3 : (o == 3) = false := by simpa using h3
       by_cases hk : k' = 3
       ·subst hk
        by_cases ho : o' = o
        ·subst ho
         rcases (by grind : o' = 2 ∨ o' = 6) with rfl | rfl
         ·exact XS _ _ _ _ _
         ·exact Wo _ _ _ _ _
        ·exact Xw _ _ _ _ _ _ _ (by simpa using ho) b1 b3
       ·exact Y3 _ _ _ _ _ _ _ _ (by simpa using hk) b1 b3
    ·have hc := hN.cnd (by decide)
     by_cases hk : k' = 4
     ·subst hk
      by_cases ho : o' = o
      ·subst ho
       have : o' = 3 := by grind
       subst this
       exact XW _ _ _ _ _
      ·exact Y5 _ _ _ _ _ _ _ (by simpa using ho)
     ·exact Xu _ _ _ _ _ _ _ _ (by simpa using hk)
    ·by_cases hk : k' = 5
     ·subst hk
      exact Xx _ _ _ _ _ _ _ (by grind) _ hM (by omega)
     ·exact YB _ _ _ _ _ _ _ _ (by simpa using hk) _ hM (by omega)
    ·have hm0 : (m == 0) = false := by simp; omega
     by_cases hk : k' = 6
     ·subst hk
      exact YI _ _ _ _ _ _ _ (by grind) hm0
     ·exact YD _ _ _ _ _ _ _ _ (by simpa using hk) hm0
    ·by_cases hk : k' = 7
     ·subst hk
      by_cases ho : o' = o
      ·subst ho; exact YE _ _ _ _ _ _
      ·exact Y1 _ _ _ _ _ _ _ (by simpa using ho)
     ·exact Y9 _ _ _ _ _ _ _ _ (by simpa using hk)
    ·by_cases hk : k' = 8
     ·subst hk
      by_cases ho : o' = o
      ·subst ho; exact YG _ _ _ _ _ _
      ·exact Y7 _ _ _ _ _ _ _ (by simpa using ho)
     ·exact Y6 _ _ _ _ _ _ _ _ (by simpa using hk)
    ·by_cases hk : k' = 9
     ·subst hk
      by_cases ho : o' = o
      ·subst ho; exact Y8 _ _ _ _ _ _
      ·exact Xz _ _ _ _ _ _ _ (by simpa using ho)
     ·exact YJ _ _ _ _ _ _ _ _ (by simpa using hk)
    ·by_cases hk : k' = 10
     ·subst hk
      by_cases ho : o' = o
      ·subst ho; exact XL _ _ _ _ _ _
      ·exact Wq _ _ _ _ _ _ _ (by simpa using ho)
     ·exact Wp _ _ _ _ _ _ _ _ (by simpa using hk)
    ·by_cases hk : k' = 11
     ·subst hk
      exact XX _ _ _ _ _ _ _ (by grind)
     ·exact XR _ _ _ _ _ _ _ _ (by simpa using hk)
    ·have hm0 : (m == 1) = false := by simp; omega
     by_cases hk : k' = 12
     ·subst hk
      by_cases ho : o' = o
      ·subst ho; exact X3 _ _ _ _ _ _ hm0
      ·exact XC _ _ _ _ _ _ _ (by simpa using ho) hm0
     ·exact XI _ _ _ _ _ _ _ _ (by simpa using hk) hm0
abbrev Ut : St := .mk 0 0 0 [] []
abbrev XM (k o m : Int) (a b : AV) : AObj := .cells 25 [aI k, aI o, aI m, a, b]
theorem We (a b : List Int) (ha : a.length ≤ 140737488355328) : APure Tryz.prog 22 [.sl 1 (a.map aI) .ro, .sl 1 (b.map aI) .ro] (.bool (decide (a = b))) := by
 have hal : (a.map aI).length = a.length := by simp
 have hbl : (b.map aI).length = b.length := by simp
 by_cases hl : a.length = b.length
 ·have hl' : (a.length : Int) = b.length := by omega
  
  refine A3 Tryz.func22 W0 rfl fun n H hH => ?_
  repeat' (first | (simp -implicitDefEqProofs [c22, Ev, F1, Em, Eu, Eg, c22, -getElem?_pos, hal, hbl, hl, hl']) | (simp (disch := omega) only [AH]) | (with_reducible first | refine A8 ?_ ?_ ?_ | exact AF | refine SameB.upd ?_ ?_ _ | assumption | refine A4 ?_ | refine KM.of ?_ | refine AG ?_ | intro _g _hg | refine AE ?_ ?_ | intro _hc) | omega)
  refine LoopK.go (fun r st => ∃ j : Nat, j + r = a.length ∧ st = ⟨[(0, .sl 1 (a.map aI) .ro), (1, .sl 1 (b.map aI) .ro), (5, aI j)], n, H⟩ ∧ a.take j = b.take j) a.length ⟨0, by omega, rfl, rfl⟩ ?_
  rintro r st ⟨j, hj, rfl, hE⟩ J hJ
  by_cases hjl : j < a.length
  ·obtain ⟨x, hx⟩ : ∃ x, a[j]? = some x := ⟨_, List.getElem?_eq_getElem hjl⟩
   obtain ⟨y, hy⟩ : ∃ y, b[j]? = some y := ⟨_, List.getElem?_eq_getElem (by omega)⟩
   have hxa := Ns (f := aI) hx
   have hya := Ns (f := aI) hy
   have hjl' : (j : Int) < a.length := by omega
   by_cases hxy : x = y
   ·subst hxy
    have hE2 : a.take (j + 1) = b.take (j + 1) := by rw [List.take_succ, List.take_succ, hE, hx, hy]
    generalize a.map aI = aa at *
    generalize b.map aI = ba at *
    
    repeat' (first | (simp -implicitDefEqProofs [Ev, F1, Em, Eu, Eg, c22, -getElem?_pos, hal, hbl, hl, hl', hxa, hya, hjl']) | (simp (disch := omega) only [AH]) | (with_reducible first | refine A8 ?_ ?_ ?_ | exact AF | refine SameB.upd ?_ ?_ _ | assumption | refine A4 ?_ | refine KM.of ?_ | refine AG ?_ | intro _g _hg | refine AE ?_ ?_ | intro _hc) | omega)
    exact hJ (r - 1) _ (by omega) ⟨j + 1, by omega, rfl, hE2⟩
   ·have hne : ¬ a = b := fun e => by subst e; rw [hx] at hy; injection hy with hy; exact hxy hy
    rw [decide_eq_false hne]
    generalize a.map aI = aa at *
    generalize b.map aI = ba at *
    
    repeat' (first | (simp -implicitDefEqProofs [Ev, F1, Em, Eu, Eg, c22, -getElem?_pos, hal, hbl, hl, hl', hxa, hya, hjl', hxy, AI]) | (simp (disch := omega) only [AH]) | (with_reducible first | refine A8 ?_ ?_ ?_ | exact AF | refine SameB.upd ?_ ?_ _ | assumption | refine A4 ?_ | refine KM.of ?_ | refine AG ?_ | intro _g _hg | refine AE ?_ ?_ | intro _hc) | omega)
  ·have hjl' : ¬ (j : Int) < a.length := by omega
   rw [List.take_of_length_le (by omega), List.take_of_length_le (by omega)] at hE
   rw [decide_eq_true hE]
   generalize a.map aI = aa at *
   generalize b.map aI = ba at *
   
   repeat' (first | (simp -implicitDefEqProofs [Ev, F1, Em, Eu, Eg, c22, -getElem?_pos, hal, hbl, hl, hl', hjl', AI]) | (simp (disch := omega) only [AH]) | (with_reducible first | refine A8 ?_ ?_ ?_ | exact AF | refine SameB.upd ?_ ?_ _ | assumption | refine A4 ?_ | refine KM.of ?_ | refine AG ?_ | intro _g _hg | refine AE ?_ ?_ | intro _hc) | omega)
 ·have hl' : ¬ (a.length : Int) = b.length := by omega
  have hne : ¬ a = b := fun e => hl (by rw [e])
  rw [decide_eq_false hne]
  generalize a.map aI = aa at *
  generalize b.map aI = ba at *
  
  refine A3 Tryz.func22 W0 rfl fun n H hH => ?_
  repeat' (first | (simp -implicitDefEqProofs [Ev, F1, Em, Eu, Eg, c22, -getElem?_pos, hal, hbl, hl, hl', AI]) | (simp (disch := omega) only [AH]) | (with_reducible first | refine A8 ?_ ?_ ?_ | exact AF | refine SameB.upd ?_ ?_ _ | assumption | refine A4 ?_ | refine KM.of ?_ | refine AG ?_ | intro _g _hg | refine AE ?_ ?_ | intro _hc) | omega)
theorem TU (s : St) : Cg s → APure Tryz.prog 26 [encS s, encS s] (.bool true) := by
 refine St.ind (Q := fun s => Cg s → APure Tryz.prog 26 [encS s, encS s] (.bool true)) ?_ s
 intro k o m v p ih hf
 obtain ⟨hv, hp, hpp⟩ := hf
 have hin := We v v hv
 rw [decide_eq_true rfl] at hin
 have hpl := Ao p
 rw [A7]
 
 refine A3 Tryz.func26 X5 rfl fun n H hH => ?_
 repeat' (first | (simp -implicitDefEqProofs [c26, IK, -getElem?_pos, hpl, splice]) | (simp (disch := omega) only [AH]) | ((with_reducible refine Al 22 ?_); (refine' CallP.sf ?_ (hin) ?_); (focus first | (with_reducible exact A0 _) | (simp [AK, AI, A1, A0]; done))) | (with_reducible first | refine A8 ?_ ?_ ?_ | exact AF | assumption | refine A4 ?_ | refine KM.of ?_ | refine AG ?_ | refine A2 ?_ | refine A5 ?_ | intro _g _hg | refine AE ?_ ?_ | intro _hc) | omega)
 rename_i g2 hg2
 generalize hH1 : upd (upd H g2 _) _g _ = H1
 have q2 : H1 g2 = some (XM k o m (N6 v) (.sl 5 (AD p) .ro)) := by rw [← hH1]; simp (disch := omega) only [upd_ne, Ax]
 have q3 : H1 _g = some (XM k o m (N6 v) (.sl 5 (AD p) .ro)) := by rw [← hH1]; simp (disch := omega) only [upd_ne, Ax]
 have hsame : SameB n H H1 := fun g hg => by rw [← hH1]; simp (disch := omega) only [upd_ne]
 refine LoopK.go (fun q st => ∃ j : Nat, j + q = p.length ∧ st = ⟨[(2, .ptr g2 0), (3, .ptr _g 0), (5, aI j)], _g + 1, H1⟩) p.length ⟨0, by omega, rfl⟩ ?_
 rintro q st ⟨j, hj, rfl⟩ J hJ
 by_cases hjp : j < p.length
 ·obtain ⟨s, hs⟩ : ∃ s, p[j]? = some s := ⟨_, List.getElem?_eq_getElem hjp⟩
  have hsm2 := List.mem_of_getElem? hs
  have hst := ih s hsm2 (CT hpp s hsm2)
  have hse := CP hs
  have hjp' : (j : Int) < p.length := by omega
  obtain ⟨k', o', m', v', p'⟩ := s
  rw [A7] at hst hse
  
  repeat' (first | (simp -implicitDefEqProofs [KI, Kq, Kk, Kh, IK, c26, -getElem?_pos, q2, q3, hjp', hpl, hse, splice]) | (simp (disch := omega) only [AH]) | ((with_reducible refine Al 26 ?_); (refine' CallP.sf ?_ (hst) ?_); (focus first | (with_reducible exact A0 _) | (simp [AK, AI, A1, A0]; done))) | (with_reducible first | refine A8 ?_ ?_ ?_ | exact AF | assumption | refine A4 ?_ | refine KM.of ?_ | refine AG ?_ | refine A2 ?_ | refine A5 ?_ | intro _g _hg | refine AE ?_ ?_ | intro _hc) | omega)
  exact hJ (q - 1) _ (by omega) ⟨j + 1, by omega, rfl⟩
 ·have hjp' : ¬ (j : Int) < p.length := by omega
  
  repeat' (first | (simp -implicitDefEqProofs [KI, Kq, Kk, Kh, IK, c26, -getElem?_pos, q2, hjp', hpl, splice]) | (simp (disch := omega) only [AH]) | (with_reducible first | refine A8 ?_ ?_ ?_ | exact AF | assumption | refine A4 ?_ | refine KM.of ?_ | refine AG ?_ | refine A2 ?_ | refine A5 ?_ | intro _g _hg | refine AE ?_ ?_ | intro _hc) | omega)
  all_goals first | exact A1 _ | exact hsame
theorem Vg (s : St) (h : APure Tryz.prog 26 [encS s, encS Ut] (.bool true)) : APure Tryz.prog 26 [encS s, .agg [aI 0, aI 0, aI 0, .sl 0 [] .nil, .sl 0 [] .nil]] (.bool true) := by
 have hI : ∀ i : Int, AI (aI i) (aI i) := fun i => A1 _
 rw [A7] at h
 exact fun n H => ACalls.sim (h n H) (AC (A1 _) (AC (CA (AC (hI _) (AC (hI _) (AC (hI _) (AC CD (AC CD (A0 _))))))) (A0 _)))
theorem T4 (hf : Cg Ut) : APure Tryz.prog 26 [.agg [aI 0, aI 0, aI 0, .sl 1 [] .ro, .sl 5 (AD []) .ro], .agg [aI 0, aI 0, aI 0, .sl 0 [] .nil, .sl 0 [] .nil]] (.bool true) := by
 have h := Vg Ut (TU Ut hf)
 rw [A7] at h
 exact h
end Go.Proofs.YtjdccdelcnmocaaGreatDoor

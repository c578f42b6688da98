/- Streams: the law of bounds; no condition. -/
import Derived.Test.YtjdccdelcnmocaaGreatDoorMgI
import Derived.Test.YtjdccdelcnmocaaGreatDoorMdQ
set_option linter.all false
set_option linter.unusedSimpArgs false
set_option linter.unusedVariables false
set_option maxHeartbeats 2000000
namespace Go.Proofs.YtjdccdelcnmocaaGreatDoor
attribute [local simp] LV Ev Er Mx Lf M4 NG FQ F4 HI H5 Mi Ll Ls Ka MD NM LX N7 NF MF Mq O8 Nk LY T2 pe LP LT KO MB ND MR Nn O7 NU MW Nt OC NV Ee NB Mv Mw M5 Mt N5 Mf LB LZ Me L3 Ln NI MO N2 KP NL Lz OD Ni Lo F3 N3 F5 Mn Li KI Kr NA Ml MP NJ KV KJ Ko Lk Ld NS MY Ky MH Kd L2 KY O9 NY Kk Ki LU F1 KZ Kc MX LW MN NT My KN Kl Mb KT L0 MT Kt MA Md Mz OA KK Kq Kb KU Kn NX Nl Mm O0 Nd NC Mj M0 Np List.mem_cons guardK Di Fr GV HT Lm Eo FI FP Ej F7 FD Eu Eh FA NP Kj Ew LL M3 Nb Kh MU ML FO MI Nj Kg Nw Mk MK HM El FT F6 Ep Mp L6 FG Ke Ex L8 FN Em Nf FR FV Mo Lt Lp LQ MQ LJ Na Nh T0 Ju KB IE JY Jb Js EN Gn Gs OF Gi Gq EW Dk UR K5 Jm Gk Ji K9 ES EY CA Bf Cr DG AL ev get put I3 AR EH Nq Ng Mh Nv KQ LE Fg part Bu IB Nz IA isNil DC DJ Fi Da Db Kv Lq Lr Kz KG Jg OE LC Lx MZ O6 No L7 LN MJ Lj AV.fits AV.cells ones AV.one Fh DB Fd Ec Gu Fp KH Hw HU DA Bt CF FE I4 AO Br Uo HA NZ Mc List.getElem?_cons_zero List.getElem?_cons_succ F9 FC Eg Kw LG Nx IN Lc MC M1 KX L4 M6 Ks L1 Mr LI Kp
theorem Tp (s : St) (hf : BK s) : APure Tryz.prog 3 [encS s] (.bool true) := by
 have hv := FU s hf
 have hb := SG s hf
 have hw := FZ s hf
 have hst := GR
 have hm : (Am s).1 = 0 → APure Tryz.prog 17 [encS s] (aI (AU s : Nat)) := fun h => by
  obtain ⟨_, h1, h2, h3⟩ := Az h
  have h4 := Qg s hf h1 h3
  have e : AU s ≤ 5000 := by obtain ⟨k, o, m, v, p⟩ := s; exact h2.1
  have e2 : min (AU s) 100000 = AU s := by omega
  unfold Ed at h4
  rw [e2] at h4
  exact h4
 unfold Xw at hb
 generalize Am s = f at *
 generalize AU s = b at *
 obtain ⟨k, o, m, v, p⟩ := s
 rw [AN] at *
 by_cases h0 : f.1 = 0
 ·have hm := hm h0
  rw [if_pos h0] at hb
  
  refine AA Tryz.func3 A12 rfl fun n H hH => ?_
  repeat' (first | (simp -implicitDefEqProofs [Rz, Rh, c3, -getElem?_pos, h0, splice]) | (simp (disch := omega) only [AC]) | ((with_reducible refine A9 13 ?_); (refine' CallP.sf ?_ (hb) ?_); (focus first | (with_reducible exact A0 _) | (simp [A5, A4, A1, A0]; done))) | ((with_reducible refine A9 15 ?_); (refine' CallP.sf ?_ (hv) ?_); (focus first | (with_reducible exact A0 _) | (simp [A5, A4, A1, A0]; done))) | ((with_reducible refine A9 14 ?_); (refine' CallP.sf ?_ (hw) ?_); (focus first | (with_reducible exact A0 _) | (simp [A5, A4, A1, A0]; done))) | ((with_reducible refine A9 17 ?_); (refine' CallP.sf ?_ (hm) ?_); (focus first | (with_reducible exact A0 _) | (simp [A5, A4, A1, A0]; done))) | ((with_reducible refine A9 16 ?_); (refine' CallP.sf ?_ (hst) ?_); (focus first | (with_reducible exact A0 _) | (simp [A5, A4, A1, A0]; done))) | (with_reducible first | refine A8 ?_ ?_ ?_ | exact AB | assumption | refine A2 ?_ | refine KM.of ?_ | refine AD ?_ | refine A3 ?_ | refine A6 ?_ | intro _g _hg | refine AE ?_ ?_ | intro _hc) | omega)
  all_goals first | exact A1 _ | (intro g hg; simp (disch := omega) only [upd_ne])
 ·rw [if_neg h0] at hb
  
  refine AA Tryz.func3 A12 rfl fun n H hH => ?_
  repeat' (first | (simp -implicitDefEqProofs [Rz, Rh, c3, -getElem?_pos, h0, splice]) | (simp (disch := omega) only [AC]) | ((with_reducible refine A9 13 ?_); (refine' CallP.sf ?_ (hb) ?_); (focus first | (with_reducible exact A0 _) | (simp [A5, A4, A1, A0]; done))) | ((with_reducible refine A9 15 ?_); (refine' CallP.sf ?_ (hv) ?_); (focus first | (with_reducible exact A0 _) | (simp [A5, A4, A1, A0]; done))) | ((with_reducible refine A9 14 ?_); (refine' CallP.sf ?_ (hw) ?_); (focus first | (with_reducible exact A0 _) | (simp [A5, A4, A1, A0]; done))) | ((with_reducible refine A9 16 ?_); (refine' CallP.sf ?_ (hst) ?_); (focus first | (with_reducible exact A0 _) | (simp [A5, A4, A1, A0]; done))) | (with_reducible first | refine A8 ?_ ?_ ?_ | exact AB | assumption | refine A2 ?_ | refine KM.of ?_ | refine AD ?_ | refine A3 ?_ | refine A6 ?_ | intro _g _hg | refine AE ?_ ?_ | intro _hc) | omega)
  all_goals first | exact A1 _ | (intro g hg; simp (disch := omega) only [upd_ne])
end Go.Proofs.YtjdccdelcnmocaaGreatDoor

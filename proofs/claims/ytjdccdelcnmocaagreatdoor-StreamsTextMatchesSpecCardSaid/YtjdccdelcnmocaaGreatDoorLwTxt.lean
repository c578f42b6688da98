/- Streams: the law of Print; no condition. -/
import Derived.Test.YtjdccdelcnmocaaGreatDoorMgJ
import Derived.Test.YtjdccdelcnmocaaGreatDoorMdV
import Derived.Test.YtjdccdelcnmocaaGreatDoorMdR
set_option linter.all false
set_option linter.unusedSimpArgs false
set_option linter.unusedVariables false
set_option maxHeartbeats 4000000
namespace Go.Proofs.YtjdccdelcnmocaaGreatDoor
attribute [local simp] Nr F6 Ej Lh Ke MA LY F0 Eg HW HP NA KJ Mo MQ Ml MY LL L9 N3 KY MH MN Nf Nu T7 pe Ki LQ Kx Ng Kw LB Lq Nv LZ NX Nn LI LF FP Mq Ku Mb Kp N6 MX KD Mg Mh M7 Kg Kl KZ NM LC Lc K9 LN NY NC N7 FB M6 Ei Lt N5 Nc Mx N9 KQ LJ Nt KX NQ MM NU MS L4 Nq MW Lx LE Md LD Mt L3 Ka NO Kf Eu NG Mr MD Lv LR NS NL Mv KO Kb KA NI Ma KH Lr KF N1 Mw LW NK M1 Mp LH Mj L8 LX MR MG Nh N2 LG NN List.mem_cons guardK Df Fh GG HG LO Ek EW FD FE Ep Eb F1 EY FM Mz Me Ew KT KP Nm Mn NF Kz Em Mf Ni N8 Ns KK Kj H8 Ef F8 Ex Ev M5 LU En Ms FI M3 F2 Ey MU Er FJ NP MP Lw LP L1 LT N0 Lm T8 Ji Jj ID Jk Jo Jd EL Gi Ge Ky Gm Gc EK Dd UH JV Jg GZ K4 K2 EI EJ Bv Bb Ck DF AI ev get put I1 AO Dv Lu Ko Lo MZ Nk KI FU part Bo I4 Lf I7 isNil D9 DC FT DW Cu L0 ME My MJ LV K0 MK Km KG Na KN NV Ld NZ MC K8 AV.fits AV.cells ones AV.one FZ D6 FV EV Gp Ff M4 Hg HJ D8 Bm CA EZ Hz AK Bl Vy HI MO M9 List.getElem?_cons_zero List.getElem?_cons_succ El EX FC Nb Lj Mc IJ L6 LM Kv Lp Mk L5 N4 MV KL Kt M2
theorem VJ (s : St) (hf : Cy s) : APure Tryz.prog 5 [encS s] (.bool true) := by
 have hpr := V6 s hf
 have hw := Pj s hf
 have hst := T9
 have hatt := XW 14 (-1)
 unfold Xs at hpr
 by_cases h0 : (Dj s).1 = 0
 ·obtain ⟨h1, h2, h3, h4⟩ := Ih h0
  have htx := RU s ⟨hf, h2, h3, h4⟩
  rw [if_neg (fun h => h h0)] at hpr
  rw [h1] at hw
  by_cases hl : 4000 < (Ax s).length
  ·rw [if_pos hl] at hpr
   have hl' : (4000 : Int) < (Ax s).length := by omega
   generalize Ax s = tx at *
   obtain ⟨k, o, m', v, p⟩ := s
   rw [AP] at *
   
   refine AD Tryz.func5 A1o rfl fun n H hH => ?_
   repeat' (first | (simp -implicitDefEqProofs [Og, PW, On, P2, OV, c5, -getElem?_pos, splice, hl']) | (simp (disch := omega) only [AB]) | ((with_reducible refine AN 23 ?_); refine' AQ (hpr) ?_) | ((with_reducible refine AN 14 ?_); refine' AQ (hw) ?_) | ((with_reducible refine AN 24 ?_); refine' AQ (htx) ?_) | ((with_reducible refine AN 20 ?_); refine' AQ (hatt) ?_) | ((with_reducible refine AN 16 ?_); refine' AQ (hst) ?_) | (with_reducible first | refine A5 ?_ ?_ ?_ | exact A7 | assumption | refine A0 ?_ | refine KM.of ?_ | refine AA ?_ | refine A1 ?_ | refine A3 ?_ | intro _g _hg | refine A9 ?_ ?_ | intro _hc) | omega)
   all_goals first | exact A6 _ | (intro g hg; simp (disch := omega) only [upd_ne])
  ·rw [if_neg hl] at hpr
   have hl' : ¬ (4000 : Int) < (Ax s).length := by omega
   have hpa := UP (Ax s)
   have hsh := Wz s h2 h3
   have hprs := A0m ((Ax s).length + 1) s [] hsh (by simp)
   rw [List.append_nil] at hprs
   have e : Vp (Ax s) = (s, (0, 0)) := by
    unfold Vp
    rw [if_neg hl, hprs]
    dsimp only
    rw [if_pos rfl, if_neg (fun h => h h0)]
   rw [e] at hpa
   dsimp only at hpa
   have hsa := A3v s hf
   clear e hprs
   generalize Ax s = tx at *
   obtain ⟨k, o, m', v, p⟩ := s
   rw [AP] at *
   
   refine AD Tryz.func5 A1o rfl fun n H hH => ?_
   repeat' (first | (simp -implicitDefEqProofs [Og, PW, On, P2, OV, c5, -getElem?_pos, splice, hl']) | (simp (disch := omega) only [AB]) | ((with_reducible refine AN 23 ?_); refine' AQ (hpr) ?_) | ((with_reducible refine AN 14 ?_); refine' AQ (hw) ?_) | ((with_reducible refine AN 24 ?_); refine' AQ (htx) ?_) | ((with_reducible refine AN 25 ?_); refine' AQ (hpa) ?_) | ((with_reducible refine AN 26 ?_); refine' AQ (hsa) ?_) | ((with_reducible refine AN 16 ?_); refine' AQ (hst) ?_) | (with_reducible first | refine A5 ?_ ?_ ?_ | exact A7 | assumption | refine A0 ?_ | refine KM.of ?_ | refine AA ?_ | refine A1 ?_ | refine A3 ?_ | intro _g _hg | refine A9 ?_ ?_ | intro _hc) | omega)
   all_goals first | exact A6 _ | (intro g hg; simp (disch := omega) only [upd_ne])
 ·rw [if_pos h0] at hpr
  generalize Dj s = f at *
  have hb : (f.1 == 0) = false := by simpa using h0
  obtain ⟨k, o, m', v, p⟩ := s
  rw [AP] at *
  
  refine AD Tryz.func5 A1o rfl fun n H hH => ?_
  repeat' (first | (simp -implicitDefEqProofs [Og, PW, On, P2, OV, c5, -getElem?_pos, splice, h0, hb]) | (simp (disch := omega) only [AB]) | ((with_reducible refine AN 23 ?_); refine' AQ (hpr) ?_) | ((with_reducible refine AN 14 ?_); refine' AQ (hw) ?_) | ((with_reducible refine AN 16 ?_); refine' AQ (hst) ?_) | (with_reducible first | refine A5 ?_ ?_ ?_ | exact A7 | assumption | refine A0 ?_ | refine KM.of ?_ | refine AA ?_ | refine A1 ?_ | refine A3 ?_ | intro _g _hg | refine A9 ?_ ?_ | intro _hc) | omega)
  all_goals first | exact A6 _ | (intro g hg; simp (disch := omega) only [upd_ne])
end Go.Proofs.YtjdccdelcnmocaaGreatDoor

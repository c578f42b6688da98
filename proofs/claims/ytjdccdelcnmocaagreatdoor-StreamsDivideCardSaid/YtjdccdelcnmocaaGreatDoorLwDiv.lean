/- Streams: who asks for less gets less; no condition. -/
import Derived.Test.YtjdccdelcnmocaaGreatDoorMgI
import Derived.Test.YtjdccdelcnmocaaGreatDoorMdQ
set_option linter.all false
set_option linter.unusedSimpArgs false
set_option linter.unusedVariables false
set_option maxHeartbeats 4000000
namespace Go.Proofs.YtjdccdelcnmocaaGreatDoor
theorem leC.nn {a b : Ad} (h : leC a b) (ha : ∀ x ∈ a, 0 ≤ x) : ∀ x ∈ b, 0 ≤ x := fun y hy => by
 obtain ⟨i, hi⟩ := List.mem_iff_getElem?.1 hy
 have hl : i < a.length := by rw [h.1]; exact (List.getElem?_eq_some_iff.1 hi).1
 have h1 := List.getElem?_eq_getElem hl
 have := h.2 i _ _ h1 hi
 have := ha _ (List.mem_of_getElem? h1)
 omega
attribute [local simp] LV Ev Er Mx Lf M4 NG FQ F4 HI H5 Mi Ll Ls Ka MD NM LX N7 NF MF Mq O8 Nk LY T2 pe LP LT KO MB ND MR Nn O7 NU MW Nt OC NV Ee NB Mv Mw M5 Mt N5 Mf LB LZ Me L3 Ln NI MO N2 KP NL Lz OD Ni Lo F3 N3 F5 Mn Li KI Kr NA Ml MP NJ KV KJ Ko Lk Ld NS MY Ky MH Kd L2 KY O9 NY Kk Ki LU F1 KZ Kc MX LW MN NT My KN Kl Mb KT L0 MT Kt MA Md Mz OA KK Kq Kb KU Kn NX Nl Mm O0 Nd NC Mj M0 Np List.mem_cons guardK Di Fr GV HT Lm Eo FI FP Ej F7 FD Eu Eh FA NP Kj Ew LL M3 Nb Kh MU ML FO MI Nj Kg Nw Mk MK HM El FT F6 Ep Mp L6 FG Ke Ex L8 FN Em Nf FR FV Mo Lt Lp LQ MQ LJ Na Nh T0 Ju KB IE JY Jb Js EN Gn Gs OF Gi Gq EW Dk UR K5 Jm Gk Ji K9 ES EY CA Bf Cr DG AL ev get put I3 AR EH Nq Ng Mh Nv KQ LE Fg part Bu IB Nz IA isNil DC DJ Fi Da Db Kv Lq Lr Kz KG Jg OE LC Lx MZ O6 No L7 LN MJ Lj AV.fits AV.cells ones AV.one Fh DB Fd Ec Gu Fp KH Hw HU DA Bt CF FE I4 AO Br Uo HA NZ Mc List.getElem?_cons_zero List.getElem?_cons_succ F9 FC Eg Kw LG Nx IN Lc MC M1 KX L4 M6 Ks L1 Mr LI Kp
theorem Es {s : St} (h : (Am s).1 = 0) : KF s = (GH (AQ s), true) := by rw [KF, if_pos h]
theorem Tb {s : St} (h : (Am s).1 ≠ 0) : KF s = ([], false) := by rw [KF, if_neg h]
theorem IF {s : St} (h : (Am s).1 = 0) : (GH (AQ s)).length ≤ 5000 := by
 obtain ⟨_, h2, h3, _⟩ := Az h
 have := (Gr s h2).1
 obtain ⟨k, o, m, v, p⟩ := s
 have := h3.1
 simp [GH]; omega
theorem CY {k o n : Int} {s : St} (h : BK s) : BK (AX k o n s) := ⟨by simp, by simp, h, trivial⟩
theorem FY {k o : Int} {s t : St} (h : BK s) (h2 : BK t) : BK (Aj k o s t) := ⟨by simp, by simp, h, h2, trivial⟩
theorem Qi {s : St} (hf : BK s) (h : (Am s).1 = 0) : APure Tryz.prog 17 [encS s] (aI (AU s : Nat)) := by
 obtain ⟨_, h1, h2, h3⟩ := Az h
 have h4 := Qg s hf h1 h3
 have e : AU s ≤ 5000 := by obtain ⟨k, o, m, v, p⟩ := s; exact h2.1
 have e2 : min (AU s) 100000 = AU s := by omega
 unfold Ed at h4
 rw [e2] at h4
 exact h4
theorem Rf (s : St) (hf : BK s) (n o m : Int) : APure Tryz.prog 8 [encS s, aI n, aI o, aI m] (.bool true) := by
 have hst := GR
 have he := C9 s hf
 have hn1 := Fo 5 0 n s
 have hn2 := Fo 6 0 n s
 have hn3 := Fo 7 o m s
 have hn4 := Fo 8 o m s
 have hp1 := JC 13 0 (AX 5 0 n s) (AX 6 0 n s)
 have hp2 := JC 13 0 (AX 7 o m s) (AX 8 o m s)
 have he1 := C9 (Aj 13 0 (AX 5 0 n s) (AX 6 0 n s)) (FY (CY hf) (CY hf))
 have he2 := C9 (Aj 13 0 (AX 7 o m s) (AX 8 o m s)) (FY (CY hf) (CY hf))
 have hnd := fun h => K4 s hf (show Ah s ≤ 1000 from h)
 have hms := @Qi s hf
 have hi1 := GO n 0 5000
 have hi2 := GO o 1 3
 have hi3 := GO m 1 9999
 have hd1 := @Xk s n
 have hd2 := @VR s o m
 have hok := @Az s
 have hE := @Es s
 have hE0 := @Tb s
 have hE1 := @Es (Aj 13 0 (AX 5 0 n s) (AX 6 0 n s))
 have hE2 := @Es (Aj 13 0 (AX 7 o m s) (AX 8 o m s))
 have hxl := @IF s
 generalize encS (Aj 13 0 (AX 5 0 n s) (AX 6 0 n s)) = a1 at *
 generalize encS (Aj 13 0 (AX 7 o m s) (AX 8 o m s)) = a2 at *
 generalize encS (AX 5 0 n s) = b1 at *
 generalize encS (AX 6 0 n s) = b2 at *
 generalize encS (AX 7 o m s) = b3 at *
 generalize encS (AX 8 o m s) = b4 at *
 generalize KF (Aj 13 0 (AX 5 0 n s) (AX 6 0 n s)) = E1 at *
 generalize KF (Aj 13 0 (AX 7 o m s) (AX 8 o m s)) = E2 at *
 generalize Am (Aj 13 0 (AX 5 0 n s) (AX 6 0 n s)) = f1 at *
 generalize Am (Aj 13 0 (AX 7 o m s) (AX 8 o m s)) = f2 at *
 generalize GH (AQ (Aj 13 0 (AX 5 0 n s) (AX 6 0 n s))) = x1 at *
 generalize GH (AQ (Aj 13 0 (AX 7 o m s) (AX 8 o m s))) = x2 at *
 generalize GH (AQ s) = xs at *
 generalize KF s = E at *
 generalize Am s = f at *
 generalize AU s = b at *
 by_cases h0 : f.1 = 0
 ·obtain ⟨h00, _, _, hz⟩ := hok h0
  have hnd := hnd (by omega)
  have hms := hms h0
  generalize Ah s = z at *
  obtain ⟨k, o', m', v, p⟩ := s
  rw [AN] at *
  rw [hE h0] at he
  dsimp only at he
  by_cases c2 : z ≤ 28
  ·have c2' : ¬ (28 : Int) < z := by omega
   by_cases c3 : b ≤ 2500
   ·have c3' : ¬ (2500 : Int) < b := by omega
    by_cases c4 : 0 ≤ n ∧ n ≤ 5000
    ·rw [decide_eq_true c4.1, decide_eq_true c4.2] at hi1
     by_cases c5 : 1 ≤ o ∧ o ≤ 3
     ·rw [decide_eq_true c5.1, decide_eq_true c5.2] at hi2
      by_cases c6 : 1 ≤ m ∧ m ≤ 9999
      ·rw [decide_eq_true c6.1, decide_eq_true c6.2] at hi3
       obtain ⟨g1, g2⟩ := hd1 h00 c2 c3 c4
       obtain ⟨g3, g4⟩ := hd2 h00 c2 c3 c5 c6
       rw [hE1 (by rw [g1]), g2] at he1
       rw [hE2 (by rw [g3]), g4] at he2
       have hin := MS xs xs (by have := hxl h0; omega)
       rw [decide_eq_true rfl] at hin
       dsimp only at he1 he2
       
       refine AA Tryz.func8 TJ rfl fun n H hH => ?_
       repeat' (first | (simp -implicitDefEqProofs [GX, c8, -getElem?_pos, c2', c3', splice]) | (simp (disch := omega) only [AC]) | ((with_reducible refine A9 28 ?_); (refine' CallP.sf ?_ (he) ?_); (focus first | (with_reducible exact A0 _) | (simp [A5, A4, A1, A0]; done))) | ((with_reducible refine A9 30 ?_); (refine' CallP.sf ?_ (hn1) ?_); (focus first | (with_reducible exact A0 _) | (simp [A5, A4, A1, A0]; done))) | ((with_reducible refine A9 30 ?_); (refine' CallP.sf ?_ (hn2) ?_); (focus first | (with_reducible exact A0 _) | (simp [A5, A4, A1, A0]; done))) | ((with_reducible refine A9 30 ?_); (refine' CallP.sf ?_ (hn3) ?_); (focus first | (with_reducible exact A0 _) | (simp [A5, A4, A1, A0]; done))) | ((with_reducible refine A9 30 ?_); (refine' CallP.sf ?_ (hn4) ?_); (focus first | (with_reducible exact A0 _) | (simp [A5, A4, A1, A0]; done))) | ((with_reducible refine A9 29 ?_); (refine' CallP.sf ?_ (hp1) ?_); (focus first | (with_reducible exact A0 _) | (simp [A5, A4, A1, A0]; done))) | ((with_reducible refine A9 29 ?_); (refine' CallP.sf ?_ (hp2) ?_); (focus first | (with_reducible exact A0 _) | (simp [A5, A4, A1, A0]; done))) | ((with_reducible refine A9 28 ?_); (refine' CallP.sf ?_ (he1) ?_); (focus first | (with_reducible exact A0 _) | (simp [A5, A4, A1, A0]; done))) | ((with_reducible refine A9 28 ?_); (refine' CallP.sf ?_ (he2) ?_); (focus first | (with_reducible exact A0 _) | (simp [A5, A4, A1, A0]; done))) | ((with_reducible refine A9 31 ?_); (refine' CallP.sf ?_ (hnd) ?_); (focus first | (with_reducible exact A0 _) | (simp [A5, A4, A1, A0]; done))) | ((with_reducible refine A9 17 ?_); (refine' CallP.sf ?_ (hms) ?_); (focus first | (with_reducible exact A0 _) | (simp [A5, A4, A1, A0]; done))) | ((with_reducible refine A9 19 ?_); (refine' CallP.sf ?_ (hi1) ?_); (focus first | (with_reducible exact A0 _) | (simp [A5, A4, A1, A0]; done))) | ((with_reducible refine A9 19 ?_); (refine' CallP.sf ?_ (hi2) ?_); (focus first | (with_reducible exact A0 _) | (simp [A5, A4, A1, A0]; done))) | ((with_reducible refine A9 19 ?_); (refine' CallP.sf ?_ (hi3) ?_); (focus first | (with_reducible exact A0 _) | (simp [A5, A4, A1, A0]; done))) | ((with_reducible refine A9 22 ?_); (refine' CallP.sf ?_ (hin) ?_); (focus first | (with_reducible exact A0 _) | (simp [A5, A4, A1, A0]; done))) | ((with_reducible refine A9 16 ?_); (refine' CallP.sf ?_ (hst) ?_); (focus first | (with_reducible exact A0 _) | (simp [A5, A4, A1, A0]; done))) | (with_reducible first | refine A8 ?_ ?_ ?_ | exact AB | assumption | refine A2 ?_ | refine KM.of ?_ | refine AD ?_ | refine A3 ?_ | refine A6 ?_ | intro _g _hg | refine AE ?_ ?_ | intro _hc) | omega)
       all_goals first | exact A1 _ | (intro g hg; simp (disch := omega) only [upd_ne])
      ·have e3 : (decide (1 ≤ m) && decide (m ≤ 9999)) = false := by simpa using c6
       rw [e3] at hi3
       
       refine AA Tryz.func8 TJ rfl fun n H hH => ?_
       repeat' (first | (simp -implicitDefEqProofs [GX, c8, -getElem?_pos, c2', c3', splice]) | (simp (disch := omega) only [AC]) | ((with_reducible refine A9 28 ?_); (refine' CallP.sf ?_ (he) ?_); (focus first | (with_reducible exact A0 _) | (simp [A5, A4, A1, A0]; done))) | ((with_reducible refine A9 30 ?_); (refine' CallP.sf ?_ (hn1) ?_); (focus first | (with_reducible exact A0 _) | (simp [A5, A4, A1, A0]; done))) | ((with_reducible refine A9 30 ?_); (refine' CallP.sf ?_ (hn2) ?_); (focus first | (with_reducible exact A0 _) | (simp [A5, A4, A1, A0]; done))) | ((with_reducible refine A9 30 ?_); (refine' CallP.sf ?_ (hn3) ?_); (focus first | (with_reducible exact A0 _) | (simp [A5, A4, A1, A0]; done))) | ((with_reducible refine A9 30 ?_); (refine' CallP.sf ?_ (hn4) ?_); (focus first | (with_reducible exact A0 _) | (simp [A5, A4, A1, A0]; done))) | ((with_reducible refine A9 29 ?_); (refine' CallP.sf ?_ (hp1) ?_); (focus first | (with_reducible exact A0 _) | (simp [A5, A4, A1, A0]; done))) | ((with_reducible refine A9 29 ?_); (refine' CallP.sf ?_ (hp2) ?_); (focus first | (with_reducible exact A0 _) | (simp [A5, A4, A1, A0]; done))) | ((with_reducible refine A9 28 ?_); (refine' CallP.sf ?_ (he1) ?_); (focus first | (with_reducible exact A0 _) | (simp [A5, A4, A1, A0]; done))) | ((with_reducible refine A9 28 ?_); (refine' CallP.sf ?_ (he2) ?_); (focus first | (with_reducible exact A0 _) | (simp [A5, A4, A1, A0]; done))) | ((with_reducible refine A9 31 ?_); (refine' CallP.sf ?_ (hnd) ?_); (focus first | (with_reducible exact A0 _) | (simp [A5, A4, A1, A0]; done))) | ((with_reducible refine A9 17 ?_); (refine' CallP.sf ?_ (hms) ?_); (focus first | (with_reducible exact A0 _) | (simp [A5, A4, A1, A0]; done))) | ((with_reducible refine A9 19 ?_); (refine' CallP.sf ?_ (hi1) ?_); (focus first | (with_reducible exact A0 _) | (simp [A5, A4, A1, A0]; done))) | ((with_reducible refine A9 19 ?_); (refine' CallP.sf ?_ (hi2) ?_); (focus first | (with_reducible exact A0 _) | (simp [A5, A4, A1, A0]; done))) | ((with_reducible refine A9 19 ?_); (refine' CallP.sf ?_ (hi3) ?_); (focus first | (with_reducible exact A0 _) | (simp [A5, A4, A1, A0]; done))) | ((with_reducible refine A9 16 ?_); (refine' CallP.sf ?_ (hst) ?_); (focus first | (with_reducible exact A0 _) | (simp [A5, A4, A1, A0]; done))) | (with_reducible first | refine A8 ?_ ?_ ?_ | exact AB | assumption | refine A2 ?_ | refine KM.of ?_ | refine AD ?_ | refine A3 ?_ | refine A6 ?_ | intro _g _hg | refine AE ?_ ?_ | intro _hc) | omega)
       all_goals first | exact A1 _ | (intro g hg; simp (disch := omega) only [upd_ne])
     ·have e2 : (decide (1 ≤ o) && decide (o ≤ 3)) = false := by simpa using c5
      rw [e2] at hi2
      
      refine AA Tryz.func8 TJ rfl fun n H hH => ?_
      repeat' (first | (simp -implicitDefEqProofs [GX, c8, -getElem?_pos, c2', c3', splice]) | (simp (disch := omega) only [AC]) | ((with_reducible refine A9 28 ?_); (refine' CallP.sf ?_ (he) ?_); (focus first | (with_reducible exact A0 _) | (simp [A5, A4, A1, A0]; done))) | ((with_reducible refine A9 30 ?_); (refine' CallP.sf ?_ (hn1) ?_); (focus first | (with_reducible exact A0 _) | (simp [A5, A4, A1, A0]; done))) | ((with_reducible refine A9 30 ?_); (refine' CallP.sf ?_ (hn2) ?_); (focus first | (with_reducible exact A0 _) | (simp [A5, A4, A1, A0]; done))) | ((with_reducible refine A9 30 ?_); (refine' CallP.sf ?_ (hn3) ?_); (focus first | (with_reducible exact A0 _) | (simp [A5, A4, A1, A0]; done))) | ((with_reducible refine A9 30 ?_); (refine' CallP.sf ?_ (hn4) ?_); (focus first | (with_reducible exact A0 _) | (simp [A5, A4, A1, A0]; done))) | ((with_reducible refine A9 29 ?_); (refine' CallP.sf ?_ (hp1) ?_); (focus first | (with_reducible exact A0 _) | (simp [A5, A4, A1, A0]; done))) | ((with_reducible refine A9 29 ?_); (refine' CallP.sf ?_ (hp2) ?_); (focus first | (with_reducible exact A0 _) | (simp [A5, A4, A1, A0]; done))) | ((with_reducible refine A9 28 ?_); (refine' CallP.sf ?_ (he1) ?_); (focus first | (with_reducible exact A0 _) | (simp [A5, A4, A1, A0]; done))) | ((with_reducible refine A9 28 ?_); (refine' CallP.sf ?_ (he2) ?_); (focus first | (with_reducible exact A0 _) | (simp [A5, A4, A1, A0]; done))) | ((with_reducible refine A9 31 ?_); (refine' CallP.sf ?_ (hnd) ?_); (focus first | (with_reducible exact A0 _) | (simp [A5, A4, A1, A0]; done))) | ((with_reducible refine A9 17 ?_); (refine' CallP.sf ?_ (hms) ?_); (focus first | (with_reducible exact A0 _) | (simp [A5, A4, A1, A0]; done))) | ((with_reducible refine A9 19 ?_); (refine' CallP.sf ?_ (hi1) ?_); (focus first | (with_reducible exact A0 _) | (simp [A5, A4, A1, A0]; done))) | ((with_reducible refine A9 19 ?_); (refine' CallP.sf ?_ (hi2) ?_); (focus first | (with_reducible exact A0 _) | (simp [A5, A4, A1, A0]; done))) | ((with_reducible refine A9 19 ?_); (refine' CallP.sf ?_ (hi3) ?_); (focus first | (with_reducible exact A0 _) | (simp [A5, A4, A1, A0]; done))) | ((with_reducible refine A9 16 ?_); (refine' CallP.sf ?_ (hst) ?_); (focus first | (with_reducible exact A0 _) | (simp [A5, A4, A1, A0]; done))) | (with_reducible first | refine A8 ?_ ?_ ?_ | exact AB | assumption | refine A2 ?_ | refine KM.of ?_ | refine AD ?_ | refine A3 ?_ | refine A6 ?_ | intro _g _hg | refine AE ?_ ?_ | intro _hc) | omega)
      all_goals first | exact A1 _ | (intro g hg; simp (disch := omega) only [upd_ne])
    ·have e1 : (decide (0 ≤ n) && decide (n ≤ 5000)) = false := by simpa using c4
     rw [e1] at hi1
     
     refine AA Tryz.func8 TJ rfl fun n H hH => ?_
     repeat' (first | (simp -implicitDefEqProofs [GX, c8, -getElem?_pos, c2', c3', splice]) | (simp (disch := omega) only [AC]) | ((with_reducible refine A9 28 ?_); (refine' CallP.sf ?_ (he) ?_); (focus first | (with_reducible exact A0 _) | (simp [A5, A4, A1, A0]; done))) | ((with_reducible refine A9 30 ?_); (refine' CallP.sf ?_ (hn1) ?_); (focus first | (with_reducible exact A0 _) | (simp [A5, A4, A1, A0]; done))) | ((with_reducible refine A9 30 ?_); (refine' CallP.sf ?_ (hn2) ?_); (focus first | (with_reducible exact A0 _) | (simp [A5, A4, A1, A0]; done))) | ((with_reducible refine A9 30 ?_); (refine' CallP.sf ?_ (hn3) ?_); (focus first | (with_reducible exact A0 _) | (simp [A5, A4, A1, A0]; done))) | ((with_reducible refine A9 30 ?_); (refine' CallP.sf ?_ (hn4) ?_); (focus first | (with_reducible exact A0 _) | (simp [A5, A4, A1, A0]; done))) | ((with_reducible refine A9 29 ?_); (refine' CallP.sf ?_ (hp1) ?_); (focus first | (with_reducible exact A0 _) | (simp [A5, A4, A1, A0]; done))) | ((with_reducible refine A9 29 ?_); (refine' CallP.sf ?_ (hp2) ?_); (focus first | (with_reducible exact A0 _) | (simp [A5, A4, A1, A0]; done))) | ((with_reducible refine A9 28 ?_); (refine' CallP.sf ?_ (he1) ?_); (focus first | (with_reducible exact A0 _) | (simp [A5, A4, A1, A0]; done))) | ((with_reducible refine A9 28 ?_); (refine' CallP.sf ?_ (he2) ?_); (focus first | (with_reducible exact A0 _) | (simp [A5, A4, A1, A0]; done))) | ((with_reducible refine A9 31 ?_); (refine' CallP.sf ?_ (hnd) ?_); (focus first | (with_reducible exact A0 _) | (simp [A5, A4, A1, A0]; done))) | ((with_reducible refine A9 17 ?_); (refine' CallP.sf ?_ (hms) ?_); (focus first | (with_reducible exact A0 _) | (simp [A5, A4, A1, A0]; done))) | ((with_reducible refine A9 19 ?_); (refine' CallP.sf ?_ (hi1) ?_); (focus first | (with_reducible exact A0 _) | (simp [A5, A4, A1, A0]; done))) | ((with_reducible refine A9 19 ?_); (refine' CallP.sf ?_ (hi2) ?_); (focus first | (with_reducible exact A0 _) | (simp [A5, A4, A1, A0]; done))) | ((with_reducible refine A9 19 ?_); (refine' CallP.sf ?_ (hi3) ?_); (focus first | (with_reducible exact A0 _) | (simp [A5, A4, A1, A0]; done))) | ((with_reducible refine A9 16 ?_); (refine' CallP.sf ?_ (hst) ?_); (focus first | (with_reducible exact A0 _) | (simp [A5, A4, A1, A0]; done))) | (with_reducible first | refine A8 ?_ ?_ ?_ | exact AB | assumption | refine A2 ?_ | refine KM.of ?_ | refine AD ?_ | refine A3 ?_ | refine A6 ?_ | intro _g _hg | refine AE ?_ ?_ | intro _hc) | omega)
     all_goals first | exact A1 _ | (intro g hg; simp (disch := omega) only [upd_ne])
   ·have c3' : (2500 : Int) < b := by omega
    
    refine AA Tryz.func8 TJ rfl fun n H hH => ?_
    repeat' (first | (simp -implicitDefEqProofs [GX, c8, -getElem?_pos, c2', c3', splice]) | (simp (disch := omega) only [AC]) | ((with_reducible refine A9 28 ?_); (refine' CallP.sf ?_ (he) ?_); (focus first | (with_reducible exact A0 _) | (simp [A5, A4, A1, A0]; done))) | ((with_reducible refine A9 30 ?_); (refine' CallP.sf ?_ (hn1) ?_); (focus first | (with_reducible exact A0 _) | (simp [A5, A4, A1, A0]; done))) | ((with_reducible refine A9 30 ?_); (refine' CallP.sf ?_ (hn2) ?_); (focus first | (with_reducible exact A0 _) | (simp [A5, A4, A1, A0]; done))) | ((with_reducible refine A9 30 ?_); (refine' CallP.sf ?_ (hn3) ?_); (focus first | (with_reducible exact A0 _) | (simp [A5, A4, A1, A0]; done))) | ((with_reducible refine A9 30 ?_); (refine' CallP.sf ?_ (hn4) ?_); (focus first | (with_reducible exact A0 _) | (simp [A5, A4, A1, A0]; done))) | ((with_reducible refine A9 29 ?_); (refine' CallP.sf ?_ (hp1) ?_); (focus first | (with_reducible exact A0 _) | (simp [A5, A4, A1, A0]; done))) | ((with_reducible refine A9 29 ?_); (refine' CallP.sf ?_ (hp2) ?_); (focus first | (with_reducible exact A0 _) | (simp [A5, A4, A1, A0]; done))) | ((with_reducible refine A9 28 ?_); (refine' CallP.sf ?_ (he1) ?_); (focus first | (with_reducible exact A0 _) | (simp [A5, A4, A1, A0]; done))) | ((with_reducible refine A9 28 ?_); (refine' CallP.sf ?_ (he2) ?_); (focus first | (with_reducible exact A0 _) | (simp [A5, A4, A1, A0]; done))) | ((with_reducible refine A9 31 ?_); (refine' CallP.sf ?_ (hnd) ?_); (focus first | (with_reducible exact A0 _) | (simp [A5, A4, A1, A0]; done))) | ((with_reducible refine A9 17 ?_); (refine' CallP.sf ?_ (hms) ?_); (focus first | (with_reducible exact A0 _) | (simp [A5, A4, A1, A0]; done))) | ((with_reducible refine A9 19 ?_); (refine' CallP.sf ?_ (hi1) ?_); (focus first | (with_reducible exact A0 _) | (simp [A5, A4, A1, A0]; done))) | ((with_reducible refine A9 19 ?_); (refine' CallP.sf ?_ (hi2) ?_); (focus first | (with_reducible exact A0 _) | (simp [A5, A4, A1, A0]; done))) | ((with_reducible refine A9 19 ?_); (refine' CallP.sf ?_ (hi3) ?_); (focus first | (with_reducible exact A0 _) | (simp [A5, A4, A1, A0]; done))) | ((with_reducible refine A9 16 ?_); (refine' CallP.sf ?_ (hst) ?_); (focus first | (with_reducible exact A0 _) | (simp [A5, A4, A1, A0]; done))) | (with_reducible first | refine A8 ?_ ?_ ?_ | exact AB | assumption | refine A2 ?_ | refine KM.of ?_ | refine AD ?_ | refine A3 ?_ | refine A6 ?_ | intro _g _hg | refine AE ?_ ?_ | intro _hc) | omega)
    all_goals first | exact A1 _ | (intro g hg; simp (disch := omega) only [upd_ne])
  ·have c2' : (28 : Int) < z := by omega
   
   refine AA Tryz.func8 TJ rfl fun n H hH => ?_
   repeat' (first | (simp -implicitDefEqProofs [GX, c8, -getElem?_pos, c2', splice]) | (simp (disch := omega) only [AC]) | ((with_reducible refine A9 28 ?_); (refine' CallP.sf ?_ (he) ?_); (focus first | (with_reducible exact A0 _) | (simp [A5, A4, A1, A0]; done))) | ((with_reducible refine A9 30 ?_); (refine' CallP.sf ?_ (hn1) ?_); (focus first | (with_reducible exact A0 _) | (simp [A5, A4, A1, A0]; done))) | ((with_reducible refine A9 30 ?_); (refine' CallP.sf ?_ (hn2) ?_); (focus first | (with_reducible exact A0 _) | (simp [A5, A4, A1, A0]; done))) | ((with_reducible refine A9 30 ?_); (refine' CallP.sf ?_ (hn3) ?_); (focus first | (with_reducible exact A0 _) | (simp [A5, A4, A1, A0]; done))) | ((with_reducible refine A9 30 ?_); (refine' CallP.sf ?_ (hn4) ?_); (focus first | (with_reducible exact A0 _) | (simp [A5, A4, A1, A0]; done))) | ((with_reducible refine A9 29 ?_); (refine' CallP.sf ?_ (hp1) ?_); (focus first | (with_reducible exact A0 _) | (simp [A5, A4, A1, A0]; done))) | ((with_reducible refine A9 29 ?_); (refine' CallP.sf ?_ (hp2) ?_); (focus first | (with_reducible exact A0 _) | (simp [A5, A4, A1, A0]; done))) | ((with_reducible refine A9 28 ?_); (refine' CallP.sf ?_ (he1) ?_); (focus first | (with_reducible exact A0 _) | (simp [A5, A4, A1, A0]; done))) | ((with_reducible refine A9 28 ?_); (refine' CallP.sf ?_ (he2) ?_); (focus first | (with_reducible exact A0 _) | (simp [A5, A4, A1, A0]; done))) | ((with_reducible refine A9 31 ?_); (refine' CallP.sf ?_ (hnd) ?_); (focus first | (with_reducible exact A0 _) | (simp [A5, A4, A1, A0]; done))) | ((with_reducible refine A9 17 ?_); (refine' CallP.sf ?_ (hms) ?_); (focus first | (with_reducible exact A0 _) | (simp [A5, A4, A1, A0]; done))) | ((with_reducible refine A9 19 ?_); (refine' CallP.sf ?_ (hi1) ?_); (focus first | (with_reducible exact A0 _) | (simp [A5, A4, A1, A0]; done))) | ((with_reducible refine A9 19 ?_); (refine' CallP.sf ?_ (hi2) ?_); (focus first | (with_reducible exact A0 _) | (simp [A5, A4, A1, A0]; done))) | ((with_reducible refine A9 19 ?_); (refine' CallP.sf ?_ (hi3) ?_); (focus first | (with_reducible exact A0 _) | (simp [A5, A4, A1, A0]; done))) | ((with_reducible refine A9 16 ?_); (refine' CallP.sf ?_ (hst) ?_); (focus first | (with_reducible exact A0 _) | (simp [A5, A4, A1, A0]; done))) | (with_reducible first | refine A8 ?_ ?_ ?_ | exact AB | assumption | refine A2 ?_ | refine KM.of ?_ | refine AD ?_ | refine A3 ?_ | refine A6 ?_ | intro _g _hg | refine AE ?_ ?_ | intro _hc) | omega)
   all_goals first | exact A1 _ | (intro g hg; simp (disch := omega) only [upd_ne])
 ·obtain ⟨k, o', m', v, p⟩ := s
  rw [AN] at *
  rw [hE0 h0] at he
  
  refine AA Tryz.func8 TJ rfl fun n H hH => ?_
  repeat' (first | (simp -implicitDefEqProofs [GX, c8, -getElem?_pos, splice]) | (simp (disch := omega) only [AC]) | ((with_reducible refine A9 28 ?_); (refine' CallP.sf ?_ (he) ?_); (focus first | (with_reducible exact A0 _) | (simp [A5, A4, A1, A0]; done))) | ((with_reducible refine A9 30 ?_); (refine' CallP.sf ?_ (hn1) ?_); (focus first | (with_reducible exact A0 _) | (simp [A5, A4, A1, A0]; done))) | ((with_reducible refine A9 30 ?_); (refine' CallP.sf ?_ (hn2) ?_); (focus first | (with_reducible exact A0 _) | (simp [A5, A4, A1, A0]; done))) | ((with_reducible refine A9 30 ?_); (refine' CallP.sf ?_ (hn3) ?_); (focus first | (with_reducible exact A0 _) | (simp [A5, A4, A1, A0]; done))) | ((with_reducible refine A9 30 ?_); (refine' CallP.sf ?_ (hn4) ?_); (focus first | (with_reducible exact A0 _) | (simp [A5, A4, A1, A0]; done))) | ((with_reducible refine A9 29 ?_); (refine' CallP.sf ?_ (hp1) ?_); (focus first | (with_reducible exact A0 _) | (simp [A5, A4, A1, A0]; done))) | ((with_reducible refine A9 29 ?_); (refine' CallP.sf ?_ (hp2) ?_); (focus first | (with_reducible exact A0 _) | (simp [A5, A4, A1, A0]; done))) | ((with_reducible refine A9 28 ?_); (refine' CallP.sf ?_ (he1) ?_); (focus first | (with_reducible exact A0 _) | (simp [A5, A4, A1, A0]; done))) | ((with_reducible refine A9 28 ?_); (refine' CallP.sf ?_ (he2) ?_); (focus first | (with_reducible exact A0 _) | (simp [A5, A4, A1, A0]; done))) | ((with_reducible refine A9 16 ?_); (refine' CallP.sf ?_ (hst) ?_); (focus first | (with_reducible exact A0 _) | (simp [A5, A4, A1, A0]; done))) | (with_reducible first | refine A8 ?_ ?_ ?_ | exact AB | assumption | refine A2 ?_ | refine KM.of ?_ | refine AD ?_ | refine A3 ?_ | refine A6 ?_ | intro _g _hg | refine AE ?_ ?_ | intro _hc) | omega)
  all_goals first | exact A1 _ | (intro g hg; simp (disch := omega) only [upd_ne])
end Go.Proofs.YtjdccdelcnmocaaGreatDoor

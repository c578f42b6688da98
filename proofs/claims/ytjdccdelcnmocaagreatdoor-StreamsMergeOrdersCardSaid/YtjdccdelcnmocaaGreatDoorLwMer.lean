/- Streams: who asks for less gets less; no condition. -/
import Derived.Test.YtjdccdelcnmocaaGreatDoorMgI
import Derived.Test.YtjdccdelcnmocaaGreatDoorMdQ
set_option linter.all false
set_option linter.unusedSimpArgs false
set_option linter.unusedVariables false
set_option maxHeartbeats 8000000
namespace Go.Proofs.YtjdccdelcnmocaaGreatDoor
theorem leC.nn {a b : Ad} (h : leC a b) (ha : ∀ x ∈ a, 0 ≤ x) : ∀ x ∈ b, 0 ≤ x := fun y hy => by
 obtain ⟨i, hi⟩ := List.mem_iff_getElem?.1 hy
 have hl : i < a.length := by rw [h.1]; exact (List.getElem?_eq_some_iff.1 hi).1
 have h1 := List.getElem?_eq_getElem hl
 have := h.2 i _ _ h1 hi
 have := ha _ (List.mem_of_getElem? h1)
 omega
attribute [local simp] LV Ev Er Mx Lf M4 NG FQ F4 HI H5 Mi Ll Ls Ka MD NM LX N7 NF MF Mq O8 Nk LY T2 pe LP LT KO MB ND MR Nn O7 NU MW Nt OC NV Ee NB Mv Mw M5 Mt N5 Mf LB LZ Me L3 Ln NI MO N2 KP NL Lz OD Ni Lo F3 N3 F5 Mn Li KI Kr NA Ml MP NJ KV KJ Ko Lk Ld NS MY Ky MH Kd L2 KY O9 NY Kk Ki LU F1 KZ Kc MX LW MN NT My KN Kl Mb KT L0 MT Kt MA Md Mz OA KK Kq Kb KU Kn NX Nl Mm O0 Nd NC Mj M0 Np List.mem_cons guardK Di Fr GV HT Lm Eo FI FP Ej F7 FD Eu Eh FA NP Kj Ew LL M3 Nb Kh MU ML FO MI Nj Kg Nw Mk MK HM El FT F6 Ep Mp L6 FG Ke Ex L8 FN Em Nf FR FV Mo Lt Lp LQ MQ LJ Na Nh T0 Ju KB IE JY Jb Js EN Gn Gs OF Gi Gq EW Dk UR K5 Jm Gk Ji K9 ES EY CA Bf Cr DG AL ev get put I3 AR EH Nq Ng Mh Nv KQ LE Fg part Bu IB Nz IA isNil DC DJ Fi Da Db Kv Lq Lr Kz KG Jg OE LC Lx MZ O6 No L7 LN MJ Lj AV.fits AV.cells ones AV.one Fh DB Fd Ec Gu Fp KH Hw HU DA Bt CF FE I4 AO Br Uo HA NZ Mc List.getElem?_cons_zero List.getElem?_cons_succ F9 FC Eg Kw LG Nx IN Lc MC M1 KX L4 M6 Ks L1 Mr LI Kp
theorem Es {s : St} (h : (Am s).1 = 0) : KF s = (GH (AQ s), true) := by rw [KF, if_pos h]
theorem IF {s : St} (h : (Am s).1 = 0) : (GH (AQ s)).length ≤ 5000 := by
 obtain ⟨_, h2, h3, _⟩ := Az h
 have := (Gr s h2).1
 obtain ⟨k, o, m, v, p⟩ := s
 have := h3.1
 simp [GH]; omega
theorem CY {k o n : Int} {s : St} (h : BK s) : BK (AX k o n s) := ⟨by simp, by simp, h, trivial⟩
theorem FY {k o : Int} {s t : St} (h : BK s) (h2 : BK t) : BK (Aj k o s t) := ⟨by simp, by simp, h, h2, trivial⟩
theorem Qi {s : St} (hf : BK s) (h : (Am s).1 = 0) : APure Tryz.prog 17 [encS s] (aI (AU s : Nat)) := by
 obtain ⟨_, h1, h2, h3⟩ := Az h
 have h4 := Qg s hf h1 h3
 have e : AU s ≤ 5000 := by obtain ⟨k, o, m, v, p⟩ := s; exact h2.1
 have e2 : min (AU s) 100000 = AU s := by omega
 unfold Ed at h4
 rw [e2] at h4
 exact h4
theorem Wx {s : St} (h : (Am s).1 = 0) : AU s ≤ 5000 := by
 obtain ⟨_, h1, h2, h3⟩ := Az h
 obtain ⟨k, o, m, v, p⟩ := s; exact h2.1
theorem Tk (s t : St) (hf : BK s) (hg : BK t) (x : Int) : APure Tryz.prog 10 [encS s, encS t, aI x] (.bool true) := by
 have hst := GR
 have hws := FZ s hf
 have hwt := FZ t hg
 have hq1 := Fo 9 4 0 s
 have hq2 := Fo 9 4 0 t
 have hp1 := JC 16 0 (AX 9 4 0 s) (AX 9 4 0 t)
 have he1 := C9 (AX 9 4 0 s) (CY hf)
 have he2 := C9 (AX 9 4 0 t) (CY hg)
 have he3 := C9 (Aj 16 0 (AX 9 4 0 s) (AX 9 4 0 t)) (FY (CY hf) (CY hg))
 have hns := fun h => K4 s hf (show Ah s ≤ 1000 from h)
 have hnt := fun h => K4 t hg (show Ah t ≤ 1000 from h)
 have hms := @Qi s hf
 have hmt := @Qi t hg
 have hm := @VL s t
 have hoks := @Az s
 have hokt := @Az t
 have hE1 := @Es (AX 9 4 0 s)
 have hE2 := @Es (AX 9 4 0 t)
 have hE3 := @Es (Aj 16 0 (AX 9 4 0 s) (AX 9 4 0 t))
 have hx1 := @IF (AX 9 4 0 s)
 have hx2 := @IF (AX 9 4 0 t)
 have hx3 := @IF (Aj 16 0 (AX 9 4 0 s) (AX 9 4 0 t))
 generalize GH (AQ (Aj 16 0 (AX 9 4 0 s) (AX 9 4 0 t))) = x0 at *
 generalize KF (Aj 16 0 (AX 9 4 0 s) (AX 9 4 0 t)) = E0 at *
 generalize Am (Aj 16 0 (AX 9 4 0 s) (AX 9 4 0 t)) = f0 at *
 generalize encS (Aj 16 0 (AX 9 4 0 s) (AX 9 4 0 t)) = a0 at *
 generalize GH (AQ (AX 9 4 0 s)) = x1 at *
 generalize KF (AX 9 4 0 s) = E1 at *
 generalize Am (AX 9 4 0 s) = f1 at *
 generalize encS (AX 9 4 0 s) = a1 at *
 generalize GH (AQ (AX 9 4 0 t)) = x2 at *
 generalize KF (AX 9 4 0 t) = E2 at *
 generalize Am (AX 9 4 0 t) = f2 at *
 generalize encS (AX 9 4 0 t) = a2 at *
 by_cases h0 : (Am s).1 = 0
 ·obtain ⟨h00, _, _, hzs⟩ := hoks h0
  have hns := hns (by omega)
  have hms := hms h0
  by_cases k0 : (Am t).1 = 0
  ·obtain ⟨k00, _, _, hzt⟩ := hokt k0
   have hnt := hnt (by omega)
   have hmt := hmt k0
   have hb5 := Wx h0
   have hb6 := Wx k0
   generalize Ah s = z1 at *
   generalize Ah t = z2 at *
   generalize AU s = b1 at *
   generalize AU t = b2 at *
   by_cases c2 : z1 + z2 ≤ 55
   ·have c2' : ¬ (55 : Int) < (z1 : Int) + z2 := by omega
    by_cases c3 : b1 + b2 ≤ 5000
    ·have c3' : ¬ (5000 : Int) < (b1 : Int) + b2 := by omega
     obtain ⟨g1, g2, g3, g4, g5, g6, g7⟩ := hm h00 k00 c2 c3
     rw [hE1 (by rw [g1])] at he1
     rw [hE2 (by rw [g2])] at he2
     rw [hE3 (by rw [g3])] at he3
     have l1 := hx1 (by rw [g1])
     have l2 := hx2 (by rw [g2])
     have l3 := hx3 (by rw [g3])
     have hi1 := Hs x1 (by omega) g4
     have hi2 := Hs x2 (by omega) g5
     have hi3 := Hs x0 (by omega) g6
     have hc1 := Qz x1 x (by omega)
     have hc2 := Qz x2 x (by omega)
     have hc3 := Qz x0 x (by omega)
     have hll : x0.length = x1.length + x2.length := by rw [g7.length_eq, List.length_append]
     have hcc : x0.count x = x1.count x + x2.count x := by rw [g7.count_eq, List.count_append]
     have hb1 := List.count_le_length (a := x) (l := x1)
     have hb2 := List.count_le_length (a := x) (l := x2)
     generalize x0.count x = n0 at *
     generalize x1.count x = n1 at *
     generalize x2.count x = n2 at *
     subst hcc
     have hm1 : (x1.map aI).length = x1.length := by simp
     have hm2 : (x2.map aI).length = x2.length := by simp
     have hm0 : (x0.map aI).length = x1.length + x2.length := by simp [hll]
     dsimp only at he1 he2 he3
     generalize x0.map aI = y0 at *
     generalize x1.map aI = y1 at *
     generalize x2.map aI = y2 at *
     rw [h00] at hws
     rw [k00] at hwt
     obtain ⟨k, o', m', v, p⟩ := s
     obtain ⟨k2, o2, m2, v2, p2⟩ := t
     simp only [AN] at hws hwt hq1 hq2 hns hnt hms hmt ⊢
     
     refine AA Tryz.func10 Ri rfl fun n H hH => ?_
     repeat' (first | (simp -implicitDefEqProofs [Gy, HN, c10, -getElem?_pos, c2', c3', hm0, hm1, hm2, splice]) | (simp (disch := omega) only [AC]) | ((with_reducible refine A9 14 ?_); (refine' CallP.sf ?_ (hws) ?_); (focus first | (with_reducible exact A0 _) | (simp [A5, A4, A1, A0]; done))) | ((with_reducible refine A9 14 ?_); (refine' CallP.sf ?_ (hwt) ?_); (focus first | (with_reducible exact A0 _) | (simp [A5, A4, A1, A0]; done))) | ((with_reducible refine A9 30 ?_); (refine' CallP.sf ?_ (hq1) ?_); (focus first | (with_reducible exact A0 _) | (simp [A5, A4, A1, A0]; done))) | ((with_reducible refine A9 30 ?_); (refine' CallP.sf ?_ (hq2) ?_); (focus first | (with_reducible exact A0 _) | (simp [A5, A4, A1, A0]; done))) | ((with_reducible refine A9 29 ?_); (refine' CallP.sf ?_ (hp1) ?_); (focus first | (with_reducible exact A0 _) | (simp [A5, A4, A1, A0]; done))) | ((with_reducible refine A9 28 ?_); (refine' CallP.sf ?_ (he1) ?_); (focus first | (with_reducible exact A0 _) | (simp [A5, A4, A1, A0]; done))) | ((with_reducible refine A9 28 ?_); (refine' CallP.sf ?_ (he2) ?_); (focus first | (with_reducible exact A0 _) | (simp [A5, A4, A1, A0]; done))) | ((with_reducible refine A9 28 ?_); (refine' CallP.sf ?_ (he3) ?_); (focus first | (with_reducible exact A0 _) | (simp [A5, A4, A1, A0]; done))) | ((with_reducible refine A9 31 ?_); (refine' CallP.sf ?_ (hns) ?_); (focus first | (with_reducible exact A0 _) | (simp [A5, A4, A1, A0]; done))) | ((with_reducible refine A9 31 ?_); (refine' CallP.sf ?_ (hnt) ?_); (focus first | (with_reducible exact A0 _) | (simp [A5, A4, A1, A0]; done))) | ((with_reducible refine A9 17 ?_); (refine' CallP.sf ?_ (hms) ?_); (focus first | (with_reducible exact A0 _) | (simp [A5, A4, A1, A0]; done))) | ((with_reducible refine A9 17 ?_); (refine' CallP.sf ?_ (hmt) ?_); (focus first | (with_reducible exact A0 _) | (simp [A5, A4, A1, A0]; done))) | ((with_reducible refine A9 32 ?_); (refine' CallP.sf ?_ (hi1) ?_); (focus first | (with_reducible exact A0 _) | (simp [A5, A4, A1, A0]; done))) | ((with_reducible refine A9 32 ?_); (refine' CallP.sf ?_ (hi2) ?_); (focus first | (with_reducible exact A0 _) | (simp [A5, A4, A1, A0]; done))) | ((with_reducible refine A9 32 ?_); (refine' CallP.sf ?_ (hi3) ?_); (focus first | (with_reducible exact A0 _) | (simp [A5, A4, A1, A0]; done))) | ((with_reducible refine A9 33 ?_); (refine' CallP.sf ?_ (hc1) ?_); (focus first | (with_reducible exact A0 _) | (simp [A5, A4, A1, A0]; done))) | ((with_reducible refine A9 33 ?_); (refine' CallP.sf ?_ (hc2) ?_); (focus first | (with_reducible exact A0 _) | (simp [A5, A4, A1, A0]; done))) | ((with_reducible refine A9 33 ?_); (refine' CallP.sf ?_ (hc3) ?_); (focus first | (with_reducible exact A0 _) | (simp [A5, A4, A1, A0]; done))) | ((with_reducible refine A9 16 ?_); (refine' CallP.sf ?_ (hst) ?_); (focus first | (with_reducible exact A0 _) | (simp [A5, A4, A1, A0]; done))) | (with_reducible first | refine A8 ?_ ?_ ?_ | exact AB | assumption | refine A2 ?_ | refine KM.of ?_ | refine AD ?_ | refine A3 ?_ | refine A6 ?_ | intro _g _hg | refine AE ?_ ?_ | intro _hc) | omega)
     all_goals first | exact A1 _ | (intro g hg; simp (disch := omega) only [upd_ne])
    ·have c3' : (5000 : Int) < (b1 : Int) + b2 := by omega
     rw [h00] at hws
     rw [k00] at hwt
     obtain ⟨k, o', m', v, p⟩ := s
     obtain ⟨k2, o2, m2, v2, p2⟩ := t
     simp only [AN] at hws hwt hq1 hq2 hns hnt hms hmt ⊢
     
     refine AA Tryz.func10 Ri rfl fun n H hH => ?_
     repeat' (first | (simp -implicitDefEqProofs [Gy, HN, c10, -getElem?_pos, c2', c3', splice]) | (simp (disch := omega) only [AC]) | ((with_reducible refine A9 14 ?_); (refine' CallP.sf ?_ (hws) ?_); (focus first | (with_reducible exact A0 _) | (simp [A5, A4, A1, A0]; done))) | ((with_reducible refine A9 14 ?_); (refine' CallP.sf ?_ (hwt) ?_); (focus first | (with_reducible exact A0 _) | (simp [A5, A4, A1, A0]; done))) | ((with_reducible refine A9 30 ?_); (refine' CallP.sf ?_ (hq1) ?_); (focus first | (with_reducible exact A0 _) | (simp [A5, A4, A1, A0]; done))) | ((with_reducible refine A9 30 ?_); (refine' CallP.sf ?_ (hq2) ?_); (focus first | (with_reducible exact A0 _) | (simp [A5, A4, A1, A0]; done))) | ((with_reducible refine A9 29 ?_); (refine' CallP.sf ?_ (hp1) ?_); (focus first | (with_reducible exact A0 _) | (simp [A5, A4, A1, A0]; done))) | ((with_reducible refine A9 28 ?_); (refine' CallP.sf ?_ (he1) ?_); (focus first | (with_reducible exact A0 _) | (simp [A5, A4, A1, A0]; done))) | ((with_reducible refine A9 28 ?_); (refine' CallP.sf ?_ (he2) ?_); (focus first | (with_reducible exact A0 _) | (simp [A5, A4, A1, A0]; done))) | ((with_reducible refine A9 28 ?_); (refine' CallP.sf ?_ (he3) ?_); (focus first | (with_reducible exact A0 _) | (simp [A5, A4, A1, A0]; done))) | ((with_reducible refine A9 31 ?_); (refine' CallP.sf ?_ (hns) ?_); (focus first | (with_reducible exact A0 _) | (simp [A5, A4, A1, A0]; done))) | ((with_reducible refine A9 31 ?_); (refine' CallP.sf ?_ (hnt) ?_); (focus first | (with_reducible exact A0 _) | (simp [A5, A4, A1, A0]; done))) | ((with_reducible refine A9 17 ?_); (refine' CallP.sf ?_ (hms) ?_); (focus first | (with_reducible exact A0 _) | (simp [A5, A4, A1, A0]; done))) | ((with_reducible refine A9 17 ?_); (refine' CallP.sf ?_ (hmt) ?_); (focus first | (with_reducible exact A0 _) | (simp [A5, A4, A1, A0]; done))) | ((with_reducible refine A9 16 ?_); (refine' CallP.sf ?_ (hst) ?_); (focus first | (with_reducible exact A0 _) | (simp [A5, A4, A1, A0]; done))) | (with_reducible first | refine A8 ?_ ?_ ?_ | exact AB | assumption | refine A2 ?_ | refine KM.of ?_ | refine AD ?_ | refine A3 ?_ | refine A6 ?_ | intro _g _hg | refine AE ?_ ?_ | intro _hc) | omega)
     all_goals first | exact A1 _ | (intro g hg; simp (disch := omega) only [upd_ne])
   ·have c2' : (55 : Int) < (z1 : Int) + z2 := by omega
    rw [h00] at hws
    rw [k00] at hwt
    obtain ⟨k, o', m', v, p⟩ := s
    obtain ⟨k2, o2, m2, v2, p2⟩ := t
    simp only [AN] at hws hwt hq1 hq2 hns hnt hms hmt ⊢
    
    refine AA Tryz.func10 Ri rfl fun n H hH => ?_
    repeat' (first | (simp -implicitDefEqProofs [Gy, HN, c10, -getElem?_pos, c2', splice]) | (simp (disch := omega) only [AC]) | ((with_reducible refine A9 14 ?_); (refine' CallP.sf ?_ (hws) ?_); (focus first | (with_reducible exact A0 _) | (simp [A5, A4, A1, A0]; done))) | ((with_reducible refine A9 14 ?_); (refine' CallP.sf ?_ (hwt) ?_); (focus first | (with_reducible exact A0 _) | (simp [A5, A4, A1, A0]; done))) | ((with_reducible refine A9 30 ?_); (refine' CallP.sf ?_ (hq1) ?_); (focus first | (with_reducible exact A0 _) | (simp [A5, A4, A1, A0]; done))) | ((with_reducible refine A9 30 ?_); (refine' CallP.sf ?_ (hq2) ?_); (focus first | (with_reducible exact A0 _) | (simp [A5, A4, A1, A0]; done))) | ((with_reducible refine A9 29 ?_); (refine' CallP.sf ?_ (hp1) ?_); (focus first | (with_reducible exact A0 _) | (simp [A5, A4, A1, A0]; done))) | ((with_reducible refine A9 28 ?_); (refine' CallP.sf ?_ (he1) ?_); (focus first | (with_reducible exact A0 _) | (simp [A5, A4, A1, A0]; done))) | ((with_reducible refine A9 28 ?_); (refine' CallP.sf ?_ (he2) ?_); (focus first | (with_reducible exact A0 _) | (simp [A5, A4, A1, A0]; done))) | ((with_reducible refine A9 28 ?_); (refine' CallP.sf ?_ (he3) ?_); (focus first | (with_reducible exact A0 _) | (simp [A5, A4, A1, A0]; done))) | ((with_reducible refine A9 31 ?_); (refine' CallP.sf ?_ (hns) ?_); (focus first | (with_reducible exact A0 _) | (simp [A5, A4, A1, A0]; done))) | ((with_reducible refine A9 31 ?_); (refine' CallP.sf ?_ (hnt) ?_); (focus first | (with_reducible exact A0 _) | (simp [A5, A4, A1, A0]; done))) | ((with_reducible refine A9 17 ?_); (refine' CallP.sf ?_ (hms) ?_); (focus first | (with_reducible exact A0 _) | (simp [A5, A4, A1, A0]; done))) | ((with_reducible refine A9 17 ?_); (refine' CallP.sf ?_ (hmt) ?_); (focus first | (with_reducible exact A0 _) | (simp [A5, A4, A1, A0]; done))) | ((with_reducible refine A9 16 ?_); (refine' CallP.sf ?_ (hst) ?_); (focus first | (with_reducible exact A0 _) | (simp [A5, A4, A1, A0]; done))) | (with_reducible first | refine A8 ?_ ?_ ?_ | exact AB | assumption | refine A2 ?_ | refine KM.of ?_ | refine AD ?_ | refine A3 ?_ | refine A6 ?_ | intro _g _hg | refine AE ?_ ?_ | intro _hc) | omega)
    all_goals first | exact A1 _ | (intro g hg; simp (disch := omega) only [upd_ne])
  ·rw [h00] at hws
   generalize Am t = ft at *
   obtain ⟨k, o', m', v, p⟩ := s
   obtain ⟨k2, o2, m2, v2, p2⟩ := t
   simp only [AN] at hws hwt hq1 hq2 hns hms ⊢
   
   refine AA Tryz.func10 Ri rfl fun n H hH => ?_
   repeat' (first | (simp -implicitDefEqProofs [Gy, HN, c10, -getElem?_pos, k0, splice]) | (simp (disch := omega) only [AC]) | ((with_reducible refine A9 14 ?_); (refine' CallP.sf ?_ (hws) ?_); (focus first | (with_reducible exact A0 _) | (simp [A5, A4, A1, A0]; done))) | ((with_reducible refine A9 14 ?_); (refine' CallP.sf ?_ (hwt) ?_); (focus first | (with_reducible exact A0 _) | (simp [A5, A4, A1, A0]; done))) | ((with_reducible refine A9 30 ?_); (refine' CallP.sf ?_ (hq1) ?_); (focus first | (with_reducible exact A0 _) | (simp [A5, A4, A1, A0]; done))) | ((with_reducible refine A9 30 ?_); (refine' CallP.sf ?_ (hq2) ?_); (focus first | (with_reducible exact A0 _) | (simp [A5, A4, A1, A0]; done))) | ((with_reducible refine A9 29 ?_); (refine' CallP.sf ?_ (hp1) ?_); (focus first | (with_reducible exact A0 _) | (simp [A5, A4, A1, A0]; done))) | ((with_reducible refine A9 28 ?_); (refine' CallP.sf ?_ (he1) ?_); (focus first | (with_reducible exact A0 _) | (simp [A5, A4, A1, A0]; done))) | ((with_reducible refine A9 28 ?_); (refine' CallP.sf ?_ (he2) ?_); (focus first | (with_reducible exact A0 _) | (simp [A5, A4, A1, A0]; done))) | ((with_reducible refine A9 28 ?_); (refine' CallP.sf ?_ (he3) ?_); (focus first | (with_reducible exact A0 _) | (simp [A5, A4, A1, A0]; done))) | ((with_reducible refine A9 31 ?_); (refine' CallP.sf ?_ (hns) ?_); (focus first | (with_reducible exact A0 _) | (simp [A5, A4, A1, A0]; done))) | ((with_reducible refine A9 17 ?_); (refine' CallP.sf ?_ (hms) ?_); (focus first | (with_reducible exact A0 _) | (simp [A5, A4, A1, A0]; done))) | ((with_reducible refine A9 16 ?_); (refine' CallP.sf ?_ (hst) ?_); (focus first | (with_reducible exact A0 _) | (simp [A5, A4, A1, A0]; done))) | (with_reducible first | refine A8 ?_ ?_ ?_ | exact AB | assumption | refine A2 ?_ | refine KM.of ?_ | refine AD ?_ | refine A3 ?_ | refine A6 ?_ | intro _g _hg | refine AE ?_ ?_ | intro _hc) | omega)
   all_goals first | exact A1 _ | (intro g hg; simp (disch := omega) only [upd_ne])
 ·generalize Am s = fs at *
  obtain ⟨k, o', m', v, p⟩ := s
  obtain ⟨k2, o2, m2, v2, p2⟩ := t
  simp only [AN] at hws hwt hq1 hq2 ⊢
  
  refine AA Tryz.func10 Ri rfl fun n H hH => ?_
  repeat' (first | (simp -implicitDefEqProofs [Gy, HN, c10, -getElem?_pos, h0, splice]) | (simp (disch := omega) only [AC]) | ((with_reducible refine A9 14 ?_); (refine' CallP.sf ?_ (hws) ?_); (focus first | (with_reducible exact A0 _) | (simp [A5, A4, A1, A0]; done))) | ((with_reducible refine A9 14 ?_); (refine' CallP.sf ?_ (hwt) ?_); (focus first | (with_reducible exact A0 _) | (simp [A5, A4, A1, A0]; done))) | ((with_reducible refine A9 30 ?_); (refine' CallP.sf ?_ (hq1) ?_); (focus first | (with_reducible exact A0 _) | (simp [A5, A4, A1, A0]; done))) | ((with_reducible refine A9 30 ?_); (refine' CallP.sf ?_ (hq2) ?_); (focus first | (with_reducible exact A0 _) | (simp [A5, A4, A1, A0]; done))) | ((with_reducible refine A9 29 ?_); (refine' CallP.sf ?_ (hp1) ?_); (focus first | (with_reducible exact A0 _) | (simp [A5, A4, A1, A0]; done))) | ((with_reducible refine A9 28 ?_); (refine' CallP.sf ?_ (he1) ?_); (focus first | (with_reducible exact A0 _) | (simp [A5, A4, A1, A0]; done))) | ((with_reducible refine A9 28 ?_); (refine' CallP.sf ?_ (he2) ?_); (focus first | (with_reducible exact A0 _) | (simp [A5, A4, A1, A0]; done))) | ((with_reducible refine A9 28 ?_); (refine' CallP.sf ?_ (he3) ?_); (focus first | (with_reducible exact A0 _) | (simp [A5, A4, A1, A0]; done))) | ((with_reducible refine A9 16 ?_); (refine' CallP.sf ?_ (hst) ?_); (focus first | (with_reducible exact A0 _) | (simp [A5, A4, A1, A0]; done))) | (with_reducible first | refine A8 ?_ ?_ ?_ | exact AB | assumption | refine A2 ?_ | refine KM.of ?_ | refine AD ?_ | refine A3 ?_ | refine A6 ?_ | intro _g _hg | refine AE ?_ ?_ | intro _hc) | omega)
  all_goals first | exact A1 _ | (intro g hg; simp (disch := omega) only [upd_ne])
end Go.Proofs.YtjdccdelcnmocaaGreatDoor

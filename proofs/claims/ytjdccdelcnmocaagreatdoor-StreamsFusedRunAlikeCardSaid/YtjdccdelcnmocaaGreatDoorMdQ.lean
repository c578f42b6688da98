/- Streams: the rules by which streams are simplified, walked; no condition. -/
import Derived.Test.YtjdccdelcnmocaaGreatDoorMgJ
import Derived.Test.YtjdccdelcnmocaaGreatDoorMdP
import Derived.Test.YtjdccdelcnmocaaGreatDoorAdF
import Derived.Test.YtjdccdelcnmocaaGreatDoorMdM
import Derived.Test.YtjdccdelcnmocaaGreatDoorMdO
set_option linter.all false
set_option linter.unusedSimpArgs false
set_option linter.unusedVariables false
set_option maxHeartbeats 8000000
namespace Go.Proofs.YtjdccdelcnmocaaGreatDoor
attribute [local simp] Nt GX Gy PR NX Pd OR GG Gx I1 JS Qp Q2 PM RE QS Qq P7 RI Nb No Qt Np Qo QJ WK pe PO Pu Pe R3 QU RG Qh PB Oj Nj NF Nm Qz Gv Pp NY PV Ox NJ Pn OY QT Qy QR R9 PJ Ow Q9 Ot Pg PH O7 Pz NO RA GQ OV H7 OS Nd PG PT Ou Nk Og Qx RD Pf NZ RF PL PX R4 OZ Nc Qs NT Oh Pw P6 R6 Q5 NK Gr PA Q4 Qb OP NM P4 Qn P3 Oq OC PI OG Q8 Ni Nh Q3 Nr ON Qr P1 P5 Ov Nw QQ QO Pc NV PC Px R2 K6 OM List.mem_cons guardK FJ Fz Gu J5 O5 Gk Ge Gz Gj H8 GY GO GV H5 PD QM Gg PZ Oy OB O4 Nv QK GU P2 OQ Ql QP O9 R8 J0 Gq Gn Gm Gs RC Pr H6 Ns Gl Nq GS Gd NQ GL Gp Ok O6 Pa Na PK QD Q7 PU WJ MC MV JD MF MB MU Fe I3 I6 O0 Hz I4 Fd FD YP ME M8 I8 M9 MW El EL C6 Bo Cu EA AH ev get put Fa AN EK QA OI OA QC MH Od FW part BS IH RB Hx isNil Df EC Ep EG EE OW Oc NH OL Ng ML Pk PY Q6 Nf Qc Qv Of Ps OD Pi AV.fits AV.cells ones AV.one FF DC FI EF Fg FS Po Fk GZ Cz Br CH Er Gw AX Bq ZY J8 Oz PP List.getElem?_cons_zero List.getElem?_cons_succ Gc GJ Ga OE OX QB IB Qd Pj Qm Qf Pb QI QL Pq Nz Oa Nu
theorem Uz (k o m : Int) (v : List Int) (x : St) (r : List St) (hb : k = 5 → APure Tryz.prog 36 [encS x] (aI (AW x : Nat))) : APure Tryz.prog 89 [encS (.mk k o m v (x :: r))] (.tup [encS ((K7 k o m (x :: r)).getD (.mk k o m v (x :: r))), .bool (K7 k o m (x :: r)).isSome]) := by
 have hel := Ai r
 have hr0 : r = [] → AR r = [] := fun h => by rw [h]; rfl
 have hr1 : r ≠ [] → ¬ ((AR r).length : Int) + 1 = 1 := fun h e => h (List.length_eq_zero_iff.1 (by omega))
 simp only [K7]
 generalize AW x = b at *
 obtain ⟨k', o', m', v', p'⟩ := x
 by_cases hc : (k = 3 ∧ (o = 1 ∧ m = 0 ∨ o = 3 ∧ m = 1)) ∨ (k = 6 ∧ m = 0) ∨ (k = 12 ∧ m = 1) ∨ ((k = 13 ∨ k = 14) ∧ r = []) ∨ (k = 5 ∧ (b : Int) < m)
 ·rw [if_pos hc]
  simp only [Option.getD_some, Option.isSome_some]
  rw [AF, AR]
  rw [AF] at *
  generalize AR r = er at *
  generalize AR p' = ep at *
  generalize v.map aI = va at *
  generalize v'.map aI = vb at *
  rcases hc with ⟨rfl, ⟨rfl, rfl⟩ | ⟨rfl, rfl⟩⟩ | ⟨rfl, rfl⟩ | ⟨rfl, rfl⟩ | ⟨rfl | rfl, hr⟩ | ⟨rfl, hm⟩
  ·
   refine A7 Tryz.func89 EJ rfl fun n H hH => ?_
   repeat' (first | (simp -implicitDefEqProofs [Au, Ar, As, Aw, Ay, Az, Av, c89, -getElem?_pos, splice]) | (simp (disch := omega) only [AA]) | (with_reducible first | refine A6 ?_ ?_ ?_ | exact AC | refine SameB.upd ?_ ?_ _ | assumption | refine A0 ?_ | refine KM.of ?_ | refine AB ?_ | refine A1 ?_ | refine A4 ?_ | intro _g _hg | refine AD ?_ ?_ | intro _hc) | omega)
   all_goals exact A5 _
  ·
   refine A7 Tryz.func89 EJ rfl fun n H hH => ?_
   repeat' (first | (simp -implicitDefEqProofs [Au, Ar, As, Aw, Ay, Az, Av, c89, -getElem?_pos, splice]) | (simp (disch := omega) only [AA]) | (with_reducible first | refine A6 ?_ ?_ ?_ | exact AC | refine SameB.upd ?_ ?_ _ | assumption | refine A0 ?_ | refine KM.of ?_ | refine AB ?_ | refine A1 ?_ | refine A4 ?_ | intro _g _hg | refine AD ?_ ?_ | intro _hc) | omega)
   all_goals exact A5 _
  ·
   refine A7 Tryz.func89 EJ rfl fun n H hH => ?_
   repeat' (first | (simp -implicitDefEqProofs [Au, Ar, As, Aw, Ay, Az, Av, c89, -getElem?_pos, splice]) | (simp (disch := omega) only [AA]) | (with_reducible first | refine A6 ?_ ?_ ?_ | exact AC | refine SameB.upd ?_ ?_ _ | assumption | refine A0 ?_ | refine KM.of ?_ | refine AB ?_ | refine A1 ?_ | refine A4 ?_ | intro _g _hg | refine AD ?_ ?_ | intro _hc) | omega)
   all_goals exact A5 _
  ·
   refine A7 Tryz.func89 EJ rfl fun n H hH => ?_
   repeat' (first | (simp -implicitDefEqProofs [Au, Ar, As, Aw, Ay, Az, Av, c89, -getElem?_pos, splice]) | (simp (disch := omega) only [AA]) | (with_reducible first | refine A6 ?_ ?_ ?_ | exact AC | refine SameB.upd ?_ ?_ _ | assumption | refine A0 ?_ | refine KM.of ?_ | refine AB ?_ | refine A1 ?_ | refine A4 ?_ | intro _g _hg | refine AD ?_ ?_ | intro _hc) | omega)
   all_goals exact A5 _
  ·have := hr0 hr; subst this
   
   refine A7 Tryz.func89 EJ rfl fun n H hH => ?_
   repeat' (first | (simp -implicitDefEqProofs [Au, Ar, As, Aw, Ay, Az, Av, c89, -getElem?_pos, splice]) | (simp (disch := omega) only [AA]) | (with_reducible first | refine A6 ?_ ?_ ?_ | exact AC | refine SameB.upd ?_ ?_ _ | assumption | refine A0 ?_ | refine KM.of ?_ | refine AB ?_ | refine A1 ?_ | refine A4 ?_ | intro _g _hg | refine AD ?_ ?_ | intro _hc) | omega)
   all_goals exact A5 _
  ·have := hr0 hr; subst this
   
   refine A7 Tryz.func89 EJ rfl fun n H hH => ?_
   repeat' (first | (simp -implicitDefEqProofs [Au, Ar, As, Aw, Ay, Az, Av, c89, -getElem?_pos, splice]) | (simp (disch := omega) only [AA]) | (with_reducible first | refine A6 ?_ ?_ ?_ | exact AC | refine SameB.upd ?_ ?_ _ | assumption | refine A0 ?_ | refine KM.of ?_ | refine AB ?_ | refine A1 ?_ | refine A4 ?_ | intro _g _hg | refine AD ?_ ?_ | intro _hc) | omega)
   all_goals exact A5 _
  ·have hb := hb rfl
   
   refine A7 Tryz.func89 EJ rfl fun n H hH => ?_
   repeat' (first | (simp -implicitDefEqProofs [Au, Ar, As, Aw, Ay, Az, Av, c89, -getElem?_pos, hm, splice]) | (simp (disch := omega) only [AA]) | ((with_reducible refine Aa 36 ?_); (refine' CallP.sf ?_ (hb) ?_); (focus first | (with_reducible exact A2 _) | (simp [AQ, AM, A5, A2]; done))) | (with_reducible first | refine A6 ?_ ?_ ?_ | exact AC | refine SameB.upd ?_ ?_ _ | assumption | refine A0 ?_ | refine KM.of ?_ | refine AB ?_ | refine A1 ?_ | refine A4 ?_ | intro _g _hg | refine AD ?_ ?_ | intro _hc) | omega)
   all_goals exact A5 _
 ·rw [if_neg hc]
  simp only [Option.getD_none, Option.isSome_none]
  rw [AF, AR]
  rw [AF] at *
  have hlen : (0 : Int) < ((AR r).length : Int) + 1 := by omega
  generalize AR r = er at *
  generalize AR p' = ep at *
  generalize v.map aI = va at *
  generalize v'.map aI = vb at *
  simp only [not_or, not_and] at hc
  obtain ⟨c1, c2, c3, c4, c5⟩ := hc
  by_cases h3 : k = 3
  ·subst h3
   have c1 := c1 rfl
   by_cases h1 : o = 1
   ·subst h1
    have c1 := c1.1 rfl
    
    refine A7 Tryz.func89 EJ rfl fun n H hH => ?_
    repeat' (first | (simp -implicitDefEqProofs [Au, Ar, As, Aw, Ay, Az, Av, c89, -getElem?_pos, c1, splice]) | (simp (disch := omega) only [AA]) | (with_reducible first | refine A6 ?_ ?_ ?_ | exact AC | refine SameB.upd ?_ ?_ _ | assumption | refine A0 ?_ | refine KM.of ?_ | refine AB ?_ | refine A1 ?_ | refine A4 ?_ | intro _g _hg | refine AD ?_ ?_ | intro _hc) | omega)
    all_goals exact A5 _
   ·by_cases h2 : o = 3
    ·subst h2
     have c1 := c1.2 rfl
     
     refine A7 Tryz.func89 EJ rfl fun n H hH => ?_
     repeat' (first | (simp -implicitDefEqProofs [Au, Ar, As, Aw, Ay, Az, Av, c89, -getElem?_pos, c1, splice]) | (simp (disch := omega) only [AA]) | (with_reducible first | refine A6 ?_ ?_ ?_ | exact AC | refine SameB.upd ?_ ?_ _ | assumption | refine A0 ?_ | refine KM.of ?_ | refine AB ?_ | refine A1 ?_ | refine A4 ?_ | intro _g _hg | refine AD ?_ ?_ | intro _hc) | omega)
     all_goals exact A5 _
    ·
     refine A7 Tryz.func89 EJ rfl fun n H hH => ?_
     repeat' (first | (simp -implicitDefEqProofs [Au, Ar, As, Aw, Ay, Az, Av, c89, -getElem?_pos, h1, h2, splice]) | (simp (disch := omega) only [AA]) | (with_reducible first | refine A6 ?_ ?_ ?_ | exact AC | refine SameB.upd ?_ ?_ _ | assumption | refine A0 ?_ | refine KM.of ?_ | refine AB ?_ | refine A1 ?_ | refine A4 ?_ | intro _g _hg | refine AD ?_ ?_ | intro _hc) | omega)
     all_goals exact A5 _
  ·by_cases h6 : k = 6
   ·subst h6
    have c2 := c2 rfl
    
    refine A7 Tryz.func89 EJ rfl fun n H hH => ?_
    repeat' (first | (simp -implicitDefEqProofs [Au, Ar, As, Aw, Ay, Az, Av, c89, -getElem?_pos, c2, splice]) | (simp (disch := omega) only [AA]) | (with_reducible first | refine A6 ?_ ?_ ?_ | exact AC | refine SameB.upd ?_ ?_ _ | assumption | refine A0 ?_ | refine KM.of ?_ | refine AB ?_ | refine A1 ?_ | refine A4 ?_ | intro _g _hg | refine AD ?_ ?_ | intro _hc) | omega)
    all_goals exact A5 _
   ·by_cases h12 : k = 12
    ·subst h12
     have c3 := c3 rfl
     
     refine A7 Tryz.func89 EJ rfl fun n H hH => ?_
     repeat' (first | (simp -implicitDefEqProofs [Au, Ar, As, Aw, Ay, Az, Av, c89, -getElem?_pos, c3, splice]) | (simp (disch := omega) only [AA]) | (with_reducible first | refine A6 ?_ ?_ ?_ | exact AC | refine SameB.upd ?_ ?_ _ | assumption | refine A0 ?_ | refine KM.of ?_ | refine AB ?_ | refine A1 ?_ | refine A4 ?_ | intro _g _hg | refine AD ?_ ?_ | intro _hc) | omega)
     all_goals exact A5 _
    ·by_cases h13 : k = 13
     ·subst h13
      have c4 := hr1 (c4 (.inl rfl))
      
      refine A7 Tryz.func89 EJ rfl fun n H hH => ?_
      repeat' (first | (simp -implicitDefEqProofs [Au, Ar, As, Aw, Ay, Az, Av, c89, -getElem?_pos, c4, splice]) | (simp (disch := omega) only [AA]) | (with_reducible first | refine A6 ?_ ?_ ?_ | exact AC | refine SameB.upd ?_ ?_ _ | assumption | refine A0 ?_ | refine KM.of ?_ | refine AB ?_ | refine A1 ?_ | refine A4 ?_ | intro _g _hg | refine AD ?_ ?_ | intro _hc) | omega)
      all_goals exact A5 _
     ·by_cases h14 : k = 14
      ·subst h14
       have c4 := hr1 (c4 (.inr rfl))
       
       refine A7 Tryz.func89 EJ rfl fun n H hH => ?_
       repeat' (first | (simp -implicitDefEqProofs [Au, Ar, As, Aw, Ay, Az, Av, c89, -getElem?_pos, c4, splice]) | (simp (disch := omega) only [AA]) | (with_reducible first | refine A6 ?_ ?_ ?_ | exact AC | refine SameB.upd ?_ ?_ _ | assumption | refine A0 ?_ | refine KM.of ?_ | refine AB ?_ | refine A1 ?_ | refine A4 ?_ | intro _g _hg | refine AD ?_ ?_ | intro _hc) | omega)
       all_goals exact A5 _
      ·by_cases h5 : k = 5
       ·subst h5
        have c5 := c5 rfl
        have hb := hb rfl
        
        refine A7 Tryz.func89 EJ rfl fun n H hH => ?_
        repeat' (first | (simp -implicitDefEqProofs [Au, Ar, As, Aw, Ay, Az, Av, c89, -getElem?_pos, c5, hlen, splice]) | (simp (disch := omega) only [AA]) | ((with_reducible refine Aa 36 ?_); (refine' CallP.sf ?_ (hb) ?_); (focus first | (with_reducible exact A2 _) | (simp [AQ, AM, A5, A2]; done))) | (with_reducible first | refine A6 ?_ ?_ ?_ | exact AC | refine SameB.upd ?_ ?_ _ | assumption | refine A0 ?_ | refine KM.of ?_ | refine AB ?_ | refine A1 ?_ | refine A4 ?_ | intro _g _hg | refine AD ?_ ?_ | intro _hc) | omega)
        all_goals exact A5 _
       ·
        refine A7 Tryz.func89 EJ rfl fun n H hH => ?_
        repeat' (first | (simp -implicitDefEqProofs [Au, Ar, As, Aw, Ay, Az, Av, c89, -getElem?_pos, h3, h6, h12, h13, h14, h5, splice]) | (simp (disch := omega) only [AA]) | (with_reducible first | refine A6 ?_ ?_ ?_ | exact AC | refine SameB.upd ?_ ?_ _ | assumption | refine A0 ?_ | refine KM.of ?_ | refine AB ?_ | refine A1 ?_ | refine A4 ?_ | intro _g _hg | refine AD ?_ ?_ | intro _hc) | omega)
        all_goals exact A5 _
theorem Kf (k o m : Int) (v : List Int) (p : List St) (hp : p.length ≠ 1) : APure Tryz.prog 90 [encS (.mk k o m v p)] (.tup [encS (.mk k o m v p), .bool false]) := by
 rw [AF]
 generalize v.map aI = va at *
 match p, hp with
 | [], _ =>
  rw [AR]
  
  refine A7 Tryz.func90 Em rfl fun n H hH => ?_
  repeat' (first | (simp -implicitDefEqProofs [BI, BE, BD, BL, BF, BO, BK, c90, -getElem?_pos, splice]) | (simp (disch := omega) only [AA]) | (with_reducible first | refine A6 ?_ ?_ ?_ | exact AC | refine SameB.upd ?_ ?_ _ | assumption | refine A0 ?_ | refine KM.of ?_ | refine AB ?_ | refine A1 ?_ | refine A4 ?_ | intro _g _hg | refine AD ?_ ?_ | intro _hc) | omega)
  all_goals exact A5 _
 | [_], h => exact absurd rfl h
 | x :: y :: r, _ =>
  obtain ⟨k', o', m', v', p'⟩ := x
  rw [AR, AR, AF]
  generalize encS y = ey at *
  generalize AR r = er at *
  generalize AR p' = ep at *
  generalize v'.map aI = vb at *
  have hl : ¬ ((er.length : Int) + 1 + 1 = 1) := by omega
  
  refine A7 Tryz.func90 Em rfl fun n H hH => ?_
  repeat' (first | (simp -implicitDefEqProofs [BI, BE, BD, BL, BF, BO, BK, c90, -getElem?_pos, hl, splice]) | (simp (disch := omega) only [AA]) | (with_reducible first | refine A6 ?_ ?_ ?_ | exact AC | refine SameB.upd ?_ ?_ _ | assumption | refine A0 ?_ | refine KM.of ?_ | refine AB ?_ | refine A1 ?_ | refine A4 ?_ | intro _g _hg | refine AD ?_ ?_ | intro _hc) | omega)
  all_goals exact A5 _
theorem Ts (k o m : Int) (v : List Int) (k' o' m' : Int) (v' : List Int) (pp : List St) (ho : k = 3 → 1 ≤ o ∧ o ≤ 6) (hm : 0 ≤ m ∧ m ≤ 9999) (hm' : 0 ≤ m' ∧ m' ≤ 9999) : APure Tryz.prog 90 [encS (.mk k o m v [.mk k' o' m' v' pp])] (.tup [encS ((JQ k o m [.mk k' o' m' v' pp]).getD (.mk k o m v [.mk k' o' m' v' pp])), .bool (JQ k o m [.mk k' o' m' v' pp]).isSome]) := by
 simp only [JQ]
 by_cases hk : k' = k
 ·subst hk
  by_cases hoo : o' = o
  ·subst hoo
   rw [if_pos ⟨rfl, rfl⟩]
   simp only [unN]
   have hap := fun h => Ir o' m m' (ho h) hm hm'
   by_cases h3 : k' = 3 ∧ o' ≠ 2 ∧ o' ≠ 6
   ·rw [if_pos h3]
    obtain ⟨rfl, h2, h6⟩ := h3
    have hap := hap rfl (fun h => absurd h h6)
    have ho := ho rfl
    simp only [Option.map_some, Option.getD_some, Option.isSome_some]
    generalize DZ o' m m' = z at *
    rw [AF, AF, AR, AR, AF]
    generalize AR pp = ep at *
    generalize v.map aI = va at *
    generalize v'.map aI = vb at *
    rcases (by omega : o' = 1 ∨ o' = 3 ∨ o' = 4 ∨ o' = 5) with rfl | rfl | rfl | rfl
    ·
     refine A7 Tryz.func90 Em rfl fun n H hH => ?_
     repeat' (first | (simp -implicitDefEqProofs [BI, BE, BD, BL, BF, BO, BK, c90, -getElem?_pos, splice]) | (simp (disch := omega) only [AA]) | ((with_reducible refine Aa 102 ?_); (refine' CallP.sf ?_ (hap) ?_); (focus first | (with_reducible exact A2 _) | (simp [AQ, AM, A5, A2]; done))) | (with_reducible first | refine A6 ?_ ?_ ?_ | exact AC | refine SameB.upd ?_ ?_ _ | assumption | refine A0 ?_ | refine KM.of ?_ | refine AB ?_ | refine A1 ?_ | refine A4 ?_ | intro _g _hg | refine AD ?_ ?_ | intro _hc) | omega)
     all_goals first | exact A5 _ | omega
    ·
     refine A7 Tryz.func90 Em rfl fun n H hH => ?_
     repeat' (first | (simp -implicitDefEqProofs [BI, BE, BD, BL, BF, BO, BK, c90, -getElem?_pos, splice]) | (simp (disch := omega) only [AA]) | ((with_reducible refine Aa 102 ?_); (refine' CallP.sf ?_ (hap) ?_); (focus first | (with_reducible exact A2 _) | (simp [AQ, AM, A5, A2]; done))) | (with_reducible first | refine A6 ?_ ?_ ?_ | exact AC | refine SameB.upd ?_ ?_ _ | assumption | refine A0 ?_ | refine KM.of ?_ | refine AB ?_ | refine A1 ?_ | refine A4 ?_ | intro _g _hg | refine AD ?_ ?_ | intro _hc) | omega)
     all_goals first | exact A5 _ | omega
    ·
     refine A7 Tryz.func90 Em rfl fun n H hH => ?_
     repeat' (first | (simp -implicitDefEqProofs [BI, BE, BD, BL, BF, BO, BK, c90, -getElem?_pos, splice]) | (simp (disch := omega) only [AA]) | ((with_reducible refine Aa 102 ?_); (refine' CallP.sf ?_ (hap) ?_); (focus first | (with_reducible exact A2 _) | (simp [AQ, AM, A5, A2]; done))) | (with_reducible first | refine A6 ?_ ?_ ?_ | exact AC | refine SameB.upd ?_ ?_ _ | assumption | refine A0 ?_ | refine KM.of ?_ | refine AB ?_ | refine A1 ?_ | refine A4 ?_ | intro _g _hg | refine AD ?_ ?_ | intro _hc) | omega)
     all_goals first | exact A5 _ | omega
    ·
     refine A7 Tryz.func90 Em rfl fun n H hH => ?_
     repeat' (first | (simp -implicitDefEqProofs [BI, BE, BD, BL, BF, BO, BK, c90, -getElem?_pos, splice]) | (simp (disch := omega) only [AA]) | ((with_reducible refine Aa 102 ?_); (refine' CallP.sf ?_ (hap) ?_); (focus first | (with_reducible exact A2 _) | (simp [AQ, AM, A5, A2]; done))) | (with_reducible first | refine A6 ?_ ?_ ?_ | exact AC | refine SameB.upd ?_ ?_ _ | assumption | refine A0 ?_ | refine KM.of ?_ | refine AB ?_ | refine A1 ?_ | refine A4 ?_ | intro _g _hg | refine AD ?_ ?_ | intro _hc) | omega)
     all_goals first | exact A5 _ | omega
   ·rw [if_neg h3]
    by_cases h4 : k' = 4 ∧ o' = 1 ∨ k' = 5
    ·rw [if_pos h4]
     simp only [Option.map_some, Option.getD_some, Option.isSome_some]
     rw [AF, AF, AR, AR, AF]
     generalize AR pp = ep at *
     generalize v.map aI = va at *
     generalize v'.map aI = vb at *
     rcases h4 with ⟨rfl, rfl⟩ | rfl
     ·
      refine A7 Tryz.func90 Em rfl fun n H hH => ?_
      repeat' (first | (simp -implicitDefEqProofs [BI, BE, BD, BL, BF, BO, BK, c90, -getElem?_pos, splice]) | (simp (disch := omega) only [AA]) | (with_reducible first | refine A6 ?_ ?_ ?_ | exact AC | refine SameB.upd ?_ ?_ _ | assumption | refine A0 ?_ | refine KM.of ?_ | refine AB ?_ | refine A1 ?_ | refine A4 ?_ | intro _g _hg | refine AD ?_ ?_ | intro _hc) | omega)
      all_goals first | exact A5 _ | omega
     ·
      refine A7 Tryz.func90 Em rfl fun n H hH => ?_
      repeat' (first | (simp -implicitDefEqProofs [BI, BE, BD, BL, BF, BO, BK, c90, -getElem?_pos, splice]) | (simp (disch := omega) only [AA]) | (with_reducible first | refine A6 ?_ ?_ ?_ | exact AC | refine SameB.upd ?_ ?_ _ | assumption | refine A0 ?_ | refine KM.of ?_ | refine AB ?_ | refine A1 ?_ | refine A4 ?_ | intro _g _hg | refine AD ?_ ?_ | intro _hc) | omega)
      all_goals first | exact A5 _ | omega
    ·rw [if_neg h4]
     by_cases h5 : k' = 4 ∧ o' = 2
     ·rw [if_pos h5]
      simp only [Option.map_some, Option.getD_some, Option.isSome_some]
      rw [AF, AF, AR, AR, AF]
      generalize AR pp = ep at *
      generalize v.map aI = va at *
      generalize v'.map aI = vb at *
      obtain ⟨rfl, rfl⟩ := h5
      
      refine A7 Tryz.func90 Em rfl fun n H hH => ?_
      repeat' (first | (simp -implicitDefEqProofs [BI, BE, BD, BL, BF, BO, BK, c90, -getElem?_pos, splice]) | (simp (disch := omega) only [AA]) | (with_reducible first | refine A6 ?_ ?_ ?_ | exact AC | refine SameB.upd ?_ ?_ _ | assumption | refine A0 ?_ | refine KM.of ?_ | refine AB ?_ | refine A1 ?_ | refine A4 ?_ | intro _g _hg | refine AD ?_ ?_ | intro _hc) | omega)
      all_goals first | exact A5 _ | omega
     ·rw [if_neg h5]
      by_cases h6 : k' = 6
      ·rw [if_pos h6]
       simp only [Option.map_some, Option.getD_some, Option.isSome_some]
       rw [AF, AF, AR, AR, AF]
       generalize AR pp = ep at *
       generalize v.map aI = va at *
       generalize v'.map aI = vb at *
       subst h6
       
       refine A7 Tryz.func90 Em rfl fun n H hH => ?_
       repeat' (first | (simp -implicitDefEqProofs [BI, BE, BD, BL, BF, BO, BK, c90, -getElem?_pos, splice]) | (simp (disch := omega) only [AA]) | (with_reducible first | refine A6 ?_ ?_ ?_ | exact AC | refine SameB.upd ?_ ?_ _ | assumption | refine A0 ?_ | refine KM.of ?_ | refine AB ?_ | refine A1 ?_ | refine A4 ?_ | intro _g _hg | refine AD ?_ ?_ | intro _hc) | omega)
       all_goals first | exact A5 _ | omega
      ·rw [if_neg h6]
       by_cases h11 : k' = 11
       ·rw [if_pos h11]
        simp only [Option.map_some, Option.getD_some, Option.isSome_some]
        rw [AF, AF, AR, AR, AF]
        generalize AR pp = ep at *
        generalize v.map aI = va at *
        generalize v'.map aI = vb at *
        subst h11
        
        refine A7 Tryz.func90 Em rfl fun n H hH => ?_
        repeat' (first | (simp -implicitDefEqProofs [BI, BE, BD, BL, BF, BO, BK, c90, -getElem?_pos, splice]) | (simp (disch := omega) only [AA]) | (with_reducible first | refine A6 ?_ ?_ ?_ | exact AC | refine SameB.upd ?_ ?_ _ | assumption | refine A0 ?_ | refine KM.of ?_ | refine AB ?_ | refine A1 ?_ | refine A4 ?_ | intro _g _hg | refine AD ?_ ?_ | intro _hc) | omega)
        all_goals first | exact A5 _ | omega
       ·rw [if_neg h11]
        simp only [Option.map_none, Option.getD_none, Option.isSome_none]
        rw [AF, AR, AR, AF]
        generalize AR pp = ep at *
        generalize v.map aI = va at *
        generalize v'.map aI = vb at *
        have h5' : k' ≠ 5 := fun h => h4 (.inr h)
        by_cases k3 : k' = 3
        ·subst k3
         have ho := ho rfl
         rcases (by omega : o' = 2 ∨ o' = 6) with rfl | rfl
         ·
          refine A7 Tryz.func90 Em rfl fun n H hH => ?_
          repeat' (first | (simp -implicitDefEqProofs [BI, BE, BD, BL, BF, BO, BK, c90, -getElem?_pos, splice]) | (simp (disch := omega) only [AA]) | (with_reducible first | refine A6 ?_ ?_ ?_ | exact AC | refine SameB.upd ?_ ?_ _ | assumption | refine A0 ?_ | refine KM.of ?_ | refine AB ?_ | refine A1 ?_ | refine A4 ?_ | intro _g _hg | refine AD ?_ ?_ | intro _hc) | omega)
          all_goals first | exact A5 _ | omega
         ·
          refine A7 Tryz.func90 Em rfl fun n H hH => ?_
          repeat' (first | (simp -implicitDefEqProofs [BI, BE, BD, BL, BF, BO, BK, c90, -getElem?_pos, splice]) | (simp (disch := omega) only [AA]) | (with_reducible first | refine A6 ?_ ?_ ?_ | exact AC | refine SameB.upd ?_ ?_ _ | assumption | refine A0 ?_ | refine KM.of ?_ | refine AB ?_ | refine A1 ?_ | refine A4 ?_ | intro _g _hg | refine AD ?_ ?_ | intro _hc) | omega)
          all_goals first | exact A5 _ | omega
        ·by_cases k4 : k' = 4
         ·subst k4
          have e1 : ¬ o' = 1 := fun h => h4 (.inl ⟨rfl, h⟩)
          have e2 : ¬ o' = 2 := fun h => h5 ⟨rfl, h⟩
          
          refine A7 Tryz.func90 Em rfl fun n H hH => ?_
          repeat' (first | (simp -implicitDefEqProofs [BI, BE, BD, BL, BF, BO, BK, c90, -getElem?_pos, e1, e2, splice]) | (simp (disch := omega) only [AA]) | (with_reducible first | refine A6 ?_ ?_ ?_ | exact AC | refine SameB.upd ?_ ?_ _ | assumption | refine A0 ?_ | refine KM.of ?_ | refine AB ?_ | refine A1 ?_ | refine A4 ?_ | intro _g _hg | refine AD ?_ ?_ | intro _hc) | omega)
          all_goals first | exact A5 _ | omega
         ·
          refine A7 Tryz.func90 Em rfl fun n H hH => ?_
          repeat' (first | (simp -implicitDefEqProofs [BI, BE, BD, BL, BF, BO, BK, c90, -getElem?_pos, k3, k4, h5', h6, h11, splice]) | (simp (disch := omega) only [AA]) | (with_reducible first | refine A6 ?_ ?_ ?_ | exact AC | refine SameB.upd ?_ ?_ _ | assumption | refine A0 ?_ | refine KM.of ?_ | refine AB ?_ | refine A1 ?_ | refine A4 ?_ | intro _g _hg | refine AD ?_ ?_ | intro _hc) | omega)
          all_goals first | exact A5 _ | omega
  ·rw [if_neg (fun h => hoo h.2)]
   simp only [Option.getD_none, Option.isSome_none]
   rw [AF, AR, AR, AF]
   generalize AR pp = ep at *
   generalize v.map aI = va at *
   generalize v'.map aI = vb at *
   
   refine A7 Tryz.func90 Em rfl fun n H hH => ?_
   repeat' (first | (simp -implicitDefEqProofs [BI, BE, BD, BL, BF, BO, BK, c90, -getElem?_pos, hoo, splice]) | (simp (disch := omega) only [AA]) | (with_reducible first | refine A6 ?_ ?_ ?_ | exact AC | refine SameB.upd ?_ ?_ _ | assumption | refine A0 ?_ | refine KM.of ?_ | refine AB ?_ | refine A1 ?_ | refine A4 ?_ | intro _g _hg | refine AD ?_ ?_ | intro _hc) | omega)
   all_goals first | exact A5 _ | omega
 ·rw [if_neg (fun h => hk h.1)]
  simp only [Option.getD_none, Option.isSome_none]
  rw [AF, AR, AR, AF]
  generalize AR pp = ep at *
  generalize v.map aI = va at *
  generalize v'.map aI = vb at *
  
  refine A7 Tryz.func90 Em rfl fun n H hH => ?_
  repeat' (first | (simp -implicitDefEqProofs [BI, BE, BD, BL, BF, BO, BK, c90, -getElem?_pos, hk, splice]) | (simp (disch := omega) only [AA]) | (with_reducible first | refine A6 ?_ ?_ ?_ | exact AC | refine SameB.upd ?_ ?_ _ | assumption | refine A0 ?_ | refine KM.of ?_ | refine AB ?_ | refine A1 ?_ | refine A4 ?_ | intro _g _hg | refine AD ?_ ?_ | intro _hc) | omega)
  all_goals first | exact A5 _ | omega
theorem Yr (s : St) : APure Tryz.prog 130 [encS s] (.bool (decide (s.k = 13))) := by
 obtain ⟨k, o, m, v, p⟩ := s
 rw [AF]
 generalize AR p = ep at *
 generalize v.map aI = va at *
 by_cases hk : k = 13
 ·rw [decide_eq_true (by exact hk)]
  
  refine A7 Tryz.func130 Wk rfl fun n H hH => ?_
  repeat' (first | (simp -implicitDefEqProofs [c130, -getElem?_pos, hk, splice]) | (simp (disch := omega) only [AA]) | (with_reducible first | refine A6 ?_ ?_ ?_ | exact AC | refine SameB.upd ?_ ?_ _ | assumption | refine A0 ?_ | refine KM.of ?_ | refine AB ?_ | refine A1 ?_ | refine A4 ?_ | intro _g _hg | refine AD ?_ ?_ | intro _hc) | omega)
  all_goals exact A5 _
 ·rw [decide_eq_false (by exact hk)]
  
  refine A7 Tryz.func130 Wk rfl fun n H hH => ?_
  repeat' (first | (simp -implicitDefEqProofs [c130, -getElem?_pos, hk, splice]) | (simp (disch := omega) only [AA]) | (with_reducible first | refine A6 ?_ ?_ ?_ | exact AC | refine SameB.upd ?_ ?_ _ | assumption | refine A0 ?_ | refine KM.of ?_ | refine AB ?_ | refine A1 ?_ | refine A4 ?_ | intro _g _hg | refine AD ?_ ?_ | intro _hc) | omega)
  all_goals first | exact A5 _ | (have hk' : ¬ k = 13 := hk; simp [AM, hk'])
theorem Ch {d : Option Nat} {K : AS → Prop} {en : AT} {n : Nat} {H : A3} {xs a b : List AV} {f : Nat} (hc : Ae Tryz.prog f = true) : AH Tryz.prog d K en n H xs (.fn f a b) = CallK Tryz.prog f (a ++ xs ++ b) d K ⟨en, n, H⟩ := propext ⟨fun h => h.2, fun h => ⟨hc, h⟩⟩
theorem LV : Ae Tryz.prog 130 = true := by kernel_rfl
def Z8 : List St → Int → Int
 | [], _ => -1
 | s :: r, i => if s.k = 13 then i else Z8 r (i + 1)
theorem UW : ∀ (p : List St) (i : Int), 0 ≤ i → (decide (0 ≤ Z8 p i) = p.any fun q => decide (q.k = 13))
 | [], i, _ => rfl
 | s :: r, i, hi => by
  simp only [Z8, List.any_cons]
  split
  ·rename_i h; simp [h, hi]
  ·rename_i h; rw [UW r (i + 1) (by omega)]; simp [h]
theorem ZI (p : List St) (hl : p.length ≤ 140737488355328) : APure Tryz.prog 146 [.sl 5 (AR p) .ro, .fn 130 [] []] (aI (Z8 p 0)) := by
 have hpl := Ai p
 
 refine A7 Tryz.func146 A0s rfl fun n H hH => ?_
 repeat' (first | (simp -implicitDefEqProofs [c146, -getElem?_pos, hpl]) | (simp (disch := omega) only [AA]) | (with_reducible first | refine A6 ?_ ?_ ?_ | exact AC | refine SameB.upd ?_ ?_ _ | assumption | refine A0 ?_ | refine KM.of ?_ | refine AB ?_ | intro _g _hg | refine AD ?_ ?_ | intro _hc) | omega)
 refine LoopK.go (fun r st => ∃ j : Nat, j + r = p.length ∧ st = ⟨[(0, .sl 5 (AR p) .ro), (1, .fn 130 [] []), (7, aI p.length), (8, aI j)], n, H⟩ ∧ Z8 p 0 = Z8 (p.drop j) j) p.length ⟨0, by omega, rfl, rfl⟩ ?_
 rintro r st ⟨j, hj, rfl, hE⟩ J hJ
 by_cases hjl : j < p.length
 ·obtain ⟨x, hx⟩ : ∃ x, p[j]? = some x := ⟨_, List.getElem?_eq_getElem hjl⟩
  have hxe := DX hx
  have hxf := Ax x
  have hjl' : (j : Int) < p.length := by omega
  have hch := Yr x
  rw [drop_at hx] at hE
  simp only [Z8] at hE
  generalize encS x = ex at *
  generalize AR p = ep at *
  by_cases hk : x.k = 13
  ·rw [if_pos hk] at hE
   rw [decide_eq_true hk] at hch
   rw [hE]
   
   repeat' (first | (simp -implicitDefEqProofs [IR, IG, IZ, IL, c146, -getElem?_pos, hpl, hxe, hxf, hjl', Ch LV, -AH, -AV.fits]) | (simp (disch := omega) only [AA]) | ((with_reducible refine Ap 130 ?_); (refine' CallK.sfAt ?_ (hch.at_ _ _) ?_); (focus first | (with_reducible exact A2 _) | (simp [AQ, AM, A5, A2]; done))) | (with_reducible first | refine A6 ?_ ?_ ?_ | exact AC | refine SameB.upd ?_ ?_ _ | assumption | refine A0 ?_ | refine KM.of ?_ | refine AB ?_ | intro _g _hg | refine AD ?_ ?_ | intro _hc) | omega)
   all_goals exact A5 _
  ·rw [if_neg hk] at hE
   rw [decide_eq_false hk] at hch
   
   repeat' (first | (simp -implicitDefEqProofs [IR, IG, IZ, IL, c146, -getElem?_pos, hpl, hxe, hxf, hjl', Ch LV, -AH, -AV.fits]) | (simp (disch := omega) only [AA]) | ((with_reducible refine Ap 130 ?_); (refine' CallK.sfAt ?_ (hch.at_ _ _) ?_); (focus first | (with_reducible exact A2 _) | (simp [AQ, AM, A5, A2]; done))) | (with_reducible first | refine A6 ?_ ?_ ?_ | exact AC | refine SameB.upd ?_ ?_ _ | assumption | refine A0 ?_ | refine KM.of ?_ | refine AB ?_ | intro _g _hg | refine AD ?_ ?_ | intro _hc) | omega)
   exact hJ (r - 1) _ (by omega) ⟨j + 1, by omega, rfl, by rw [hE]; rfl⟩
 ·have hjl' : ¬ (j : Int) < p.length := by omega
  rw [List.drop_eq_nil_of_le (by omega)] at hE
  rw [hE]
  
  repeat' (first | (simp -implicitDefEqProofs [IR, IG, IZ, IL, c146, -getElem?_pos, hpl, hjl', Z8]) | (simp (disch := omega) only [AA]) | (with_reducible first | refine A6 ?_ ?_ ?_ | exact AC | refine SameB.upd ?_ ?_ _ | assumption | refine A0 ?_ | refine KM.of ?_ | refine AB ?_ | intro _g _hg | refine AD ?_ ?_ | intro _hc) | omega)
  all_goals exact A5 _
theorem LH (p : List St) (hl : p.length ≤ 140737488355328) : APure Tryz.prog 131 [.sl 5 (AR p) .ro, .fn 130 [] []] (.bool (p.any fun q => decide (q.k = 13))) := by
 have h := ZI p hl
 rw [← UW p 0 (by omega)]
 generalize Z8 p 0 = i at *
 generalize AR p = ep at *
 
 refine A7 Tryz.func131 A0c rfl fun n H hH => ?_
 repeat' (first | (simp -implicitDefEqProofs [c131, -getElem?_pos]) | (simp (disch := omega) only [AA]) | ((with_reducible refine Aa 146 ?_); (refine' CallP.sf ?_ (h) ?_); (focus first | (with_reducible exact A2 _) | (simp [AQ, AM, A5, A2]; done))) | (with_reducible first | refine A6 ?_ ?_ ?_ | exact AC | refine SameB.upd ?_ ?_ _ | assumption | refine A0 ?_ | refine KM.of ?_ | refine AB ?_ | intro _g _hg | refine AD ?_ ?_ | intro _hc) | omega)
 all_goals exact A5 _
section
variable {P : Program} {n0 n : Nat} {H0 H : A3} {bs : List (Nat × AObj)} {os : List OwnR} {el sz by_ : Nat} {d : Option Nat} {e : AT} {K : AS → Prop} {x : AV} {l m m' : List AV} {t : Tok}
theorem Owns.appV (h : Owns n0 H0 bs (⟨el, sz, x, l⟩ :: os) n H) (hs : AQ m m') (hl : l.length + m.length ≤ 1000000) (hby : by_ ≤ 100)
  (hk : ∀ z' t' n' H', n ≤ n' → Owns n0 H0 bs (⟨el, sz, .sl z' (l ++ m') t', l ++ m'⟩ :: os) n' H' → K ⟨AN e d (.sl z' (l ++ m') t'), n', H'⟩) : appKS el sz by_ d K ⟨e, n, H⟩ x (.sl sz m t) := by
 refine h.app (.inl rfl) hs (Nat.le_trans (Nat.mul_le_mul hl hby) (by decide)) (Nat.le_trans hl (by simp [maxLen])) fun x' n' H' hle hO _ => ?_
 obtain ⟨z', t', h1, _⟩ := hO.len0
 dsimp only at h1
 subst h1
 exact hk _ _ n' H' hle hO
end
theorem SP (a b : List St) : AR (a ++ b) = AR a ++ AR b := by simp [FB]
theorem Vp {p : List St} {j : Nat} {x : St} (h : p[j]? = some x) : AR (Co (p.take (j + 1))) = AR (Co (p.take j)) ++ (if x.k = 13 then AR x.p else [encS x]) := by
 have e : p.take (j + 1) = p.take j ++ [x] := by rw [List.take_add_one, h]; rfl
 have e2 : ∀ a b : List St, Co (a ++ b) = Co a ++ Co b := fun a b => by simp [Co]
 rw [e, e2, SP]
 congr 1
 simp only [Co, List.flatMap_cons, List.flatMap_nil, List.append_nil]
 split <;> rfl
theorem Wx (k o m : Int) (v : List Int) (p : List St) (hl : p.length ≤ 140737488355328) (h : ¬ (k = 13 ∧ (p.any fun q => decide (q.k = 13)) = true)) : APure Tryz.prog 91 [encS (.mk k o m v p)] (.tup [encS (.mk k o m v p), .bool false]) := by
 have hc := LH p hl
 have hch := Yr (.mk k o m v p)
 generalize (p.any fun q => decide (q.k = 13)) = b at *
 rw [AF] at *
 generalize AR p = ep at *
 generalize v.map aI = va at *
 by_cases hk : k = 13
 ·have hb : b = false := by cases b; rfl; exact absurd ⟨hk, rfl⟩ h
  subst hb
  rw [decide_eq_true (by exact hk)] at hch
  
  refine A7 Tryz.func91 YF rfl fun n H hH => ?_
  repeat' (first | (simp -implicitDefEqProofs [KB, Ha, Ho, GB, KA, c91, -getElem?_pos, Ch LV, -AH, splice]) | (simp (disch := omega) only [AA]) | ((with_reducible refine Ap 130 ?_); (refine' CallK.sfAt ?_ (hch.at_ _ _) ?_); (focus first | (with_reducible exact A2 _) | (simp [AQ, AM, A5, A2]; done))) | ((with_reducible refine Aa 131 ?_); (refine' CallP.sf ?_ (hc) ?_); (focus first | (with_reducible exact A2 _) | (simp [AQ, AM, A5, A2]; done))) | (with_reducible first | refine A6 ?_ ?_ ?_ | exact AC | refine SameB.upd ?_ ?_ _ | assumption | refine A0 ?_ | refine KM.of ?_ | refine AB ?_ | refine A1 ?_ | refine AE ?_ | refine A4 ?_ | refine AJ ?_ | refine AG ?_ | intro _g _hg | refine AD ?_ ?_ | intro _hc) | omega)
  all_goals exact A5 _
 ·rw [decide_eq_false (by exact hk)] at hch
  
  refine A7 Tryz.func91 YF rfl fun n H hH => ?_
  repeat' (first | (simp -implicitDefEqProofs [KB, Ha, Ho, GB, KA, c91, -getElem?_pos, Ch LV, -AH, splice]) | (simp (disch := omega) only [AA]) | ((with_reducible refine Ap 130 ?_); (refine' CallK.sfAt ?_ (hch.at_ _ _) ?_); (focus first | (with_reducible exact A2 _) | (simp [AQ, AM, A5, A2]; done))) | ((with_reducible refine Aa 131 ?_); (refine' CallP.sf ?_ (hc) ?_); (focus first | (with_reducible exact A2 _) | (simp [AQ, AM, A5, A2]; done))) | (with_reducible first | refine A6 ?_ ?_ ?_ | exact AC | refine SameB.upd ?_ ?_ _ | assumption | refine A0 ?_ | refine KM.of ?_ | refine AB ?_ | refine A1 ?_ | refine AE ?_ | refine A4 ?_ | refine AJ ?_ | refine AG ?_ | intro _g _hg | refine AD ?_ ?_ | intro _hc) | omega)
  all_goals exact A5 _
theorem We (o m : Int) (v : List Int) (p : List St) (hl : p.length ≤ 1000) (hsz : ∀ j, (AR (Co (p.take j))).length ≤ 1000) (hpp : ∀ x ∈ p, x.p.length ≤ 1000) (h : (p.any fun q => decide (q.k = 13)) = true) : APure Tryz.prog 91 [encS (.mk 13 o m v p)] (.tup [encS (.mk 13 o m v (Co p)), .bool true]) := by
 have hc := LH p (by omega)
 have hch := Yr (.mk 13 o m v p)
 have hpl := Ai p
 rw [h] at hc
 rw [decide_eq_true (by rfl)] at hch
 rw [AF, AF] at *
 generalize v.map aI = va at *
 refine A7 Tryz.func91 YF rfl fun n H hH => ?_
 have _hb : True := trivial
 have _hO : Owns n H [] [⟨25, 5, .sl 0 [] .nil, []⟩] n H := (Owns.start hH).addNil _ _ _
 repeat' (first | (simp -implicitDefEqProofs [c91, KA, -getElem?_pos, Ch LV, -AH, hpl, splice, _hb]) | (simp (disch := omega) only [AA]) | ((with_reducible refine Ap 130 ?_); (refine' CallK.sfAt ?_ (hch.at_ _ _) ?_); (focus first | (with_reducible exact A2 _) | (exact Owns.simC0 (by assumption)) | (exact Owns.simC1 (by assumption)) | (simp [AQ, AM, A5, A2]; done))) | ((with_reducible refine Aa 131 ?_); (refine' CallP.sf ?_ (hc) ?_); (focus first | (with_reducible exact A2 _) | (exact Owns.simC0 (by assumption)) | (exact Owns.simC1 (by assumption)) | (simp [AQ, AM, A5, A2]; done))) | (with_reducible first | refine A6 ?_ ?_ ?_ | exact AC | refine SameB.upd ?_ ?_ _ | assumption | refine A1 ?_ | refine AE ?_) | ((with_reducible refine JH (by assumption) (fun _g _hg _hO => ?_)); (have _hb := And.intro _hb _hO.boxF); dsimp only [Ix, FX, J1] at _hb) | ((with_reducible refine Ik (by assumption) (fun _g _hg _hO => ?_))) | ((with_reducible refine appKS.chk ?_); first | ((refine Owns.app (by assumption) (.inl rfl) (by first | (exact Owns.simL0 (by assumption)) | (exact Owns.simL1 (by assumption)) | (with_reducible exact A2 _) | assumption | (simp [AQ, AM, A5, A2]; done)) ?_ ?_ (fun _x _n _H _hle _hO _hb => ?_)); rotate_left 2; dsimp only [Ix, FX, J1] at _hb) | ((refine Owns.app1 (by assumption) (.inl rfl) (by first | (exact Owns.simL0 (by assumption)) | (exact Owns.simL1 (by assumption)) | (with_reducible exact A2 _) | assumption | (simp [AQ, AM, A5, A2]; done)) ?_ ?_ (fun _x _n _H _hle _hO _hb => ?_)); rotate_left 2; dsimp only [Ix, FX, J1] at _hb)) | (first | (with_reducible exact Owns.fit0 (by assumption)) | (with_reducible exact Owns.fit1 (by assumption))) | (with_reducible first | exact Owns.le (by assumption) | exact Owns.same (by assumption) | refine A0 ?_ | refine KM.of ?_ | refine AB ?_ | refine A1 ?_ | refine AE ?_ | refine A4 ?_ | refine AJ ?_ | refine AG ?_ | intro _g _hg | refine AD ?_ ?_ | intro _hc) | omega)
 rename_i g1 hg1 hO1 hb1
 have hgg : ∀ b ∈ [(g1, AObj.cells 25 [aI 13, aI o, aI m, .sl 1 va .ro, .sl 5 (AR p) .ro])], b.1 ≠ _g := by intro b hb; rw [List.mem_singleton] at hb; subst hb; show g1 ≠ _g; omega
 clear hb1
 refine LoopK.go (fun q st => ∃ (j z n' : Nat) (t : Tok) (H' : A3), j + q = p.length ∧ st = ⟨[(1, .ptr g1 0), (2, .ptr _g 0), (4, .fn 130 [] []), (5, .sl z (AR (Co (p.take j))) t), (21, .sl 5 (AR p) .ro), (22, aI p.length), (23, aI j)], n', H'⟩ ∧
  Owns n H [(_g, .cells 25 [.int .i64 0, .int .i64 0, .int .i64 0, .sl 0 [] .nil, .sl 0 [] .nil]), (g1, .cells 25 [aI 13, aI o, aI m, .sl 1 va .ro, .sl 5 (AR p) .ro])] [⟨25, 5, .sl z (AR (Co (p.take j))) t, AR (Co (p.take j))⟩] n' H') p.length ⟨0, 0, _, .nil, _, by omega, rfl, _hO⟩ ?_
 clear _hO _hb hO1
 rintro q st ⟨j, z, n1, t, H1, hj, rfl, _hO⟩ J hJ
 have _hb := Owns.boxF _hO
 dsimp only [Ix, FX, J1] at _hb
 have hle := _hO.le
 by_cases hjl : j < p.length
 ·obtain ⟨x, hx⟩ : ∃ x, p[j]? = some x := ⟨_, List.getElem?_eq_getElem hjl⟩
  have hxe := DX hx
  have hjl' : (j : Int) < p.length := by omega
  have hxm := hpp x (List.mem_of_getElem? hx)
  have hstep := Vp hx
  have hs0 := hsz j
  have hs1 := hsz (j + 1)
  have hcx := Yr x
  obtain ⟨k', o', m', v', p'⟩ := x
  have hxpl := Ai p'
  simp only [St.p] at hxm
  by_cases hk : k' = 13
  ·subst hk
   rw [decide_eq_true (by rfl)] at hcx
   have hst : AR (Co (p.take (j + 1))) = AR (Co (p.take j)) ++ AR p' := hstep
   clear hstep
   rw [hst] at hs1
   rw [AF] at *
   generalize AR (Co (p.take j)) = fj at *
   generalize AR p' = ep' at *
   generalize v'.map aI = vb at *
   
   repeat' (first | (simp -implicitDefEqProofs [GB, Ho, Ha, -getElem?_pos, Ch LV, -AH, hxe, hjl', splice, _hb]) | (simp (disch := omega) only [AA]) | ((with_reducible refine appKS.chk ?_); refine Owns.appV (Owns.set0 (by assumption) (by simp; omega) _ _) (A2 _) (by rw [List.length_append] at hs1; omega) (by decide) (fun _z _t _n _H _hle _hO => ?_); have _hb := Owns.boxF _hO; dsimp only [Ix, FX, J1] at _hb) | ((with_reducible refine Ap 130 ?_); (refine' CallK.sfAt ?_ (hcx.at_ _ _) ?_); (focus first | (with_reducible exact A2 _) | (exact Owns.simC0 (by assumption)) | (exact Owns.simC1 (by assumption)) | (simp [AQ, AM, A5, A2]; done))) | (with_reducible first | refine A6 ?_ ?_ ?_ | exact AC | refine SameB.upd ?_ ?_ _ | assumption | refine A1 ?_ | refine AE ?_) | ((with_reducible refine JH (by assumption) (fun _g _hg _hO => ?_)); (have _hb := And.intro _hb _hO.boxF); dsimp only [Ix, FX, J1] at _hb) | ((with_reducible refine Ik (by assumption) (fun _g _hg _hO => ?_))) | (first | (with_reducible exact Owns.fit0 (by assumption)) | (with_reducible exact Owns.fit1 (by assumption))) | (with_reducible first | exact Owns.le (by assumption) | exact Owns.same (by assumption) | refine A0 ?_ | refine KM.of ?_ | refine AB ?_ | refine A1 ?_ | refine AE ?_ | refine A4 ?_ | refine AJ ?_ | refine AG ?_ | intro _g _hg | refine AD ?_ ?_ | intro _hc) | omega)
   exact hJ (q - 1) _ (by omega) ⟨j + 1, _, _, _, _, by omega, by rw [hst] <;> rfl, by rw [hst]; exact _hO.dropBox⟩
  ·rw [decide_eq_false (by exact hk)] at hcx
   rw [if_neg (by exact hk)] at hstep
   rw [hstep] at hs1
   rw [AF] at *
   generalize AR (Co (p.take j)) = fj at *
   generalize AR p' = ep' at *
   generalize v'.map aI = vb at *
   
   repeat' (first | (simp -implicitDefEqProofs [GB, Ho, Ha, -getElem?_pos, Ch LV, -AH, hxe, hjl', splice, _hb]) | (simp (disch := omega) only [AA]) | ((with_reducible refine appKS.chk ?_); refine Owns.appV (by assumption) (A2 _) (by simp at hs1 ⊢; omega) (by decide) (fun _z _t _n _H _hle _hO => ?_); have _hb := Owns.boxF _hO; dsimp only [Ix, FX, J1] at _hb) | ((with_reducible refine Ap 130 ?_); (refine' CallK.sfAt ?_ (hcx.at_ _ _) ?_); (focus first | (with_reducible exact A2 _) | (exact Owns.simC0 (by assumption)) | (exact Owns.simC1 (by assumption)) | (simp [AQ, AM, A5, A2]; done))) | (with_reducible first | refine A6 ?_ ?_ ?_ | exact AC | refine SameB.upd ?_ ?_ _ | assumption | refine A1 ?_ | refine AE ?_) | ((with_reducible refine JH (by first | assumption | (exact Owns.set0 (by assumption) (by simp <;> omega) _ _) | (exact Owns.set1 (by assumption) (by simp <;> omega) (by simp <;> omega) _ _)) (fun _g _hg _hO => ?_)); (have _hb := And.intro _hb _hO.boxF); dsimp only [Ix, FX, J1] at _hb) | ((with_reducible refine Ik (by first | assumption | (exact Owns.set0 (by assumption) (by simp <;> omega) _ _) | (exact Owns.set1 (by assumption) (by simp <;> omega) (by simp <;> omega) _ _)) (fun _g _hg _hO => ?_))) | (first | (with_reducible exact Owns.fit0 (by assumption)) | (with_reducible exact Owns.fit1 (by assumption))) | (with_reducible first | exact Owns.le (by assumption) | exact Owns.same (by assumption) | refine A0 ?_ | refine KM.of ?_ | refine AB ?_ | refine A1 ?_ | refine AE ?_ | refine A4 ?_ | refine AJ ?_ | refine AG ?_ | intro _g _hg | refine AD ?_ ?_ | intro _hc) | omega)
   exact hJ (q - 1) _ (by omega) ⟨j + 1, _, _, _, _, by omega, by rw [hstep] <;> rfl, by rw [hstep]; exact _hO.dropBox⟩
 ·have hjl' : ¬ (j : Int) < p.length := by omega
  rw [List.take_of_length_le (by omega)] at *
  generalize AR (Co p) = fp at *
  
  have hsim : AM (.sl z fp t) (.sl 5 fp .ro) := _hO.sim0 (A2 _)
  repeat' (first | (simp -implicitDefEqProofs [GB, KB, -getElem?_pos, hjl', splice, _hb]) | (simp (disch := omega) only [AA]) | (with_reducible first | refine A6 ?_ ?_ ?_ | exact AC | refine SameB.upd ?_ ?_ _ | assumption | refine A1 ?_ | refine AE ?_) | ((with_reducible refine JH (by assumption) (fun _g _hg _hO => ?_)); (have _hb := And.intro _hb _hO.boxF); dsimp only [Ix, FX, J1] at _hb) | ((with_reducible refine Ik (by assumption) (fun _g _hg _hO => ?_))) | ((with_reducible refine appKS.chk ?_); first | ((refine Owns.app (by assumption) (.inl rfl) (by first | (exact Owns.simL0 (by assumption)) | (exact Owns.simL1 (by assumption)) | (with_reducible exact A2 _) | assumption | (simp [AQ, AM, A5, A2]; done)) ?_ ?_ (fun _x _n _H _hle _hO _hb => ?_)); rotate_left 2; dsimp only [Ix, FX, J1] at _hb) | ((refine Owns.app1 (by assumption) (.inl rfl) (by first | (exact Owns.simL0 (by assumption)) | (exact Owns.simL1 (by assumption)) | (with_reducible exact A2 _) | assumption | (simp [AQ, AM, A5, A2]; done)) ?_ ?_ (fun _x _n _H _hle _hO _hb => ?_)); rotate_left 2; dsimp only [Ix, FX, J1] at _hb)) | (first | (with_reducible exact Owns.fit0 (by assumption)) | (with_reducible exact Owns.fit1 (by assumption))) | (with_reducible first | exact Owns.le (by assumption) | exact Owns.same (by assumption) | refine A0 ?_ | refine KM.of ?_ | refine AB ?_ | refine A1 ?_ | refine AE ?_ | refine A4 ?_ | refine AJ ?_ | refine AG ?_ | intro _g _hg | refine AD ?_ ?_ | intro _hc) | omega)
  all_goals exact S4 (Aj (JL (Aj (A5 _) (Aj (A5 _) (Aj (A5 _) (Aj (A5 _) (Aj hsim (A2 _))))))) (A2 _))
mutual
def MtS (H : A3) : St → AV → List Nat → Prop
 | .mk k o n v p, x, bs => (p = [] ∧ bs = [] ∧ x = .agg [aI k, aI o, aI n, R5 v, .sl 5 [] .ro]) ∨
  ∃ g xs bs', p ≠ [] ∧ bs = g :: bs' ∧ x = .agg [aI k, aI o, aI n, R5 v, .slg 5 g p.length] ∧ H g = some (.grow 25 (AO xs)) ∧ MtP H p xs bs'
def MtP (H : A3) : List St → List AV → List Nat → Prop
 | [], xs, bs => xs = [] ∧ bs = []
 | s :: r, xs, bs => ∃ x xs' b c, xs = x :: xs' ∧ bs = b ++ c ∧ MtS H s x b ∧ MtP H r xs' c
end
mutual
theorem MtS.keep {H H' : A3} : ∀ {s : St} {x : AV} {bs : List Nat}, (∀ g ∈ bs, H' g = H g) → MtS H s x bs → MtS H' s x bs
 | .mk k o n v p, x, bs, hk, h => by
  simp only [MtS] at h ⊢
  rcases h with h | ⟨g, xs, bs', h0, rfl, h1, h2, h3⟩
  ·exact .inl h
  ·exact .inr ⟨g, xs, bs', h0, rfl, h1, by rw [hk g List.mem_cons_self]; exact h2, MtP.keep (fun q hq => hk q (List.mem_cons_of_mem _ hq)) h3⟩
theorem MtP.keep {H H' : A3} : ∀ {p : List St} {xs : List AV} {bs : List Nat}, (∀ g ∈ bs, H' g = H g) → MtP H p xs bs → MtP H' p xs bs
 | [], _, _, _, h => by simp only [MtP] at h ⊢; exact h
 | s :: r, _, _, hk, h => by
  simp only [MtP] at h ⊢
  obtain ⟨x, xs', b, c, rfl, rfl, h1, h2⟩ := h
  exact ⟨x, xs', b, c, rfl, rfl, MtS.keep (fun g hg => hk g (List.mem_append_left _ hg)) h1, MtP.keep (fun g hg => hk g (List.mem_append_right _ hg)) h2⟩
end
theorem MtP.app {H : A3} : ∀ {p q : List St} {xs ys : List AV} {b c : List Nat}, MtP H p xs b → MtP H q ys c → MtP H (p ++ q) (xs ++ ys) (b ++ c)
 | [], _, _, _, _, _, h, k => by simp only [MtP] at h; obtain ⟨rfl, rfl⟩ := h; exact k
 | s :: r, _, _, _, _, _, h, k => by
  simp only [MtP] at h
  obtain ⟨x, xs', b, c, rfl, rfl, h1, h2⟩ := h
  exact ⟨x, _, b, _, rfl, by rw [List.append_assoc], h1, MtP.app h2 k⟩
theorem MtP.one {H : A3} {s : St} {x : AV} {b : List Nat} (h : MtS H s x b) : MtP H [s] [x] b := ⟨x, [], b, [], rfl, by simp, h, rfl, rfl⟩
theorem MtP.len {H : A3} : ∀ {p : List St} {xs : List AV} {b : List Nat}, MtP H p xs b → xs.length = p.length
 | [], _, _, h => by simp only [MtP] at h; rw [h.1]; rfl
 | s :: r, _, _, h => by
  simp only [MtP] at h
  obtain ⟨x, xs', b, c, rfl, rfl, h1, h2⟩ := h
  simp [MtP.len h2]
theorem MtS.cells {H : A3} {s : St} {x : AV} {b : List Nat} (h : MtS H s x b) : ∃ a1 a2 a3 a4 a5, x = .agg [a1, a2, a3, a4, a5] ∧ ones [a1, a2, a3, a4, a5] := by
 obtain ⟨k, o, n, v, p⟩ := s
 simp only [MtS] at h
 rcases h with ⟨_, _, rfl⟩ | ⟨g, xs, bs', h0, rfl, rfl, h2, h3⟩
 ·exact ⟨_, _, _, _, _, rfl, by simp [ones, AV.one]⟩
 ·exact ⟨_, _, _, _, _, rfl, by simp [ones, AV.one]⟩
theorem MtP.flat {H : A3} : ∀ {p : List St} {xs : List AV} {b : List Nat}, MtP H p xs b → (AO xs).length = p.length * 5
 | [], _, _, h => by simp only [MtP] at h; rw [h.1]; rfl
 | s :: r, _, _, h => by
  simp only [MtP] at h
  obtain ⟨x, xs', b, c, rfl, rfl, h1, h2⟩ := h
  obtain ⟨a1, a2, a3, a4, a5, rfl, _⟩ := h1.cells
  have := MtP.flat h2
  simp only [AO, List.flatMap_cons, List.length_append, AV.cells, List.length_cons, List.length_nil] at this ⊢
  rw [this]; omega
mutual
def VD : St → Prop
 | .mk _ _ _ v p => v.length ≤ 1000000 ∧ p.length ≤ 1000 ∧ ZE p
def ZE : List St → Prop
 | [] => True
 | s :: r => VD s ∧ ZE r
end
theorem SG : ∀ {p : List St}, ZE p → ∀ s ∈ p, VD s
 | [], _, s, h => by cases h
 | x :: r, h, s, hs => by
  rcases List.mem_cons.1 hs with e | hs
  ·rw [e]; exact h.1
  ·exact SG h.2 s hs
abbrev TL (s : St) (n : Nat) (H : A3) : CJ := fun r n' H' => SameB n H H' ∧ ∃ bs, MtS H' s r bs ∧ bs.Nodup ∧ ∀ g ∈ bs, n ≤ g ∧ g < n'
theorem Xi {l : List AV} {n n' e : Nat} {H H' : A3} {r : AV} (h : LI e l n H r n' H') : SameB n H H' ∧ ∃ z t, r = .sl z l t ∧ AM r (.sl 1 l .ro) := by
 refine ⟨h.1, ?_⟩
 rcases h.2 with ⟨rfl, rfl⟩ | ⟨g, _, _, rfl, _⟩
 ·exact ⟨_, _, rfl, J9⟩
 ·exact ⟨_, _, rfl, 1, l, .ro, rfl, .inl rfl, .inl rfl, A2 l⟩
theorem MtS.form {H : A3} {k o n : Int} {v : List Int} {p : List St} {x : AV} {b : List Nat} (h : MtS H (.mk k o n v p) x b) : ∃ a, x = .agg [aI k, aI o, aI n, R5 v, a] ∧ a.one = true := by
 simp only [MtS] at h
 rcases h with ⟨_, _, rfl⟩ | ⟨g, xs, bs', h0, rfl, rfl, h2, h3⟩ <;> exact ⟨_, rfl, rfl⟩
theorem Yv (s : St) : VD s → ∀ (n : Nat) (H : A3), ACalls Tryz.prog 66 [encS s] n H (TL s n H) := by
 refine St.ind (Q := fun s => VD s → ∀ (n : Nat) (H : A3), ACalls Tryz.prog 66 [encS s] n H (TL s n H)) ?_ s
 intro k o m v p ih hf n H
 have hpl := Ai p
 obtain ⟨hv, hp, hpp⟩ := hf
 generalize hR : TL (.mk k o m v p) n H = R
 rw [AF]
 refine A8 Tryz.func66 A1w rfl fun hs => ?_
 repeat' (first | (simp -implicitDefEqProofs [c66, -getElem?_pos, hpl, splice]) | (simp (disch := omega) only [AA]) | (with_reducible first | refine A6 ?_ ?_ ?_ | exact AC | assumption | refine A0 ?_ | refine KM.of ?_ | refine AB ?_ | refine A1 ?_ | refine AE ?_ | refine A4 ?_ | refine AJ ?_ | refine AG ?_ | intro _g _hg | refine AD ?_ ?_ | intro _hc) | omega)
 rename_i g1 hg1
 rename Nat => g2
 refine ⟨_, Rc (v.map aI) _ _ (by simp; omega), ?_⟩
 rintro r n1 H1 hle hsup hpost
 obtain ⟨hsm, z, t, rfl, hsim⟩ := Xi hpost
 clear hpost
 dsimp only at hsm hle
 have q1 : H1 g1 = some (.cells 25 [aI k, aI o, aI m, R5 v, .sl 5 (AR p) .ro]) := by rw [hsm g1 (by omega)]; simp (disch := omega) only [upd_ne, AX]
 have q2 : H1 g2 = some (.cells 25 [.int .i64 0, .int .i64 0, .int .i64 0, .sl 0 [] .nil, .sl 0 [] .nil]) := by rw [hsm g2 (by omega)]; simp (disch := omega) only [upd_ne, AX]
 have hsb : SameB n H H1 := fun q hq => by rw [hsm q (by omega)]; simp (disch := omega) only [upd_ne]
 clear hsm
 have hng : g2 ≠ g1 := by omega
 unfold R5 at *
 generalize hva : v.map aI = va at *
 
 repeat' (first | (simp -implicitDefEqProofs [-getElem?_pos, q1, q2, hpl, splice]) | (simp (disch := omega) only [AA]) | (with_reducible first | refine A6 ?_ ?_ ?_ | exact AC | assumption | refine A0 ?_ | refine KM.of ?_ | refine AB ?_ | refine A1 ?_ | refine AE ?_ | refine A4 ?_ | refine AJ ?_ | refine AG ?_ | intro _g _hg | refine AD ?_ ?_ | intro _hc) | omega)
 generalize hHb : upd H1 g1 _ = Hb
 have r1 : Hb g1 = some (.cells 25 [aI k, aI o, aI m, .sl z va t, .sl 5 (AR p) .ro]) := by rw [← hHb, AX]
 have r2 : Hb g2 = some (.cells 25 [.int .i64 0, .int .i64 0, .int .i64 0, .sl 0 [] .nil, .sl 0 [] .nil]) := by rw [← hHb, upd_ne hng]; exact q2
 have rs : SameB n H Hb := fun q hq => by rw [← hHb, upd_ne (by omega)]; exact hsb q hq
 have rv : ∀ a, n1 ≤ a → Hb a = none := fun a ha => by rw [← hHb, upd_ne (by omega)]; exact hsup a ha
 clear hHb q1 q2 hsb
 refine LoopK.go (fun q st => ∃ (j n' : Nat) (out : AV) (H' : A3) (xs : List AV) (bs : List Nat), j + q = p.length ∧ st = ⟨[(1, .ptr g1 0), (2, .ptr g2 0), (3, out), (11, .sl 5 (AR p) .ro), (12, aI p.length), (13, aI j)], n', H'⟩ ∧
  ((j = 0 ∧ out = .sl 0 [] .nil ∧ bs = [] ∧ xs = []) ∨ ∃ g bs', 0 < j ∧ bs = g :: bs' ∧ out = .slg 5 g j ∧ H' g = some (.grow 25 (AO xs)) ∧ MtP H' (p.take j) xs bs') ∧ n1 ≤ n' ∧ (∀ g ∈ bs, n1 ≤ g ∧ g < n') ∧ bs.Nodup ∧ SameB n1 Hb H' ∧ ∀ a, n' ≤ a → H' a = none) p.length ⟨0, n1, _, Hb, [], [], by omega, rfl, .inl ⟨rfl, rfl, rfl, rfl⟩, Nat.le_refl _, by simp, List.nodup_nil, SameB.rfl_ _ _, rv⟩ ?_
 rintro q st ⟨j, n2, out, H2, xs, bs, hj, rfl, hI, hn2, hbs, hnd, hsm, hvn⟩ J hJ
 have u1 := (hsm g1 (by omega)).trans r1
 have u2 := (hsm g2 (by omega)).trans r2
 by_cases hjl : j < p.length
 ·obtain ⟨x, hx⟩ : ∃ x, p[j]? = some x := ⟨_, List.getElem?_eq_getElem hjl⟩
  have hxe := DX hx
  have hjl' : (j : Int) < p.length := by omega
  have hxm := List.mem_of_getElem? hx
  have ihx := ih x hxm (SG hpp x hxm)
  have htk : p.take (j + 1) = p.take j ++ [x] := by rw [List.take_add_one, hx]; rfl
  obtain ⟨k', o', m', v', p'⟩ := x
  rw [AF] at hxe ihx
  
  repeat' (first | (simp -implicitDefEqProofs [Ju, Vq, -getElem?_pos, u1, u2, hjl', hxe, splice]) | (simp (disch := omega) only [AA]) | (with_reducible first | refine A6 ?_ ?_ ?_ | exact AC | assumption | refine A0 ?_ | refine KM.of ?_ | refine AB ?_ | refine A1 ?_ | refine AE ?_ | refine A4 ?_ | refine AJ ?_ | refine AG ?_ | intro _g _hg | refine AD ?_ ?_ | intro _hc) | omega)
  rename Nat => g5
  refine ⟨_, ihx _ _, ?_⟩
  rintro r n3 H3 hle3 hsup3 ⟨hs3, b2, m2, nd2, rg2⟩
  obtain ⟨a5, rfl, ha5⟩ := m2.form
  dsimp only at hs3 hle3 rg2
  have hs3' : ∀ q, q < n2 → H3 q = H2 q := fun q hq => by rw [hs3 q (by omega)]; simp (disch := omega) only [upd_ne]
  clear hs3
  repeat' (first | (simp -implicitDefEqProofs [-getElem?_pos, ha5, splice]) | (simp (disch := omega) only [AA]) | (with_reducible first | refine A6 ?_ ?_ ?_ | exact AC | assumption | refine A0 ?_ | refine KM.of ?_ | refine AB ?_ | refine A1 ?_ | refine AE ?_ | refine A4 ?_ | refine AJ ?_ | refine AG ?_ | intro _g _hg | refine AD ?_ ?_ | intro _hc) | omega)
  ·exact ha5
  rename Nat => g9
  rcases hI with ⟨rfl, rfl, rfl, rfl⟩ | ⟨g0, bs', hj0, rfl, rfl, hg0, hP⟩
  ·refine Jw (.inl rfl) (A2 _) (by simp) (by simp) (by simp [maxLen]) (fun g hg => ?_)
   
   repeat' (first | (simp -implicitDefEqProofs [N2, -getElem?_pos]) | (simp (disch := omega) only [AA]) | (with_reducible first | refine A6 ?_ ?_ ?_ | exact AC | assumption | refine A0 ?_ | refine KM.of ?_ | refine AB ?_ | refine A1 ?_ | refine AE ?_ | refine A4 ?_ | refine AJ ?_ | refine AG ?_ | intro _g _hg | refine AD ?_ ?_ | intro _hc) | omega)
   refine hJ (q - 1) _ (by omega) ⟨1, _, _, _, [.agg [aI k', aI o', aI m', R5 v', a5]], g :: b2, by omega, rfl, .inr ⟨g, b2, by omega, rfl, rfl, by rw [AX]; rfl, ?_⟩, by omega, ?_, ?_, ?_, fun a ha => by simp (disch := omega) only [upd_ne]; exact hsup3 a (by omega)⟩
   ·rw [htk]
    refine MtP.one (m2.keep fun q hq => ?_)
    have := rg2 q hq
    simp (disch := omega) only [upd_ne]
   ·intro q hq
    rcases List.mem_cons.1 hq with rfl | hq
    ·omega
    ·have := rg2 q hq; omega
   ·refine List.nodup_cons.2 ⟨fun hq => ?_, nd2⟩
    have := rg2 g hq; omega
   ·intro q hq
    simp (disch := omega) only [upd_ne]
    rw [hs3' q (by omega)]; exact hsm q hq
  ·have hg0b := hbs g0 List.mem_cons_self
   have hnd' := List.nodup_cons.1 hnd
   have hfl := hP.flat
   have hxl := hP.len
   have htl : (p.take j).length = j := by simp; omega
   refine Jj (cs := AO xs) (.inl rfl) (A2 _) (by rw [upd_ne (by omega), hs3' g0 (by omega)]; exact hg0) (by rw [hfl, htl]) (by simp; omega) (by simp [maxLen]; omega) (fun g n4 hg hn4 hl => ?_)
   
   repeat' (first | (simp -implicitDefEqProofs [N2, -getElem?_pos]) | (simp (disch := omega) only [AA]) | (with_reducible first | refine A6 ?_ ?_ ?_ | exact AC | assumption | refine A0 ?_ | refine KM.of ?_ | refine AB ?_ | refine A1 ?_ | refine AE ?_ | refine A4 ?_ | refine AJ ?_ | refine AG ?_ | intro _g _hg | refine AD ?_ ?_ | intro _hc) | omega)
   have hnew : ∀ q, q < n3 → q ≠ g0 → upd (upd (upd H3 g9 (some (.row 25 1))) g0 none) g (some (.grow 25 (AO xs ++ AO [.agg [aI k', aI o', aI m', R5 v', a5]]))) q = H3 q := fun q hq hne => by
    have : q ≠ g := by rcases hg with rfl | hg; exact hne; omega
    rw [upd_ne this, upd_ne hne, upd_ne (by omega)]
   have hfa : AO (xs ++ [.agg [aI k', aI o', aI m', R5 v', a5]]) = AO xs ++ AO [.agg [aI k', aI o', aI m', R5 v', a5]] := by simp [AO]
   refine hJ (q - 1) _ (by omega) ⟨j + 1, _, _, _, xs ++ [.agg [aI k', aI o', aI m', R5 v', a5]], g :: (bs' ++ b2), by omega, rfl, .inr ⟨g, bs' ++ b2, by omega, rfl, rfl, by rw [AX, hfa]; rfl, ?_⟩, ?_, ?_, ?_, ?_, fun a ha => by rw [upd_ne (by omega), upd_ne (by omega), upd_ne (by omega)]; exact hsup3 a (by omega)⟩
   ·rw [htk]
    refine (hP.keep fun q hq => ?_).app (MtP.one (m2.keep fun q hq => ?_))
    ·have h1 := hbs q (List.mem_cons_of_mem _ hq)
     exact (hnew q (by omega) (fun e => by subst e; exact hnd'.1 hq)).trans (hs3' q (by omega))
    ·have h1 := rg2 q hq
     exact hnew q (by omega) (by omega)
   ·omega
   ·intro q hq
    rcases List.mem_cons.1 hq with rfl | hq
    ·rcases hg with rfl | hg <;> omega
    ·rcases List.mem_append.1 hq with hq | hq
     ·have := hbs q (List.mem_cons_of_mem _ hq); omega
     ·have := rg2 q hq; omega
   ·refine List.nodup_cons.2 ⟨fun hq => ?_, List.nodup_append.2 ⟨hnd'.2, nd2, fun a ha b hb => ?_⟩⟩
    ·rcases List.mem_append.1 hq with hq | hq
     ·rcases hg with rfl | hg
      ·exact hnd'.1 hq
      ·have := hbs g (List.mem_cons_of_mem _ hq); omega
     ·have := rg2 g hq
      rcases hg with rfl | hg <;> omega
    ·have h1 := hbs a (List.mem_cons_of_mem _ ha)
     have h2 := rg2 b hb
     omega
   ·intro q hq
    exact (hnew q (by omega) (by omega)).trans ((hs3' q (by omega)).trans (hsm q hq))
 ·have hjl' : ¬ (j : Int) < p.length := by omega
  have hjp : j = p.length := by omega
  rw [List.take_of_length_le (by omega)] at hI
  have hne : ∀ q ∈ bs, q ≠ g1 ∧ q ≠ g2 := fun q hq => by have := hbs q hq; omega
  have hsim' : AM (.sl z va t) (.sl 1 va .ro) := hsim
  subst hR
  rcases hI with ⟨rfl, rfl, rfl, rfl⟩ | ⟨g0, bs', hj0, rfl, rfl, hg0, hP⟩
  ·have hp0 : p = [] := List.length_eq_zero_iff.1 hjp.symm
   subst hp0
   
   repeat' (first | (simp -implicitDefEqProofs [Ju, N5, -getElem?_pos, u1, u2, hng, splice]) | (simp (disch := omega) only [AA]) | (with_reducible first | refine A6 ?_ ?_ ?_ | exact AC | assumption | refine A0 ?_ | refine KM.of ?_ | refine AB ?_ | refine A1 ?_ | refine AE ?_ | refine A4 ?_ | refine AJ ?_ | refine AG ?_ | intro _g _hg | refine AD ?_ ?_ | intro _hc) | omega)
   refine ⟨.agg [aI k, aI o, aI m, .sl 1 va .ro, .sl 5 [] .ro], n2, _, ⟨.agg [aI k, aI o, aI m, .sl z va t, .sl 0 [] .nil], by simp [Br, CH, Er, BS, get, AX, part], ?_⟩, by omega, Nat.le_refl _, fun a ha => by simp (disch := omega) only [upd_ne]; exact hvn a ha, SameB.rfl_ _ _, fun q hq => ?_, [], .inl ⟨rfl, rfl, by rw [← hva]⟩, List.nodup_nil, by simp⟩
   ·exact JL (Aj (A5 _) (Aj (A5 _) (Aj (A5 _) (Aj hsim' (Aj J9 (A2 _))))))
   ·simp (disch := omega) only [upd_ne]
    exact (hsm q (by omega)).trans (rs q hq)
  ·have hfit : B0 none (.slg 5 g0 j) := by simp [B0, AV.fits, ones, AV.cells, AV.one]
   have hp0 : p ≠ [] := fun e => by rw [e] at hjp; simp at hjp; omega
   
   repeat' (first | (simp -implicitDefEqProofs [Ju, N5, -getElem?_pos, u1, u2, hng, hjl', hfit, splice]) | (simp (disch := omega) only [AA]) | (with_reducible first | refine A6 ?_ ?_ ?_ | exact AC | assumption | refine A0 ?_ | refine KM.of ?_ | refine AB ?_ | refine A1 ?_ | refine AE ?_ | refine A4 ?_ | refine AJ ?_ | refine AG ?_ | intro _g _hg | refine AD ?_ ?_ | intro _hc) | omega)
   have hkp : ∀ q ∈ g0 :: bs', upd (upd H2 g1 (some (.cells 25 [aI k, aI o, aI m, .sl z va t, .slg 5 g0 j]))) g2 (some (.cells 25 [aI k, aI o, aI m, .sl z va t, .slg 5 g0 j])) q = H2 q := fun q hq => by
    have := hne q hq
    rw [upd_ne this.2, upd_ne this.1]
   refine ⟨.agg [aI k, aI o, aI m, .sl 1 va .ro, .slg 5 g0 j], n2, _, ⟨.agg [aI k, aI o, aI m, .sl z va t, .slg 5 g0 j], by simp [Br, CH, Er, BS, get, AX, part], ?_⟩, by omega, Nat.le_refl _, fun a ha => by simp (disch := omega) only [upd_ne]; exact hvn a ha, SameB.rfl_ _ _, fun q hq => ?_, g0 :: bs', .inr ⟨g0, xs, bs', hp0, rfl, by rw [← hva, hjp], (hkp g0 List.mem_cons_self).trans hg0, hP.keep fun q hq => hkp q (List.mem_cons_of_mem _ hq)⟩, hnd, fun q hq => by have := hbs q hq; omega⟩
   ·exact JL (Aj (A5 _) (Aj (A5 _) (Aj (A5 _) (Aj hsim' (Aj (A5 _) (A2 _))))))
   ·simp (disch := omega) only [upd_ne]
    exact (hsm q (by omega)).trans (rs q hq)
theorem QF : ∀ {ys : List AV} {j : Nat} {y : AV}, (∀ y ∈ ys, y.cells.length = 5) → ys[j]? = some y → (AO ys).take (j * 5) = AO (ys.take j) ∧ (AO ys).drop (j * 5) = y.cells ++ AO (ys.drop (j + 1)) ∧ (AO ys).length = ys.length * 5
 | [], _, _, _, h => by simp at h
 | z :: ys, 0, y, hu, h => by
  simp at h; subst h
  refine ⟨by simp [AO], by simp [AO], ?_⟩
  exact HR hu
 | z :: ys, j + 1, y, hu, h => by
  obtain ⟨h1, h2, h3⟩ := QF (ys := ys) (j := j) (fun y hy => hu y (List.mem_cons_of_mem _ hy)) (by simpa using h)
  have hz := hu z List.mem_cons_self
  have e : AO (z :: ys) = z.cells ++ AO ys := rfl
  have e2 : (j + 1) * 5 = z.cells.length + j * 5 := by rw [hz]; omega
  refine ⟨?_, ?_, HR hu⟩
  ·rw [e, e2, List.take_length_add_append, h1]; rfl
  ·rw [e, e2, List.drop_length_add_append, h2]; rfl
theorem VU {ys : List AV} {j : Nat} {y : AV} (hu : ∀ y ∈ ys, y.cells.length = 5) (h : ys[j]? = some y) : part (AO ys) (j * 5) (some 5) = some (.agg y.cells) := by
 obtain ⟨h1, h2, h3⟩ := QF hu h
 have hj := (List.getElem?_eq_some_iff.1 h).1
 have hy := hu y (List.mem_of_getElem? h)
 simp only [part]
 rw [if_pos (by omega), h2, List.take_append_of_le_length (by omega), List.take_of_length_le (by omega)]
theorem S5 {ys : List AV} {j : Nat} {y z : AV} (hu : ∀ y ∈ ys, y.cells.length = 5) (h : ys[j]? = some y) (hz : z.cells.length = 5) : splice (AO ys) (j * 5) z.cells = AO (ys.set j z) := by
 obtain ⟨h1, h2, h3⟩ := QF hu h
 have hj := (List.getElem?_eq_some_iff.1 h).1
 have hy := hu y (List.mem_of_getElem? h)
 unfold splice
 have e : (AO ys).drop (j * 5 + z.cells.length) = AO (ys.drop (j + 1)) := by
  rw [hz, ← List.drop_drop, h2, ← hy, List.drop_append_of_le_length (by omega), List.drop_of_length_le (by omega)]; rfl
 rw [h1, e, List.set_eq_take_append_cons_drop, if_pos hj]
 simp [AO]
theorem IW (s : St) : (encS s).cells.length = 5 := by obtain ⟨k, o, n, v, p⟩ := s; rw [AF]; rfl
theorem MtP.cells {H : A3} : ∀ {p : List St} {xs : List AV} {b : List Nat}, MtP H p xs b → ∀ x ∈ xs, x.cells.length = 5
 | [], _, _, h, x, hx => by simp only [MtP] at h; rw [h.1] at hx; simp at hx
 | s :: r, _, _, h, x, hx => by
  simp only [MtP] at h
  obtain ⟨y, xs', b, c, rfl, rfl, h1, h2⟩ := h
  rcases List.mem_cons.1 hx with rfl | hx
  ·obtain ⟨a1, a2, a3, a4, a5, rfl, _⟩ := h1.cells; rfl
  ·exact MtP.cells h2 x hx
theorem Lw {m : Nat} {s t : St} (hm : Ab s ≤ m) (h : GP s = some t) (hlt : Ab t < Ab s) : ∃ m', Ab t ≤ m' ∧ Kx m s = Kx m' t := by
 obtain ⟨m', rfl⟩ : ∃ m', m = m' + 1 := ⟨m - 1, by have := LP s; omega⟩
 exact ⟨m', by omega, by simp only [Kx, h]⟩
theorem XL {m : Nat} {s : St} (h : GP s = none) : Kx m s = s := by cases m with | zero => rfl | succ m => simp only [Kx, h]
theorem Vu {bs : List Nat} {H : A3} {a : Nat} {ob : AObj} (e : BQ bs H a = some ob) : a ∉ bs ∧ H a = some ob := by
 induction bs with
 | nil => exact ⟨by simp, e⟩
 | cons b bs ih =>
  rw [K6] at e
  split at e
  ·cases e
  ·rename_i hne
   obtain ⟨h1, h2⟩ := ih e
   exact ⟨by simp [hne, h1], h2⟩
theorem Rh {bs : List Nat} {H : A3} {a : Nat} (h : a ∉ bs) : BQ bs H a = H a := by
 induction bs with
 | nil => rfl
 | cons g gs ih =>
  simp only [List.mem_cons, not_or] at h
  rw [K6, if_neg h.1, ih h.2]
theorem Y3 {bs : List Nat} {H H' : A3} {n : Nat} (hz : ∀ a, n ≤ a → H a = none) (h : ∀ g, g < n → g ∉ bs → H' g = H g) : KeepM bs H H' := by
 intro a ob _ e
 obtain ⟨h1, h2⟩ := Vu e
 rw [Rh h1]
 by_cases ha : a < n
 ·rw [h a ha h1]; exact h2
 ·rw [hz a (by omega)] at h2; cases h2
def TJ : St → Prop
 | .mk k o m v p => APure Tryz.prog 89 [encS (.mk k o m v p)] (.tup [encS ((K7 k o m p).getD (.mk k o m v p)), .bool (K7 k o m p).isSome]) ∧
  APure Tryz.prog 90 [encS (.mk k o m v p)] (.tup [encS ((JQ k o m p).getD (.mk k o m v p)), .bool (JQ k o m p).isSome]) ∧
  APure Tryz.prog 91 [encS (.mk k o m v p)] (.tup [encS ((LJ k o m v p).getD (.mk k o m v p)), .bool (LJ k o m v p).isSome])
theorem Wt : Ae Tryz.prog 89 = true := by kernel_rfl
theorem YJ : Ae Tryz.prog 90 = true := by kernel_rfl
theorem Xb : Ae Tryz.prog 91 = true := by kernel_rfl
abbrev TB (s : St) (n : Nat) (H : A3) (bs : List Nat) : CJ := fun r n' H' => r = encS (FZ s) ∧ ∀ g, g < n → g ∉ bs → H' g = H g
theorem V7 {G : St → Prop} (hG : ∀ t t', G t → GP t = some t' → G t' ∧ Ab t' < Ab t) (hR : ∀ t, G t → TJ t) (T s : St) (g1 g2 n n1 : Nat) (H Hb : A3) (bs : List Nat) (hs : G s) (hT : T = Kx (Ab s) s) (hg1 : n ≤ g1) (hg2 : g1 < g2) (hg3 : g2 < n1)
  (q1 : Hb g1 = some (.cells 25 (encS s).cells)) (q2 : Hb g2 = some (.cells 25 [.int .i64 0, .int .i64 0, .int .i64 0, .sl 0 [] .nil, .sl 0 [] .nil])) (hfr : ∀ g, g < n → g ∉ bs → Hb g = H g) (hz : ∀ a, n1 ≤ a → Hb a = none) :
  ∀ c, NG = .gh c → aw Tryz.prog c (fin (fun r n' H' => r = encS T ∧ ∀ g, g < n → g ∉ bs → H' g = H g) n [.cell 2 (some 5)]) ⟨[(1, .ptr g1 0), (2, .ptr g2 0)], n1, Hb⟩ := by
 intro c hc
 unfold NG at hc
 injection hc with hc
 subst hc
 generalize hQ : (fun (r : AV) (n' : Nat) (H' : A3) => r = encS T ∧ ∀ g, g < n → g ∉ bs → H' g = H g) = R
 
 repeat' (first | (simp -implicitDefEqProofs [-getElem?_pos]) | (simp (disch := omega) only [AA]) | (with_reducible first | refine A6 ?_ ?_ ?_ | exact AC | assumption | refine A0 ?_ | refine KM.of ?_ | refine AB ?_ | refine A1 ?_ | refine AE ?_ | refine A4 ?_ | refine AJ ?_ | refine AG ?_ | intro _g _hg | refine AD ?_ ?_ | intro _hc) | omega)
 refine LoopK.go (fun q st => ∃ (t : St) (b : Bool) (n' : Nat) (H' : A3), q = 2 * Ab t + (if b = true then 1 else 0) ∧ G t ∧ (b = true → ∃ m, Ab t ≤ m ∧ T = Kx m t) ∧ (b = false → T = t) ∧ st = ⟨[(1, .ptr g1 0), (2, .ptr g2 0), (5, .bool b)], n', H'⟩ ∧ n1 ≤ n' ∧
  H' g1 = some (.cells 25 (encS t).cells) ∧ (∀ a, a < n1 → a ≠ g1 → H' a = Hb a) ∧ ∀ a, n' ≤ a → H' a = none) (2 * Ab s + 1) ⟨s, true, n1, Hb, rfl, hs, fun _ => ⟨_, Nat.le_refl _, hT⟩, (fun h => by cases h), rfl, Nat.le_refl _, q1, fun _ _ _ => rfl, hz⟩ ?_
 rintro q st ⟨t, b, n2, H2, hq, hGt, hb1, hb0, rfl, hn2, u1, hfr2, hz2⟩ J hJ
 have u2 : H2 g2 = _ := (hfr2 g2 (by omega) (by omega)).trans q2
 cases b with
 | false =>
  have hTt := hb0 rfl
  subst hTt
  have htc := hR T hGt
  obtain ⟨k, o, m, v, p⟩ := T
  rw [AF] at *
  simp only [AV.cells] at u1
  subst hQ
  repeat' (first | (simp -implicitDefEqProofs [JU, -getElem?_pos, u1, u2, splice]) | (simp (disch := omega) only [AA]) | (with_reducible first | refine A6 ?_ ?_ ?_ | exact AC | assumption | refine A0 ?_ | refine KM.of ?_ | refine AB ?_ | refine A1 ?_ | refine AE ?_ | refine A4 ?_ | refine AJ ?_ | refine AG ?_ | intro _g _hg | refine AD ?_ ?_ | intro _hc) | omega)
  rw [Vn]
  refine .inl ?_
  have hng : g2 ≠ g1 := by omega
  repeat' (first | (simp -implicitDefEqProofs [-getElem?_pos, u1, u2, hng, splice]) | (simp (disch := omega) only [AA]) | (with_reducible first | refine A6 ?_ ?_ ?_ | exact AC | assumption | refine A0 ?_ | refine KM.of ?_ | refine AB ?_ | refine A1 ?_ | refine AE ?_ | refine A4 ?_ | refine AJ ?_ | refine AG ?_ | intro _g _hg | refine AD ?_ ?_ | intro _hc) | omega)
  refine ⟨.agg [aI k, aI o, aI m, .sl 1 (v.map aI) .ro, .sl 5 (AR p) .ro], n2, _, ⟨.agg [aI k, aI o, aI m, .sl 1 (v.map aI) .ro, .sl 5 (AR p) .ro], by simp [Br, CH, Er, BS, get, AX, part], A5 _⟩, by omega, Nat.le_refl _, fun a ha => by simp (disch := omega) only [upd_ne]; exact hz2 a ha, SameB.rfl_ _ _, rfl, fun a ha hab => ?_⟩
  simp (disch := omega) only [upd_ne]
  exact (hfr2 a (by omega) (by omega)).trans (hfr a ha hab)
 | true =>
  obtain ⟨m0, hm0, hT0⟩ := hb1 rfl
  have htc := hR t hGt
  have hGn := hG t
  obtain ⟨k, o, m, v, p⟩ := t
  obtain ⟨c1, c2, c3⟩ := htc
  have hf : GP (.mk k o m v p) = match K7 k o m p with | some t => some t | none => match JQ k o m p with | some t => some t | none => LJ k o m v p := rfl
  clear hR hG hb1 hb0
  generalize K7 k o m p = U at *
  generalize JQ k o m p = W at *
  generalize LJ k o m v p = Z at *
  rw [AF] at u1 c1 c2 c3
  simp only [AV.cells] at u1
  cases U with
  | some t' =>
   obtain ⟨h1, h2⟩ := hGn t' hGt hf
   obtain ⟨m', h3, h4⟩ := Lw hm0 hf h2
   simp only [Option.getD_some, Option.isSome_some] at c1
   obtain ⟨k', o', n', v', p'⟩ := t'
   rw [AF] at c1
   generalize hvp : v'.map aI = vp at *
   generalize hep : AR p' = ep at *
   repeat' (first | (simp -implicitDefEqProofs [JU, Mq, -getElem?_pos, u1, u2, splice]) | (simp (disch := omega) only [AA]) | (with_reducible first | refine A6 ?_ ?_ ?_ | exact AC | assumption | refine A0 ?_ | refine KM.of ?_ | refine AB ?_ | refine A1 ?_ | refine AE ?_ | refine A4 ?_ | refine AJ ?_ | refine AG ?_ | intro _g _hg | refine AD ?_ ?_ | intro _hc) | omega)
   rename Nat => g26
   refine LoopK.round ?_
   repeat' (first | (simp -implicitDefEqProofs [EO, F1, -getElem?_pos, u1, u2, Ch Wt, -AH, splice]) | (simp (disch := omega) only [AA]) | ((with_reducible refine Ap 89 ?_); (refine' CallK.sfAt ?_ (c1.at_ _ _) ?_); (focus first | (with_reducible exact A2 _) | (simp [AQ, AM, A5, A2]; done))) | (with_reducible first | refine A6 ?_ ?_ ?_ | exact AC | assumption | refine A0 ?_ | refine KM.of ?_ | refine AB ?_ | refine A1 ?_ | refine AE ?_ | refine A4 ?_ | refine AJ ?_ | refine AG ?_ | intro _g _hg | refine AD ?_ ?_ | intro _hc) | omega)
   exact hJ (2 * Ab (.mk k' o' n' v' p') + 1) _ (by omega) ⟨.mk k' o' n' v' p', true, _, _, rfl, h1, fun _ => ⟨m', h3, hT0.trans h4⟩, (fun h => by cases h), rfl, by omega, by rw [AX, AF, hvp, hep]; rfl, fun a ha hne => by simp (disch := omega) only [upd_ne]; exact hfr2 a ha hne, fun a ha => by simp (disch := omega) only [upd_ne]; exact hz2 a (by omega)⟩
  | none =>
   simp only [Option.getD_none, Option.isSome_none] at c1
   rw [AF] at c1
   repeat' (first | (simp -implicitDefEqProofs [JU, Mq, -getElem?_pos, u1, u2, splice]) | (simp (disch := omega) only [AA]) | (with_reducible first | refine A6 ?_ ?_ ?_ | exact AC | assumption | refine A0 ?_ | refine KM.of ?_ | refine AB ?_ | refine A1 ?_ | refine AE ?_ | refine A4 ?_ | refine AJ ?_ | refine AG ?_ | intro _g _hg | refine AD ?_ ?_ | intro _hc) | omega)
   rename Nat => g26
   refine LoopK.round ?_
   repeat' (first | (simp -implicitDefEqProofs [EO, F1, Ji, -getElem?_pos, u1, u2, Ch Wt, -AH, splice]) | (simp (disch := omega) only [AA]) | ((with_reducible refine Ap 89 ?_); (refine' CallK.sfAt ?_ (c1.at_ _ _) ?_); (focus first | (with_reducible exact A2 _) | (simp [AQ, AM, A5, A2]; done))) | (with_reducible first | refine A6 ?_ ?_ ?_ | exact AC | assumption | refine A0 ?_ | refine KM.of ?_ | refine AB ?_ | refine A1 ?_ | refine AE ?_ | refine A4 ?_ | refine AJ ?_ | refine AG ?_ | intro _g _hg | refine AD ?_ ?_ | intro _hc) | omega)
   rename Nat => g8
   cases W with
   | some t' =>
    obtain ⟨h1, h2⟩ := hGn t' hGt hf
    obtain ⟨m', h3, h4⟩ := Lw hm0 hf h2
    simp only [Option.getD_some, Option.isSome_some] at c2
    obtain ⟨k', o', n', v', p'⟩ := t'
    rw [AF] at c2
    generalize hvp : v'.map aI = vp at *
    generalize hep : AR p' = ep at *
    refine LoopK.round ?_
    repeat' (first | (simp -implicitDefEqProofs [EO, F1, -getElem?_pos, u1, u2, Ch YJ, -AH, splice]) | (simp (disch := omega) only [AA]) | ((with_reducible refine Ap 90 ?_); (refine' CallK.sfAt ?_ (c2.at_ _ _) ?_); (focus first | (with_reducible exact A2 _) | (simp [AQ, AM, A5, A2]; done))) | (with_reducible first | refine A6 ?_ ?_ ?_ | exact AC | assumption | refine A0 ?_ | refine KM.of ?_ | refine AB ?_ | refine A1 ?_ | refine AE ?_ | refine A4 ?_ | refine AJ ?_ | refine AG ?_ | intro _g _hg | refine AD ?_ ?_ | intro _hc) | omega)
    exact hJ (2 * Ab (.mk k' o' n' v' p') + 1) _ (by omega) ⟨.mk k' o' n' v' p', true, _, _, rfl, h1, fun _ => ⟨m', h3, hT0.trans h4⟩, (fun h => by cases h), rfl, by omega, by rw [AX, AF, hvp, hep]; rfl, fun a ha hne => by simp (disch := omega) only [upd_ne]; exact hfr2 a ha hne, fun a ha => by simp (disch := omega) only [upd_ne]; exact hz2 a (by omega)⟩
   | none =>
    simp only [Option.getD_none, Option.isSome_none] at c2
    rw [AF] at c2
    refine LoopK.round ?_
    repeat' (first | (simp -implicitDefEqProofs [EO, F1, Ji, -getElem?_pos, u1, u2, Ch YJ, -AH, splice]) | (simp (disch := omega) only [AA]) | ((with_reducible refine Ap 90 ?_); (refine' CallK.sfAt ?_ (c2.at_ _ _) ?_); (focus first | (with_reducible exact A2 _) | (simp [AQ, AM, A5, A2]; done))) | (with_reducible first | refine A6 ?_ ?_ ?_ | exact AC | assumption | refine A0 ?_ | refine KM.of ?_ | refine AB ?_ | refine A1 ?_ | refine AE ?_ | refine A4 ?_ | refine AJ ?_ | refine AG ?_ | intro _g _hg | refine AD ?_ ?_ | intro _hc) | omega)
    rename Nat => g9
    cases Z with
    | some t' =>
     obtain ⟨h1, h2⟩ := hGn t' hGt hf
     obtain ⟨m', h3, h4⟩ := Lw hm0 hf h2
     simp only [Option.getD_some, Option.isSome_some] at c3
     obtain ⟨k', o', n', v', p'⟩ := t'
     rw [AF] at c3
     generalize hvp : v'.map aI = vp at *
     generalize hep : AR p' = ep at *
     refine LoopK.round ?_
     repeat' (first | (simp -implicitDefEqProofs [EO, F1, -getElem?_pos, u1, u2, Ch Xb, -AH, splice]) | (simp (disch := omega) only [AA]) | ((with_reducible refine Ap 91 ?_); (refine' CallK.sfAt ?_ (c3.at_ _ _) ?_); (focus first | (with_reducible exact A2 _) | (simp [AQ, AM, A5, A2]; done))) | (with_reducible first | refine A6 ?_ ?_ ?_ | exact AC | assumption | refine A0 ?_ | refine KM.of ?_ | refine AB ?_ | refine A1 ?_ | refine AE ?_ | refine A4 ?_ | refine AJ ?_ | refine AG ?_ | intro _g _hg | refine AD ?_ ?_ | intro _hc) | omega)
     exact hJ (2 * Ab (.mk k' o' n' v' p') + 1) _ (by omega) ⟨.mk k' o' n' v' p', true, _, _, rfl, h1, fun _ => ⟨m', h3, hT0.trans h4⟩, (fun h => by cases h), rfl, by omega, by rw [AX, AF, hvp, hep]; rfl, fun a ha hne => by simp (disch := omega) only [upd_ne]; exact hfr2 a ha hne, fun a ha => by simp (disch := omega) only [upd_ne]; exact hz2 a (by omega)⟩
    | none =>
     have hTt := hT0.trans (XL hf)
     simp only [Option.getD_none, Option.isSome_none] at c3
     rw [AF] at c3
     refine LoopK.round ?_
     repeat' (first | (simp -implicitDefEqProofs [EO, F1, Ji, -getElem?_pos, u1, u2, Ch Xb, -AH, splice]) | (simp (disch := omega) only [AA]) | ((with_reducible refine Ap 91 ?_); (refine' CallK.sfAt ?_ (c3.at_ _ _) ?_); (focus first | (with_reducible exact A2 _) | (simp [AQ, AM, A5, A2]; done))) | (with_reducible first | refine A6 ?_ ?_ ?_ | exact AC | assumption | refine A0 ?_ | refine KM.of ?_ | refine AB ?_ | refine A1 ?_ | refine AE ?_ | refine A4 ?_ | refine AJ ?_ | refine AG ?_ | intro _g _hg | refine AD ?_ ?_ | intro _hc) | omega)
     rename Nat => g10
     refine LoopK.round ?_
     repeat' (first | (simp -implicitDefEqProofs [EO, -getElem?_pos, u1, u2, splice]) | (simp (disch := omega) only [AA]) | (with_reducible first | refine A6 ?_ ?_ ?_ | exact AC | assumption | refine A0 ?_ | refine KM.of ?_ | refine AB ?_ | refine A1 ?_ | refine AE ?_ | refine A4 ?_ | refine AJ ?_ | refine AG ?_ | intro _g _hg | refine AD ?_ ?_ | intro _hc) | omega)
     exact hJ (2 * Ab (.mk k o m v p)) _ (by rw [if_pos rfl] at hq; omega) ⟨.mk k o m v p, false, _, _, rfl, hGt, (fun h => by cases h), fun _ => hTt, rfl, by omega, by simp (disch := omega) only [upd_ne]; rw [u1, AF]; rfl, fun a ha hne => by simp (disch := omega) only [upd_ne]; exact hfr2 a ha hne, fun a ha => by simp (disch := omega) only [upd_ne]; exact hz2 a (by omega)⟩
theorem A1t : ∃ c, NG = .gh (.kp [1, 2] c) := ⟨_, rfl⟩
theorem Wc {P : Program} {c : ACode} {Q : AExit → AS → Prop} {e e0 : AT} {n : Nat} {H : A3} (he : EK e [1, 2] = EK e0 [1, 2]) (h : aw P (.kp [1, 2] c) Q ⟨e0, n, H⟩) : aw P (.kp [1, 2] c) Q ⟨e, n, H⟩ := by
 rw [I1] at h ⊢; rw [he]; exact h
theorem A0b : Bn Tryz.prog 25 = 5 := by kernel_rfl
theorem Y1 {p : List St} {xs : List AV} {j : Nat} {x : St} (hx : p[j]? = some x) (hl : xs.length = p.length) : (AR (EI (p.take j)) ++ xs.drop j).set j (encS (FZ x)) = AR (EI (p.take (j + 1))) ++ xs.drop (j + 1) := by
 have hj := (List.getElem?_eq_some_iff.1 hx).1
 have e1 : (AR (EI (p.take j))).length = j := by rw [Ai, Et]; simp; omega
 have e2 : p.take (j + 1) = p.take j ++ [x] := by rw [List.take_add_one, hx]; rfl
 rw [List.set_append_right _ _ (by omega), e1, Nat.sub_self, e2, Et, Et, List.map_append, SP, List.append_assoc]
 congr 1
 rw [List.drop_eq_getElem_cons (by omega), List.set_cons_zero]; rfl
theorem Yf {G : St → Prop} (hG : ∀ t t', G t → GP t = some t' → G t' ∧ Ab t' < Ab t) (hR : ∀ t, G t → TJ t) (hPp : ∀ k o n v p, G (.mk k o n v p) → ∀ x ∈ p, G x) (hPf : ∀ k o n v p, G (.mk k o n v p) → G (.mk k o n v (EI p))) (hPl : ∀ k o n v p, G (.mk k o n v p) → p.length ≤ 1000) (s : St) :
  G s → ∀ (n : Nat) (H : A3) (x : AV) (bs : List Nat), MtS H s x bs → bs.Nodup → (∀ g ∈ bs, g < n) → ACalls Tryz.prog 65 [x] n H (TB s n H bs) := by
 refine St.ind (Q := fun s => G s → ∀ (n : Nat) (H : A3) (x : AV) (bs : List Nat), MtS H s x bs → bs.Nodup → (∀ g ∈ bs, g < n) → ACalls Tryz.prog 65 [x] n H (TB s n H bs)) ?_ s
 intro k o m v p ih hs n H x bs hM hnd hlt
 have hsf := hPf _ _ _ _ _ hs
 have hT : FZ (.mk k o m v p) = Kx (Ab (.mk k o m v (EI p))) (.mk k o m v (EI p)) := rfl
 obtain ⟨ck, hck⟩ := A1t
 have hrg := fun g1 g2 n1 Hb a b c d e f g => V7 hG hR (FZ (.mk k o m v p)) (.mk k o m v (EI p)) g1 g2 n n1 H Hb bs hsf hT a b c d e f g _ hck
 have hpl := hPl _ _ _ _ _ hs
 unfold TB
 generalize hRR : (fun (r : AV) (n' : Nat) (H' : A3) => r = encS (FZ (.mk k o m v p)) ∧ ∀ g, g < n → g ∉ bs → H' g = H g) = R at *
 rw [AF] at hrg
 simp only [AV.cells] at hrg
 simp only [MtS] at hM
 rcases hM with ⟨rfl, rfl, rfl⟩ | ⟨g, xs, bs', hp0, rfl, rfl, hHg, hP⟩
 ·unfold R5 at *
  generalize v.map aI = va at *
  refine A8 Tryz.func65 Zm rfl fun hs => ?_
  repeat' (first | (simp -implicitDefEqProofs [c65, -getElem?_pos, splice]) | (simp (disch := omega) only [AA]) | (with_reducible first | refine A6 ?_ ?_ ?_ | exact AC | assumption | refine A0 ?_ | refine KM.of ?_ | refine AB ?_ | refine A1 ?_ | refine AE ?_ | refine A4 ?_ | refine AJ ?_ | refine AG ?_ | intro _g _hg | refine AD ?_ ?_ | intro _hc) | omega)
  rename_i g1 hg1
  rename Nat => g2
  refine LoopK.round ?_
  repeat' (first | (simp -implicitDefEqProofs [IM, -getElem?_pos]) | (simp (disch := omega) only [AA]) | (with_reducible first | refine A6 ?_ ?_ ?_ | exact AC | assumption | refine A0 ?_ | refine KM.of ?_ | refine AB ?_ | refine A1 ?_ | refine AE ?_ | refine A4 ?_ | refine AJ ?_ | refine AG ?_ | intro _g _hg | refine AD ?_ ?_ | intro _hc) | omega)
  rw [hck]
  refine .inl (Wc rfl (hrg g1 g2 _ _ (by omega) (by omega) (by omega) ?_ ?_ ?_ ?_))
  ·simp (disch := omega) only [upd_ne, AX]; rfl
  ·simp (disch := omega) only [upd_ne, AX]
  ·intro a ha _; simp (disch := omega) only [upd_ne]
  ·intro a ha; simp (disch := omega) only [upd_ne]; exact hs a (by omega)
 ·have hxl := hP.len
  have hg0 := hlt g List.mem_cons_self
  have hnd' := List.nodup_cons.1 hnd
  have hPc := hP.cells
  have ihp := fun x hx => ih x hx (hPp _ _ _ _ _ hs x hx)
  unfold R5 at *
  generalize v.map aI = va at *
  clear ih
  refine A8 Tryz.func65 Zm rfl fun hs => ?_
  repeat' (first | (simp -implicitDefEqProofs [c65, -getElem?_pos, splice]) | (simp (disch := omega) only [AA]) | (with_reducible first | refine A6 ?_ ?_ ?_ | exact AC | assumption | refine A0 ?_ | refine KM.of ?_ | refine AB ?_ | refine A1 ?_ | refine AE ?_ | refine A4 ?_ | refine AJ ?_ | refine AG ?_ | intro _g _hg | refine AD ?_ ?_ | intro _hc) | omega)
  rename_i g1 hg1
  rename Nat => g2
  refine LoopK.go (fun q st => ∃ (j n' : Nat) (H' : A3) (b c : List Nat), j + q = p.length ∧ st = ⟨[(1, .ptr g1 0), (2, .ptr g2 0), (11, .slg 5 g p.length), (12, aI p.length), (13, aI j)], n', H'⟩ ∧ bs' = b ++ c ∧
   H' g = some (.grow 25 (AO (AR (EI (p.take j)) ++ xs.drop j))) ∧ MtP H' (p.drop j) (xs.drop j) c ∧
   H' g1 = some (.cells 25 [aI k, aI o, aI m, .sl 1 va .ro, .slg 5 g p.length]) ∧ H' g2 = some (.cells 25 [.int .i64 0, .int .i64 0, .int .i64 0, .sl 0 [] .nil, .sl 0 [] .nil]) ∧
   (∀ a, a < n → a ∉ g :: bs' → H' a = H a) ∧ g2 + 1 ≤ n' ∧ ∀ a, n' ≤ a → H' a = none) p.length ⟨0, g2 + 1, _, [], bs', by omega, rfl, rfl, by simp (disch := omega) only [upd_ne]; rw [hHg]; rfl, hP.keep (fun a ha => by have := hlt a (List.mem_cons_of_mem _ ha); simp (disch := omega) only [upd_ne]), by simp (disch := omega) only [upd_ne, AX], by simp (disch := omega) only [AX], fun a ha _ => by simp (disch := omega) only [upd_ne], Nat.le_refl _, fun a ha => by simp (disch := omega) only [upd_ne]; exact hs a (by omega)⟩ ?_
  rintro q st ⟨j, n', H', b, c, hj, rfl, rfl, u0, hPj, u1, u2, hfr, hn', hv'⟩ J hJ
  by_cases hjl : j < p.length
  ·obtain ⟨x, hx⟩ : ∃ x, p[j]? = some x := ⟨_, List.getElem?_eq_getElem hjl⟩
   obtain ⟨y, hy⟩ : ∃ y, xs[j]? = some y := ⟨_, List.getElem?_eq_getElem (by omega)⟩
   have hjl' : (j : Int) < p.length := by omega
   rw [drop_at hx, drop_at hy] at hPj
   simp only [MtP] at hPj
   obtain ⟨y', xs', b1, c1, e1, rfl, hM1, hM2⟩ := hPj
   injection e1 with e1 e2; subst e1; subst e2
   have hyc := hPc y (List.mem_of_getElem? hy)
   have hlj : (AR (EI (p.take j))).length = j := by rw [Ai, Et]; simp; omega
   have hys : (AR (EI (p.take j)) ++ xs.drop j)[j]? = some y := by rw [List.getElem?_append_right (by omega), hlj, Nat.sub_self, drop_at hy]; rfl
   have hyu : ∀ z ∈ AR (EI (p.take j)) ++ xs.drop j, z.cells.length = 5 := fun z hz => by
    rcases List.mem_append.1 hz with hz | hz
    ·rw [FB] at hz; obtain ⟨w, _, rfl⟩ := List.mem_map.1 hz; exact IW w
    ·exact hPc z (List.mem_of_mem_drop hz)
   have hpt := VU hyu hys
   have hsp := S5 hyu hys (IW (FZ x))
   rw [Y1 hx hxl] at hsp
   have ihx := ihp x (List.mem_of_getElem? hx)
   obtain ⟨k', o', m', v', p'⟩ := x
   obtain ⟨a5, rfl, ha5⟩ := hM1.form
   simp only [AV.cells] at hpt
   have hb1 : ∀ a ∈ b1, a < n ∧ a ≠ g := fun a ha => ⟨hlt a (by simp [ha]), fun e => by subst e; exact hnd'.1 (by simp [ha])⟩
   generalize hfl : AO (AR (EI (p.take j)) ++ xs.drop j) = fl at *
   have hfll : fl.length = p.length * 5 := by rw [← hfl, HR hyu]; simp [hlj]; omega
   have hle5 : j * 5 + 5 ≤ fl.length := by omega
   have ht5 : List.take 5 (List.drop (j * 5) fl) = [aI k', aI o', aI m', R5 v', a5] := by
    simp only [part, if_pos hle5] at hpt; injection hpt with hpt; injection hpt
   have mk : ∀ (a : Nat) (K : A3), n ≤ a → BQ (b1 ++ []) K a = K a := fun a K ha => Rh fun h => by have := hb1 a (by simpa using h); omega
   
   repeat' (first | (simp -implicitDefEqProofs [IM, WA, -getElem?_pos, u0, u1, u2, hjl', hle5, ht5, -List.append_nil, splice]) | (simp (disch := omega) only [AA]) | (with_reducible first | refine Sx b1 ?_ | refine A6 ?_ ?_ ?_ | exact AC | assumption | refine A0 ?_ | refine KM.of ?_ | refine AB ?_ | refine A1 ?_ | refine AE ?_ | refine A4 ?_ | refine AJ ?_ | refine AG ?_ | intro _g _hg | refine AD ?_ ?_ | intro _hc) | omega)
   ·exact ha5
   rename Nat => g4
   have mk1 := fun K => mk g1 K (by omega)
   have mk4 := fun K => mk g4 K (by omega)
   repeat' (first | (simp -implicitDefEqProofs [-getElem?_pos, u0, u1, u2, mk1, mk4, -List.append_nil, splice]) | (simp (disch := omega) only [AA]) | (with_reducible first | refine A6 ?_ ?_ ?_ | exact AC | assumption | refine A0 ?_ | refine KM.of ?_ | refine AB ?_ | refine A1 ?_ | refine AE ?_ | refine A4 ?_ | refine AJ ?_ | refine AG ?_ | intro _g _hg | refine AD ?_ ?_ | intro _hc) | omega)
   have hnb := List.nodup_append.1 (List.nodup_append.1 hnd'.2).2.1
   refine ⟨_, ihx _ _ _ b1 (hM1.keep fun a ha => by have := hb1 a ha; simp (disch := omega) only [upd_ne]) hnb.1 (fun a ha => by have := hb1 a ha; dsimp only; omega), ?_⟩
   rintro r n3 H3 hle3 hsup3 ⟨rfl, hfr3⟩
   dsimp only at hfr3 hle3
   refine KC.of (by rw [List.append_nil]; exact Y3 (n := g4 + 1) (fun a ha => by simp (disch := omega) only [upd_ne]; exact hv' a (by omega)) hfr3) ?_
   have hfr4 : ∀ a, a < n' → a ∉ b1 → H3 a = H' a := fun a ha hab => by rw [hfr3 a (by omega) hab]; simp (disch := omega) only [upd_ne]
   have hout : ∀ a, n ≤ a → a ∉ b1 := fun a ha h => by have := hb1 a h; omega
   have w0 := (hfr4 g (by omega) (fun h => (hb1 g h).2 rfl)).trans u0
   have w1 := (hfr4 g1 (by omega) (hout g1 (by omega))).trans u1
   have w2 := (hfr4 g2 (by omega) (hout g2 (by omega))).trans u2
   obtain ⟨kx, ox, mx, vx, px, hfx⟩ : ∃ kx ox mx vx px, FZ (.mk k' o' m' v' p') = .mk kx ox mx vx px := by
    cases FZ (.mk k' o' m' v' p') with | mk a b c d e => exact ⟨_, _, _, _, _, rfl⟩
   rw [hfx, AF] at hsp
   rw [hfx, AF]
   simp only [AV.cells] at hsp
   clear hfr3 mk1 mk4 mk u0 u1 u2
   repeat' (first | (simp -implicitDefEqProofs [Uy, -getElem?_pos, w0, w1, w2, hjl', hsp]) | (simp (disch := omega) only [AA]) | (with_reducible first | refine A6 ?_ ?_ ?_ | exact AC | assumption | refine A0 ?_ | refine KM.of ?_ | refine AB ?_ | refine A1 ?_ | refine AE ?_ | refine A4 ?_ | refine AJ ?_ | refine AG ?_ | intro _g _hg | refine AD ?_ ?_ | intro _hc) | omega)
   have hcc : ∀ a ∈ c1, a < n ∧ a ≠ g ∧ a ∉ b1 := fun a ha => ⟨hlt a (by simp [ha]), fun e => by subst e; exact hnd'.1 (by simp [ha]), fun h => hnb.2.2 a h a ha rfl⟩
   refine hJ (q - 1) _ (by omega) ⟨j + 1, _, _, b ++ b1, c1, by omega, rfl, by rw [List.append_assoc], AX _ _ _, hM2.keep fun a ha => ?_, ?_, ?_, fun a ha hab => ?_, by omega, fun a ha => ?_⟩
   ·have h1 := hcc a ha
    rw [upd_ne h1.2.1]; exact hfr4 a (by omega) h1.2.2
   ·rw [upd_ne (by omega)]; exact w1
   ·rw [upd_ne (by omega)]; exact w2
   ·simp only [List.mem_cons, List.mem_append, not_or] at hab
    rw [upd_ne hab.1, hfr4 a (by omega) hab.2.2.1]
    exact hfr a ha (by simp [hab])
   ·rw [upd_ne (by omega)]; exact hsup3 a ha
  ·have hjl' : ¬ (j : Int) < p.length := by omega
   have hlp : (AR (EI p)).length = p.length := by rw [Ai, Et]; simp
   have e1 : p.take j = p := List.take_of_length_le (by omega)
   have e2 : xs.drop j = [] := List.drop_eq_nil_of_le (by omega)
   rw [e1, e2, List.append_nil] at u0
   
   repeat' (first | (simp -implicitDefEqProofs [IM, -getElem?_pos, hjl']) | (simp (disch := omega) only [AA]) | (with_reducible first | refine A6 ?_ ?_ ?_ | exact AC | assumption | refine A0 ?_ | refine KM.of ?_ | refine AB ?_ | refine A1 ?_ | refine AE ?_ | refine A4 ?_ | refine AJ ?_ | refine AG ?_ | intro _g _hg | refine AD ?_ ?_ | intro _hc) | omega)
   rw [hck]
   refine .inr ⟨[g1], g, 25, 5, AR (EI p), u0, A0b, by decide, fun z hz => by rw [FB] at hz; obtain ⟨w, _, rfl⟩ := List.mem_map.1 hz; exact IW w, Wc rfl (hrg g1 g2 n' (Rv [g1] g 5 (AR (EI p)) H') (by omega) (by omega) (by omega) ?_ ?_ ?_ ?_)⟩
   ·have : g1 ≠ g := by omega
    simp [Rv, this, u1, A06, IV, Fp, hlp]
   ·have h1 : g2 ≠ g := by omega
    have h2 : g2 ≠ g1 := by omega
    simp [Rv, h1, h2, u2]
   ·intro a ha hab
    have h1 : a ≠ g := fun e => hab (by simp [e])
    have h2 : a ≠ g1 := by omega
    simp only [Rv, h1, List.mem_singleton, h2, if_false]
    exact hfr a ha hab
   ·intro a ha
    have h1 : a ≠ g := by omega
    have h2 : a ≠ g1 := by omega
    simp only [Rv, h1, List.mem_singleton, h2, if_false]
    exact hv' a ha
theorem SK (k o m : Int) (v : List Int) (h : k = 1 ∨ k = 2) : APure Tryz.prog 89 [encS (.mk k o m v [])] (.tup [encS (.mk k o m v []), .bool false]) := by
 rw [AF]
 generalize v.map aI = va at *
 rcases h with rfl | rfl
 ·
  refine A7 Tryz.func89 EJ rfl fun n H hH => ?_
  repeat' (first | (simp -implicitDefEqProofs [Au, Ar, As, Aw, Ay, Az, Av, c89, -getElem?_pos, splice, AR]) | (simp (disch := omega) only [AA]) | (with_reducible first | refine A6 ?_ ?_ ?_ | exact AC | refine SameB.upd ?_ ?_ _ | assumption | refine A0 ?_ | refine KM.of ?_ | refine AB ?_ | refine A1 ?_ | refine A4 ?_ | intro _g _hg | refine AD ?_ ?_ | intro _hc) | omega)
  all_goals exact A5 _
 ·
  refine A7 Tryz.func89 EJ rfl fun n H hH => ?_
  repeat' (first | (simp -implicitDefEqProofs [Au, Ar, As, Aw, Ay, Az, Av, c89, -getElem?_pos, splice, AR]) | (simp (disch := omega) only [AA]) | (with_reducible first | refine A6 ?_ ?_ ?_ | exact AC | refine SameB.upd ?_ ?_ _ | assumption | refine A0 ?_ | refine KM.of ?_ | refine AB ?_ | refine A1 ?_ | refine A4 ?_ | intro _g _hg | refine AD ?_ ?_ | intro _hc) | omega)
  all_goals exact A5 _
theorem Wh {k o n : Int} {v : List Int} {p : List St} (h : NodeOk k o n v p) : 0 ≤ n ∧ n ≤ 9999 := by
 cases hn : GI k with
 | false => rw [h.non hn]; omega
 | true =>
  have h1 := h.num hn
  have h2 : 0 ≤ J6 k o := by unfold J6; split <;> (try split) <;> omega
  have h3 : J7 k ≤ 9999 := by unfold J7; split <;> (try split) <;> (try split) <;> omega
  omega
theorem Mn : ∀ (p : List St) (j : Nat), Ak (p.take j) ≤ Ak p
 | [], j => by simp
 | x :: r, 0 => by simp [Ak]
 | x :: r, j + 1 => by simp only [List.take_succ_cons, Ak]; have := Mn r j; omega
theorem Z3 (t : St) (hf : Cy t) (hok : HE t) (hm : Ks t) (hz : Ab t ≤ 60) : TJ t := by
 obtain ⟨k, o, m, v, p⟩ := t
 have hN := C8 hok.1
 have hmr := Wh hN
 have hpl := Bz p
 simp only [Ab] at hz
 refine ⟨?_, ?_, ?_⟩
 ·cases p with
  | nil =>
   have hk : k = 1 ∨ k = 2 := by
    have h1 := hN.many; have h2 := hN.two; have h3 := hN.one
    simp at h1 h2 h3
    have := hN.k1; have := hN.k2
    omega
   exact SK k o m v hk
  | cons x r => exact Uz k o m v x r fun hk => Z5 x (Cq hf.2.2 x List.mem_cons_self) (De hok.2 x List.mem_cons_self) (Gf hm.2 x List.mem_cons_self) (by simp only [Ak] at hz; omega)
 ·match p, hok, hN, hpl with
  | [], _, _, _ => exact Kf k o m v [] (by simp)
  | [.mk k' o' m' v' pp], hok, hN, _ =>
   exact Ts k o m v k' o' m' v' pp (fun h => by subst h; have := hN.fn (by decide); omega) hmr (Wh (C8 hok.2.1.1))
  | x :: y :: r, _, _, _ =>
   have e : JQ k o m (x :: y :: r) = none := by cases x; rfl
   rw [e]; exact Kf k o m v _ (by simp)
 ·unfold LJ
  split
  ·rename_i hc
   obtain ⟨rfl, hc⟩ := hc
   simp only [Option.getD_some, Option.isSome_some]
   refine We o m v p (by omega) (fun j => ?_) (fun x hx => ?_) hc
   ·rw [Ai]
    have h1 := (Kv (p.take j)).1
    have h2 := Mn p j
    have h3 := Bz (Co (p.take j))
    omega
   ·have h1 := Dc x hx
    obtain ⟨a, b, c, d, e⟩ := x
    have h2 := Bz e
    simp only [Ab] at h1
    show e.length ≤ 1000
    omega
  ·rename_i hc
   simp only [Option.getD_none, Option.isSome_none]
   exact Wx k o m v p (by omega) hc
end Go.Proofs.YtjdccdelcnmocaaGreatDoor

/- Templates: the reference's reading of a text, whole; no condition. -/
import Derived.Test.YtnfjgphfaemjcaaGreatDoorMgI
import Derived.Test.YtnfjgphfaemjcaaGreatDoorMdS
import Derived.Test.YtnfjgphfaemjcaaGreatDoorMdR
import Derived.Test.YtnfjgphfaemjcaaGreatDoorMdO
import Derived.Test.YtnfjgphfaemjcaaGreatDoorAdF
import Derived.Test.YtnfjgphfaemjcaaGreatDoorMgL
import Derived.Test.YtnfjgphfaemjcaaGreatDoorMdN
import Derived.Test.YtnfjgphfaemjcaaGreatDoorMdM
import Derived.WalkKit
import Derived.ProofKit
import Derived.OpenShut
import Derived.LaidLaws
import Derived.Deep.DeepHandedRow
import Derived.Deep.DeepWitnessRowRef
import Derived.Lib.LaidTab
import Derived.Lib.LaidU8
import Derived.MakeChecks
import Derived.Lay
set_option linter.all false
set_option maxHeartbeats 8000000
namespace Go.Proofs.YtnfjgphfaemjcaaGreatDoor
def Ug (x : List Pt × Nat × Nat × AE) : List Pt × (Int × Int) := if x.2.2.1 = 5 then ([], (1, (x.2.1 : Int) - 8)) else if x.2.2.1 = 6 then ([], (1, (x.2.1 : Int) - 7)) else if x.2.2.1 = 1 ∨ x.2.2.1 = 7 then ([], (1, (x.2.1 : Int))) else if (EK x.1).1 ≠ 0 then ([], EK x.1) else (x.1, (0, 0))
theorem Yt {s : AE} (h : ¬ 4000 < s.length) : V2 s = Ug (Cx s 0 []) := by
 unfold V2
 rw [if_neg h]
 unfold Cx
 generalize DP (s.length + 1) s 0 [] = X
 obtain ⟨l, j, en, t⟩ := X
 rfl
attribute [local simp] KJ EJ EI KX LT Lg L9 EG ED Fy GP LK KU Kz Ji KH J5 J7 J9 LA LF Ki Li Kq KB Qt pe Jv Kn Jl Kx Kb Jz LM K0 KZ KP Jr Jo L0 FN Np Od OB Nv Nq OI ON OA Nt O0 Oj Ns Of O9 Nr Ny O1 OQ OW OK No FX O6 FL OT Og Nj NP NS Nn Nu OF NZ NY NN Oc O4 OM NU NV Ot NX Oe O5 Om OC NQ NW Nx Fr Na OH OP Ok Oi Nk OR O2 On OS Nc OG Ol OU Ob NM Oa NT Nz K8 K2 LL KG Kg Jm Ju Kk K6 L6 LE IS Jc List.mem_cons guardK Dl Ed Er GX Nd Fh FO Fp FY FP FM FJ Fs Fg Nl OV FV Kf Oq OZ OE Nb Nw Fd LX OX Nf Jw La OD I9 Fq FT Fn FZ Ng Ni FQ OJ FW LN Fw Fe KV Fm Ft Nh O8 Oo KF OL Nm KI Jh Sg JD JH H9 JE JI JA Dx G0 Fz L8 G4 G3 E0 Dn UK JM JK G5 JJ JN Ds DY BN BR C0 DZ DI ev get put EW AD D9 KY KN LV Jx JB Kh EO part Ap Gz L1 Gc isNil Cu D4 Da D8 CE Lc LW LO K7 L2 J6 Jq Lf Jf KD L3 LZ Lh Jp LI LQ AV.fits AV.cells ones AV.one E5 Bp E7 DQ EV EN KE FA Fo CH BS Cw G7 E3 AN B6 VJ GL Lj Ke List.getElem?_cons_zero List.getElem?_cons_succ Fa FR Ff KR Kj Ku Gt LH L4 LS LG LD Jt KQ O3 KK Ja KL Ky LY Ko Je LB Ks Kv KO Kp KT L5 K5 Kw LJ Km LU Jy E6
theorem A4t (s : AE) : APure Tryz.prog 17 [.str s] (.tup [Cr (JL s).1, aF (JL s).2]) := by
 rw [← Vs]
 by_cases hlong : 4000 < s.length
 ·have e : V2 s = ([], (3, -1)) := by unfold V2; rw [if_pos hlong]
  rw [e]
  have hlong' : (4000 : Int) < (s.length : Int) := by omega
  have ha := Rg 3 (-1)
  refine A6 Tryz.func17 Pi rfl fun n H hH => ?_
  repeat' (first | simp -implicitDefEqProofs [Eo, Ez, Eh, Es, Ei, c17, -getElem?_pos, hlong', splice] | simp (disch := omega) only [AA] | ((with_reducible refine A8 27 ?_); (refine' CallP.sf ?_ (ha) ?_); (focus first | (with_reducible exact A0 _) | (simp [A5, A4, A1, A0]; done))) | (with_reducible first | exact AI | refine AP ?_ | intro _g _hg | refine A9 ?_ ?_ | intro _hc) | omega)
  all_goals first
   | exact DO (A2 (Aa 7) (A0 _))
   | (intro q hq; simp (disch := omega) only [upd_ne])
 ·rw [Yt hlong]
  have hlong' : ¬ (4000 : Int) < (s.length : Int) := by omega
  have hpa := W2 s (by omega) (s.length + 1) 0 (by omega) (by omega)
  have hrb := Gy 5000 s (by omega) (s.length + 1) 0 [] (by omega) (by omega) (E9 _)
  have hok := Hy (s.length + 1) s 0 ([], []) (by omega)
  rw [List.drop_zero] at hpa hrb
  change RefOk s 0 ([], []) (Cx s 0 []) at hok
  generalize Cx s 0 [] = X at *
  obtain ⟨l, j, en, t⟩ := X
  obtain ⟨q1, q2, q3, q4⟩ := hrb
  obtain ⟨c0, c1, c2, c3, c4, c5⟩ := hok
  dsimp only at q1 q2 q3 q4 c0 c1 c2 c3 c4 c5
  change APure _ _ _ (.agg [Cr l, aI j, aI (GY en)]) at hpa
  change APure _ _ [.str s, .int .i64 0] _ at hpa
  rcases c0 with h | h | h | h | h
  ·subst h
   obtain ⟨z1, z2⟩ := c2 rfl
   have hop := Z6 s (by omega) z2
   have e1 : (BP l (([], []) : Fv)).2.length = 0 := rfl
   rw [e1] at hop
   change APure _ _ _ (.bool false) at hop
   have hsm : FU l := P0 (B := 20000) (by omega) l (AR (by omega) q1).2.1
   have hll : l.length ≤ 20000 := (AR (B' := 20000) (by omega) q1).1
   have hr := A49 l (by omega) hsm
   have he : GY 0 = 0 := rfl
   rw [he] at hpa
   have e2 : Ug (l, j, 0, t) = if (EK l).1 ≠ 0 then ([], EK l) else (l, (0, 0)) := rfl
   rw [e2]
   by_cases h0 : (EK l).1 = 0
   ·rw [if_neg (by simpa using h0)]
    have hf : EK l = (0, (EK l).2) := by rw [← h0]
    rw [hf] at hr
    generalize (EK l).2 = f2 at *
    have ha := Rg 0 0
    refine A6 Tryz.func17 Pi rfl fun n H hH => ?_
    repeat' (first | simp -implicitDefEqProofs [Eo, Ez, Eh, Es, Ei, c17, -getElem?_pos, hlong', splice] | simp (disch := omega) only [AA] | ((with_reducible refine A8 43 ?_); (refine' CallP.sf ?_ (hpa) ?_); (focus first | (with_reducible exact A0 _) | (simp [A5, A4, A1, A0]; done))) | ((with_reducible refine A8 44 ?_); (refine' CallP.sf ?_ (hop) ?_); (focus first | (with_reducible exact A0 _) | (simp [A5, A4, A1, A0]; done))) | ((with_reducible refine A8 12 ?_); (refine' CallP.sf ?_ (hr) ?_); (focus first | (with_reducible exact A0 _) | (simp [A5, A4, A1, A0]; done))) | ((with_reducible refine A8 27 ?_); (refine' CallP.sf ?_ (ha) ?_); (focus first | (with_reducible exact A0 _) | (simp [A5, A4, A1, A0]; done))) | (with_reducible first | exact AI | refine AP ?_ | intro _g _hg | refine A9 ?_ ?_ | intro _hc) | omega)
    all_goals first
     | exact A1 _
     | (intro q hq; simp (disch := omega) only [upd_ne])
   ·rw [if_pos h0]
    obtain ⟨f1, f2, hf, hf0⟩ : ∃ f1 f2, EK l = (f1, f2) ∧ f1 ≠ 0 := ⟨_, _, rfl, h0⟩
    rw [hf] at hr ⊢
    refine A6 Tryz.func17 Pi rfl fun n H hH => ?_
    repeat' (first | simp -implicitDefEqProofs [Eo, Ez, Eh, Es, Ei, c17, -getElem?_pos, hlong', splice, hf0] | simp (disch := omega) only [AA] | ((with_reducible refine A8 43 ?_); (refine' CallP.sf ?_ (hpa) ?_); (focus first | (with_reducible exact A0 _) | (simp [A5, A4, A1, A0]; done))) | ((with_reducible refine A8 44 ?_); (refine' CallP.sf ?_ (hop) ?_); (focus first | (with_reducible exact A0 _) | (simp [A5, A4, A1, A0]; done))) | ((with_reducible refine A8 12 ?_); (refine' CallP.sf ?_ (hr) ?_); (focus first | (with_reducible exact A0 _) | (simp [A5, A4, A1, A0]; done))) | (with_reducible first | exact AI | refine AP ?_ | intro _g _hg | refine A9 ?_ ?_ | intro _hc) | omega)
    all_goals first
     | exact DO (A2 (Aa 7) (A0 _))
     | (intro q hq; simp (disch := omega) only [upd_ne])
  ·subst h
   have he : GY 1 = -1 := rfl
   rw [he] at hpa
   have e2 : Ug (l, j, 1, t) = ([], (1, (j : Int))) := rfl
   rw [e2]
   have ha := Rg 1 j
   refine A6 Tryz.func17 Pi rfl fun n H hH => ?_
   repeat' (first | simp -implicitDefEqProofs [Eo, Ez, Eh, Es, Ei, c17, -getElem?_pos, hlong', splice] | simp (disch := omega) only [AA] | ((with_reducible refine A8 43 ?_); (refine' CallP.sf ?_ (hpa) ?_); (focus first | (with_reducible exact A0 _) | (simp [A5, A4, A1, A0]; done))) | ((with_reducible refine A8 27 ?_); (refine' CallP.sf ?_ (ha) ?_); (focus first | (with_reducible exact A0 _) | (simp [A5, A4, A1, A0]; done))) | (with_reducible first | exact AI | refine AP ?_ | intro _g _hg | refine A9 ?_ ?_ | intro _hc) | omega)
   all_goals first
    | exact DO (A2 (Aa 7) (A0 _))
    | (intro q hq; simp (disch := omega) only [upd_ne])
  ·subst h
   have he : GY 5 = 5 := rfl
   rw [he] at hpa
   have e2 : Ug (l, j, 5, t) = ([], (1, (j : Int) - 8)) := rfl
   rw [e2]
   have ha := Rg 1 ((j : Int) - 8)
   refine A6 Tryz.func17 Pi rfl fun n H hH => ?_
   repeat' (first | simp -implicitDefEqProofs [Eo, Ez, Eh, Es, Ei, c17, -getElem?_pos, hlong', splice] | simp (disch := omega) only [AA] | ((with_reducible refine A8 43 ?_); (refine' CallP.sf ?_ (hpa) ?_); (focus first | (with_reducible exact A0 _) | (simp [A5, A4, A1, A0]; done))) | ((with_reducible refine A8 27 ?_); (refine' CallP.sf ?_ (ha) ?_); (focus first | (with_reducible exact A0 _) | (simp [A5, A4, A1, A0]; done))) | (with_reducible first | exact AI | refine AP ?_ | intro _g _hg | refine A9 ?_ ?_ | intro _hc) | omega)
   all_goals first
    | exact DO (A2 (Aa 7) (A0 _))
    | (intro q hq; simp (disch := omega) only [upd_ne])
  ·subst h
   have he : GY 6 = 6 := rfl
   rw [he] at hpa
   have e2 : Ug (l, j, 6, t) = ([], (1, (j : Int) - 7)) := rfl
   rw [e2]
   have ha := Rg 1 ((j : Int) - 7)
   refine A6 Tryz.func17 Pi rfl fun n H hH => ?_
   repeat' (first | simp -implicitDefEqProofs [Eo, Ez, Eh, Es, Ei, c17, -getElem?_pos, hlong', splice] | simp (disch := omega) only [AA] | ((with_reducible refine A8 43 ?_); (refine' CallP.sf ?_ (hpa) ?_); (focus first | (with_reducible exact A0 _) | (simp [A5, A4, A1, A0]; done))) | ((with_reducible refine A8 27 ?_); (refine' CallP.sf ?_ (ha) ?_); (focus first | (with_reducible exact A0 _) | (simp [A5, A4, A1, A0]; done))) | (with_reducible first | exact AI | refine AP ?_ | intro _g _hg | refine A9 ?_ ?_ | intro _hc) | omega)
   all_goals first
    | exact DO (A2 (Aa 7) (A0 _))
    | (intro q hq; simp (disch := omega) only [upd_ne])
  ·subst h
   obtain ⟨z1, st', z2, z3⟩ := c3 rfl
   have hop := Z6 s (by omega) z2
   have e1 : decide (0 < st'.2.length) = true := decide_eq_true (by simp at z3; omega)
   rw [e1] at hop
   have he : GY 7 = 0 := rfl
   rw [he] at hpa
   have e2 : Ug (l, j, 7, t) = ([], (1, (j : Int))) := rfl
   rw [e2]
   have ha := Rg 1 j
   refine A6 Tryz.func17 Pi rfl fun n H hH => ?_
   repeat' (first | simp -implicitDefEqProofs [Eo, Ez, Eh, Es, Ei, c17, -getElem?_pos, hlong', splice] | simp (disch := omega) only [AA] | ((with_reducible refine A8 43 ?_); (refine' CallP.sf ?_ (hpa) ?_); (focus first | (with_reducible exact A0 _) | (simp [A5, A4, A1, A0]; done))) | ((with_reducible refine A8 44 ?_); (refine' CallP.sf ?_ (hop) ?_); (focus first | (with_reducible exact A0 _) | (simp [A5, A4, A1, A0]; done))) | ((with_reducible refine A8 27 ?_); (refine' CallP.sf ?_ (ha) ?_); (focus first | (with_reducible exact A0 _) | (simp [A5, A4, A1, A0]; done))) | (with_reducible first | exact AI | refine AP ?_ | intro _g _hg | refine A9 ?_ ?_ | intro _hc) | omega)
   all_goals first
    | exact DO (A2 (Aa 7) (A0 _))
    | (intro q hq; simp (disch := omega) only [upd_ne])
def NO (l : List Pt) : Prop := APure Tryz.prog 18 [Cr l, Cr l] (.bool true)
theorem Zx (fs : List (AE × Int)) (hf : fs.length ≤ 2000000) (g6 g7 n : Nat) (H : A3) (v0 v1 v5 : AV) (c0 c1 c2 c3 c5 c6 : AV) (Q : AExit → AS → Prop) (h6 : H g6 = some (.cells 55 [c0, c1, c2, c3, Aq fs, c5, c6])) (h7 : H g7 = some (.cells 55 [c0, c1, c2, c3, Aq fs, c5, c6]))
  (hQ : ∀ en, get en 0 = v0 → get en 1 = v1 → get en 5 = v5 → Q (.exit 2) ⟨en, n, H⟩) : LoopK (fun Q s => aw Tryz.prog c18_L5 Q s) Q ⟨[(0, v0), (1, v1), (5, v5), (6, .ptr g6 0), (7, .ptr g7 0), (8, aI 0)], n, H⟩ := by
 
 refine LoopK.go (fun m st => ∃ (j : Nat), j + m = fs.length ∧ st = ⟨[(0, v0), (1, v1), (5, v5), (6, .ptr g6 0), (7, .ptr g7 0), (8, aI j)], n, H⟩) fs.length ⟨0, by omega, rfl⟩ ?_
 rintro m st ⟨j, hjm, rfl⟩ J hJ
 by_cases hj : j < fs.length
 ·obtain ⟨x, hx⟩ : ∃ x, fs[j]? = some x := ⟨_, List.getElem?_eq_getElem hj⟩
  have hx2 := Px hx
  have hj' : (j : Int) < fs.length := by omega
  obtain ⟨a, b⟩ := x
  repeat' (first | simp -implicitDefEqProofs [Me, My, Mx, -getElem?_pos, h6, h7, hx2, hj'] | simp (disch := omega) only [AA] | (with_reducible first | exact AI | refine AP ?_ | intro _g _hg | refine A9 ?_ ?_ | intro _hc) | omega)
  all_goals exact hJ (m - 1) _ (by omega) ⟨j + 1, by omega, rfl⟩
 ·have hj0 : j = fs.length := by omega
  subst hj0
  have hj' : ¬ (fs.length : Int) < fs.length := by omega
  repeat' (first | simp -implicitDefEqProofs [Me, My, Mx, -getElem?_pos, h6, h7, hj'] | simp (disch := omega) only [AA] | (with_reducible first | exact AI | refine AP ?_ | intro _g _hg | refine A9 ?_ ?_ | intro _hc) | omega)
  all_goals (refine hQ _ ?_ ?_ ?_ <;> rfl)
theorem Sa (l : List Pt) (hl : l.length ≤ 2000000) (hs : FU l) (hp : ∀ x ∈ l, NO x.b ∧ NO x.e) : NO l := by
 have hel := B3 l
 unfold NO
 refine A6 Tryz.func18 A4v rfl fun n H hH => ?_
 repeat' (first | simp -implicitDefEqProofs [c18, RN, -getElem?_pos, hel] | simp (disch := omega) only [AA] | (with_reducible first | exact AI | refine AP ?_ | intro _g _hg | refine A9 ?_ ?_ | intro _hc) | omega)
 refine LoopK.go (fun m st => ∃ (i n2 : Nat) (H2 : A3), i + m = l.length ∧ st = ⟨[(0, Cr l), (1, Cr l), (5, aI i)], n2, H2⟩ ∧ n ≤ n2 ∧ SameB n H H2 ∧ ∀ q, n2 ≤ q → H2 q = none) l.length ⟨0, _, _, by omega, rfl, Nat.le_refl _, SameB.rfl_ n H, hH⟩ ?_
 rintro m st ⟨i, n2, H2, him, rfl, hn2, hS, hsup⟩ J hJ
 by_cases hi : i < l.length
 ·obtain ⟨x, hx⟩ : ∃ x, l[i]? = some x := ⟨_, List.getElem?_eq_getElem hi⟩
  have hx2 := GW hx
  have hi' : (i : Int) < l.length := by omega
  have hsx := D6 hs (List.mem_of_getElem? hx)
  obtain ⟨cb, ce⟩ := hp x (List.mem_of_getElem? hx)
  obtain ⟨k, t, nm, pa, fs, b, e⟩ := x
  rw [B7] at hx2
  simp only [Ph] at hsx
  obtain ⟨s1, s2, s3, s4, s5, s6, s7, s8, s9⟩ := hsx
  change NO b at cb
  change NO e at ce
  change APure _ _ [.sl 7 (AB b) .ro, .sl 7 (AB b) .ro] _ at cb
  change APure _ _ [.sl 7 (AB e) .ro, .sl 7 (AB e) .ro] _ at ce
  have hst := Wp pa pa (by omega)
  rw [decide_eq_true rfl] at hst
  generalize AB b = eb at *
  generalize AB e = ee at *
  repeat' (first | simp -implicitDefEqProofs [Io, J2, -getElem?_pos, hel, hx2, hi'] | simp (disch := omega) only [AA] | (with_reducible first | exact AI | refine AP ?_ | intro _g _hg | refine A9 ?_ ?_ | intro _hc) | omega)
  refine Py (Nat.le_refl _) (FreeH.of hsup) fun g6 n6 q1 q2 q3 q4 => ?_
  repeat' (first | simp -implicitDefEqProofs [Io, J2, -getElem?_pos] | simp (disch := omega) only [AA] | (with_reducible first | exact AI | refine AP ?_ | intro _g _hg | refine A9 ?_ ?_ | intro _hc) | omega)
  refine Py (by omega) ((FreeH.of hsup).upd _ _) fun g7 n7 r1 r2 r3 r4 => ?_
  have hne : g6 ≠ g7 := by
   rintro rfl; rw [AN] at r2; cases r2
  repeat' (first | simp -implicitDefEqProofs [Io, J2, R6, -getElem?_pos, hne, Ne.symm hne, splice] | simp (disch := omega) only [AA] | ((with_reducible refine A8 23 ?_); (refine' CallP.sf ?_ (hst) ?_); (focus first | (with_reducible exact A0 _) | (simp [A5, A4, A1, A0]; done))) | ((with_reducible refine A8 18 ?_); (refine' CallP.sf ?_ (cb) ?_); (focus first | (with_reducible exact A0 _) | (simp [A5, A4, A1, A0]; done))) | ((with_reducible refine A8 18 ?_); (refine' CallP.sf ?_ (ce) ?_); (focus first | (with_reducible exact A0 _) | (simp [A5, A4, A1, A0]; done))) | (with_reducible first | exact AI | refine AP ?_ | intro _g _hg | refine A9 ?_ ?_ | intro _hc) | omega)
  refine Zx fs s5 g6 g7 _ _ _ _ _ _ _ _ _ _ _ _ (by simp (disch := omega) only [upd_ne, AN]; rfl) (by simp (disch := omega) only [upd_ne, AN]) fun en e0 e1 e5 => ?_
  repeat' (first | simp -implicitDefEqProofs [RT, -getElem?_pos, e0, e1, e5] | simp (disch := omega) only [AA] | (with_reducible first | exact AI | refine AP ?_ | intro _g _hg | refine A9 ?_ ?_ | intro _hc) | omega)
  exact hJ (m - 1) _ (by omega) ⟨i + 1, _, _, by omega, rfl, by omega, fun q hq => by simp (disch := omega) only [upd_ne]; exact hS q hq, fun q hq => by simp (disch := omega) only [upd_ne]; exact hsup q (by omega)⟩
 ·have hi0 : i = l.length := by omega
  subst hi0
  have hi' : ¬ (l.length : Int) < l.length := by omega
  repeat' (first | simp -implicitDefEqProofs [Ww, RT, Mx, My, Me, R6, J2, Io, RN, c18, -getElem?_pos, hel, hi'] | simp (disch := omega) only [AA] | (with_reducible first | exact AI | refine AP ?_ | intro _g _hg | refine A9 ?_ ?_ | intro _hc) | omega)
  all_goals first | exact A1 _ | exact hn2 | exact hS
theorem A0h (p : Pt) : Ph p → NO p.b ∧ NO p.e := by
 refine Pt.ind (Q := fun p => Ph p → NO p.b ∧ NO p.e) ?_ p
 intro k t n pa fs b e hb he hs
 simp only [Ph] at hs
 obtain ⟨s1, s2, s3, s4, s5, s6, s7, s8, s9⟩ := hs
 exact ⟨Sa b s6 s8 fun x hx => hb x hx (D6 s8 hx), Sa e s7 s9 fun x hx => he x hx (D6 s9 hx)⟩
theorem A2g (l : List Pt) (hl : l.length ≤ 2000000) (hs : FU l) : NO l := Sa l hl hs fun x hx => A0h x (D6 hs hx)
open Go.ChangeShapes Go.WideShapes Go.ChangeAt Go.RowKit Go.Deep
theorem A03 : ownKnob Tryz.prog.godebug = none := by kernel_rfl
theorem VT : laidOutB Tryz.prog = true := by kernel_rfl
theorem XR {w : World} {v : Value} {x : AV} (h : RepL (ghW w) [v] [x]) : Rep (ghW w) v x := by cases h; assumption
abbrev laidL : List (String × DataW Unit) := Rows.templatePrintMatchesSpecUptoRow.laid
theorem Z2 {P : Program} {w : World} {name : String} {d : DataW Unit} {k : IntKind} {zs : List Int} {g t e : Nat} {n : Nat} (h : Lib.VarReads P w name d) (hd : d = Lib.tabData k zs) (hg : P.globalNamed name = some g) (hty : (P.globals[g]?).map (·.type) = some t)
  (ht : P.underlying t = some (.array n e)) (he : P.underlying e = some (.int k)) (hce : P.cellsOf e = 1) (hct : P.cellsOf t = n) : ∃ t fz, w.heap[g]? = some (.cells (zs.map fun z => Value.int k z).toArray t fz) := by
 subst hd
 obtain ⟨g', t', cs, fuel, p, hg', ht', hvar, htr⟩ := h
 obtain rfl := Option.some.inj (hg.symm.trans hg')
 obtain rfl := Option.some.inj (hty.symm.trans ht')
 have hc := Lib.cells_of_tab ht he hce hct htr
 unfold World.var? at hvar
 rw [hg, Option.bind_some] at hvar
 split at hvar
 ·rename_i cs' t2 fz hh
  injection hvar with hvar
  subst hvar
  exact ⟨t2, fz, by rw [hh, ← hc]⟩
 ·cases hvar
theorem XT {P : Program} {w : World} {name nm : String} {d0 d : DataW Unit} {g t : Nat} {ms : Array (String × TypeId)} (h : Lib.VarReads P w name d0) (hd : d0 = .iface nm d) (hg : P.globalNamed name = some g) (hty : (P.globals[g]?).map (·.type) = some t)
  (ht : P.underlying t = some (.interface ms)) : ∃ v, w.cell? ⟨g, 0, none⟩ = some v ∧ (v = .nilIface ∨ ∃ te pe, v = .iface te pe) := by
 subst hd
 obtain ⟨g', t', cs, fuel, p, hg', ht', hvar, htr⟩ := h
 obtain rfl := Option.some.inj (hg.symm.trans hg')
 obtain rfl := Option.some.inj (hty.symm.trans ht')
 obtain ⟨_, u, v, hcs, _, _⟩ := iface_of_trod ht htr
 unfold World.var? at hvar
 rw [hg, Option.bind_some] at hvar
 split at hvar
 ·rename_i cs' t2 fz hh
  injection hvar with hvar
  subst hvar
  refine ⟨.iface u v, ?_, .inr ⟨u, v, rfl⟩⟩
  simp [World.cell?, hh, hcs]
  rw [← Array.getElem?_toList, hcs]; rfl
 ·cases hvar
theorem ZY : U8Extra Tryz.prog N2 := ⟨by kernel_rfl, by kernel_rfl, by kernel_rfl, by kernel_rfl, by kernel_rfl, by kernel_rfl, by kernel_rfl⟩
theorem Ov {w : World} (h : laidMetH Tryz.prog laidL w) (hsh : w.ShapedOpen Tryz.prog) : Laid w := by
 rw [MakeChecks.laidMetH_plain _ _ _ (by kernel_rfl)] at h
 have rd : ∀ i (hi : i < laidL.length), Lib.VarReads Tryz.prog w laidL[i].1 laidL[i].2 := fun i hi => Lib.laidMet.reads h (List.getElem_mem hi)
 have e8 : laidL[8].2 = Lib.firstData := by kernel_rfl
 have e3 : laidL[3].2 = Lib.acceptData := by kernel_rfl
 have d8 := rd 8 (by decide)
 have d3 := rd 3 (by decide)
 rw [e8] at d8
 rw [e3] at d3
 have hu := utf8Tabs_of_reads A0d ZY d8 d3
 exact ⟨Z2 (rd 7 (by decide)) (by kernel_rfl) (by kernel_rfl) (by kernel_rfl) Tryz.underlying211 Tryz.underlying5 (by kernel_rfl) (by kernel_rfl),
  Z2 (rd 2 (by decide)) (by kernel_rfl) (by kernel_rfl) (by kernel_rfl) Tryz.underlying228 Tryz.underlying198 (by kernel_rfl) (by kernel_rfl),
  XT (rd 5 (by decide)) (by rfl) (by kernel_rfl) (by kernel_rfl) Tryz.underlying113,
  XT (rd 4 (by decide)) (by rfl) (by kernel_rfl) (by kernel_rfl) Tryz.underlying113, hu,
  Go.Proofs.cell_of_shapedOpen_int (zero := #[.int .i64 0]) (t := 3) hsh (of_decide_eq_true (by kernel_rfl)) (by kernel_rfl) rfl (by kernel_rfl) (by kernel_rfl) Tryz.underlying3⟩
noncomputable def CP (os : Os) : World := World.laidAll Tryz.prog os laidL
instance : Inhabited Pt := ⟨.mk 0 [] [] [] [] [] []⟩
section
variable {H : Type} {enc : TypeId × Value → H} {w : World} {base : Nat} {spare : Nat → Bool} {held : Bool} {fuel : Nat}
end
end Go.Proofs.YtnfjgphfaemjcaaGreatDoor

/- Templates: the law of Parse; no condition. -/
import Derived.Test.YtnfjgphfaemjcaaGreatDoorMgI
import Derived.Test.YtnfjgphfaemjcaaGreatDoorMdQ
import Derived.Test.YtnfjgphfaemjcaaGreatDoorMdT
set_option linter.all false
set_option maxHeartbeats 4000000
namespace Go.Proofs.YtnfjgphfaemjcaaGreatDoor
theorem A3c {s : AE} : FU (JL s).1 ∧ (JL s).1.length ≤ 20000 := by
 rw [← Vs]
 by_cases h : 4000 < s.length
 ·unfold V2; rw [if_pos h]; exact ⟨trivial, by simp⟩
 ·rw [Yt h]
  have hrb := Gy 5000 s (by omega) (s.length + 1) 0 [] (by omega) (by omega) (E9 _)
  rw [List.drop_zero] at hrb
  have hsm : FU (Cx s 0 []).1 := P0 (B := 20000) (by omega) _ (AR (by omega) hrb.bd).2.1
  have hll := (AR (B' := 20000) (by omega) hrb.bd).1
  unfold Ug
  (repeat' split) <;> first | exact ⟨hsm, hll⟩ | exact ⟨trivial, by simp⟩
attribute [local simp] KJ EJ EI KX LT Lg L9 EG ED Fy GP LK KU Kz Ji KH J5 J7 J9 LA LF Ki Li Kq KB Qt pe Jv Kn Jl Kx Kb Jz LM K0 KZ KP Jr Jo L0 FN Np Od OB Nv Nq OI ON OA Nt O0 Oj Ns Of O9 Nr Ny O1 OQ OW OK No FX O6 FL OT Og Nj NP NS Nn Nu OF NZ NY NN Oc O4 OM NU NV Ot NX Oe O5 Om OC NQ NW Nx Fr Na OH OP Ok Oi Nk OR O2 On OS Nc OG Ol OU Ob NM Oa NT Nz K8 K2 LL KG Kg Jm Ju Kk K6 L6 LE IS Jc List.mem_cons guardK Dl Ed Er GX Nd Fh FO Fp FY FP FM FJ Fs Fg Nl OV FV Kf Oq OZ OE Nb Nw Fd LX OX Nf Jw La OD I9 Fq FT Fn FZ Ng Ni FQ OJ FW LN Fw Fe KV Fm Ft Nh O8 Oo KF OL Nm KI Jh Sg JD JH H9 JE JI JA Dx G0 Fz L8 G4 G3 E0 Dn UK JM JK G5 JJ JN Ds DY BN BR C0 DZ DI ev get put EW AD D9 KY KN LV Jx JB Kh EO part Ap Gz L1 Gc isNil Cu D4 Da D8 CE Lc LW LO K7 L2 J6 Jq Lf Jf KD L3 LZ Lh Jp LI LQ AV.fits AV.cells ones AV.one E5 Bp E7 DQ EV EN KE FA Fo CH BS Cw G7 E3 AN B6 VJ GL Lj Ke List.getElem?_cons_zero List.getElem?_cons_succ Fa FR Ff KR Kj Ku Gt LH L4 LS LG LD Jt KQ O3 KK Ja KL Ky LY Ko Je LB Ks Kv KO Kp KT L5 K5 Kw LJ Km LU Jy E6
theorem VP (s : AE) : APure Tryz.prog 4 [.str s] (.bool true) := by
 have hp := Ze s
 have hr := A4t s
 have hst := Sr
 obtain ⟨h1, h2⟩ := A3c (s := s)
 have hsa := A2g (JL s).1 (by omega) h1
 unfold NO at hsa
 generalize (JL s).1 = l at *
 generalize (JL s).2 = f at *
 obtain ⟨f1, f2⟩ := f
 refine A6 Tryz.func4 A6b rfl fun n H hH => ?_
 repeat' (first | simp -implicitDefEqProofs [c4, -getElem?_pos, splice] | simp (disch := omega) only [AA] | ((with_reducible refine A8 16 ?_); (refine' CallP.sf ?_ (hp) ?_); (focus first | (with_reducible exact A0 _) | (simp [A5, A4, A1, A0]; done))) | ((with_reducible refine A8 17 ?_); (refine' CallP.sf ?_ (hr) ?_); (focus first | (with_reducible exact A0 _) | (simp [A5, A4, A1, A0]; done))) | ((with_reducible refine A8 18 ?_); (refine' CallP.sf ?_ (hsa) ?_); (focus first | (with_reducible exact A0 _) | (simp [A5, A4, A1, A0]; done))) | ((with_reducible refine A8 14 ?_); (refine' CallP.sf ?_ (hst) ?_); (focus first | (with_reducible exact A0 _) | (simp [A5, A4, A1, A0]; done))) | (with_reducible first | exact AI | refine AP ?_ | intro _g _hg | refine A9 ?_ ?_ | intro _hc) | omega)
 all_goals first | exact A1 _ | (intro g hg; simp (disch := omega) only [upd_ne])
end Go.Proofs.YtnfjgphfaemjcaaGreatDoor

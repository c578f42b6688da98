/- Templates: the law of Paths; no condition. -/
import Derived.Test.YtnfjgphfaemjcaaGreatDoorMgH
import Derived.Test.YtnfjgphfaemjcaaGreatDoorMdP
import Derived.Test.YtnfjgphfaemjcaaGreatDoorMdQ
set_option linter.all false
set_option linter.unusedSimpArgs false
set_option linter.unusedVariables false
set_option maxHeartbeats 4000000
namespace Go.Proofs.YtnfjgphfaemjcaaGreatDoor
def MO (l : List Pt) : List AP × (Int × Int) := if (GR l).1 ≠ 0 then ([], GR l) else (D1 [] [] l, (0, 0))
theorem Om : A8 (.sl 0 [] .nil) (Ci []) := ⟨_, _, _, rfl, .inl rfl, .inr ⟨rfl, rfl⟩, rfl⟩
attribute [local simp] Iz E8 E9 JB Kv JT Jv EA E7 Ff GB Jc Ip JS Jt Iw Ho I0 IS KH Io JE Ix JH JF Pa pe Kd J9 Jz KY J7 Jy JU Ie JR Ju KJ Il JZ FJ Mm MP MS Mx Mj Nv Ny NZ Mr Mq Ml Nr MM No Mz NL NX Mv Mt NB NV FS N6 FG My Np Na Mp Ms Mo Mc Nn N7 Mb NJ MW MU Mf NP O4 Mu Nc Nm NQ NM N3 NC MV N0 FN O2 NE Nx NR Mw Ns O1 NO Nj Nb O0 Mh ND Nh Ma NY MQ MR NH Ku JA Ki Ke K9 Id KE Ii KT JG Ji Hf Jn List.mem_cons guardK DY EN EV Fh Me FE F9 FT FO FC F4 FY FL FW Mi NW F3 KG N4 NN MN NK NS F2 J0 Nk NF Ja KX Nq HM FB FR Fa FX Nz Nu F6 O3 F1 K0 FM FD JN F8 F7 N8 Mk N9 J8 Ng MT Jl Ko Qz IN IH GU IP ID II Dt Eu Ev KZ Ey Es Dv Db Su IF IY Ez IG Hu DT DK BX BK Bw DL Cd ev get put Dz AG DQ JC Ic Iy Jp IC J6 E5 part B0 GL KB Fg isNil Cs D3 DU D2 CW Ih Jb Jx KA Is Kr KP KQ JW KR KN Kl Jr JY JO K8 AV.fits AV.cells ones AV.one Dq Bt Dp DF Dy E3 Ir Ec Ek CY Bd Cx FZ Da AY B3 T8 Fm Ks JP List.getElem?_cons_zero List.getElem?_cons_succ FQ FH FU Kb JM Iq GI Jf JV KU Kn Kg KK Jh Ni JJ Je Jq KI Ij Jo It KL J1 K2 KV Kj Im K4 Jg JK Ka JI K6 Kh
theorem Vx (l : List Pt) (hl : l.length ≤ 2000000) (hs : F5 l) : APure Tryz.prog 22 [Cv l] (.tup [Ci (MO l).1, aF (MO l).2]) := by
  have hv := S9 l hl hs
  by_cases h0 : (GR l).1 = 0
  · obtain ⟨h1, h2, h3⟩ := OI h0
    have hok := KD l 0 0 0 hs h2
    have hsz := Eb l 0 0 0 (by omega) h2
    have hvi := W0 l hok (Oh l 0 0 0 h2) (by omega)
    have e : MO l = (D1 [] [] l, (0, 0)) := by unfold MO; rw [if_neg (by simpa using h0)]
    rw [e]
    rw [h1] at hv
    clear e
    simp only
    refine A9 Tryz.func22 Wt rfl fun n H hH => ?_
    repeat' (first | (simp -implicitDefEqProofs [Jd, c22, -getElem?_pos, splice, Gn Lo, -Cd]) | (simp (disch := omega) only [AE]) | ((with_reducible refine AH 13 ?_); (refine' CallP.sf ?_ (hv) ?_); (focus first | (with_reducible exact A0 _) | (simp [AA, A8, A1, A0]; done))) | (with_reducible first | refine A5 ?_ ?_ ?_ | exact AB | assumption | refine A2 ?_ | refine KM.of ?_ | refine AD ?_ | refine A3 ?_ | refine A6 ?_ | intro _g _hg | refine AC ?_ ?_ | intro _hc) | omega)
    rename_i g3 hg3 g4 hg4 g5 hg5
    refine ⟨_, ACalls.sim (hvi [] [] (.sl 0 [] .nil) g5 _g (_g + 1) _ ⟨by simp (disch := omega) only [upd_ne, AY], by simp (disch := omega) only [upd_ne, AY]⟩ (by omega) (by omega) (.inl ⟨rfl, rfl⟩) (by simp; omega) (by simp; omega)) (AR (A1 _) (AR Om (A0 _))), ?_⟩
    rintro r n' H' hn' hs' ⟨x', hV', hS⟩
    have hV1 := hV'.1
    have h33 : H' g3 = some (.cells 24 [aI 0, aI 0]) := by
      have := hS.fr g3 (by omega) (fun e => by cases e)
      rw [upd_ne (by omega), upd_ne (by omega)] at this
      rw [this]
      simp (disch := omega) only [upd_ne, AY]
    have hsim := hS.sl.sim
    have hsm : SameB n H H' := fun q hq => by
      have := hS.fr q (by omega) (fun e => by cases e)
      rw [upd_ne (by omega), upd_ne (by omega)] at this
      rw [this]
      simp (disch := omega) only [upd_ne]
    have hnn := hS.le
    clear hS hs'
    repeat' (first | (simp -implicitDefEqProofs [Jd, c22, -getElem?_pos, splice, hV1, h33]) | (simp (disch := omega) only [AE]) | (with_reducible first | refine A5 ?_ ?_ ?_ | exact AB | assumption | refine A2 ?_ | refine KM.of ?_ | refine AD ?_ | refine A3 ?_ | refine A6 ?_ | intro _g _hg | refine AC ?_ ?_ | intro _hc) | omega)
    all_goals first | exact QK (AR hsim (A0 _)) | exact hsm.upd hg3 _ | omega
  · have e : MO l = ([], GR l) := by unfold MO; rw [if_pos h0]
    rw [e]
    generalize hf : GR l = f at *
    obtain ⟨f1, f2⟩ := f
    simp only at h0 ⊢
    refine A9 Tryz.func22 Wt rfl fun n H hH => ?_
    repeat' (first | (simp -implicitDefEqProofs [Jd, c22, -getElem?_pos, splice, h0]) | (simp (disch := omega) only [AE]) | ((with_reducible refine AH 13 ?_); (refine' CallP.sf ?_ (hv) ?_); (focus first | (with_reducible exact A0 _) | (simp [AA, A8, A1, A0]; done))) | (with_reducible first | refine A5 ?_ ?_ ?_ | exact AB | assumption | refine A2 ?_ | refine KM.of ?_ | refine AD ?_ | refine A3 ?_ | refine A6 ?_ | intro _g _hg | refine AC ?_ ?_ | intro _hc) | omega)
    all_goals first | exact QK (AR Om (A0 _)) | (intro q hq; simp (disch := omega) only [upd_ne])
theorem S8 (l : List Pt) (hl : l.length ≤ 2000000) (hs : F5 l) : APure Tryz.prog 6 [Cv l] (.bool true) := by
  have hpt := Vx l hl hs
  have hr := Xa l hl hs
  have hst := Pi
  by_cases h0 : (GR l).1 = 0
  · obtain ⟨h1, h2, h3⟩ := OI h0
    have hok := KD l 0 0 0 hs h2
    have hsz := Eb l 0 0 0 (by omega) h2
    have hfr := Xj l hok (Oh l 0 0 0 h2) (by omega)
    have hlen := DP [] [] l
    have e : MO l = (D1 [] [] l, (0, 0)) := by unfold MO; rw [if_neg (by simpa using h0)]
    rw [e] at hpt
    rw [h1] at hr
    clear e
    obtain ⟨out, ho⟩ : ∃ out, D1 [] [] l = out := ⟨_, rfl⟩
    rw [ho] at hpt hlen
    have hss := Ti out out (by simp at hlen; omega)
    rw [decide_eq_true rfl] at hss
    simp only at hpt
    refine A9 Tryz.func6 Yn rfl fun n H hH => ?_
    repeat' (first | (simp -implicitDefEqProofs [MA, c6, -getElem?_pos, splice]) | (simp (disch := omega) only [AE]) | ((with_reducible refine AH 22 ?_); (refine' CallP.sf ?_ (hpt) ?_); (focus first | (with_reducible exact A0 _) | (simp [AA, A8, A1, A0]; done))) | ((with_reducible refine AH 12 ?_); (refine' CallP.sf ?_ (hr) ?_); (focus first | (with_reducible exact A0 _) | (simp [AA, A8, A1, A0]; done))) | (with_reducible first | refine A5 ?_ ?_ ?_ | exact AB | assumption | refine A2 ?_ | refine KM.of ?_ | refine AD ?_ | refine A3 ?_ | refine A6 ?_ | intro _g _hg | refine AC ?_ ?_ | intro _hc) | omega)
    refine ⟨_, ACalls.sim (hfr [] [] (.sl 0 [] .nil) _ _ (.inl ⟨rfl, rfl⟩) (by simp; omega) (by simp; omega)) (AR (A1 _) (AR (A1 _) (AR Om rfl))), ?_⟩
    rintro r n' H' hn' hs' hS
    rw [ho] at hS
    have hsim := hS.sl.sim
    have hnn := hS.le
    have hfr2 := hS.fr
    clear hS hs'
    simp only at hnn hfr2
    repeat' (first | (simp -implicitDefEqProofs [MA, c6, -getElem?_pos, splice]) | (simp (disch := omega) only [AE]) | ((with_reducible refine AH 23 ?_); refine ⟨_, _, hss, AR (A1 _) (AR hsim rfl), ?_⟩) | ((with_reducible refine AH 14 ?_); (refine' CallP.sf ?_ (hst) ?_); (focus first | (with_reducible exact A0 _) | (simp [AA, A8, A1, A0]; done))) | (with_reducible first | refine A5 ?_ ?_ ?_ | exact AB | assumption | refine A2 ?_ | refine KM.of ?_ | refine AD ?_ | refine A3 ?_ | refine A6 ?_ | intro _g _hg | refine AC ?_ ?_ | intro _hc) | omega)
    all_goals first
      | exact A1 _
      | omega
      | (intro q hq
         rw [hfr2 q (by omega) (fun e => by cases e)]
         simp (disch := omega) only [upd_ne])
  · have e : MO l = ([], GR l) := by unfold MO; rw [if_pos h0]
    rw [e] at hpt
    generalize hf : GR l = f at *
    obtain ⟨f1, f2⟩ := f
    simp only at h0 hpt
    refine A9 Tryz.func6 Yn rfl fun n H hH => ?_
    repeat' (first | (simp -implicitDefEqProofs [MA, c6, -getElem?_pos, splice, h0]) | (simp (disch := omega) only [AE]) | ((with_reducible refine AH 22 ?_); (refine' CallP.sf ?_ (hpt) ?_); (focus first | (with_reducible exact A0 _) | (simp [AA, A8, A1, A0]; done))) | ((with_reducible refine AH 12 ?_); (refine' CallP.sf ?_ (hr) ?_); (focus first | (with_reducible exact A0 _) | (simp [AA, A8, A1, A0]; done))) | ((with_reducible refine AH 14 ?_); (refine' CallP.sf ?_ (hst) ?_); (focus first | (with_reducible exact A0 _) | (simp [AA, A8, A1, A0]; done))) | (with_reducible first | refine A5 ?_ ?_ ?_ | exact AB | assumption | refine A2 ?_ | refine KM.of ?_ | refine AD ?_ | refine A3 ?_ | refine A6 ?_ | intro _g _hg | refine AC ?_ ?_ | intro _hc) | omega)
    all_goals first | exact A1 _ | (intro q hq; simp (disch := omega) only [upd_ne])
end Go.Proofs.YtnfjgphfaemjcaaGreatDoor

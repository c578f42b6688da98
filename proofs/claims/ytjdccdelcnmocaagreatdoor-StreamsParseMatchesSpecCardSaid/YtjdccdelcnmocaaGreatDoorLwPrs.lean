/- Streams: the law of Parse; no condition. -/
import Derived.Test.YtjdccdelcnmocaaGreatDoorMgJ
import Derived.Test.YtjdccdelcnmocaaGreatDoorMdX
import Derived.Test.YtjdccdelcnmocaaGreatDoorMdR
import Derived.Test.YtjdccdelcnmocaaGreatDoorMdV
set_option linter.all false
set_option linter.unusedSimpArgs false
set_option linter.unusedVariables false
set_option maxHeartbeats 4000000
namespace Go.Proofs.YtjdccdelcnmocaaGreatDoor
theorem YL (s : St) (h : APure Tryz.prog 26 [encS s, encS Ev] (.bool true)) : APure Tryz.prog 26 [encS s, .agg [aI 0, aI 0, aI 0, .sl 0 [] .nil, .sl 0 [] .nil]] (.bool true) := by
 have hI : ∀ i : Int, A8 (aI i) (aI i) := fun i => A1 _
 rw [AQ] at h
 exact fun n H => ACalls.sim (h n H) (AL (A1 _) (AL (CI (AL (hI _) (AL (hI _) (AL (hI _) (AL Bq (AL Bq (A0 _))))))) (A0 _)))
attribute [local simp] Kz De DC Kv Lp Je Jw Dj DK Fe Fi KJ JN LL KL Ig JX Ix L9 Kn K6 Kk LJ K3 Ji RM pe KK Io Iu JW JI Kf Ir L7 Jx LH J5 L8 Is DT J0 Ju Jg Ih Li Lf K5 KN Js LO Ks LC La Im Ip Ln JQ Kt Jt JF L4 DG Lv DY Kq JZ Ky LB LG Lk KH JM LE Jr LF KA JU L0 JY JB Lo JJ Ly Jl Lm Ik Jm Jf Kw DJ KO Lj JG Ld Jn Lh Kj J9 Kp Kb Lc K2 KE LR Il Lq JC L3 Km JR Lz Jd LN L2 M1 LM Lr KG Iv JO L1 LK List.mem_cons guardK CR Ez F6 Fa Lx DX DF DL Dd DP DM DN Dh D9 M0 Ki Dg KF LP JV Jp Kc K8 DR KX LV J1 JA LW LQ Fj DQ DS DH DA Lw Ja DW Ii DD L6 Db DE Ku DO DU LZ LD KR Lg Kl J7 L5 J4 RL IR IV Gt IN IS IL Cx FB FA KV FC F8 Cv CY Sc IH II F9 IK IT D0 D4 Bg BG C3 CK Ar ev get put GQ AP Cr Jc K4 Kd LI JT Jh EF part BZ HA Jy Gx isNil CA CG EL CQ C1 Kx JP J3 KI Iq IF Ij JE Jo LU Jq Jv K7 Jz KZ Iz AV.fits AV.cells ones AV.one EK CD EE E2 FV ES Ll GB Fy CH Br C5 F3 Gg AX BY TO Fc Ko Ie List.getElem?_cons_zero List.getElem?_cons_succ Dc Df Di J8 Kg Ls H9 It Kh JK KD Ke LT JH Lu Iw LY JD
theorem Su (t : AW) : APure Tryz.prog 6 [.str t] (.bool true) := by
 have hst := TM
 have hpa := UH t
 have hsn : APure Tryz.prog 26 [.agg [aI 0, aI 0, aI 0, .sl 1 [] .ro, .sl 5 (Ae []) .ro], .agg [aI 0, aI 0, aI 0, .sl 0 [] .nil, .sl 0 [] .nil]] (.bool true) := by
  have h := YL Ev (WL Ev ⟨by simp, by simp, trivial⟩)
  rw [AQ] at h
  exact h
 have hat3 := VV 3 (-1)
 have hat1 := VV 1 (-1)
 by_cases hl : 4000 < t.length
 ·have hl' : (4000 : Int) < t.length := by omega
  have e : PM t = (Ev, (3, -1)) := by unfold PM; rw [if_pos hl]
  rw [e] at hpa
  dsimp only at hpa
  rw [AQ] at *
  
  refine A9 Tryz.func6 Yh rfl fun n H hH => ?_
  repeat' (first | (simp -implicitDefEqProofs [MD, M9, MB, c6, -getElem?_pos, splice, hl']) | (simp (disch := omega) only [AF]) | ((with_reducible refine AJ 25 ?_); refine' AZ (hpa) ?_) | ((with_reducible refine AJ 26 ?_); refine' AZ (hsn) ?_) | ((with_reducible refine AJ 20 ?_); refine' AZ (hat3) ?_) | ((with_reducible refine AJ 16 ?_); refine' AZ (hst) ?_) | (with_reducible first | refine A7 ?_ ?_ ?_ | exact AB | assumption | refine A3 ?_ | refine KM.of ?_ | refine AG ?_ | refine A2 ?_ | refine A5 ?_ | intro _g _hg | refine AE ?_ ?_ | intro _hc) | omega)
  all_goals first | exact A1 _ | (intro g hg; simp (disch := omega) only [upd_ne])
 ·have hl' : ¬ (4000 : Int) < t.length := by omega
  have hso : APure Tryz.prog 27 [.str t] (.tup [encS (Fl (t.length + 1) t).1, .bool (Fl (t.length + 1) t).2]) := TP (t.length + 1) t (by omega) (by omega)
  have hpr := Yy t
  have hfit := @Od (t.length + 1) t
  cases hr : (Fl (t.length + 1) t).2 with
  | false =>
   have hno := hpr.2 hr
   have e : PM t = (Ev, (1, -1)) := by
    unfold PM
    rw [if_neg hl]
    cases hp : FD (t.length + 1) t with
    | none => rfl
    | some x =>
     obtain ⟨s, r⟩ := x
     exact if_neg (fun e => hno s (by rw [hp, e]))
   rw [e] at hpa
   dsimp only at hpa
   rw [hr] at hso
   generalize (Fl (t.length + 1) t).1 = r at *
   obtain ⟨k, o, m', v, p⟩ := r
   rw [AQ] at *
   
   refine A9 Tryz.func6 Yh rfl fun n H hH => ?_
   repeat' (first | (simp -implicitDefEqProofs [MD, M9, MB, c6, -getElem?_pos, splice, hl']) | (simp (disch := omega) only [AF]) | ((with_reducible refine AJ 25 ?_); refine' AZ (hpa) ?_) | ((with_reducible refine AJ 27 ?_); refine' AZ (hso) ?_) | ((with_reducible refine AJ 26 ?_); refine' AZ (hsn) ?_) | ((with_reducible refine AJ 20 ?_); refine' AZ (hat1) ?_) | ((with_reducible refine AJ 16 ?_); refine' AZ (hst) ?_) | (with_reducible first | refine A7 ?_ ?_ ?_ | exact AB | assumption | refine A3 ?_ | refine KM.of ?_ | refine AG ?_ | refine A2 ?_ | refine A5 ?_ | intro _g _hg | refine AE ?_ ?_ | intro _hc) | omega)
   all_goals first | exact A1 _ | (intro g hg; simp (disch := omega) only [upd_ne])
  | true =>
   have hps := hpr.1 (Fl (t.length + 1) t).1 (by rw [← hr])
   generalize hs : (Fl (t.length + 1) t).1 = s at *
   have hf := hfit (by omega) hps
   have hsa := WL s hf
   have hw := P9 s hf
   have e : PM t = if (Cl s).1 ≠ 0 then (Ev, Cl s) else (s, (0, 0)) := by
    unfold PM
    rw [if_neg hl, hps]
    rfl
   rw [e] at hpa
   rw [hr] at hso
   clear e hps hs hr hpr hfit
   generalize Cl s = f at *
   by_cases h0 : f.1 = 0
   ·rw [if_neg (fun h => h h0)] at hpa
    dsimp only at hpa
    have hb : (f.1 == 0) = true := by simpa using h0
    obtain ⟨k, o, m', v, p⟩ := s
    rw [AQ] at *
    
    refine A9 Tryz.func6 Yh rfl fun n H hH => ?_
    repeat' (first | (simp -implicitDefEqProofs [MD, M9, MB, c6, -getElem?_pos, splice, hl', h0, hb]) | (simp (disch := omega) only [AF]) | ((with_reducible refine AJ 25 ?_); refine' AZ (hpa) ?_) | ((with_reducible refine AJ 27 ?_); refine' AZ (hso) ?_) | ((with_reducible refine AJ 14 ?_); refine' AZ (hw) ?_) | ((with_reducible refine AJ 26 ?_); refine' AZ (hsa) ?_) | ((with_reducible refine AJ 20 ?_); refine' AZ (hat1) ?_) | ((with_reducible refine AJ 16 ?_); refine' AZ (hst) ?_) | (with_reducible first | refine A7 ?_ ?_ ?_ | exact AB | assumption | refine A3 ?_ | refine KM.of ?_ | refine AG ?_ | refine A2 ?_ | refine A5 ?_ | intro _g _hg | refine AE ?_ ?_ | intro _hc) | omega)
    all_goals first | exact A1 _ | (intro g hg; simp (disch := omega) only [upd_ne])
   ·rw [if_pos h0] at hpa
    dsimp only at hpa
    have hb : (f.1 == 0) = false := by simpa using h0
    obtain ⟨k, o, m', v, p⟩ := s
    rw [AQ] at *
    
    refine A9 Tryz.func6 Yh rfl fun n H hH => ?_
    repeat' (first | (simp -implicitDefEqProofs [MD, M9, MB, c6, -getElem?_pos, splice, hl', h0, hb]) | (simp (disch := omega) only [AF]) | ((with_reducible refine AJ 25 ?_); refine' AZ (hpa) ?_) | ((with_reducible refine AJ 27 ?_); refine' AZ (hso) ?_) | ((with_reducible refine AJ 14 ?_); refine' AZ (hw) ?_) | ((with_reducible refine AJ 26 ?_); refine' AZ (hsn) ?_) | ((with_reducible refine AJ 20 ?_); refine' AZ (hat1) ?_) | ((with_reducible refine AJ 16 ?_); refine' AZ (hst) ?_) | (with_reducible first | refine A7 ?_ ?_ ?_ | exact AB | assumption | refine A3 ?_ | refine KM.of ?_ | refine AG ?_ | refine A2 ?_ | refine A5 ?_ | intro _g _hg | refine AE ?_ ?_ | intro _hc) | omega)
    all_goals first | exact A1 _ | (intro g hg; simp (disch := omega) only [upd_ne])
end Go.Proofs.YtjdccdelcnmocaaGreatDoor

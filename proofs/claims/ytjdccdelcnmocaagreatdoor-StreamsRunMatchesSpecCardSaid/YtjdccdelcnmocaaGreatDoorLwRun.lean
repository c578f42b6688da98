/- Streams: the law of Run; no condition. -/
import Derived.Test.YtjdccdelcnmocaaGreatDoorMgK
import Derived.Test.YtjdccdelcnmocaaGreatDoorMdV
import Derived.Test.YtjdccdelcnmocaaGreatDoorMdT
import Derived.Test.YtjdccdelcnmocaaGreatDoorMdQ
import Derived.Test.YtjdccdelcnmocaaGreatDoorAdG
set_option linter.all false
set_option maxHeartbeats 4000000
namespace Go.Proofs.YtjdccdelcnmocaaGreatDoor
theorem A1h {F : Fut} {m : Nat} (h : m ≤ F.l.length) : HV F m = GC F m := by
 unfold HV GC J3
 rw [List.getD_eq_getElem?_getD, List.getD_eq_getElem?_getD, ← List.cons_append, List.getElem?_append_left (by simp; omega)]
attribute [local simp] Ng FD FC Lc MV LI Ni FN FF HQ HO Lg MC Nq MZ Ny No NG NY LV LZ M0 MT Ly LJ Tq pe N9 Ld MD Lv N1 Nf Li O7 Mz N4 Mx Mc Ln FU O5 OC Lk Nt NR Na Mr Ma OD Mh LX NT LR Ms MX LN Np N0 Ls LH Lf Ey MY F4 LL Lo OA O0 M9 Nj M4 MF MA MG NF N7 Mt Mi Mo Lw Mq MQ MH Mj N8 Nv Nr Ns Nm FX M1 Nh Mw Lu Mk Md M8 NZ O8 NJ MJ MS Nd M2 Lp NA N5 Mn Lt NQ NX NN MI Nc NW LW NK Mf Mp Nu Ja Ll List.mem_cons guardK EE G9 GK HN LK F3 FL F8 FO FJ FG FQ FY Ez LF ME FV LM MP M7 Lh N3 MM F1 MW NL NV LG LU Lr HS FT FB FS FM Nn M5 FP LQ F9 Lj F6 FA Nz F5 F2 Lq My ND NU NH MB Lm OB Tt KK Ki Hc KI Ju K7 Eb Gt HA MN Gm Gu EZ ED Wm Jx Kn Gq Ji Js E5 Dd BZ B9 CA DW AA ev get put Fc AC EC Mb MK Lx O4 KL NP Eu part B8 HY N2 HB isNil DA DG Dz DK DH NO O6 OF NS M3 Ke LY Mu Nl MR OE Nk Nb LT Nw Mv AV.fits AV.cells ones AV.one EP Bw EN DX Fb Ev Mm Fy GE CW Bd CB F7 GI AP BD Xd HU N6 Me List.getElem?_cons_zero List.getElem?_cons_succ FW FH F0 NB NM NI HW Ml MO NE Lz ML M6 Mg MU Nx O9 LP
theorem ZZ (s : St) (hf : EG s) (m : Int) : APure Tryz.prog 4 [encS s, aI m] (.bool true) := by
 have hrun := A61 s hf m
 have hw := Pp s hf
 have hst := U1
 have hin := Ik m 0 5000
 have hatt := ZE 4 (-2)
 by_cases h0 : (HM s).1 = 0
 ·obtain ⟨h1, h2, h3, h4⟩ := OH h0
  by_cases hm : 0 ≤ m ∧ m ≤ 5000
  ·have hall := A53 s ⟨hf, h2, h3, h4⟩
   have hfew := Vl h4
   have hbd := IN s h2
   have hb5 : (AR s).l.length ≤ 5000 := by
    have : Ac s ≤ 5000 := by obtain ⟨k, o, m, v, p⟩ := s; exact h3.1
    omega
   unfold RT at hrun
   rw [if_neg (fun h => h h0), if_neg (fun h => h hm)] at hrun
   rw [h1] at hw
   have hin2 : (decide ((0 : Int) ≤ m) && decide (m ≤ 5000)) = true := by simp [hm]
   rw [hin2] at hin
   obtain ⟨M, rfl⟩ : ∃ M : Nat, m = M := ⟨m.toNat, by omega⟩
   rw [Int.toNat_natCast] at hrun
   generalize AR s = F at *
   have hB := R7 F
   have htk : (RQ F).take M = (F.l.map (·.1)).take M := rfl
   have hxm : eX F.l = (RQ F).map aI := by simp [eX, RQ]
   rw [FZ] at hall
   have hi1 := Uh ((F.l.map (·.1)).take M) ((F.l.map (·.1)).take M) (by simp; omega)
   have hxe : (eX F.l).take M = ((F.l.map (·.1)).take M).map aI := by simp [eX, List.map_take, Function.comp_def]
   have hxx : M ≤ F.l.length ∨ (F.l.map (·.1)).take M = F.l.map (·.1) := by
    by_cases h : M ≤ F.l.length
    ·exact .inl h
    ·exact .inr (List.take_of_length_le (by simp; omega))
   rw [decide_eq_true rfl] at hi1
   obtain ⟨hxl, htl, haa, hea⟩ := hB
   by_cases hlm : M ≤ F.l.length
   ·have hc := A1h hlm
    have hta := haa M (by omega)
    have hi2 := Uh (GC F M) (GC F M) (by have := hfew.at_ (i := M) (by omega); omega)
    rw [decide_eq_true rfl] at hi2
    rw [if_pos hlm, hc, decide_eq_false (by omega)] at hrun
    have hlm' : (M : Int) ≤ F.l.length := by omega
    unfold BX at *
    generalize ((F.l.map (·.1)).take M).map aI = ya at *
    generalize eX F.l = xa at *
    generalize eT F.cur F.l ++ [.sl 1 (F.fin.map aI) .ro] = ta at *
    generalize (GC F M).map aI = tm at *
    obtain ⟨k, o, m', v, p⟩ := s
    rw [AN] at *
    
    refine A8 Tryz.func4 A10 rfl fun n H hH => ?_
    repeat' (first | simp -implicitDefEqProofs [Jb, JL, JX, c4, -getElem?_pos, splice, hlm', hxl, htl, hta, hxe] | simp (disch := omega) only [A6] | ((with_reducible refine AO 18 ?_); (refine' CallP.sf ?_ (hrun) ?_); (focus first | (with_reducible exact A0 _) | (simp [AK, AH, A4, A0]; done))) | ((with_reducible refine AO 14 ?_); (refine' CallP.sf ?_ (hw) ?_); (focus first | (with_reducible exact A0 _) | (simp [AK, AH, A4, A0]; done))) | ((with_reducible refine AO 19 ?_); (refine' CallP.sf ?_ (hin) ?_); (focus first | (with_reducible exact A0 _) | (simp [AK, AH, A4, A0]; done))) | ((with_reducible refine AO 21 ?_); (refine' CallP.sf ?_ (hall) ?_); (focus first | (with_reducible exact A0 _) | (simp [AK, AH, A4, A0]; done))) | ((with_reducible refine AO 22 ?_); (refine' CallP.sf ?_ (hi1) ?_); (focus first | (with_reducible exact A0 _) | (simp [AK, AH, A4, A0]; done))) | ((with_reducible refine AO 22 ?_); (refine' CallP.sf ?_ (hi2) ?_); (focus first | (with_reducible exact A0 _) | (simp [AK, AH, A4, A0]; done))) | ((with_reducible refine AO 16 ?_); (refine' CallP.sf ?_ (hst) ?_); (focus first | (with_reducible exact A0 _) | (simp [AK, AH, A4, A0]; done))) | (with_reducible first | exact AG | refine Db ?_ | intro _g _hg | refine A5 ?_ ?_ | intro _hc) | omega)
    all_goals first | exact A4 _ | (intro g hg; simp (disch := omega) only [upd_ne])
   ·have hfe := haa (F.l.length + 1) (by omega)
    rw [Dh] at hfe
    have hce := hfew.at_ (i := F.l.length + 1) (by omega)
    rw [Dh] at hce
    have hi2 := Uh F.fin F.fin (by omega)
    rw [decide_eq_true rfl] at hi2
    have hya := hxx.resolve_left hlm
    have hxe2 : eX F.l = (F.l.map (·.1)).map aI := by simp [eX, Function.comp_def]
    rw [hya] at hrun hi1
    rw [if_neg hlm, decide_eq_true (by omega)] at hrun
    have hlm' : ¬ (M : Int) ≤ F.l.length := by omega
    rw [← hxe2] at hrun hi1
    clear hxe hxm htk hxx hya hxe2
    unfold BX at *
    generalize eX F.l = xa at *
    generalize eT F.cur F.l ++ [.sl 1 (F.fin.map aI) .ro] = ta at *
    generalize F.fin.map aI = tm at *
    obtain ⟨k, o, m', v, p⟩ := s
    rw [AN] at *
    
    refine A8 Tryz.func4 A10 rfl fun n H hH => ?_
    repeat' (first | simp -implicitDefEqProofs [Jb, JL, JX, c4, -getElem?_pos, splice, hlm', hxl, htl, hfe] | simp (disch := omega) only [A6] | ((with_reducible refine AO 18 ?_); (refine' CallP.sf ?_ (hrun) ?_); (focus first | (with_reducible exact A0 _) | (simp [AK, AH, A4, A0]; done))) | ((with_reducible refine AO 14 ?_); (refine' CallP.sf ?_ (hw) ?_); (focus first | (with_reducible exact A0 _) | (simp [AK, AH, A4, A0]; done))) | ((with_reducible refine AO 19 ?_); (refine' CallP.sf ?_ (hin) ?_); (focus first | (with_reducible exact A0 _) | (simp [AK, AH, A4, A0]; done))) | ((with_reducible refine AO 21 ?_); (refine' CallP.sf ?_ (hall) ?_); (focus first | (with_reducible exact A0 _) | (simp [AK, AH, A4, A0]; done))) | ((with_reducible refine AO 22 ?_); (refine' CallP.sf ?_ (hi1) ?_); (focus first | (with_reducible exact A0 _) | (simp [AK, AH, A4, A0]; done))) | ((with_reducible refine AO 22 ?_); (refine' CallP.sf ?_ (hi2) ?_); (focus first | (with_reducible exact A0 _) | (simp [AK, AH, A4, A0]; done))) | ((with_reducible refine AO 16 ?_); (refine' CallP.sf ?_ (hst) ?_); (focus first | (with_reducible exact A0 _) | (simp [AK, AH, A4, A0]; done))) | (with_reducible first | exact AG | refine Db ?_ | intro _g _hg | refine A5 ?_ ?_ | intro _hc) | omega)
    all_goals first | exact A4 _ | (intro g hg; simp (disch := omega) only [upd_ne])
  ·unfold RT at hrun
   rw [if_neg (fun h => h h0), if_pos hm] at hrun
   rw [h1] at hw
   have hin2 : (decide ((0 : Int) ≤ m) && decide (m ≤ 5000)) = false := by
    cases h : (decide ((0 : Int) ≤ m) && decide (m ≤ 5000)) with
    | false => rfl
    | true => simp at h; exact absurd h hm
   rw [hin2] at hin
   obtain ⟨k, o, m', v, p⟩ := s
   rw [AN] at *
   
   refine A8 Tryz.func4 A10 rfl fun n H hH => ?_
   repeat' (first | simp -implicitDefEqProofs [Jb, JL, JX, c4, -getElem?_pos, splice] | simp (disch := omega) only [A6] | ((with_reducible refine AO 18 ?_); (refine' CallP.sf ?_ (hrun) ?_); (focus first | (with_reducible exact A0 _) | (simp [AK, AH, A4, A0]; done))) | ((with_reducible refine AO 14 ?_); (refine' CallP.sf ?_ (hw) ?_); (focus first | (with_reducible exact A0 _) | (simp [AK, AH, A4, A0]; done))) | ((with_reducible refine AO 19 ?_); (refine' CallP.sf ?_ (hin) ?_); (focus first | (with_reducible exact A0 _) | (simp [AK, AH, A4, A0]; done))) | ((with_reducible refine AO 20 ?_); (refine' CallP.sf ?_ (hatt) ?_); (focus first | (with_reducible exact A0 _) | (simp [AK, AH, A4, A0]; done))) | ((with_reducible refine AO 16 ?_); (refine' CallP.sf ?_ (hst) ?_); (focus first | (with_reducible exact A0 _) | (simp [AK, AH, A4, A0]; done))) | (with_reducible first | exact AG | refine Db ?_ | intro _g _hg | refine A5 ?_ ?_ | intro _hc) | omega)
   all_goals first | exact A4 _ | (intro g hg; simp (disch := omega) only [upd_ne])
 ·unfold RT at hrun
  rw [if_pos h0] at hrun
  generalize HM s = f at *
  obtain ⟨k, o, m', v, p⟩ := s
  rw [AN] at *
  have hb : (f.1 == 0) = false := by simpa using h0
  
  refine A8 Tryz.func4 A10 rfl fun n H hH => ?_
  repeat' (first | simp -implicitDefEqProofs [Jb, JL, JX, c4, -getElem?_pos, splice, h0, hb] | simp (disch := omega) only [A6] | ((with_reducible refine AO 18 ?_); (refine' CallP.sf ?_ (hrun) ?_); (focus first | (with_reducible exact A0 _) | (simp [AK, AH, A4, A0]; done))) | ((with_reducible refine AO 14 ?_); (refine' CallP.sf ?_ (hw) ?_); (focus first | (with_reducible exact A0 _) | (simp [AK, AH, A4, A0]; done))) | ((with_reducible refine AO 16 ?_); (refine' CallP.sf ?_ (hst) ?_); (focus first | (with_reducible exact A0 _) | (simp [AK, AH, A4, A0]; done))) | (with_reducible first | exact AG | refine Db ?_ | intro _g _hg | refine A5 ?_ ?_ | intro _hc) | omega)
  all_goals first | exact A4 _ | (intro g hg; simp (disch := omega) only [upd_ne])
end Go.Proofs.YtjdccdelcnmocaaGreatDoor

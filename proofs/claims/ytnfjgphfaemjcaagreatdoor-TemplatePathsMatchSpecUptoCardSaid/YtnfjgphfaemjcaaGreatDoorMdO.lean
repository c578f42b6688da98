/- Templates: the program's text of one; no condition. -/
import Derived.Test.YtnfjgphfaemjcaaGreatDoorMgH
import Derived.Test.YtnfjgphfaemjcaaGreatDoorMdN
import Derived.Test.YtnfjgphfaemjcaaGreatDoorMdM
import Derived.Test.YtnfjgphfaemjcaaGreatDoorMgI
import Derived.Test.YtnfjgphfaemjcaaGreatDoorMdL
import Derived.Test.YtnfjgphfaemjcaaGreatDoorAdE
set_option linter.all false
set_option linter.unusedSimpArgs false
set_option linter.unusedVariables false
set_option maxHeartbeats 8000000
namespace Go.Proofs.YtnfjgphfaemjcaaGreatDoor
theorem Bv (k : Int) (t n : AP) (pa : List AP) (fs : List (AP × Int)) (b e : List Pt) : ER (.mk k t n pa fs b e) = .agg [aI k, .str t, .str n, Ci pa, DE fs, .sl 7 (AO b) .ro, .sl 7 (AO e) .ro] := by rw [ER]
theorem Qw {l : List Pt} {i : Nat} {x : Pt} (h : l[i]? = some x) : Cj (l.take (i + 1)) = Cj (l.take i) ++ VX x := by
  rw [List.take_add_one, h, PD]
  simp [Cj]
theorem PB (l : List Pt) (i : Nat) : (Cj (l.take i)).length ≤ (Cj l).length := by
  conv => rhs; rw [← List.take_append_drop i l, PD]
  simp
theorem SE {l : List (AP × Int)} {i : Nat} {x : AP × Int} (h : l[i]? = some x) : (l.take (i + 1)).flatMap Lp = (l.take i).flatMap Lp ++ Lp x := by
  rw [List.take_add_one, h]
  simp
attribute [local simp] Iz E8 E9 JB Kv JT Jv EA E7 Ff GB Jc Ip JS Jt Iw Ho I0 IS KH Io JE Ix JH JF Pa pe Kd J9 Jz KY J7 Jy JU Ie JR Ju KJ Il JZ FJ Mm MP MS Mx Mj Nv Ny NZ Mr Mq Ml Nr MM No Mz NL NX Mv Mt NB NV FS N6 FG My Np Na Mp Ms Mo Mc Nn N7 Mb NJ MW MU Mf NP O4 Mu Nc Nm NQ NM N3 NC MV N0 FN O2 NE Nx NR Mw Ns O1 NO Nj Nb O0 Mh ND Nh Ma NY MQ MR NH Ku JA Ki Ke K9 Id KE Ii KT JG Ji Hf Jn List.mem_cons guardK DY EN EV Fh Me FE F9 FT FO FC F4 FY FL FW Mi NW F3 KG N4 NN MN NK NS F2 J0 Nk NF Ja KX Nq HM FB FR Fa FX Nz Nu F6 O3 F1 K0 FM FD JN F8 F7 N8 Mk N9 J8 Ng MT Jl Ko Qz IN IH GU IP ID II Dt Eu Ev KZ Ey Es Dv Db Su IF IY Ez IG Hu DT DK BX BK Bw DL Cd ev get put Dz AG DQ JC Ic Iy Jp IC J6 E5 part B0 GL KB Fg isNil Cs D3 DU D2 CW Ih Jb Jx KA Is Kr KP KQ JW KR KN Kl Jr JY JO K8 AV.fits AV.cells ones AV.one Dq Bt Dp DF Dy E3 Ir Ec Ek CY Bd Cx FZ Da AY B3 T8 Fm Ks JP List.getElem?_cons_zero List.getElem?_cons_succ FQ FH FU Kb JM Iq GI Jf JV KU Kn Kg KK Jh Ni JJ Je Jq KI Ij Jo It KL J1 K2 KV Kj Im K4 Jg JK Ka JI K6 Kh
theorem VR (fs : List (AP × Int)) (hf : ∀ f ∈ fs, f.1.length ≤ 24 ∧ 0 ≤ f.2 ∧ f.2 ≤ 200) (hfl : fs.length ≤ 8) (n : Nat) (H : A4) (g : Nat) (acc : AP) (hacc : acc ≠ []) (hal : acc.length ≤ 950000000) (v9 v10 v11 : AV) (Q : AExit → AS → Prop)
    (n1 : Nat) (H1 : A4) (hB0 : Bs n H g acc [] n1 H1) (hQ : ∀ n2 H2, Bs n H g (acc ++ fs.flatMap Lp) [] n2 H2 → Q (.exit 3) ⟨[(3, .ptr g 0), (9, v9), (10, v10), (11, v11), (40, DE fs), (41, aI fs.length), (42, aI fs.length), (43, .bool false)], n2, H2⟩) :
    LoopK (fun Q s => aw Tryz.prog c31_L8 Q s) Q ⟨[(3, .ptr g 0), (9, v9), (10, v10), (11, v11), (40, DE fs), (41, aI fs.length), (42, aI 0)], n1, H1⟩ := by
  
  refine LoopK.go (fun m st => ∃ (j n2 : Nat) (H2 : A4), j + m = fs.length ∧ st = ⟨[(3, .ptr g 0), (9, v9), (10, v10), (11, v11), (40, DE fs), (41, aI fs.length), (42, aI j)], n2, H2⟩ ∧ Bs n H g (acc ++ (fs.take j).flatMap Lp) [] n2 H2) fs.length ⟨0, _, _, by omega, rfl, by simpa using hB0⟩ ?_
  clear hB0
  rintro m st ⟨j, n2, H2, hjm, rfl, hB⟩ J hJ
  have _hq : True := trivial
  by_cases hj : j < fs.length
  · obtain ⟨x, hx⟩ : ∃ x, fs[j]? = some x := ⟨_, List.getElem?_eq_getElem hj⟩
    have hx2 := PQ hx
    have hj' : (j : Int) < fs.length := by omega
    have htk := SE hx
    obtain ⟨f1, f2, f3⟩ := hf x (List.mem_of_getElem? hx)
    have hm := QY x.1
    have hk3 := IJ x.1
    have hln := G7 (fs.take j) fun y hy => hf y (List.mem_of_mem_take hy)
    have hl8 : (fs.take j).length ≤ 8 := by simp; omega
    obtain ⟨a, b⟩ := x
    simp only at f1 f2 f3 hm hk3 htk
    have hi := Rv b (by omega)
    have hil := MD (n := b) (by omega)
    have e0 : Lp (a, b) = 124 :: a ++ if Hy a = 2 then 32 :: Lib.itoa b else [] := rfl
    rw [e0] at htk
    clear e0
    have hfr : ((fs.take j).flatMap Lp).length ≤ 300 := by omega
    generalize (fs.take j).flatMap Lp = fl at *
    generalize Lib.itoa b = ib at *
    generalize Hy a = c at *
    have hcl : (acc ++ fl) ≠ [] := by simp [hacc]
    have hcn : (acc ++ fl).length ≤ 950000300 := by simp; omega
    have e1 : acc ++ (fl ++ (124 :: a ++ if c = 2 then 32 :: ib else [])) = (acc ++ fl) ++ (124 :: a) ++ if c = 2 then 32 :: ib else [] := by simp
    generalize acc ++ fl = ac2 at *
    rcases hk3 with rfl | rfl | rfl
    · simp only [if_true, show ¬ ((0 : Nat) = 2) by decide, if_false, List.append_nil] at hm htk e1
      repeat' (first | (simp -implicitDefEqProofs [CN, C9, CL, CS, CR, CE, Bz, CO, CF, Bi, Bf, Bg, Bh, c31, -getElem?_pos, splice, hm, hx2, hj', _hq]) | (simp (disch := omega) only [AE]) | ((with_reducible refine Br 62 ?_); (refine ⟨_, Bs.write (by assumption) _ ?_ ?_, ?_⟩); (rotate_left 2); (rintro _ _n2 _H2 _hn2 _hs2 ⟨_hle2, _hB⟩); (have _hq := Bs.facts _hB); (dsimp only [HD] at _hq)) | ((with_reducible refine Br 62 ?_); (refine ⟨_, Bs.write (by exact Bs.add2 (by assumption) (by assumption) _ _ _) _ ?_ ?_, ?_⟩); (rotate_left 2); (rintro _ _n2 _H2 _hn2 _hs2 ⟨_hle2, _hB⟩); (have _hq := Bs.facts _hB); (dsimp only [HD] at _hq)) | ((with_reducible refine Br 62 ?_); (refine ⟨_, Bs.write (by exact Bs.add (by assumption) (by assumption) _ (by intro e m h; cases h)) _ ?_ ?_, ?_⟩); (rotate_left 2); (rintro _ _n2 _H2 _hn2 _hs2 ⟨_hle2, _hB⟩); (have _hq := Bs.facts _hB); (dsimp only [HD] at _hq)) | ((with_reducible refine DW ?_)) | ((refine C7 ?_ ?_); (focus exact Bs.sup (by assumption)); intro _gm _nm _hgm _hnm) | ((refine ET _hnm (AY _ _ _) ?_); intro _hn2; subst _hn2) | ((with_reducible refine AH 65 ?_); (refine' CallP.sf ?_ (hi) ?_); (focus first | (with_reducible exact A0 _) | (simp [AA, A8, A1, A0]; done))) | (with_reducible first | refine A5 ?_ ?_ ?_ | exact AB | assumption | refine A2 ?_ | refine KM.of ?_ | refine AD ?_ | refine A3 ?_ | refine A6 ?_ | intro _g _hg | refine AC ?_ ?_ | intro _hc) | omega)
      all_goals exact hJ (m - 1) _ (by omega) ⟨j + 1, _, _, by omega, rfl, by rw [htk, e1]; exact ((Bs.add (by assumption) (by assumption) _ (by intro e m h; cases h))).less (by simp)⟩
    · simp only [show ¬ ((1 : Nat) = 0) by decide, show ¬ ((1 : Nat) = 2) by decide, if_false, List.append_nil, decide_false] at hm htk e1
      repeat' (first | (simp -implicitDefEqProofs [CN, C9, CL, CS, CR, CE, Bz, CO, CF, Bi, Bf, Bg, Bh, c31, -getElem?_pos, splice, hm, hx2, hj', _hq]) | (simp (disch := omega) only [AE]) | ((with_reducible refine Br 62 ?_); (refine ⟨_, Bs.write (by assumption) _ ?_ ?_, ?_⟩); (rotate_left 2); (rintro _ _n2 _H2 _hn2 _hs2 ⟨_hle2, _hB⟩); (have _hq := Bs.facts _hB); (dsimp only [HD] at _hq)) | ((with_reducible refine Br 62 ?_); (refine ⟨_, Bs.write (by exact Bs.add2 (by assumption) (by assumption) _ _ _) _ ?_ ?_, ?_⟩); (rotate_left 2); (rintro _ _n2 _H2 _hn2 _hs2 ⟨_hle2, _hB⟩); (have _hq := Bs.facts _hB); (dsimp only [HD] at _hq)) | ((with_reducible refine Br 62 ?_); (refine ⟨_, Bs.write (by exact Bs.add (by assumption) (by assumption) _ (by intro e m h; cases h)) _ ?_ ?_, ?_⟩); (rotate_left 2); (rintro _ _n2 _H2 _hn2 _hs2 ⟨_hle2, _hB⟩); (have _hq := Bs.facts _hB); (dsimp only [HD] at _hq)) | ((with_reducible refine DW ?_)) | ((refine C7 ?_ ?_); (focus exact Bs.sup (by assumption)); intro _gm _nm _hgm _hnm) | ((refine ET _hnm (AY _ _ _) ?_); intro _hn2; subst _hn2) | ((with_reducible refine AH 65 ?_); (refine' CallP.sf ?_ (hi) ?_); (focus first | (with_reducible exact A0 _) | (simp [AA, A8, A1, A0]; done))) | (with_reducible first | refine A5 ?_ ?_ ?_ | exact AB | assumption | refine A2 ?_ | refine KM.of ?_ | refine AD ?_ | refine A3 ?_ | refine A6 ?_ | intro _g _hg | refine AC ?_ ?_ | intro _hc) | omega)
      all_goals exact hJ (m - 1) _ (by omega) ⟨j + 1, _, _, by omega, rfl, by rw [htk, e1]; exact ((Bs.add (by assumption) (by assumption) _ (by intro e m h; cases h))).less (by simp)⟩
    · simp only [show ¬ ((2 : Nat) = 0) by decide, if_false, if_true, decide_true] at hm htk e1
      repeat' (first | (simp -implicitDefEqProofs [CN, C9, CL, CS, CR, CE, Bz, CO, CF, Bi, Bf, Bg, Bh, c31, -getElem?_pos, splice, hm, hx2, hj', _hq]) | (simp (disch := omega) only [AE]) | ((with_reducible refine Br 62 ?_); (refine ⟨_, Bs.write (by assumption) _ ?_ ?_, ?_⟩); (rotate_left 2); (rintro _ _n2 _H2 _hn2 _hs2 ⟨_hle2, _hB⟩); (have _hq := Bs.facts _hB); (dsimp only [HD] at _hq)) | ((with_reducible refine Br 62 ?_); (refine ⟨_, Bs.write (by exact Bs.add2 (by assumption) (by assumption) _ _ _) _ ?_ ?_, ?_⟩); (rotate_left 2); (rintro _ _n2 _H2 _hn2 _hs2 ⟨_hle2, _hB⟩); (have _hq := Bs.facts _hB); (dsimp only [HD] at _hq)) | ((with_reducible refine Br 62 ?_); (refine ⟨_, Bs.write (by exact Bs.add (by assumption) (by assumption) _ (by intro e m h; cases h)) _ ?_ ?_, ?_⟩); (rotate_left 2); (rintro _ _n2 _H2 _hn2 _hs2 ⟨_hle2, _hB⟩); (have _hq := Bs.facts _hB); (dsimp only [HD] at _hq)) | ((with_reducible refine DW ?_)) | ((refine C7 ?_ ?_); (focus exact Bs.sup (by assumption)); intro _gm _nm _hgm _hnm) | ((refine ET _hnm (AY _ _ _) ?_); intro _hn2; subst _hn2) | ((with_reducible refine AH 65 ?_); (refine' CallP.sf ?_ (hi) ?_); (focus first | (with_reducible exact A0 _) | (simp [AA, A8, A1, A0]; done))) | (with_reducible first | refine A5 ?_ ?_ ?_ | exact AB | assumption | refine A2 ?_ | refine KM.of ?_ | refine AD ?_ | refine A3 ?_ | refine A6 ?_ | intro _g _hg | refine AC ?_ ?_ | intro _hc) | omega)
      all_goals exact hJ (m - 1) _ (by omega) ⟨j + 1, _, _, by omega, rfl, by rw [htk, e1]; exact Bs.less (by assumption) (by simp)⟩
  · have hj0 : j = fs.length := by omega
    subst hj0
    have hj' : ¬ (fs.length : Int) < fs.length := by omega
    rw [List.take_length] at hB
    repeat' (first | (simp -implicitDefEqProofs [CN, C9, CL, CS, CR, CE, Bz, CO, CF, Bi, Bf, Bg, Bh, c31, -getElem?_pos, hj']) | (simp (disch := omega) only [AE]) | (with_reducible first | refine A5 ?_ ?_ ?_ | exact AB | assumption | refine A2 ?_ | refine KM.of ?_ | refine AD ?_ | refine A3 ?_ | refine A6 ?_ | intro _g _hg | refine AC ?_ ?_ | intro _hc) | omega)
    exact hQ _ _ hB
structure PtC (x : Pt) (k : Int) (t nm : AP) (pa : List AP) (fs : List (AP × Int)) (eb ee : List AV) : Prop where
  q1 : t.length ≤ 1048576
  q2 : k = 1 → t ≠ []
  q3 : nm.length ≤ 24
  q4 : pa.length ≤ 8
  q5 : ∀ s ∈ pa, s.length ≤ 24
  q6 : fs.length ≤ 8
  q7 : ∀ f ∈ fs, f.1.length ≤ 24 ∧ 0 ≤ f.2 ∧ f.2 ≤ 200
  tb : APure Tryz.prog 31 [.sl 7 eb .ro] (.str (Cj x.b))
  te : APure Tryz.prog 31 [.sl 7 ee .ro] (.str (Cj x.e))
  le : ee.length = x.e.length
  lb : (Cj x.b).length ≤ 900000000
  le2 : (Cj x.e).length ≤ 900000000
theorem Y7 (l : List Pt) (hl : l.length ≤ 2000000) (hlen : (Cj l).length ≤ 900000000) (hp : ∀ x ∈ l, ∃ k t nm pa fs eb ee b e, x = .mk k t nm pa fs b e ∧ ER x = .agg [aI k, .str t, .str nm, Ci pa, DE fs, .sl 7 eb .ro, .sl 7 ee .ro] ∧ PtC x k t nm pa fs eb ee) : APure Tryz.prog 31 [Cv l] (.str (Cj l)) := by
  have hel := BJ l
  obtain ⟨z, hz⟩ : ∃ z, Cj l = z := ⟨_, rfl⟩
  rw [hz]
  refine A9 Tryz.func31 Zk rfl fun n H hH => ?_
  repeat' (first | (simp -implicitDefEqProofs [c31, -getElem?_pos, hel]) | (simp (disch := omega) only [AE]) | (with_reducible first | refine A5 ?_ ?_ ?_ | exact AB | assumption | refine A2 ?_ | refine KM.of ?_ | refine AD ?_ | refine A3 ?_ | refine A6 ?_ | intro _g _hg | refine AC ?_ ?_ | intro _hc) | omega)
  refine LoopK.go (fun m st => ∃ (i n2 : Nat) (H2 : A4), i + m = l.length ∧ st = ⟨[(3, .ptr _g 0), (9, Cv l), (10, aI l.length), (11, aI i)], n2, H2⟩ ∧ Bs n H _g (Cj (l.take i)) [] n2 H2) l.length ⟨0, _, _, by omega, rfl, Bs.start hH (by assumption)⟩ ?_
  rintro m st ⟨i, n2, H2, him, rfl, hB⟩ J hJ
  have _hq : True := trivial
  by_cases hi : i < l.length
  · obtain ⟨x, hx⟩ : ∃ x, l[i]? = some x := ⟨_, List.getElem?_eq_getElem hi⟩
    have hx2 := EL hx
    have hi' : (i : Int) < l.length := by omega
    have htk := Qw hx
    have hle1 := PB l i
    have hle2 := PB l (i + 1)
    rw [htk] at hle2
    obtain ⟨k, t, nm, pa, fs, eb, ee, b, e, rfl, hxe, C⟩ := hp x (List.mem_of_getElem? hx)
    rw [hxe] at hx2
    obtain ⟨q1, q2, q3, q4, q5, q6, q7, tb, te, le, lb, le2⟩ := C
    have e0 : VX (.mk k t nm pa fs b e) = if k = 1 then DN t else if k = 2 then opS ++ GT pa ++ fs.flatMap Lp ++ ML else (if k = 3 then Wx ++ GT pa ++ ML else LB ++ nm ++ Vk ++ GT pa ++ ML) ++ Cj b ++ (if e = [] then [] else LA ++ Cj e) ++ LI := by rw [VX]
    rw [e0] at htk hle2
    have hj := P2 pa [46] (by omega) (by have := HU q4 q5; unfold GT at this; omega)
    have hwl := HU q4 q5
    have hrl := Gl t
    change APure _ _ [Ci pa, .str [46]] (.str (GT pa)) at hj
    change APure _ _ _ (.str (Cj b)) at tb
    change APure _ _ _ (.str (Cj e)) at te
    change ee.length = e.length at le
    change (Cj b).length ≤ _ at lb
    change (Cj e).length ≤ _ at le2
    clear e0 hxe hx hp
    generalize Cj (l.take i) = ac at *
    generalize GT pa = wh at *
    generalize Cj b = xb at *
    generalize Cj e = xe at *
    have hac : ac.length ≤ 900000000 := by omega
    clear hle1
    by_cases k1 : k = 1
    · have hrp := Wv t (by omega)
      have hrn := Wo t (q2 k1)
      unfold opS Lt at hrp
      rw [if_pos k1] at htk hle2
      generalize DN t = rt at *
      subst k1
      
      repeat' (first | (simp -implicitDefEqProofs [CN, C9, CL, CS, CR, CE, Bz, CO, CF, Bi, Bf, Bg, Bh, c31, -getElem?_pos, splice, hel, hx2, hi', _hq, hrn]) | (simp (disch := omega) only [AE]) | ((with_reducible refine Br 62 ?_); (refine ⟨_, Bs.write (by assumption) _ ?_ ?_, ?_⟩); (rotate_left 2); (rintro _ _n2 _H2 _hn2 _hs2 ⟨_hle2, _hB⟩); (have _hq := Bs.facts _hB); (dsimp only [HD] at _hq)) | ((with_reducible refine Br 62 ?_); (refine ⟨_, Bs.write (by exact Bs.add2 (by assumption) (by assumption) _ _ _) _ ?_ ?_, ?_⟩); (rotate_left 2); (rintro _ _n2 _H2 _hn2 _hs2 ⟨_hle2, _hB⟩); (have _hq := Bs.facts _hB); (dsimp only [HD] at _hq)) | ((with_reducible refine Br 62 ?_); (refine ⟨_, Bs.write (by exact Bs.add (by assumption) (by assumption) _ (by intro e m h; cases h)) _ ?_ ?_, ?_⟩); (rotate_left 2); (rintro _ _n2 _H2 _hn2 _hs2 ⟨_hle2, _hB⟩); (have _hq := Bs.facts _hB); (dsimp only [HD] at _hq)) | ((with_reducible refine AH 52 ?_); (refine' CallP.sf ?_ (hj) ?_); (focus first | (with_reducible exact A0 _) | (simp [AA, A8, A1, A0]; done))) | ((with_reducible refine AH 63 ?_); (refine' CallP.sf ?_ (hrp) ?_); (focus first | (with_reducible exact A0 _) | (simp [AA, A8, A1, A0]; done))) | (with_reducible first | refine A5 ?_ ?_ ?_ | exact AB | assumption | refine A2 ?_ | refine KM.of ?_ | refine AD ?_ | refine A3 ?_ | refine A6 ?_ | intro _g _hg | refine AC ?_ ?_ | intro _hc) | omega)
      all_goals exact hJ (m - 1) _ (by omega) ⟨i + 1, _, _, by omega, rfl, by rw [htk]; exact Bs.less (by assumption) (by simp)⟩
    · rw [if_neg k1] at htk hle2
      by_cases k2 : k = 2
      · rw [if_pos k2] at htk hle2
        have hfl := G7 fs q7
        have hfl2 : fs.length * 30 ≤ 240 := by omega
        subst k2
        
        repeat' (first | (simp -implicitDefEqProofs [CN, C9, CL, CS, CR, CE, Bz, CO, CF, Bi, Bf, Bg, Bh, c31, -getElem?_pos, splice, hel, hx2, hi', _hq]) | (simp (disch := omega) only [AE]) | ((with_reducible refine Br 62 ?_); (refine ⟨_, Bs.write (by assumption) _ ?_ ?_, ?_⟩); (rotate_left 2); (rintro _ _n2 _H2 _hn2 _hs2 ⟨_hle2, _hB⟩); (have _hq := Bs.facts _hB); (dsimp only [HD] at _hq)) | ((with_reducible refine Br 62 ?_); (refine ⟨_, Bs.write (by exact Bs.add2 (by assumption) (by assumption) _ _ _) _ ?_ ?_, ?_⟩); (rotate_left 2); (rintro _ _n2 _H2 _hn2 _hs2 ⟨_hle2, _hB⟩); (have _hq := Bs.facts _hB); (dsimp only [HD] at _hq)) | ((with_reducible refine Br 62 ?_); (refine ⟨_, Bs.write (by exact Bs.add (by assumption) (by assumption) _ (by intro e m h; cases h)) _ ?_ ?_, ?_⟩); (rotate_left 2); (rintro _ _n2 _H2 _hn2 _hs2 ⟨_hle2, _hB⟩); (have _hq := Bs.facts _hB); (dsimp only [HD] at _hq)) | ((with_reducible refine AH 52 ?_); (refine' CallP.sf ?_ (hj) ?_); (focus first | (with_reducible exact A0 _) | (simp [AA, A8, A1, A0]; done))) | (with_reducible first | refine A5 ?_ ?_ ?_ | exact AB | assumption | refine A2 ?_ | refine KM.of ?_ | refine AD ?_ | refine A3 ?_ | refine A6 ?_ | intro _g _hg | refine AC ?_ ?_ | intro _hc) | omega)
        have hB4 := _hB.less (bs' := []) (by simp)
        refine VR fs q7 q6 n H _ _ ?_ ?_ _ _ _ _ _ _ hB4 fun n3 H3 hB3 => ?_
        · simp
        · simp; omega
        have _hq : True := trivial
        have hfl3 : (fs.flatMap Lp).length ≤ 240 := by omega
        generalize fs.flatMap Lp = ft at *
        repeat' (first | (simp -implicitDefEqProofs [CN, C9, CL, CS, CR, CE, Bz, CO, CF, Bi, Bf, Bg, Bh, c31, -getElem?_pos, _hq]) | (simp (disch := omega) only [AE]) | ((with_reducible refine Br 62 ?_); (refine ⟨_, Bs.write (by assumption) _ ?_ ?_, ?_⟩); (rotate_left 2); (rintro _ _n2 _H2 _hn2 _hs2 ⟨_hle2, _hB⟩); (have _hq := Bs.facts _hB); (dsimp only [HD] at _hq)) | ((with_reducible refine Br 62 ?_); (refine ⟨_, Bs.write (by exact Bs.add2 (by assumption) (by assumption) _ _ _) _ ?_ ?_, ?_⟩); (rotate_left 2); (rintro _ _n2 _H2 _hn2 _hs2 ⟨_hle2, _hB⟩); (have _hq := Bs.facts _hB); (dsimp only [HD] at _hq)) | ((with_reducible refine Br 62 ?_); (refine ⟨_, Bs.write (by exact Bs.add (by assumption) (by assumption) _ (by intro e m h; cases h)) _ ?_ ?_, ?_⟩); (rotate_left 2); (rintro _ _n2 _H2 _hn2 _hs2 ⟨_hle2, _hB⟩); (have _hq := Bs.facts _hB); (dsimp only [HD] at _hq)) | (with_reducible first | refine A5 ?_ ?_ ?_ | exact AB | assumption | refine A2 ?_ | refine KM.of ?_ | refine AD ?_ | refine A3 ?_ | refine A6 ?_ | intro _g _hg | refine AC ?_ ?_ | intro _hc) | omega)
        all_goals exact hJ (m - 1) _ (by omega) ⟨i + 1, _, _, by omega, rfl, by rw [htk]; refine Bs.rel ?_ (Bs.less (by assumption) (by simp)); simp [opS, ML]⟩
      · rw [if_neg k2] at htk hle2
        by_cases he0 : e = []
        · have hee : ee = [] := by
            rw [he0] at le; exact List.length_eq_zero_iff.1 le
          rw [if_pos he0] at htk hle2
          subst hee
          by_cases k3 : k = 3
          · rw [if_pos k3] at htk hle2
            subst k3
            
            repeat' (first | (simp -implicitDefEqProofs [CN, C9, CL, CS, CR, CE, Bz, CO, CF, Bi, Bf, Bg, Bh, c31, -getElem?_pos, splice, hel, hx2, hi', _hq]) | (simp (disch := omega) only [AE]) | ((with_reducible refine Br 62 ?_); (refine ⟨_, Bs.write (by assumption) _ ?_ ?_, ?_⟩); (rotate_left 2); (rintro _ _n2 _H2 _hn2 _hs2 ⟨_hle2, _hB⟩); (have _hq := Bs.facts _hB); (dsimp only [HD] at _hq)) | ((with_reducible refine Br 62 ?_); (refine ⟨_, Bs.write (by exact Bs.add2 (by assumption) (by assumption) _ _ _) _ ?_ ?_, ?_⟩); (rotate_left 2); (rintro _ _n2 _H2 _hn2 _hs2 ⟨_hle2, _hB⟩); (have _hq := Bs.facts _hB); (dsimp only [HD] at _hq)) | ((with_reducible refine Br 62 ?_); (refine ⟨_, Bs.write (by exact Bs.add (by assumption) (by assumption) _ (by intro e m h; cases h)) _ ?_ ?_, ?_⟩); (rotate_left 2); (rintro _ _n2 _H2 _hn2 _hs2 ⟨_hle2, _hB⟩); (have _hq := Bs.facts _hB); (dsimp only [HD] at _hq)) | ((with_reducible refine AH 52 ?_); (refine' CallP.sf ?_ (hj) ?_); (focus first | (with_reducible exact A0 _) | (simp [AA, A8, A1, A0]; done))) | ((with_reducible refine AH 31 ?_); (refine' CallP.sf ?_ (tb) ?_); (focus first | (with_reducible exact A0 _) | (simp [AA, A8, A1, A0]; done))) | (with_reducible first | refine A5 ?_ ?_ ?_ | exact AB | assumption | refine A2 ?_ | refine KM.of ?_ | refine AD ?_ | refine A3 ?_ | refine A6 ?_ | intro _g _hg | refine AC ?_ ?_ | intro _hc) | omega)
            all_goals exact hJ (m - 1) _ (by omega) ⟨i + 1, _, _, by omega, rfl, by rw [htk]; refine Bs.rel ?_ (Bs.less (by assumption) (by simp)); simp [Wx, ML, LI]⟩
          · rw [if_neg k3] at htk hle2
            
            repeat' (first | (simp -implicitDefEqProofs [CN, C9, CL, CS, CR, CE, Bz, CO, CF, Bi, Bf, Bg, Bh, c31, -getElem?_pos, splice, hel, hx2, hi', _hq, k1, k2, k3]) | (simp (disch := omega) only [AE]) | ((with_reducible refine Br 62 ?_); (refine ⟨_, Bs.write (by assumption) _ ?_ ?_, ?_⟩); (rotate_left 2); (rintro _ _n2 _H2 _hn2 _hs2 ⟨_hle2, _hB⟩); (have _hq := Bs.facts _hB); (dsimp only [HD] at _hq)) | ((with_reducible refine Br 62 ?_); (refine ⟨_, Bs.write (by exact Bs.add2 (by assumption) (by assumption) _ _ _) _ ?_ ?_, ?_⟩); (rotate_left 2); (rintro _ _n2 _H2 _hn2 _hs2 ⟨_hle2, _hB⟩); (have _hq := Bs.facts _hB); (dsimp only [HD] at _hq)) | ((with_reducible refine Br 62 ?_); (refine ⟨_, Bs.write (by exact Bs.add (by assumption) (by assumption) _ (by intro e m h; cases h)) _ ?_ ?_, ?_⟩); (rotate_left 2); (rintro _ _n2 _H2 _hn2 _hs2 ⟨_hle2, _hB⟩); (have _hq := Bs.facts _hB); (dsimp only [HD] at _hq)) | ((with_reducible refine AH 52 ?_); (refine' CallP.sf ?_ (hj) ?_); (focus first | (with_reducible exact A0 _) | (simp [AA, A8, A1, A0]; done))) | ((with_reducible refine AH 31 ?_); (refine' CallP.sf ?_ (tb) ?_); (focus first | (with_reducible exact A0 _) | (simp [AA, A8, A1, A0]; done))) | (with_reducible first | refine A5 ?_ ?_ ?_ | exact AB | assumption | refine A2 ?_ | refine KM.of ?_ | refine AD ?_ | refine A3 ?_ | refine A6 ?_ | intro _g _hg | refine AC ?_ ?_ | intro _hc) | omega)
            all_goals exact hJ (m - 1) _ (by omega) ⟨i + 1, _, _, by omega, rfl, by rw [htk]; refine Bs.rel ?_ (Bs.less (by assumption) (by simp)); simp [LB, Vk, ML, LI]⟩
        · have hel2 : (0 : Int) < ee.length := by
            have := List.length_pos_iff.2 he0
            omega
          have hel3 : ¬ ee = [] := by rintro rfl; simp at hel2
          rw [if_neg he0] at htk hle2
          by_cases k3 : k = 3
          · rw [if_pos k3] at htk hle2
            subst k3
            
            repeat' (first | (simp -implicitDefEqProofs [CN, C9, CL, CS, CR, CE, Bz, CO, CF, Bi, Bf, Bg, Bh, c31, -getElem?_pos, splice, hel, hx2, hi', _hq, hel2, hel3]) | (simp (disch := omega) only [AE]) | ((with_reducible refine Br 62 ?_); (refine ⟨_, Bs.write (by assumption) _ ?_ ?_, ?_⟩); (rotate_left 2); (rintro _ _n2 _H2 _hn2 _hs2 ⟨_hle2, _hB⟩); (have _hq := Bs.facts _hB); (dsimp only [HD] at _hq)) | ((with_reducible refine Br 62 ?_); (refine ⟨_, Bs.write (by exact Bs.add2 (by assumption) (by assumption) _ _ _) _ ?_ ?_, ?_⟩); (rotate_left 2); (rintro _ _n2 _H2 _hn2 _hs2 ⟨_hle2, _hB⟩); (have _hq := Bs.facts _hB); (dsimp only [HD] at _hq)) | ((with_reducible refine Br 62 ?_); (refine ⟨_, Bs.write (by exact Bs.add (by assumption) (by assumption) _ (by intro e m h; cases h)) _ ?_ ?_, ?_⟩); (rotate_left 2); (rintro _ _n2 _H2 _hn2 _hs2 ⟨_hle2, _hB⟩); (have _hq := Bs.facts _hB); (dsimp only [HD] at _hq)) | ((with_reducible refine AH 52 ?_); (refine' CallP.sf ?_ (hj) ?_); (focus first | (with_reducible exact A0 _) | (simp [AA, A8, A1, A0]; done))) | ((with_reducible refine AH 31 ?_); (refine' CallP.sf ?_ (tb) ?_); (focus first | (with_reducible exact A0 _) | (simp [AA, A8, A1, A0]; done))) | ((with_reducible refine AH 31 ?_); (refine' CallP.sf ?_ (te) ?_); (focus first | (with_reducible exact A0 _) | (simp [AA, A8, A1, A0]; done))) | (with_reducible first | refine A5 ?_ ?_ ?_ | exact AB | assumption | refine A2 ?_ | refine KM.of ?_ | refine AD ?_ | refine A3 ?_ | refine A6 ?_ | intro _g _hg | refine AC ?_ ?_ | intro _hc) | omega)
            all_goals exact hJ (m - 1) _ (by omega) ⟨i + 1, _, _, by omega, rfl, by rw [htk]; refine Bs.rel ?_ (Bs.less (by assumption) (by simp)); simp [Wx, ML, LI, LA]⟩
          · rw [if_neg k3] at htk hle2
            
            repeat' (first | (simp -implicitDefEqProofs [CN, C9, CL, CS, CR, CE, Bz, CO, CF, Bi, Bf, Bg, Bh, c31, -getElem?_pos, splice, hel, hx2, hi', _hq, k1, k2, k3, hel2, hel3]) | (simp (disch := omega) only [AE]) | ((with_reducible refine Br 62 ?_); (refine ⟨_, Bs.write (by assumption) _ ?_ ?_, ?_⟩); (rotate_left 2); (rintro _ _n2 _H2 _hn2 _hs2 ⟨_hle2, _hB⟩); (have _hq := Bs.facts _hB); (dsimp only [HD] at _hq)) | ((with_reducible refine Br 62 ?_); (refine ⟨_, Bs.write (by exact Bs.add2 (by assumption) (by assumption) _ _ _) _ ?_ ?_, ?_⟩); (rotate_left 2); (rintro _ _n2 _H2 _hn2 _hs2 ⟨_hle2, _hB⟩); (have _hq := Bs.facts _hB); (dsimp only [HD] at _hq)) | ((with_reducible refine Br 62 ?_); (refine ⟨_, Bs.write (by exact Bs.add (by assumption) (by assumption) _ (by intro e m h; cases h)) _ ?_ ?_, ?_⟩); (rotate_left 2); (rintro _ _n2 _H2 _hn2 _hs2 ⟨_hle2, _hB⟩); (have _hq := Bs.facts _hB); (dsimp only [HD] at _hq)) | ((with_reducible refine AH 52 ?_); (refine' CallP.sf ?_ (hj) ?_); (focus first | (with_reducible exact A0 _) | (simp [AA, A8, A1, A0]; done))) | ((with_reducible refine AH 31 ?_); (refine' CallP.sf ?_ (tb) ?_); (focus first | (with_reducible exact A0 _) | (simp [AA, A8, A1, A0]; done))) | ((with_reducible refine AH 31 ?_); (refine' CallP.sf ?_ (te) ?_); (focus first | (with_reducible exact A0 _) | (simp [AA, A8, A1, A0]; done))) | (with_reducible first | refine A5 ?_ ?_ ?_ | exact AB | assumption | refine A2 ?_ | refine KM.of ?_ | refine AD ?_ | refine A3 ?_ | refine A6 ?_ | intro _g _hg | refine AC ?_ ?_ | intro _hc) | omega)
            all_goals exact hJ (m - 1) _ (by omega) ⟨i + 1, _, _, by omega, rfl, by rw [htk]; refine Bs.rel ?_ (Bs.less (by assumption) (by simp)); simp [LB, Vk, ML, LI, LA]⟩
  · have hi0 : i = l.length := by omega
    subst hi0
    have hi' : ¬ (l.length : Int) < l.length := by omega
    rw [List.take_length, hz] at hB
    have hstr := hB.str (by rw [← hz]; omega)
    have hsame := hB.same
    have hle := hB.le
    clear hp
    repeat' (first | (simp -implicitDefEqProofs [CN, C9, CL, CS, CR, CE, Bz, CO, CF, Bi, Bf, Bg, Bh, c31, -getElem?_pos, hel, hi']) | (simp (disch := omega) only [AE]) | ((with_reducible refine Br 47 ?_); (refine' CallK.sfAt ?_ (hstr) ?_); (focus first | (with_reducible exact A0 _) | (simp [AA, A8, A1, A0]; done))) | (with_reducible first | refine A5 ?_ ?_ ?_ | exact AB | assumption | refine A2 ?_ | refine KM.of ?_ | refine AD ?_ | refine A3 ?_ | refine A6 ?_ | intro _g _hg | refine AC ?_ ?_ | intro _hc) | omega)
    all_goals first | exact A1 _ | exact hle | exact hsame
theorem Bm : ∀ {l : List Pt} {x : Pt}, x ∈ l → Ba x ≤ AU l
  | y :: r, x, hx => by
    simp only [AU]
    rcases List.mem_cons.1 hx with rfl | hx
    · omega
    · have := Bm hx; omega
theorem CB : ∀ l : List Pt, l.length ≤ AU l
  | [] => by simp [AU]
  | x :: r => by
    have := CB r
    have : 1 ≤ Ba x := by cases x; unfold Ba; omega
    simp only [AU, List.length_cons]; omega
theorem P5 {l : List Pt} (ho : GM l) (hs : AU l ≤ 200) (hp : ∀ x ∈ l, Ia x → Ba x ≤ 201 → APure Tryz.prog 31 [.sl 7 (AO x.b) .ro] (.str (Cj x.b)) ∧ APure Tryz.prog 31 [.sl 7 (AO x.e) .ro] (.str (Cj x.e))) : APure Tryz.prog 31 [Cv l] (.str (Cj l)) := by
  have hlen := CB l
  have htl := Ew l ho
  refine Y7 l (by omega) (by omega) fun x hx => ?_
  have hox := D5 ho hx
  have hsx := Bm hx
  obtain ⟨hb, he⟩ := hp x hx hox (by omega)
  obtain ⟨k, t, nm, pa, fs, b, e⟩ := x
  have ho' := hox
  simp only [Ia] at ho'
  obtain ⟨h1, h2, h3, h4, h5, h6, h7, h8, h9⟩ := ho'
  unfold Ba at hsx
  have lb := Ew b h8
  have le := Ew e h9
  exact ⟨k, t, nm, pa, fs, AO b, AO e, b, e, rfl, Bv _ _ _ _ _ _ _, h1, h2, h3, h4, h5, h6, h7, hb, he, BJ e, by show (Cj b).length ≤ _; omega, by show (Cj e).length ≤ _; omega⟩
theorem YI (p : Pt) : Ia p → Ba p ≤ 201 → APure Tryz.prog 31 [.sl 7 (AO p.b) .ro] (.str (Cj p.b)) ∧ APure Tryz.prog 31 [.sl 7 (AO p.e) .ro] (.str (Cj p.e)) := by
  refine Pt.ind (Q := fun p => Ia p → Ba p ≤ 201 → APure Tryz.prog 31 [.sl 7 (AO p.b) .ro] (.str (Cj p.b)) ∧ APure Tryz.prog 31 [.sl 7 (AO p.e) .ro] (.str (Cj p.e))) ?_ p
  intro k t nm pa fs b e hb he ho hs
  simp only [Ia] at ho
  obtain ⟨_, _, _, _, _, _, _, ob, oe⟩ := ho
  unfold Ba at hs
  exact ⟨P5 (l := b) ob (by omega) hb, P5 (l := e) oe (by omega) he⟩
theorem UK (l : List Pt) (ho : GM l) (hs : AU l ≤ 200) : APure Tryz.prog 31 [Cv l] (.str (Cj l)) := P5 ho hs fun x _ hx hs => YI x hx hs
def Bc {α : Type} (l : List α) : Bool := decide ((0 : Int) < (l.length : Int))
theorem Ua {α : Type} (l : List α) : decide (l ≠ []) = Bc l := by
  unfold Bc
  cases l with
  | nil => simp
  | cons x r => simp
def QW (k : Int) (t n : AP) (pf ff : Bool) (bf ef : Bool) : Bool :=
  (decide (k = 1) == decide (t = [])) || (decide (k ≠ 4) && decide (n ≠ [])) || (decide (k = 1) && pf) || (decide (k ≠ 2) && ff) || (decide (k < 3) && (bf || ef))
theorem Q9 (pv k : Int) (t n : AP) (pa : List AP) (fs : List (AP × Int)) (b e : List Pt) : OU pv k t n pa fs b e = (QW k t n (Bc pa) (Bc fs) (Bc b) (Bc e) || (decide (k = 1) && decide (pv = 1))) := by
  have h1 : decide (pa ≠ []) = Bc pa := by rw [← Ua]
  have h2 : decide (fs ≠ []) = Bc fs := by rw [← Ua]
  have h3 : decide (b ≠ []) = Bc b := by unfold Bc; cases b <;> simp <;> omega
  have h4 : decide (e ≠ []) = Bc e := by unfold Bc; cases e <;> simp <;> omega
  unfold OU QW
  rw [h1, h2, h3, h4]
def RH (i d k : Int) (fb : Bool) : Int := if 200 ≤ i then 2 else if 16 < d then 25 else if k < 1 ∨ 4 < k then 5 else if fb = true then 6 else 0
theorem V3 {pv k : Int} {t n : AP} {pa : List AP} {fs : List (AP × Int)} {b e : List Pt} {i d : Nat} {fb : Bool} (hf : QW k t n (Bc pa) (Bc fs) (Bc b) (Bc e) = fb) : FI pv i d k t n pa fs b e = if RH i d k fb ≠ 0 then RH i d k fb else if k = 1 ∧ pv = 1 then 6 else Oj k n pa fs := by
  unfold FI RH
  rw [Q9, hf]
  by_cases h1 : 200 ≤ i
  · have h1' : (200 : Int) ≤ (i : Int) := by omega
    simp [h1, h1']
  · have h1' : ¬ (200 : Int) ≤ (i : Int) := by omega
    by_cases h2 : 16 < d
    · have h2' : (16 : Int) < (d : Int) := by omega
      simp [h1, h1', h2, h2']
    · have h2' : ¬ (16 : Int) < (d : Int) := by omega
      simp only [h1, h1', h2, h2', if_false]
      by_cases h3 : k < 1 ∨ 4 < k
      · simp [h3]
      · simp only [h3, if_false]
        cases fb
        · by_cases hk : k = 1 <;> by_cases hp : pv = 1 <;> simp [hk, hp]
        · simp
theorem W8 (i d k : Int) (t n : AP) (pa : List AP) (fs : List (AP × Int)) (eb ee : List AV) (hl : pa.length ≤ 2000000 ∧ fs.length ≤ 2000000 ∧ eb.length ≤ 2000000 ∧ ee.length ≤ 2000000) : APure Tryz.prog 67 [.agg [aI k, .str t, .str n, Ci pa, DE fs, .sl 7 eb .ro, .sl 7 ee .ro], aI i, aI d] (aI (RH i d k (QW k t n (Bc pa) (Bc fs) (Bc eb) (Bc ee)))) := by
  obtain ⟨fb, hfb⟩ : ∃ fb, QW k t n (Bc pa) (Bc fs) (Bc eb) (Bc ee) = fb := ⟨_, rfl⟩
  rw [hfb]
  obtain ⟨z, hz⟩ : ∃ z, RH i d k fb = z := ⟨_, rfl⟩
  rw [hz]
  unfold RH at hz
  obtain ⟨l1, l2, l3, l4⟩ := hl
  by_cases h1 : 200 ≤ i
  · rw [if_pos h1] at hz
    subst hz
    refine A9 Tryz.func67 QD rfl fun n H hH => ?_
    repeat' (first | (simp -implicitDefEqProofs [Fs, Fn, GC, Fj, Fw, Fi, GE, Fp, c67, -getElem?_pos, h1]) | (simp (disch := omega) only [AE]) | (with_reducible first | refine A5 ?_ ?_ ?_ | exact AB | refine SameB.upd ?_ ?_ _ | assumption | refine A2 ?_ | refine KM.of ?_ | refine AD ?_ | refine A3 ?_ | refine A6 ?_ | intro _g _hg | refine AC ?_ ?_ | intro _hc) | omega)
    all_goals exact A1 _
  · rw [if_neg h1] at hz
    by_cases h2 : 16 < d
    · rw [if_pos h2] at hz
      subst hz
      refine A9 Tryz.func67 QD rfl fun n H hH => ?_
      repeat' (first | (simp -implicitDefEqProofs [Fs, Fn, GC, Fj, Fw, Fi, GE, Fp, c67, -getElem?_pos, h1, h2]) | (simp (disch := omega) only [AE]) | (with_reducible first | refine A5 ?_ ?_ ?_ | exact AB | refine SameB.upd ?_ ?_ _ | assumption | refine A2 ?_ | refine KM.of ?_ | refine AD ?_ | refine A3 ?_ | refine A6 ?_ | intro _g _hg | refine AC ?_ ?_ | intro _hc) | omega)
      all_goals exact A1 _
    · rw [if_neg h2] at hz
      by_cases h3 : k < 1 ∨ 4 < k
      · rw [if_pos h3] at hz
        subst hz
        rcases h3 with h3 | h3
        · refine A9 Tryz.func67 QD rfl fun n H hH => ?_
          repeat' (first | (simp -implicitDefEqProofs [Fs, Fn, GC, Fj, Fw, Fi, GE, Fp, c67, -getElem?_pos, h1, h2, h3]) | (simp (disch := omega) only [AE]) | (with_reducible first | refine A5 ?_ ?_ ?_ | exact AB | refine SameB.upd ?_ ?_ _ | assumption | refine A2 ?_ | refine KM.of ?_ | refine AD ?_ | refine A3 ?_ | refine A6 ?_ | intro _g _hg | refine AC ?_ ?_ | intro _hc) | omega)
          all_goals exact A1 _
        · have h3' : ¬ k < 1 := by omega
          refine A9 Tryz.func67 QD rfl fun n H hH => ?_
          repeat' (first | (simp -implicitDefEqProofs [Fs, Fn, GC, Fj, Fw, Fi, GE, Fp, c67, -getElem?_pos, h1, h2, h3, h3']) | (simp (disch := omega) only [AE]) | (with_reducible first | refine A5 ?_ ?_ ?_ | exact AB | refine SameB.upd ?_ ?_ _ | assumption | refine A2 ?_ | refine KM.of ?_ | refine AD ?_ | refine A3 ?_ | refine A6 ?_ | intro _g _hg | refine AC ?_ ?_ | intro _hc) | omega)
          all_goals exact A1 _
      · rw [if_neg h3] at hz
        have h4 : ¬ k < 1 := by omega
        have h5 : ¬ 4 < k := by omega
        refine A9 Tryz.func67 QD rfl fun n H hH => ?_
        repeat' (first | (simp -implicitDefEqProofs [Fs, Fn, GC, Fj, Fw, Fi, GE, Fp, c67, -getElem?_pos, h1, h2, h4, h5]) | (simp (disch := omega) only [AE]) | (with_reducible first | refine A5 ?_ ?_ ?_ | exact AB | refine SameB.upd ?_ ?_ _ | assumption | refine A2 ?_ | refine KM.of ?_ | refine AD ?_ | refine A3 ?_ | refine A6 ?_ | intro _g _hg | refine AC ?_ ?_ | intro _hc) | omega)
        all_goals (refine Ad ?_; rw [← hz, ← hfb]; unfold QW Bc; grind)
theorem Hq {α β : Type} {a : List α} {b : List β} (h : a.length = b.length) : Bc a = Bc b := by unfold Bc; rw [h]
abbrev FP (i : Nat) : AObj := .cells 64 [aI i]
def Ep (R : Nat × Int) : AV := aF (if R.2 ≠ 0 then (R.2, (R.1 : Int)) else (0, 0))
def Fe (R : Nat × Int) : Nat := if R.2 ≠ 0 then R.1 + 1 else R.1
def HN (l : List Pt) (el : List AV) : Prop := ∀ (i d gc n : Nat) (H : A4), i ≤ 200 → d ≤ 100 → H gc = some (FP i) → AUpd Tryz.prog 33 [.ptr gc 0, .sl 7 el .ro, aI d] n H (Ep (B6 0 i d l)) gc (FP (Fe (B6 0 i d l)))
def Qy (l : List Pt) (i : Nat) : Int := if i = 0 then 0 else match l[i - 1]? with | some y => y.k | none => 0
theorem Ql {l : List Pt} {i : Nat} {x : Pt} (h : l[i]? = some x) : Qy l (i + 1) = x.k := by
  unfold Qy
  rw [if_neg (by omega)]
  have e : i + 1 - 1 = i := by omega
  rw [e, h]
theorem XG {l : List Pt} {i : Nat} (hi : 0 < i) (hl : i < l.length) : ∃ (k : Int) (t n : AP) (pa : List AP) (fs : List (AP × Int)) (eb ee : List AV), Qy l i = k ∧ (AO l)[i - 1]? = some (.agg [aI k, .str t, .str n, Ci pa, DE fs, .sl 7 eb .ro, .sl 7 ee .ro]) := by
  obtain ⟨y, hy⟩ : ∃ y, l[i - 1]? = some y := ⟨_, List.getElem?_eq_getElem (by omega)⟩
  have := EL hy
  have hk : Qy l i = y.k := by unfold Qy; rw [if_neg (by omega), hy]
  obtain ⟨k, t, n, pa, fs, b, e⟩ := y
  rw [Bv] at this
  exact ⟨k, t, n, pa, fs, _, _, hk, this⟩
theorem P3 (l : List Pt) (hl : l.length ≤ 2000000) (hs : F5 l) (hp : ∀ x ∈ l, HN x.b (AO x.b) ∧ HN x.e (AO x.e)) : HN l (AO l) := by
  intro i0 d gc n H hi0 hd hg
  have hel := BJ l
  obtain ⟨R, hR⟩ : ∃ R, B6 0 i0 d l = R := ⟨_, rfl⟩
  rw [hR]
  refine Rj Tryz.func33 ZR rfl (hg) fun hH => ?_
  have hgn : gc < n := by
    rcases Nat.lt_or_ge gc n with h | h
    · exact h
    · rw [hH gc h] at hg; cases hg
  repeat' (first | (simp -implicitDefEqProofs [c33, -getElem?_pos, hel, hg]) | (simp (disch := omega) only [AE]) | (with_reducible first | refine A5 ?_ ?_ ?_ | exact AB | assumption | refine A2 ?_ | refine KM.of ?_ | refine AD ?_ | refine A3 ?_ | refine AI ?_ | refine A6 ?_ | refine AN ?_ | refine AJ ?_ | intro _g _hg | refine AC ?_ ?_ | intro _hc) | omega)
  refine LoopK.go (fun m st => ∃ (i c n2 : Nat) (H2 : A4), i + m = l.length ∧ st = ⟨[(0, .ptr gc 0), (1, Cv l), (2, aI d), (6, .ptr _g 0), (14, Cv l), (15, aI l.length), (16, aI i)], n2, H2⟩ ∧ _g < n2 ∧ H2 _g = some (.cells 24 [aI 0, aI 0]) ∧ SameB n (upd H gc (some (FP c))) H2 ∧ (∀ q, n2 ≤ q → H2 q = none) ∧ c ≤ 200 ∧ B6 (Qy l i) c d (l.drop i) = R) l.length ⟨0, i0, _, _, by omega, rfl, by omega, AY _ _ _, ?_, fun q hq => by rw [upd_ne (by omega)]; exact hH q (by omega), hi0, hR⟩ ?_
  · rw [Us hg]; exact (SameB.rfl_ n H).upd (by omega) _
  rintro m st ⟨i, c, n2, H2, him, rfl, hgn2, hg6, hS, hsup, hc, hE⟩ J hJ
  have hgc : H2 gc = some (FP c) := by rw [hS gc hgn]; exact AY _ _ _
  clear hR
  by_cases hi : i < l.length
  · obtain ⟨x, hx⟩ : ∃ x, l[i]? = some x := ⟨_, List.getElem?_eq_getElem hi⟩
    have hx2 := EL hx
    have hi' : (i : Int) < l.length := by omega
    have hks := Ql hx
    rw [drop_at hx] at hE
    have hsx := Dw hs (List.mem_of_getElem? hx)
    obtain ⟨cb, ce⟩ := hp x (List.mem_of_getElem? hx)
    have hka := fun (h : 0 < i) => XG h hi
    have hk0 : i = 0 → Qy l i = 0 := fun h => by rw [h]; rfl
    obtain ⟨k, t, nm, pa, fs, b, e⟩ := x
    rw [Bv] at hx2
    simp only [PG] at hsx
    obtain ⟨s1, s2, s3, s4, s5, s6, s7, s8, s9⟩ := hsx
    change HN b (AO b) at cb
    change HN e (AO e) at ce
    change Qy l (i + 1) = k at hks
    have hlb := BJ b
    have hle := BJ e
    have hsh := W8 c d k t nm pa fs (AO b) (AO e) ⟨s3, s5, by omega, by omega⟩
    have hnm := IB k t nm pa fs (AO b) (AO e) s4 s3 s2 s5
    rw [Hq hlb, Hq hle] at hsh
    obtain ⟨fb, hfb⟩ : ∃ fb, QW k t nm (Bc pa) (Bc fs) (Bc b) (Bc e) = fb := ⟨_, rfl⟩
    rw [hfb] at hsh
    have hpc : FI (Qy l i) c d k t nm pa fs b e = _ := V3 (pv := Qy l i) (i := c) (d := d) hfb
    clear hfb hx hp
    rw [B6, E1] at hE
    generalize AO b = eb at *
    generalize AO e = ee at *
    generalize Qy l i = pv at *
    generalize Oj k nm pa fs = M at *
    generalize hSS : RH c d k fb = S at *
    have hcc : ((c + 1 : Nat) : Int) = (c : Int) + 1 := by omega
    by_cases hP : FI pv c d k t nm pa fs b e = 0
    · have hcd : c < 200 ∧ d ≤ 16 := by
        unfold FI at hP
        by_cases h1 : 200 ≤ c
        · rw [if_pos h1] at hP; cases hP
        · by_cases h2 : 16 < d
          · rw [if_neg h1, if_pos h2] at hP; cases hP
          · omega
      obtain ⟨hc2, hd2⟩ := hcd
      simp only [hP, ne_eq, not_true, if_false] at hE
      rw [hP] at hpc
      have hS0 : S = 0 := by
        by_cases h : S = 0
        · exact h
        · rw [if_pos h] at hpc; exact hpc.symm
      rw [if_neg (by simpa using hS0)] at hpc
      have hkp : ¬ (k = 1 ∧ pv = 1) := fun h => by rw [if_pos h] at hpc; cases hpc
      rw [if_neg hkp] at hpc
      subst hS0
      subst hpc
      have hB2 := Eb b 0 (c + 1) (d + 1) (by omega)
      have cb1 := cb (c + 1) (d + 1) gc
      generalize B6 0 (c + 1) (d + 1) b = B at *
      have hE2 := Eb e 0 B.1 (d + 1)
      have ce1 := ce B.1 (d + 1) gc
      generalize B6 0 B.1 (d + 1) e = E at *
      clear cb ce
      have hin : ∀ (g8 gr : Nat) (n3 : Nat) (H3 : A4), n2 ≤ g8 → g8 + 1 ≤ gr → n3 = gr + 1 → H3 = upd (upd (upd (upd H2 g8 (some (.cells 55 [.int .i64 0, .str [], .str [], .sl 0 [] .nil, .sl 0 [] .nil, .sl 0 [] .nil, .sl 0 [] .nil]))) g8 (some (.cells 55 [aI k, .str t, .str nm, Ci pa, DE fs, .sl 7 eb .ro, .sl 7 ee .ro]))) gc (some (.cells 64 [.int .i64 ((c : Int) + 1)]))) gr (some (.row 22 2)) →
          LoopK (fun Q s => aw Tryz.prog c33_L5 Q s) (EY 2 (EY 1 (E4 (aw Tryz.prog c33_k2 (Lh [0, 1, 2, 6, 14, 15, 16] (E4 J (EY 0 (E4 (aw Tryz.prog c33_k1 (Kt (Ep R) n (upd H gc (some (FP (Fe R)))) [ARes.cell 6 (some 2)])) (Kt (Ep R) n (upd H gc (some (FP (Fe R)))) [ARes.cell 6 (some 2)])))))) (Lh [0, 1, 2, 6, 14, 15, 16] (E4 J (EY 0 (E4 (aw Tryz.prog c33_k1 (Kt (Ep R) n (upd H gc (some (FP (Fe R)))) [ARes.cell 6 (some 2)])) (Kt (Ep R) n (upd H gc (some (FP (Fe R)))) [ARes.cell 6 (some 2)]))))))))
            ⟨[(0, .ptr gc 0), (1, Cv l), (2, aI d), (6, .ptr _g 0), (14, Cv l), (15, aI l.length), (16, aI i), (69, .sl 1 [.sl 7 eb .ro, .sl 7 ee .ro] (.own gr)), (70, .int .i64 2), (71, .int .i64 0)], n3, H3⟩ := by
        clear hsh hnm hka hk0
        intro g8 gr n3 H3 q1 q2 q3 q4
        have r1 : SameB n (upd H gc (some (FP (c + 1)))) H3 := by
          rw [q4]
          intro q hq
          by_cases hqg : q = gc
          · subst hqg
            simp (disch := omega) only [upd_ne, AY]
            rfl
          · simp (disch := omega) only [upd_ne]
            rw [hS q hq, upd_ne hqg]
        have r2 : ∀ q, n3 ≤ q → H3 q = none := fun q hq => by
          rw [q4]
          simp (disch := omega) only [upd_ne]
          exact hsup q (by omega)
        have r3 : H3 _g = some (.cells 24 [aI 0, aI 0]) := by
          rw [q4]
          simp (disch := omega) only [upd_ne]
          exact hg6
        have r4 : H3 gc = some (FP (c + 1)) := by rw [r1 gc hgn, AY]
        clear q4 hg6 hsup hS
        have hdd : ((d + 1 : Nat) : Int) = (d : Int) + 1 := by omega
        rw [hdd] at cb1 ce1
        have cb2 : ∀ n H, H gc = some (FP (c + 1)) → AUpd Tryz.prog 33 [.ptr gc 0, .sl 7 eb .ro, .int .i64 ((d : Int) + 1)] n H (Ep B) gc (FP (Fe B)) := fun n H h => cb1 n H (by omega) (by omega) h
        clear cb1
        
        refine LoopK.round ?_
        by_cases hB0 : B.2 = 0
        · have v1 : Ep B = aF (0, 0) := by unfold Ep; rw [if_neg (by simpa using hB0)]
          have v2 : Fe B = B.1 := by unfold Fe; rw [if_neg (by simpa using hB0)]
          rw [v1, v2] at cb2
          have hB3 := hB2 hB0
          have ce2 : ∀ n H, H gc = some (FP B.1) → AUpd Tryz.prog 33 [.ptr gc 0, .sl 7 ee .ro, .int .i64 ((d : Int) + 1)] n H (Ep E) gc (FP (Fe E)) := fun n H h => ce1 n H (by omega) (by omega) h
          clear ce1 v1 v2
          simp only [hB0, ne_eq, not_true, if_false] at hE
          have r5 : ∀ g9, n3 ≤ g9 → ∀ o1 o2, upd (upd (upd H3 gc (some (FP B.1))) g9 o1) g9 o2 gc = some (FP B.1) := fun g9 hg9 o1 o2 => by simp (disch := omega) only [upd_ne, AY]
          have r6 : ∀ g9, n3 ≤ g9 → ∀ o1 o2, upd (upd (upd H3 gc (some (FP B.1))) g9 o1) g9 o2 _g = some (.cells 24 [aI 0, aI 0]) := fun g9 hg9 o1 o2 => by
            have : _g ≠ gc := by omega
            simp (disch := omega) only [upd_ne]; exact r3
          repeat' (first | (simp -implicitDefEqProofs [BT, BU, BO, BR, BM, BW, BY, BL, BS, B1, c33, -getElem?_pos, splice, hel, r3]) | (simp (disch := omega) only [AE]) | ((with_reducible refine Br 33 ?_); refine CallK.ofU (cb2 _ _ (r4)) (A0 _) ?_) | (with_reducible first | refine A5 ?_ ?_ ?_ | exact AB | assumption | refine A2 ?_ | refine KM.of ?_ | refine AD ?_ | refine A3 ?_ | refine AI ?_ | refine A6 ?_ | refine AN ?_ | refine AJ ?_ | intro _g _hg | refine AC ?_ ?_ | intro _hc) | omega)
          refine LoopK.round ?_
          by_cases hE0 : E.2 = 0
          · have v1 : Ep E = aF (0, 0) := by unfold Ep; rw [if_neg (by simpa using hE0)]
            have v2 : Fe E = E.1 := by unfold Fe; rw [if_neg (by simpa using hE0)]
            rw [v1, v2] at ce2
            have hE3 := hE2 (by omega) hE0
            clear v1 v2
            simp only [hE0, ne_eq, not_true, if_false] at hE
            repeat' (first | (simp -implicitDefEqProofs [BT, BU, BO, BR, BM, BW, BY, BL, BS, B1, c33, -getElem?_pos, splice, hel]) | (simp (disch := omega) only [AE]) | ((with_reducible refine Br 33 ?_); refine CallK.ofU (ce2 _ _ (by simp (disch := omega) only [upd_ne, AY])) (A0 _) ?_) | (with_reducible first | refine A5 ?_ ?_ ?_ | exact AB | assumption | refine A2 ?_ | refine KM.of ?_ | refine AD ?_ | refine A3 ?_ | refine AI ?_ | refine A6 ?_ | refine AN ?_ | refine AJ ?_ | intro _g _hg | refine AC ?_ ?_ | intro _hc) | omega)
            refine LoopK.round ?_
            repeat' (first | (simp -implicitDefEqProofs [BT, BU, BO, BR, BM, BW, BY, BL, BS, B1, c33, -getElem?_pos, splice, hel]) | (simp (disch := omega) only [AE]) | (with_reducible first | refine A5 ?_ ?_ ?_ | exact AB | assumption | refine A2 ?_ | refine KM.of ?_ | refine AD ?_ | refine A3 ?_ | refine AI ?_ | refine A6 ?_ | refine AN ?_ | refine AJ ?_ | intro _g _hg | refine AC ?_ ?_ | intro _hc) | omega)
            all_goals (refine hJ (m - 1) _ (by omega) ⟨i + 1, E.1, _, _, by omega, rfl, by omega, ?_, ?_, fun q hq => ?_, by omega, by rw [hks]; exact hE⟩)
            all_goals first
              | (have : _g ≠ gc := by omega
                 simp (disch := omega) only [upd_ne]; exact r3)
              | (intro q hq
                 by_cases hqg : q = gc
                 · subst hqg
                   simp (disch := omega) only [upd_ne, AY]
                 · simp (disch := omega) only [upd_ne]
                   rw [r1 q hq, upd_ne hqg])
              | (have : q ≠ gc := by omega
                 simp (disch := omega) only [upd_ne]; exact r2 q (by omega))
          · have v1 : Ep E = aF (E.2, (E.1 : Int)) := by unfold Ep; rw [if_pos hE0]
            have v2 : Fe E = E.1 + 1 := by unfold Fe; rw [if_pos hE0]
            have eR : R = E := by rw [← hE, if_pos hE0]
            rw [eR, v1, v2]
            rw [v1, v2] at ce2
            generalize E.2 = E2 at *
            clear hE eR v1 v2 hJ
            repeat' (first | (simp -implicitDefEqProofs [BT, BU, BO, BR, BM, BW, BY, BL, BS, B1, c33, -getElem?_pos, splice, hel, hE0, r3]) | (simp (disch := omega) only [AE]) | ((with_reducible refine Br 33 ?_); refine CallK.ofU (ce2 _ _ (by simp (disch := omega) only [upd_ne, AY])) (A0 _) ?_) | (with_reducible first | refine A5 ?_ ?_ ?_ | exact AB | assumption | refine A2 ?_ | refine KM.of ?_ | refine AD ?_ | refine A3 ?_ | refine AI ?_ | refine A6 ?_ | refine AN ?_ | refine AJ ?_ | intro _g _hg | refine AC ?_ ?_ | intro _hc) | omega)
            all_goals first
              | exact A1 _
              | (intro q hq
                 by_cases hqg : q = gc
                 · subst hqg
                   simp (disch := omega) only [upd_ne, AY]
                 · simp (disch := omega) only [upd_ne]
                   rw [r1 q hq, upd_ne hqg])
        · have v1 : Ep B = aF (B.2, (B.1 : Int)) := by unfold Ep; rw [if_pos hB0]
          have v2 : Fe B = B.1 + 1 := by unfold Fe; rw [if_pos hB0]
          have eR : R = B := by rw [← hE]; simp only [hB0, ne_eq, not_false_eq_true, if_true]
          rw [eR, v1, v2]
          rw [v1, v2] at cb2
          clear hE eR v1 v2 hJ ce1 hE2
          generalize B.2 = B2 at *
          repeat' (first | (simp -implicitDefEqProofs [BT, BU, BO, BR, BM, BW, BY, BL, BS, B1, c33, -getElem?_pos, splice, hel, r3, hB0]) | (simp (disch := omega) only [AE]) | ((with_reducible refine Br 33 ?_); refine CallK.ofU (cb2 _ _ (r4)) (A0 _) ?_) | (with_reducible first | refine A5 ?_ ?_ ?_ | exact AB | assumption | refine A2 ?_ | refine KM.of ?_ | refine AD ?_ | refine A3 ?_ | refine AI ?_ | refine A6 ?_ | refine AN ?_ | refine AJ ?_ | intro _g _hg | refine AC ?_ ?_ | intro _hc) | omega)
          all_goals first
              | exact A1 _
              | (intro q hq
                 by_cases hqg : q = gc
                 · subst hqg
                   simp (disch := omega) only [upd_ne, AY]
                 · simp (disch := omega) only [upd_ne]
                   rw [r1 q hq, upd_ne hqg])
      by_cases hi0 : i = 0
      · subst hi0
        have hz1 : (0 : Int) < l.length := hi'
        have hz2 : ¬ l = [] := fun e => by rw [e] at hi; simp at hi
        
        repeat' (first | (simp -implicitDefEqProofs [BT, BU, BO, BR, BM, BW, BY, BL, BS, B1, c33, -getElem?_pos, splice, hel, hx2, hi', hgc, hg6, hz1, hz2]) | (simp (disch := omega) only [AE]) | ((with_reducible refine AH 67 ?_); (refine' CallP.sf ?_ (hsh) ?_); (focus first | (with_reducible exact A0 _) | (simp [AA, A8, A1, A0]; done))) | ((with_reducible refine AH 68 ?_); (refine' CallP.sf ?_ (hnm) ?_); (focus first | (with_reducible exact A0 _) | (simp [AA, A8, A1, A0]; done))) | (with_reducible first | refine A5 ?_ ?_ ?_ | exact AB | assumption | refine A2 ?_ | refine KM.of ?_ | refine AD ?_ | refine A3 ?_ | refine AI ?_ | refine A6 ?_ | refine AN ?_ | refine AJ ?_ | intro _g _hg | refine AC ?_ ?_ | intro _hc) | omega)
        refine hin _ _ _ _ (by assumption) (by assumption) rfl rfl
      · obtain ⟨ky, ty, ny, pay, fsy, eby, eey, hyk, hy2⟩ := hka (by omega)
        have hip : (0 : Int) < i := by omega
        have hip1 : (1 : Int) ≤ i := by omega
        have hipn : 0 < i := by omega
        have hiw : ((i : Int) - 1).toNat = i - 1 := by omega
        subst hyk
        by_cases k1 : k = 1
        · subst k1
          have y1 : ¬ pv = 1 := fun h => hkp ⟨rfl, h⟩
          
          repeat' (first | (simp -implicitDefEqProofs [BT, BU, BO, BR, BM, BW, BY, BL, BS, B1, c33, -getElem?_pos, splice, hel, hx2, hi', hgc, hg6, hip, hip1, hipn, hiw, hy2, y1]) | (simp (disch := omega) only [AE]) | ((with_reducible refine AH 67 ?_); (refine' CallP.sf ?_ (hsh) ?_); (focus first | (with_reducible exact A0 _) | (simp [AA, A8, A1, A0]; done))) | ((with_reducible refine AH 68 ?_); (refine' CallP.sf ?_ (hnm) ?_); (focus first | (with_reducible exact A0 _) | (simp [AA, A8, A1, A0]; done))) | (with_reducible first | refine A5 ?_ ?_ ?_ | exact AB | assumption | refine A2 ?_ | refine KM.of ?_ | refine AD ?_ | refine A3 ?_ | refine AI ?_ | refine A6 ?_ | refine AN ?_ | refine AJ ?_ | intro _g _hg | refine AC ?_ ?_ | intro _hc) | omega)
          refine hin _ _ _ _ (by assumption) (by assumption) rfl rfl
        · have hkb : (k == 1) = false := by simpa using k1
          
          repeat' (first | (simp -implicitDefEqProofs [BT, BU, BO, BR, BM, BW, BY, BL, BS, B1, c33, -getElem?_pos, splice, hel, hx2, hi', hgc, hg6, hip, hip1, hipn, hiw, hy2, k1, hkb]) | (simp (disch := omega) only [AE]) | ((with_reducible refine AH 67 ?_); (refine' CallP.sf ?_ (hsh) ?_); (focus first | (with_reducible exact A0 _) | (simp [AA, A8, A1, A0]; done))) | ((with_reducible refine AH 68 ?_); (refine' CallP.sf ?_ (hnm) ?_); (focus first | (with_reducible exact A0 _) | (simp [AA, A8, A1, A0]; done))) | (with_reducible first | refine A5 ?_ ?_ ?_ | exact AB | assumption | refine A2 ?_ | refine KM.of ?_ | refine AD ?_ | refine A3 ?_ | refine AI ?_ | refine A6 ?_ | refine AN ?_ | refine AJ ?_ | intro _g _hg | refine AC ?_ ?_ | intro _hc) | omega)
          refine hin _ _ _ _ (by assumption) (by assumption) rfl rfl
    · have eR : R = (c, FI pv c d k t nm pa fs b e) := by
        rw [← hE, if_pos hP, if_pos (by exact hP)]
      have eV : Ep R = aF (FI pv c d k t nm pa fs b e, (c : Int)) := by rw [eR]; unfold Ep; rw [if_pos hP]
      have eN : Fe R = c + 1 := by rw [eR]; unfold Fe; rw [if_pos hP]
      rw [eV, eN]
      clear hE eR eV eN hJ cb ce
      generalize FI pv c d k t nm pa fs b e = P at *
      by_cases hS0 : S = 0
      · rw [if_neg (by simpa using hS0)] at hpc
        subst hS0
        by_cases hi0 : i = 0
        · have hpv := hk0 hi0
          have : ¬ (k = 1 ∧ pv = 1) := fun h => by omega
          rw [if_neg this] at hpc
          subst hi0
          subst hpc
          have hz1 : (0 : Int) < l.length := hi'
          have hz2 : ¬ l = [] := fun e => by rw [e] at hi; simp at hi
          
          repeat' (first | (simp -implicitDefEqProofs [BT, BU, BO, BR, BM, BW, BY, BL, BS, B1, c33, -getElem?_pos, splice, hel, hx2, hi', hgc, hg6, hP, hz1, hz2]) | (simp (disch := omega) only [AE]) | ((with_reducible refine AH 67 ?_); (refine' CallP.sf ?_ (hsh) ?_); (focus first | (with_reducible exact A0 _) | (simp [AA, A8, A1, A0]; done))) | ((with_reducible refine AH 68 ?_); (refine' CallP.sf ?_ (hnm) ?_); (focus first | (with_reducible exact A0 _) | (simp [AA, A8, A1, A0]; done))) | (with_reducible first | refine A5 ?_ ?_ ?_ | exact AB | assumption | refine A2 ?_ | refine KM.of ?_ | refine AD ?_ | refine A3 ?_ | refine AI ?_ | refine A6 ?_ | refine AN ?_ | refine AJ ?_ | intro _g _hg | refine AC ?_ ?_ | intro _hc) | omega)
          all_goals first
            | exact A1 _
            | (intro q hq
               by_cases hqg : q = gc
               · subst hqg
                 simp (disch := omega) only [upd_ne, AY]
                 first | rfl | (rw [hcc])
               · simp (disch := omega) only [upd_ne]
                 rw [hS q hq, upd_ne hqg])
        · obtain ⟨ky, ty, ny, pay, fsy, eby, eey, hyk, hy2⟩ := hka (by omega)
          have hip : (0 : Int) < i := by omega
          have hip1 : (1 : Int) ≤ i := by omega
          have hipn : 0 < i := by omega
          have hiw : ((i : Int) - 1).toNat = i - 1 := by omega
          subst hyk
          by_cases k1 : k = 1
          · subst k1
            by_cases y1 : pv = 1
            · rw [if_pos ⟨rfl, y1⟩] at hpc
              subst hpc
              subst y1
              
              repeat' (first | (simp -implicitDefEqProofs [BT, BU, BO, BR, BM, BW, BY, BL, BS, B1, c33, -getElem?_pos, splice, hel, hx2, hi', hgc, hg6, hip, hip1, hipn, hiw, hy2]) | (simp (disch := omega) only [AE]) | ((with_reducible refine AH 67 ?_); (refine' CallP.sf ?_ (hsh) ?_); (focus first | (with_reducible exact A0 _) | (simp [AA, A8, A1, A0]; done))) | ((with_reducible refine AH 68 ?_); (refine' CallP.sf ?_ (hnm) ?_); (focus first | (with_reducible exact A0 _) | (simp [AA, A8, A1, A0]; done))) | (with_reducible first | refine A5 ?_ ?_ ?_ | exact AB | assumption | refine A2 ?_ | refine KM.of ?_ | refine AD ?_ | refine A3 ?_ | refine AI ?_ | refine A6 ?_ | refine AN ?_ | refine AJ ?_ | intro _g _hg | refine AC ?_ ?_ | intro _hc) | omega)
              all_goals first
            | exact A1 _
            | (intro q hq
               by_cases hqg : q = gc
               · subst hqg
                 simp (disch := omega) only [upd_ne, AY]
                 first | rfl | (rw [hcc])
               · simp (disch := omega) only [upd_ne]
                 rw [hS q hq, upd_ne hqg])
            · rw [if_neg (fun h => y1 h.2)] at hpc
              subst hpc
              have hPb : (P == 0) = false := by simpa using hP
              
              repeat' (first | (simp -implicitDefEqProofs [BT, BU, BO, BR, BM, BW, BY, BL, BS, B1, c33, -getElem?_pos, splice, hel, hx2, hi', hgc, hg6, hP, hPb, hip, hip1, hipn, hiw, hy2, y1]) | (simp (disch := omega) only [AE]) | ((with_reducible refine AH 67 ?_); (refine' CallP.sf ?_ (hsh) ?_); (focus first | (with_reducible exact A0 _) | (simp [AA, A8, A1, A0]; done))) | ((with_reducible refine AH 68 ?_); (refine' CallP.sf ?_ (hnm) ?_); (focus first | (with_reducible exact A0 _) | (simp [AA, A8, A1, A0]; done))) | (with_reducible first | refine A5 ?_ ?_ ?_ | exact AB | assumption | refine A2 ?_ | refine KM.of ?_ | refine AD ?_ | refine A3 ?_ | refine AI ?_ | refine A6 ?_ | refine AN ?_ | refine AJ ?_ | intro _g _hg | refine AC ?_ ?_ | intro _hc) | omega)
              all_goals first
            | exact A1 _
            | (intro q hq
               by_cases hqg : q = gc
               · subst hqg
                 simp (disch := omega) only [upd_ne, AY]
                 first | rfl | (rw [hcc])
               · simp (disch := omega) only [upd_ne]
                 rw [hS q hq, upd_ne hqg])
          · rw [if_neg (fun h => k1 h.1)] at hpc
            subst hpc
            have hPb : (P == 0) = false := by simpa using hP
            have hkb : (k == 1) = false := by simpa using k1
            
            repeat' (first | (simp -implicitDefEqProofs [BT, BU, BO, BR, BM, BW, BY, BL, BS, B1, c33, -getElem?_pos, splice, hel, hx2, hi', hgc, hg6, hP, hPb, hip, hip1, hipn, hiw, hy2, k1, hkb]) | (simp (disch := omega) only [AE]) | ((with_reducible refine AH 67 ?_); (refine' CallP.sf ?_ (hsh) ?_); (focus first | (with_reducible exact A0 _) | (simp [AA, A8, A1, A0]; done))) | ((with_reducible refine AH 68 ?_); (refine' CallP.sf ?_ (hnm) ?_); (focus first | (with_reducible exact A0 _) | (simp [AA, A8, A1, A0]; done))) | (with_reducible first | refine A5 ?_ ?_ ?_ | exact AB | assumption | refine A2 ?_ | refine KM.of ?_ | refine AD ?_ | refine A3 ?_ | refine AI ?_ | refine A6 ?_ | refine AN ?_ | refine AJ ?_ | intro _g _hg | refine AC ?_ ?_ | intro _hc) | omega)
            all_goals first
            | exact A1 _
            | (intro q hq
               by_cases hqg : q = gc
               · subst hqg
                 simp (disch := omega) only [upd_ne, AY]
                 first | rfl | (rw [hcc])
               · simp (disch := omega) only [upd_ne]
                 rw [hS q hq, upd_ne hqg])
      · rw [if_pos hS0] at hpc
        subst hpc
        have hPb : (P == 0) = false := by simpa using hP
        by_cases hi0 : i = 0
        · subst hi0
          have hz1 : (0 : Int) < l.length := hi'
          have hz2 : ¬ l = [] := fun e => by rw [e] at hi; simp at hi
          
          repeat' (first | (simp -implicitDefEqProofs [BT, BU, BO, BR, BM, BW, BY, BL, BS, B1, c33, -getElem?_pos, splice, hel, hx2, hi', hgc, hg6, hP, hPb, hz1, hz2]) | (simp (disch := omega) only [AE]) | ((with_reducible refine AH 67 ?_); (refine' CallP.sf ?_ (hsh) ?_); (focus first | (with_reducible exact A0 _) | (simp [AA, A8, A1, A0]; done))) | ((with_reducible refine AH 68 ?_); (refine' CallP.sf ?_ (hnm) ?_); (focus first | (with_reducible exact A0 _) | (simp [AA, A8, A1, A0]; done))) | (with_reducible first | refine A5 ?_ ?_ ?_ | exact AB | assumption | refine A2 ?_ | refine KM.of ?_ | refine AD ?_ | refine A3 ?_ | refine AI ?_ | refine A6 ?_ | refine AN ?_ | refine AJ ?_ | intro _g _hg | refine AC ?_ ?_ | intro _hc) | omega)
          all_goals first
            | exact A1 _
            | (intro q hq
               by_cases hqg : q = gc
               · subst hqg
                 simp (disch := omega) only [upd_ne, AY]
                 first | rfl | (rw [hcc])
               · simp (disch := omega) only [upd_ne]
                 rw [hS q hq, upd_ne hqg])
        · obtain ⟨ky, ty, ny, pay, fsy, eby, eey, hyk, hy2⟩ := hka (by omega)
          have hip : (0 : Int) < i := by omega
          have hip1 : (1 : Int) ≤ i := by omega
          have hipn : 0 < i := by omega
          have hiw : ((i : Int) - 1).toNat = i - 1 := by omega
          
          repeat' (first | (simp -implicitDefEqProofs [BT, BU, BO, BR, BM, BW, BY, BL, BS, B1, c33, -getElem?_pos, splice, hel, hx2, hi', hgc, hg6, hP, hPb, hip, hip1, hipn, hiw, hy2]) | (simp (disch := omega) only [AE]) | ((with_reducible refine AH 67 ?_); (refine' CallP.sf ?_ (hsh) ?_); (focus first | (with_reducible exact A0 _) | (simp [AA, A8, A1, A0]; done))) | ((with_reducible refine AH 68 ?_); (refine' CallP.sf ?_ (hnm) ?_); (focus first | (with_reducible exact A0 _) | (simp [AA, A8, A1, A0]; done))) | (with_reducible first | refine A5 ?_ ?_ ?_ | exact AB | assumption | refine A2 ?_ | refine KM.of ?_ | refine AD ?_ | refine A3 ?_ | refine AI ?_ | refine A6 ?_ | refine AN ?_ | refine AJ ?_ | intro _g _hg | refine AC ?_ ?_ | intro _hc) | omega)
          all_goals first
            | exact A1 _
            | (intro q hq
               by_cases hqg : q = gc
               · subst hqg
                 simp (disch := omega) only [upd_ne, AY]
                 first | rfl | (rw [hcc])
               · simp (disch := omega) only [upd_ne]
                 rw [hS q hq, upd_ne hqg])
  · have hi0 : i = l.length := by omega
    subst hi0
    have hi' : ¬ (l.length : Int) < l.length := by omega
    rw [List.drop_length, B6] at hE
    subst hE
    have e1 : Ep (c, 0) = aF (0, 0) := rfl
    have e2 : Fe (c, 0) = c := rfl
    rw [e1, e2]
    clear hJ hp
    
    repeat' (first | (simp -implicitDefEqProofs [BT, BU, BO, BR, BM, BW, BY, BL, BS, B1, c33, -getElem?_pos, splice, hel, hi', hg6, hgc]) | (simp (disch := omega) only [AE]) | (with_reducible first | refine A5 ?_ ?_ ?_ | exact AB | assumption | refine A2 ?_ | refine KM.of ?_ | refine AD ?_ | refine A3 ?_ | refine AI ?_ | refine A6 ?_ | refine AN ?_ | refine AJ ?_ | intro _g _hg | refine AC ?_ ?_ | intro _hc) | omega)
    all_goals first | exact A1 _ | (exact hS.upd (by omega) _)
theorem Y4 (p : Pt) : PG p → HN p.b (AO p.b) ∧ HN p.e (AO p.e) := by
  refine Pt.ind (Q := fun p => PG p → HN p.b (AO p.b) ∧ HN p.e (AO p.e)) ?_ p
  intro k t nm pa fs b e hb he h
  simp only [PG] at h
  obtain ⟨_, _, _, _, _, h6, h7, h8, h9⟩ := h
  exact ⟨P3 b h6 h8 fun x hx => hb x hx (Dw h8 hx), P3 e h7 h9 fun x hx => he x hx (Dw h9 hx)⟩
theorem Y0 (l : List Pt) (hl : l.length ≤ 2000000) (hs : F5 l) : HN l (AO l) := P3 l hl hs fun x hx => Y4 x (Dw hs hx)
theorem Yx (p : Pt) : ∀ pv i d, PG p → (E1 pv i d p).2 = 0 → Ia p := by
  refine Pt.ind (Q := fun p => ∀ pv i d, PG p → (E1 pv i d p).2 = 0 → Ia p) ?_ p
  intro k t n pa fs b e hb he pv i d hs h
  have hl : ∀ l : List Pt, (∀ x ∈ l, ∀ pv i d, PG x → (E1 pv i d x).2 = 0 → Ia x) → ∀ pv i d, F5 l → (B6 pv i d l).2 = 0 → GM l := by
    intro l
    induction l with
    | nil => intro _ _ _ _ _ _; trivial
    | cons x r ih =>
      intro h pv i d hs h2
      simp only [F5] at hs
      unfold B6 at h2
      by_cases hx : (E1 pv i d x).2 = 0
      · rw [if_neg (by simpa using hx)] at h2
        exact ⟨h x (by simp) pv i d hs.1 hx, ih (fun y hy => h y (List.mem_cons_of_mem _ hy)) _ _ _ hs.2 h2⟩
      · rw [if_pos hx] at h2; exact absurd h2 hx
  simp only [PG] at hs
  obtain ⟨s1, _, _, _, _, _, _, s8, s9⟩ := hs
  unfold E1 at h
  split at h
  · rename_i hc; exact absurd h hc
  · rename_i hc
    have hpo := Up (by simpa using hc)
    have h5 : fs.length ≤ 8 := by
      have hc' : FI pv i d k t n pa fs b e = 0 := by simpa using hc
      unfold FI at hc'
      (repeat' split at hc') <;> first | omega | skip
      unfold Oj at hc'
      (repeat' split at hc') <;> first | omega | skip
    split at h
    · rename_i hb2; exact absurd h hb2
    · rename_i hb2
      simp only [Ia]
      refine ⟨s1, fun e => hpo.tx.1 e, ?_, ?_, ?_, h5, fun f hf => ⟨YV (hpo.fo f hf).k, (hpo.fo f hf).lo, (hpo.fo f hf).hi⟩, hl b hb _ _ _ s8 (by simpa using hb2), hl e he _ _ _ s9 h⟩
      · by_cases k4 : k = 4
        · exact Ry (hpo.id_ k4)
        · rw [hpo.nm k4]; simp
      · by_cases k1 : k = 1
        · rw [hpo.pt k1]; simp
        · exact (Qe (hpo.path k1)).1
      · by_cases k1 : k = 1
        · rw [hpo.pt k1]; simp
        · exact (Qe (hpo.path k1)).2
theorem KD : ∀ (l : List Pt) (pv : Int) (i d : Nat), F5 l → (B6 pv i d l).2 = 0 → GM l
  | [], _, _, _, _, _ => trivial
  | x :: r, pv, i, d, hs, h2 => by
    simp only [F5] at hs
    unfold B6 at h2
    by_cases hx : (E1 pv i d x).2 = 0
    · rw [if_neg (by simpa using hx)] at h2
      exact ⟨Yx x pv i d hs.1 hx, KD r _ _ _ hs.2 h2⟩
    · rw [if_pos hx] at h2; exact absurd h2 hx
theorem S9 (l : List Pt) (hl : l.length ≤ 2000000) (hs : F5 l) : APure Tryz.prog 13 [Cv l] (aF (GR l)) := by
  have hla := Y0 l hl hs 0 0
  have hel := BJ l
  by_cases h0 : (B6 0 0 0 l).2 = 0
  · have hok := KD l 0 0 0 hs h0
    have hsz := Eb l 0 0 0 (by omega) h0
    have htx := UK l hok (by omega)
    have hlen := Ew l hok
    have e1 : Ep (B6 0 0 0 l) = aF (0, 0) := by unfold Ep; rw [if_neg (by simpa using h0)]
    have e2 : GR l = if (4000 : Int) < (Cj l).length then (14, -1) else (0, 0) := by
      unfold GR
      rw [if_neg (by simpa using h0)]
      by_cases h : 4000 < (Cj l).length
      · rw [if_pos h, if_pos (by omega)]
      · rw [if_neg h, if_neg (by omega)]
    rw [e1] at hla
    rw [e2]
    generalize Fe (B6 0 0 0 l) = N1 at *
    generalize Cj l = tl at *
    have hla2 : ∀ gc n H, H gc = some (FP 0) → AUpd Tryz.prog 33 [.ptr gc 0, Cv l, .int .i64 0] n H (aF (0, 0)) gc (FP N1) := fun gc n H h => hla gc n H (by omega) (by omega) h
    clear hla e1 e2 hok
    by_cases h4 : (4000 : Int) < tl.length
    · rw [if_pos h4]
      refine A9 Tryz.func13 V0 rfl fun n H hH => ?_
      repeat' (first | (simp -implicitDefEqProofs [Kk, K7, c13, -getElem?_pos, splice, hel, h4]) | (simp (disch := omega) only [AE]) | ((with_reducible refine Br 33 ?_); refine CallK.ofU (hla2 _ _ _ (by simp (disch := omega) only [upd_ne, AY]; rfl)) (A0 _) ?_) | ((with_reducible refine AH 31 ?_); (refine' CallP.sf ?_ (htx) ?_); (focus first | (with_reducible exact A0 _) | (simp [AA, A8, A1, A0]; done))) | (with_reducible first | refine A5 ?_ ?_ ?_ | exact AB | assumption | refine A2 ?_ | refine KM.of ?_ | refine AD ?_ | refine A3 ?_ | refine A6 ?_ | intro _g _hg | refine AC ?_ ?_ | intro _hc) | omega)
      all_goals first | exact A1 _ | (intro q hq; simp (disch := omega) only [upd_ne]; done)
    · rw [if_neg h4]
      refine A9 Tryz.func13 V0 rfl fun n H hH => ?_
      repeat' (first | (simp -implicitDefEqProofs [Kk, K7, c13, -getElem?_pos, splice, hel, h4]) | (simp (disch := omega) only [AE]) | ((with_reducible refine Br 33 ?_); refine CallK.ofU (hla2 _ _ _ (by simp (disch := omega) only [upd_ne, AY]; rfl)) (A0 _) ?_) | ((with_reducible refine AH 31 ?_); (refine' CallP.sf ?_ (htx) ?_); (focus first | (with_reducible exact A0 _) | (simp [AA, A8, A1, A0]; done))) | (with_reducible first | refine A5 ?_ ?_ ?_ | exact AB | assumption | refine A2 ?_ | refine KM.of ?_ | refine AD ?_ | refine A3 ?_ | refine A6 ?_ | intro _g _hg | refine AC ?_ ?_ | intro _hc) | omega)
      all_goals first | exact A1 _ | (intro q hq; simp (disch := omega) only [upd_ne]; done)
  · have e1 : Ep (B6 0 0 0 l) = aF ((B6 0 0 0 l).2, ((B6 0 0 0 l).1 : Int)) := by unfold Ep; rw [if_pos h0]
    have e2 : GR l = ((B6 0 0 0 l).2, ((B6 0 0 0 l).1 : Int)) := by unfold GR; rw [if_pos h0]
    rw [e1] at hla
    rw [e2]
    generalize Fe (B6 0 0 0 l) = N1 at *
    generalize (B6 0 0 0 l).2 = R2 at *
    generalize (B6 0 0 0 l).1 = R1 at *
    have hla2 : ∀ gc n H, H gc = some (FP 0) → AUpd Tryz.prog 33 [.ptr gc 0, Cv l, .int .i64 0] n H (aF (R2, R1)) gc (FP N1) := fun gc n H h => hla gc n H (by omega) (by omega) h
    clear hla e1 e2
    refine A9 Tryz.func13 V0 rfl fun n H hH => ?_
    repeat' (first | (simp -implicitDefEqProofs [Kk, K7, c13, -getElem?_pos, splice, hel, h0]) | (simp (disch := omega) only [AE]) | ((with_reducible refine Br 33 ?_); refine CallK.ofU (hla2 _ _ _ (by simp (disch := omega) only [upd_ne, AY]; rfl)) (A0 _) ?_) | (with_reducible first | refine A5 ?_ ?_ ?_ | exact AB | assumption | refine A2 ?_ | refine KM.of ?_ | refine AD ?_ | refine A3 ?_ | refine A6 ?_ | intro _g _hg | refine AC ?_ ?_ | intro _hc) | omega)
    all_goals first | exact A1 _ | (intro q hq; simp (disch := omega) only [upd_ne]; done)
mutual
def ST : Pt → Prop
  | .mk k _ _ pa _ b e => (k = 1 ∨ pa ≠ []) ∧ LZ b ∧ LZ e
def LZ : List Pt → Prop
  | [] => True
  | x :: r => ST x ∧ LZ r
end
theorem Dn : ∀ {l : List Pt} {x : Pt}, LZ l → x ∈ l → ST x
  | y :: r, x, h, hx => by
    simp only [LZ] at h
    rcases List.mem_cons.1 hx with rfl | hx
    · exact h.1
    · exact Dn h.2 hx
theorem Xf (p : Pt) : ∀ pv i d, (E1 pv i d p).2 = 0 → ST p := by
  refine Pt.ind (Q := fun p => ∀ pv i d, (E1 pv i d p).2 = 0 → ST p) ?_ p
  intro k t n pa fs b e hb he pv i d h
  have hl : ∀ l : List Pt, (∀ x ∈ l, ∀ pv i d, (E1 pv i d x).2 = 0 → ST x) → ∀ pv i d, (B6 pv i d l).2 = 0 → LZ l := by
    intro l
    induction l with
    | nil => intros; trivial
    | cons x r ih =>
      intro h pv i d h2
      unfold B6 at h2
      by_cases hx : (E1 pv i d x).2 = 0
      · rw [if_neg (by simpa using hx)] at h2
        exact ⟨h x List.mem_cons_self _ _ _ hx, ih (fun y hy => h y (List.mem_cons_of_mem _ hy)) _ _ _ h2⟩
      · rw [if_pos hx] at h2; exact absurd h2 hx
  unfold E1 at h
  split at h
  · rename_i hc; exact absurd h hc
  · rename_i hc
    have hpo := Up (by simpa using hc)
    split at h
    · rename_i hb2; exact absurd h hb2
    · rename_i hb2
      simp only [ST]
      refine ⟨?_, hl b hb _ _ _ (by simpa using hb2), hl e he _ _ _ h⟩
      by_cases k1 : k = 1
      · exact .inl k1
      · right
        have hp := hpo.path k1
        rintro rfl
        simp [Dl] at hp
theorem Oh : ∀ (l : List Pt) (pv : Int) (i d : Nat), (B6 pv i d l).2 = 0 → LZ l
  | [], _, _, _, _ => trivial
  | x :: r, pv, i, d, h2 => by
    unfold B6 at h2
    by_cases hx : (E1 pv i d x).2 = 0
    · rw [if_neg (by simpa using hx)] at h2
      exact ⟨Xf x pv i d hx, Oh r _ _ _ h2⟩
    · rw [if_pos hx] at h2; exact absurd h2 hx
def Sg : AV → Option Nat
  | .sl _ _ (.own g) => some g
  | _ => none
def Sl (x : AV) (l : List AP) (n : Nat) (H : A4) : Prop := (l = [] ∧ x = .sl 0 [] .nil) ∨ ∃ g, g < n ∧ x = .sl 1 (l.map AV.str) (.own g) ∧ H g = some (.row 9 l.length)
structure Stp (x : AV) (n : Nat) (H : A4) (x' : AV) (n' : Nat) (H' : A4) (l' : List AP) : Prop where
  sl : Sl x' l' n' H'
  le : n ≤ n'
  fr : ∀ q, q < n → Sg x ≠ some q → H' q = H q
  ow : ∀ g, Sg x' = some g → n ≤ g ∨ Sg x = some g
  su : ∀ q, n' ≤ q → H' q = none
theorem Sl.own {x : AV} {l : List AP} {n : Nat} {H : A4} (h : Sl x l n H) {g : Nat} (hg : Sg x = some g) : g < n := by
  rcases h with ⟨_, rfl⟩ | ⟨g', h1, rfl, _⟩
  · cases hg
  · cases hg; exact h1
theorem Sl.sim {x : AV} {l : List AP} {n : Nat} {H : A4} (h : Sl x l n H) : A8 x (Ci l) := by
  rcases h with ⟨rfl, rfl⟩ | ⟨g', h1, rfl, _⟩
  · exact ⟨_, _, _, rfl, .inl rfl, .inr ⟨rfl, rfl⟩, rfl⟩
  · exact ⟨_, _, _, rfl, .inl rfl, .inl rfl, A0 _⟩
theorem Sl.len {x : AV} {l : List AP} {n : Nat} {H : A4} (h : Sl x l n H) : Qx x = some (.int .i64 l.length) := by
  rcases h with ⟨rfl, rfl⟩ | ⟨g', h1, rfl, _⟩
  · rfl
  · simp [Qx]
theorem Stp.refl {x : AV} {l : List AP} {n : Nat} {H : A4} (h : Sl x l n H) (hs : ∀ q, n ≤ q → H q = none) : Stp x n H x n H l :=
  ⟨h, Nat.le_refl _, fun _ _ _ => rfl, fun _ h => .inr h, hs⟩
theorem Stp.tr {x x' x'' : AV} {l l' : List AP} {n n' n'' : Nat} {H H' H'' : A4} (h : Stp x n H x' n' H' l) (k : Stp x' n' H' x'' n'' H'' l') : Stp x n H x'' n'' H'' l' := by
  refine ⟨k.sl, Nat.le_trans h.le k.le, fun q hq hx => ?_, fun g hg => ?_, k.su⟩
  · rw [k.fr q (by have := h.le; omega) (fun e => ?_), h.fr q hq hx]
    rcases h.ow q e with h1 | h1
    · omega
    · exact hx h1
  · rcases k.ow g hg with h1 | h1
    · exact .inl (by have := h.le; omega)
    · exact h.ow g h1
theorem Stp.new {x x0 : AV} {l : List AP} {n n0 g n' : Nat} {H H0 : A4} (h : Stp x0 n0 H0 x n H l) (hg : n ≤ g) (hn : g < n') (o : Option AObj) : Stp x0 n0 H0 x n' (upd H g o) l := by
  refine h.tr ⟨?_, by omega, fun q hq _ => upd_ne (by omega), fun _ h => .inr h, fun q hq => by rw [upd_ne (by omega)]; exact h.su q (by omega)⟩
  rcases h.sl with h1 | ⟨g', h1, h2, h3⟩
  · exact .inl h1
  · exact .inr ⟨g', by omega, h2, by rw [upd_ne (by omega)]; exact h3⟩
theorem Stp.news {x x0 : AV} {l : List AP} {n n0 n' : Nat} {H H' H0 : A4} (h : Stp x0 n0 H0 x n H l) (hn : n ≤ n') (hs : ∀ q, q < n → H' q = H q) (hu : ∀ q, n' ≤ q → H' q = none) : Stp x0 n0 H0 x n' H' l := by
  refine h.tr ⟨?_, hn, fun q hq _ => hs q hq, fun _ h => .inr h, hu⟩
  rcases h.sl with h1 | ⟨g', h1, h2, h3⟩
  · exact .inl h1
  · exact .inr ⟨g', by omega, h2, by rw [hs g' h1]; exact h3⟩
theorem Stp.app {x x0 : AV} {l : List AP} {n n0 : Nat} {H H0 : A4} {d : Option Nat} {K : AS → Prop} {e : AL} {w : AP} {t : Tok} (h : Stp x0 n0 H0 x n H l) (hl : l.length ≤ 1000000) (hk : ∀ x' n' H', Stp x n H x' n' H' (l ++ [w]) → K ⟨AG e d x', n', H'⟩) : appKS 9 1 16 d K ⟨e, n, H⟩ x (.sl 1 [.str w] t) := by
  refine ⟨.inl rfl, [.str w], A0 _, ?_⟩
  rcases h.sl with ⟨rfl, rfl⟩ | ⟨g, h1, rfl, h3⟩
  · refine ⟨by simp, by simp [maxLen], ?_⟩
    refine And.intro (fun e => by cases e) (fun _ => Or.inl fun g hg => hk _ _ _ ?_)
    refine ⟨.inr ⟨g, by omega, rfl, AY _ _ _⟩, by simp only at hg; omega, fun q hq _ => upd_ne (by simp only at hg; omega), fun g' hg' => .inl ?_, fun q hq => by rw [upd_ne (by omega)]; exact h.su q (by simp only at hg; omega)⟩
    cases hg'; exact hg
  · refine ⟨by simp; omega, by simp [maxLen]; omega, rfl, by simpa using h3, fun g' n' q1 q2 q3 => ?_⟩
    have e1 : List.map AV.str l ++ [.str w] = List.map AV.str (l ++ [w]) := by simp
    rw [e1]
    refine hk _ _ _ ⟨.inr ⟨g', q3, rfl, by rw [AY]; simp⟩, q2, fun q hq hx => ?_, fun g2 hg2 => ?_, fun q hq => ?_⟩
    · have hqg : q ≠ g := fun e => hx (by rw [e]; rfl)
      simp only at q1 q2
      have : q ≠ g' := by rcases q1 with rfl | q1 <;> omega
      rw [upd_ne this, upd_ne hqg]
    · cases hg2
      rcases q1 with rfl | q1
      · exact .inr rfl
      · exact .inl q1
    · simp only at q1 q2
      rw [upd_ne (by omega), upd_ne (by omega)]
      exact h.su q (by omega)
mutual
theorem Uk (bnd : List AP) : ∀ (out : List AP) (x : Pt), (TH bnd out x).length ≤ out.length + Ba x
  | out, .mk k t n pa fs b e => by
    rw [TH]
    have h1 := DP (if k = 4 then bnd ++ [n] else bnd) (if k ≠ 1 ∧ pa.headD [] ∉ bnd ∧ GT pa ∉ out then out ++ [GT pa] else out) b
    have h2 := DP bnd (D1 (if k = 4 then bnd ++ [n] else bnd) (if k ≠ 1 ∧ pa.headD [] ∉ bnd ∧ GT pa ∉ out then out ++ [GT pa] else out) b) e
    have h3 : (if k ≠ 1 ∧ pa.headD [] ∉ bnd ∧ GT pa ∉ out then out ++ [GT pa] else out).length ≤ out.length + 1 := by split <;> simp
    unfold Ba
    omega
theorem DP (bnd : List AP) : ∀ (out : List AP) (l : List Pt), (D1 bnd out l).length ≤ out.length + AU l
  | out, [] => by rw [D1]; simp [AU]
  | out, x :: r => by
    rw [D1]
    have h1 := Uk bnd out x
    have h2 := DP bnd (TH bnd out x) r
    simp only [AU]
    omega
end
def Hp (l : List Pt) (el : List AV) : Prop := ∀ (out bnd : List AP) (x : AV) (n : Nat) (H : A4), Sl x out n H → out.length + AU l ≤ 1000000 → bnd.length + AU l ≤ 1000000 → ACalls Tryz.prog 24 [x, .sl 7 el .ro, Ci bnd] n H fun r n' H' => Stp x n H r n' H' (D1 bnd out l)
theorem Wy {x : AV} {n : Nat} {H : A4} (o3 bnd b3 : List AP) (b e l : List Pt) (eb ee : List AV) (cb : Hp b eb) (ce : Hp e ee) (hn1 : o3.length + AU b + AU e ≤ 1000000) (hn2 : b3.length + AU b ≤ 1000000) (hn3 : bnd.length + AU e ≤ 1000000)
    (g8 i : Nat) (x3 v10 : AV) (n4 : Nat) (H4 : A4) (en : AL) (c0 c1 c2 c3 c4 : AV) (hS : Stp x n H x3 n4 H4 o3) (hg : g8 < n4) (hH : H4 g8 = some (.cells 55 [c0, c1, c2, c3, c4, .sl 7 eb .ro, .sl 7 ee .ro])) (hx : Sg x3 ≠ some g8) (hv : A8 v10 (Ci b3))
    (e0 : get en 0 = x3) (e1 : get en 1 = Cv l) (e2 : get en 2 = Ci bnd) (e7 : get en 7 = aI i) (e8 : get en 8 = .ptr g8 0) (e10 : get en 10 = v10) (Q : AExit → AS → Prop)
    (hQ : ∀ en r n' H', get en 0 = r → get en 1 = Cv l → get en 2 = Ci bnd → get en 7 = aI i → Stp x n H r n' H' (D1 bnd (D1 b3 o3 b) e) → Q .normal ⟨en, n', H'⟩) : aw Tryz.prog c24_k3 Q ⟨en, n4, H4⟩ := by
  have hl1 := DP b3 o3 b
  
  repeat' (first | (simp -implicitDefEqProofs [Ch, Ca, Ce, Bo, BV, BQ, c24, -getElem?_pos, splice, e0, e1, e2, e7, e8, e10, hH]) | (simp (disch := omega) only [AE]) | (with_reducible first | refine A5 ?_ ?_ ?_ | exact AB | assumption | refine A2 ?_ | refine KM.of ?_ | refine AD ?_ | refine A3 ?_ | refine AI ?_ | refine A6 ?_ | refine AN ?_ | refine AJ ?_ | intro _g _hg | refine AC ?_ ?_ | intro _hc) | omega)
  refine ⟨_, ACalls.sim (cb o3 b3 x3 n4 H4 hS.sl (by omega) hn2) (AR (A1 _) (AR (A1 _) (AR hv rfl))), ?_⟩
  intro r n5 H5 _ hs5 hS5
  have hH5 : H5 g8 = some (.cells 55 [c0, c1, c2, c3, c4, .sl 7 eb .ro, .sl 7 ee .ro]) := by rw [hS5.fr g8 hg hx]; exact hH
  have hS6 := hS.tr hS5
  clear hS5 hH hv
  repeat' (first | (simp -implicitDefEqProofs [Ch, Ca, Ce, Bo, BV, BQ, c24, -getElem?_pos, splice, hH5]) | (simp (disch := omega) only [AE]) | (with_reducible first | refine A5 ?_ ?_ ?_ | exact AB | assumption | refine A2 ?_ | refine KM.of ?_ | refine AD ?_ | refine A3 ?_ | refine AI ?_ | refine A6 ?_ | refine AN ?_ | refine AJ ?_ | intro _g _hg | refine AC ?_ ?_ | intro _hc) | omega)
  refine ⟨_, ce (D1 b3 o3 b) bnd r n5 H5 hS6.sl (by omega) hn3, ?_⟩
  intro r2 n6 H6 _ hs6 hS7
  have hS8 := hS6.tr hS7
  clear hS6 hS7
  repeat' (first | (simp -implicitDefEqProofs [Ch, Ca, Ce, Bo, BV, BQ, c24, -getElem?_pos, splice]) | (simp (disch := omega) only [AE]) | (with_reducible first | refine A5 ?_ ?_ ?_ | exact AB | assumption | refine A2 ?_ | refine KM.of ?_ | refine AD ?_ | refine A3 ?_ | refine AI ?_ | refine A6 ?_ | refine AN ?_ | refine AJ ?_ | intro _g _hg | refine AC ?_ ?_ | intro _hc) | omega)
  exact hQ _ _ _ _ rfl rfl rfl rfl hS8
theorem Sw {x : AV} {n : Nat} {H : A4} (o3 bnd : List AP) (b e l : List Pt) (eb ee : List AV) (cb : Hp b eb) (ce : Hp e ee) (hn1 : o3.length + AU b + AU e ≤ 1000000) (hn2 : bnd.length + 1 + AU b ≤ 1000000) (hn3 : bnd.length + AU e ≤ 1000000)
    (g8 i : Nat) (x3 : AV) (n4 : Nat) (H4 : A4) (en : AL) (k : Int) (t nm : AP) (c3 c4 : AV) (hS : Stp x n H x3 n4 H4 o3) (hg : g8 < n4) (hH : H4 g8 = some (.cells 55 [aI k, .str t, .str nm, c3, c4, .sl 7 eb .ro, .sl 7 ee .ro])) (hx : Sg x3 ≠ some g8)
    (e0 : get en 0 = x3) (e1 : get en 1 = Cv l) (e2 : get en 2 = Ci bnd) (e7 : get en 7 = aI i) (e8 : get en 8 = .ptr g8 0) (Q : AExit → AS → Prop)
    (hQ : ∀ en r n' H', get en 0 = r → get en 1 = Cv l → get en 2 = Ci bnd → get en 7 = aI i → Stp x n H r n' H' (D1 bnd (D1 (if k = 4 then bnd ++ [nm] else bnd) o3 b) e) → Q .normal ⟨en, n', H'⟩) : aw Tryz.prog c24_k4 Q ⟨en, n4, H4⟩ := by
  by_cases k4 : k = 4
  · rw [if_pos k4] at hQ
    subst k4
    
    repeat' (first | (simp -implicitDefEqProofs [c24, Bo, -getElem?_pos, splice, e0, e1, e2, e7, e8, hH]) | (simp (disch := omega) only [AE]) | (with_reducible first | refine A5 ?_ ?_ ?_ | exact AB | assumption | refine A2 ?_ | refine KM.of ?_ | refine AD ?_ | refine A3 ?_ | refine AI ?_ | refine A6 ?_ | refine AN ?_ | refine AJ ?_ | intro _g _hg | refine AC ?_ ?_ | intro _hc) | omega)
    refine Lx (Nat.le_refl _) (FreeH.of hS.su) fun g1 n5 q1 q2 q3 q4 => ?_
    repeat' (first | (simp -implicitDefEqProofs [Ch, Ca, Ce, Bo, BV, BQ, c24, -getElem?_pos, splice]) | (simp (disch := omega) only [AE]) | (with_reducible first | refine A5 ?_ ?_ ?_ | exact AB | assumption | refine A2 ?_ | refine KM.of ?_ | refine AD ?_ | refine A3 ?_ | refine AI ?_ | refine A6 ?_ | refine AN ?_ | refine AJ ?_ | intro _g _hg | refine AC ?_ ?_ | intro _hc) | omega)
    refine QV q3 ((FreeH.of hS.su).upd _ _) ⟨by simp [GZ], bnd.map AV.str, A0 _, by simp; omega, by simp [maxLen]; omega, rfl, by simp [AY], fun g2 n6 r1 r2 r3 => ?_⟩
    simp only [List.nil_append, List.length_nil, List.length_map, Nat.zero_add] at r1 r2 r3 ⊢
    have g81 : g8 ≠ g1 := by omega
    have g82 : g8 ≠ g2 := by omega
    have hH6 : upd (upd (upd H4 g1 (some (.row 9 0))) g1 none) g2 (some (.row 9 bnd.length)) g8 = some (.cells 55 [aI 4, .str t, .str nm, c3, c4, .sl 7 eb .ro, .sl 7 ee .ro]) := by rw [upd_ne g82, upd_ne g81, upd_ne g81]; exact hH
    repeat' (first | (simp -implicitDefEqProofs [Ch, Ca, Ce, Bo, BV, BQ, c24, -getElem?_pos, splice, hH6]) | (simp (disch := omega) only [AE]) | (with_reducible first | refine A5 ?_ ?_ ?_ | exact AB | assumption | refine A2 ?_ | refine KM.of ?_ | refine AD ?_ | refine A3 ?_ | refine AI ?_ | refine A6 ?_ | refine AN ?_ | refine AJ ?_ | intro _g _hg | refine AC ?_ ?_ | intro _hc) | omega)
    have hg2 : n4 ≤ g2 := by omega
    have hu6 : ∀ q, n6 ≤ q → upd (upd (upd H4 g1 (some (.row 9 0))) g1 none) g2 (some (.row 9 bnd.length)) q = none := fun q hq => by
      have : q ≠ g1 := by omega
      have : q ≠ g2 := by omega
      simp only [upd_ne, ne_eq, *, not_false_eq_true]
      exact hS.su q (by omega)
    have hk6 : ∀ q, q < n4 → upd (upd (upd H4 g1 (some (.row 9 0))) g1 none) g2 (some (.row 9 bnd.length)) q = H4 q := fun q hq => by
      have : q ≠ g1 := by omega
      have : q ≠ g2 := by omega
      simp only [upd_ne, ne_eq, *, not_false_eq_true]
    have hr6 : upd (upd (upd H4 g1 (some (.row 9 0))) g1 none) g2 (some (.row 9 bnd.length)) g2 = some (.row 9 bnd.length) := AY _ _ _
    generalize upd (upd (upd H4 g1 (some (.row 9 0))) g1 none) g2 (some (.row 9 bnd.length)) = H6 at *
    refine Lx (by omega) (FreeH.of hu6) fun g3 n7 s1 s2 s3 s4 => ?_
    have hg32 : g2 ≠ g3 := fun e => by rw [e] at hr6; rw [hr6] at s2; cases s2
    repeat' (first | (simp -implicitDefEqProofs [Ch, Ca, Ce, Bo, BV, BQ, c24, -getElem?_pos, splice]) | (simp (disch := omega) only [AE]) | (with_reducible first | refine A5 ?_ ?_ ?_ | exact AB | assumption | refine A2 ?_ | refine KM.of ?_ | refine AD ?_ | refine A3 ?_ | refine AI ?_ | refine A6 ?_ | refine AN ?_ | refine AJ ?_ | intro _g _hg | refine AC ?_ ?_ | intro _hc) | omega)
    refine QV (by omega) ((FreeH.of hu6).upd _ _) ⟨by simp [GZ], [.str nm], A0 _, by simp; omega, by simp [maxLen]; omega, rfl, by show upd H6 g3 _ g2 = _; rw [upd_ne hg32]; simpa using hr6, fun g4 n8 t1 t2 t3 => ?_⟩
    simp only [List.length_map, List.length_singleton] at t1 t2 t3 ⊢
    repeat' (first | (simp -implicitDefEqProofs [c24, -getElem?_pos, splice]) | (simp (disch := omega) only [AE]) | (with_reducible first | refine A5 ?_ ?_ ?_ | exact AB | assumption | refine A2 ?_ | refine KM.of ?_ | refine AD ?_ | refine A3 ?_ | refine AI ?_ | refine A6 ?_ | refine AN ?_ | refine AJ ?_ | intro _g _hg | refine AC ?_ ?_ | intro _hc) | omega)
    have hS8 : Stp x n H x3 n8 (upd (upd (upd H6 g3 (some (.row 9 1))) g2 none) g4 (some (.row 9 (bnd.length + 1)))) o3 := by
      refine hS.news (by omega) (fun q hq => ?_) (fun q hq => ?_)
      · have : q ≠ g3 := by omega
        have : q ≠ g2 := by omega
        have : q ≠ g4 := by omega
        simp only [upd_ne, ne_eq, *, not_false_eq_true]
      · have : q ≠ g3 := by omega
        have : q ≠ g2 := by omega
        have : q ≠ g4 := by omega
        simp only [upd_ne, ne_eq, *, not_false_eq_true]
        exact hu6 q (by omega)
    have hH8 : upd (upd (upd H6 g3 (some (.row 9 1))) g2 none) g4 (some (.row 9 (bnd.length + 1))) g8 = some (.cells 55 [aI 4, .str t, .str nm, c3, c4, .sl 7 eb .ro, .sl 7 ee .ro]) := by
      have : g8 ≠ g3 := by omega
      have : g8 ≠ g4 := by omega
      simp only [upd_ne, ne_eq, *, not_false_eq_true]
    have hv : A8 (.sl 1 (bnd.map AV.str ++ [.str nm]) (.own g4)) (Ci (bnd ++ [nm])) := by
      have e : Ci (bnd ++ [nm]) = .sl 1 (bnd.map AV.str ++ [.str nm]) .ro := by simp
      rw [e]
      exact ⟨_, _, _, rfl, .inl rfl, .inl rfl, A0 _⟩
    exact Wy o3 bnd (bnd ++ [nm]) b e l eb ee cb ce hn1 (by simp; omega) hn3 g8 i x3 _ n8 _ _ _ _ _ _ _ hS8 (by omega) hH8 hx hv rfl rfl rfl rfl rfl rfl _ hQ
  · rw [if_neg k4] at hQ
    
    repeat' (first | (simp -implicitDefEqProofs [c24, Bo, -getElem?_pos, splice, e0, e1, e2, e7, e8, hH, k4]) | (simp (disch := omega) only [AE]) | (with_reducible first | refine A5 ?_ ?_ ?_ | exact AB | assumption | refine A2 ?_ | refine KM.of ?_ | refine AD ?_ | refine A3 ?_ | refine AI ?_ | refine A6 ?_ | refine AN ?_ | refine AJ ?_ | intro _g _hg | refine AC ?_ ?_ | intro _hc) | omega)
    exact Wy o3 bnd bnd b e l eb ee cb ce hn1 (by omega) hn3 g8 i x3 (Ci bnd) n4 H4 _ _ _ _ _ _ hS hg hH hx (A1 _) rfl rfl rfl rfl rfl rfl _ hQ
theorem P9 (l : List Pt) (hl : l.length ≤ 1000000) (ho : GM l) (hpx : LZ l) (hp : ∀ x ∈ l, Hp x.b (AO x.b) ∧ Hp x.e (AO x.e)) : Hp l (AO l) := by
  intro out bnd x n H hSl h1 h2
  have hel := BJ l
  obtain ⟨R, hR⟩ : ∃ R, D1 bnd out l = R := ⟨_, rfl⟩
  rw [hR]
  refine BZ Tryz.func24 Z9 rfl fun hs => ?_
  repeat' (first | (simp -implicitDefEqProofs [c24, -getElem?_pos, hel]) | (simp (disch := omega) only [AE]) | (with_reducible first | refine A5 ?_ ?_ ?_ | exact AB | assumption | refine A2 ?_ | refine KM.of ?_ | refine AD ?_ | refine A3 ?_ | refine AI ?_ | refine A6 ?_ | refine AN ?_ | refine AJ ?_ | intro _g _hg | refine AC ?_ ?_ | intro _hc) | omega)
  refine LoopK.go (fun m st => ∃ (i : Nat) (x2 : AV) (n2 : Nat) (H2 : A4) (o2 : List AP), i + m = l.length ∧ st = ⟨[(0, x2), (1, Cv l), (2, Ci bnd), (7, aI i)], n2, H2⟩ ∧ Stp x n H x2 n2 H2 o2 ∧ D1 bnd o2 (l.drop i) = R ∧ o2.length + AU (l.drop i) ≤ 1000000) l.length ⟨0, x, n, H, out, by omega, rfl, Stp.refl hSl hs, hR, h1⟩ ?_
  rintro m st ⟨i, x2, n2, H2, o2, him, rfl, hS, hE, hsz⟩ J hJ
  clear hR
  by_cases hi : i < l.length
  · obtain ⟨y, hy⟩ : ∃ y, l[i]? = some y := ⟨_, List.getElem?_eq_getElem hi⟩
    have hx2 := EL hy
    have hi' : (i : Int) < l.length := by omega
    have hox := D5 ho (List.mem_of_getElem? hy)
    have hpy := Dn hpx (List.mem_of_getElem? hy)
    obtain ⟨cb, ce⟩ := hp y (List.mem_of_getElem? hy)
    rw [drop_at hy] at hE hsz
    have hsy := Bm (List.mem_of_getElem? hy)
    obtain ⟨k, t, nm, pa, fs, b, e⟩ := y
    rw [Bv] at hx2
    simp only [Ia] at hox
    simp only [ST] at hpy
    obtain ⟨hpy, -, -⟩ := hpy
    obtain ⟨q1, q2, q3, q4, q5, q6, q7, -, -⟩ := hox
    change Hp b (AO b) at cb
    change Hp e (AO e) at ce
    simp only [AU] at hsz
    unfold Ba at hsz hsy
    rw [D1, TH] at hE
    have hj := St pa [46] (by omega) (by simp) (by have := HU q4 q5; unfold GT at this; omega) (fun s hs => by have := q5 s hs; omega)
    change APure _ _ [Ci pa, .str [46]] (.str (GT pa)) at hj
    clear hy hp
    generalize AO b = eb at *
    generalize AO e = ee at *
    obtain ⟨o3, ho3⟩ : ∃ o3, (if k ≠ 1 ∧ pa.headD [] ∉ bnd ∧ GT pa ∉ o2 then o2 ++ [GT pa] else o2) = o3 := ⟨_, rfl⟩
    have ho3l : o3.length ≤ o2.length + 1 := by rw [← ho3]; split <;> simp
    rw [ho3] at hE
    obtain ⟨b3, hb3⟩ : ∃ b3, (if k = 4 then bnd ++ [nm] else bnd) = b3 := ⟨_, rfl⟩
    have hb3l : b3.length ≤ bnd.length + 1 := by rw [← hb3]; split <;> simp
    rw [hb3] at hE
    have hwo : (GT pa ∈ o2) = (GT pa ∈ o2) := rfl
    generalize hwh : GT pa = wh at *
    
    have hoS := hS.sl
    have hlv := hoS.len
    have hS1 : ∀ g8, n2 ≤ g8 → Stp x n H x2 (g8 + 1) (upd (upd H2 g8 (some (.cells 55 [.int .i64 0, .str [], .str [], .sl 0 [] .nil, .sl 0 [] .nil, .sl 0 [] .nil, .sl 0 [] .nil]))) g8 (some (.cells 55 [aI k, .str t, .str nm, Ci pa, DE fs, .sl 7 eb .ro, .sl 7 ee .ro]))) o2 := fun g8 hg8 => hS.news (by omega) (fun q hq => by rw [upd_ne (by omega), upd_ne (by omega)]) (fun q hq => by rw [upd_ne (by omega), upd_ne (by omega)]; exact hS.su q (by omega))
    have hx8 : ∀ g8, n2 ≤ g8 → Sg x2 ≠ some g8 := fun g8 hg8 e => by have := hoS.own e; omega
    have hJ2 : ∀ en r n' H', get en 0 = r → get en 1 = Cv l → get en 2 = Ci bnd → get en 7 = aI i → Stp x n H r n' H' (D1 bnd (D1 b3 o3 b) e) → J ⟨[(0, r), (1, Cv l), (2, Ci bnd), (7, aI ((i : Int) + 1))], n', H'⟩ := fun en r n' H' e0 e1 e2 e7 hSr => hJ (m - 1) _ (by omega) ⟨i + 1, r, n', H', _, by omega, rfl, hSr, hE, by
      have := DP b3 o3 b
      have := DP bnd (D1 b3 o3 b) e
      omega⟩
    by_cases k1 : k = 1
    · subst k1
      have e3 : o3 = o2 := by rw [← ho3, if_neg (by simp)]
      subst e3
      repeat' (first | (simp -implicitDefEqProofs [c24, BQ, BV, -getElem?_pos, splice, hel, hx2, hi']) | (simp (disch := omega) only [AE]) | ((with_reducible refine AH 36 ?_); (refine' CallP.sf ?_ (hj) ?_); (focus first | (with_reducible exact A0 _) | (simp [AA, A8, A1, A0]; done))) | (with_reducible first | refine A5 ?_ ?_ ?_ | exact AB | assumption | refine A2 ?_ | refine KM.of ?_ | refine AD ?_ | refine A3 ?_ | refine AI ?_ | refine A6 ?_ | refine AN ?_ | refine AJ ?_ | intro _g _hg | refine AC ?_ ?_ | intro _hc) | omega)
      refine Sw o3 bnd b e l eb ee cb ce (by omega) (by omega) (by omega) _ i x2 _ _ _ 1 t nm (Ci pa) (DE fs) (hS1 _ (by assumption)) (Nat.lt_succ_self _) (AY _ _ _) (hx8 _ (by assumption)) rfl rfl rfl rfl rfl _ ?_
      rw [hb3]
      intro en r n' H' e0 e1 e2 e7 hSr
      have hj2 := hJ2 en r n' H' e0 e1 e2 e7 hSr
      clear hS hS1 hJ2 hSr hJ
      
      repeat' (first | (simp -implicitDefEqProofs [Ch, Ca, Ce, Bo, BV, BQ, c24, -getElem?_pos, e0, e1, e2, e7]) | (simp (disch := omega) only [AE]) | (with_reducible first | refine A5 ?_ ?_ ?_ | exact AB | assumption | refine A2 ?_ | refine KM.of ?_ | refine AD ?_ | refine A3 ?_ | refine AI ?_ | refine A6 ?_ | refine AN ?_ | refine AJ ?_ | intro _g _hg | refine AC ?_ ?_ | intro _hc) | omega)
    · obtain ⟨p0, hp0⟩ : ∃ p0, pa[0]? = some p0 := by
        rcases pa with _ | ⟨p0, r⟩
        · rcases hpy with h | h
          · exact absurd h k1
          · exact absurd rfl h
        · exact ⟨p0, rfl⟩
      have hpl : (0 : Int) < pa.length := by
        have := (List.getElem?_eq_some_iff.1 hp0).1
        omega
      have hhd : pa.headD [] = p0 := by
        rcases pa with _ | ⟨p1, r⟩
        · cases hp0
        · simpa using hp0
      rw [hhd] at ho3
      have hh1 := L0 bnd bnd.length p0 (by omega)
      rw [List.take_length] at hh1
      have hh2 := L0 o2 o2.length wh (by omega)
      rw [List.take_length] at hh2
      by_cases hm1 : p0 ∈ bnd
      · rw [if_neg (fun h => h.2.1 hm1)] at ho3
        subst ho3
        rw [decide_eq_true hm1] at hh1
        
        repeat' (first | (simp -implicitDefEqProofs [c24, BQ, BV, -getElem?_pos, splice, hel, hx2, hi', hp0, hpl, k1]) | (simp (disch := omega) only [AE]) | ((with_reducible refine AH 36 ?_); (refine' CallP.sf ?_ (hj) ?_); (focus first | (with_reducible exact A0 _) | (simp [AA, A8, A1, A0]; done))) | ((with_reducible refine AH 25 ?_); (refine' CallP.sf ?_ (hh1) ?_); (focus first | (with_reducible exact A0 _) | (simp [AA, A8, A1, A0]; done))) | (with_reducible first | refine A5 ?_ ?_ ?_ | exact AB | assumption | refine A2 ?_ | refine KM.of ?_ | refine AD ?_ | refine A3 ?_ | refine AI ?_ | refine A6 ?_ | refine AN ?_ | refine AJ ?_ | intro _g _hg | refine AC ?_ ?_ | intro _hc) | omega)
        refine Sw o2 bnd b e l eb ee cb ce (by omega) (by omega) (by omega) _ i x2 _ _ _ k t nm (Ci pa) (DE fs) (hS1 _ (by assumption)) (Nat.lt_succ_self _) (AY _ _ _) (hx8 _ (by assumption)) rfl rfl rfl rfl rfl _ ?_
        rw [hb3]
        intro en r n' H' e0 e1 e2 e7 hSr
        have hj2 := hJ2 en r n' H' e0 e1 e2 e7 hSr
        clear hS hS1 hJ2 hSr hJ
        
        repeat' (first | (simp -implicitDefEqProofs [Ch, Ca, Ce, Bo, BV, BQ, c24, -getElem?_pos, e0, e1, e2, e7]) | (simp (disch := omega) only [AE]) | (with_reducible first | refine A5 ?_ ?_ ?_ | exact AB | assumption | refine A2 ?_ | refine KM.of ?_ | refine AD ?_ | refine A3 ?_ | refine AI ?_ | refine A6 ?_ | refine AN ?_ | refine AJ ?_ | intro _g _hg | refine AC ?_ ?_ | intro _hc) | omega)
      · rw [decide_eq_false hm1] at hh1
        by_cases hm2 : wh ∈ o2
        · rw [if_neg (fun h => h.2.2 hm2)] at ho3
          subst ho3
          rw [decide_eq_true hm2] at hh2
          
          repeat' (first | (simp -implicitDefEqProofs [c24, BQ, BV, -getElem?_pos, splice, hel, hx2, hi', hp0, hpl, k1, hlv]) | (simp (disch := omega) only [AE]) | ((with_reducible refine AH 25 ?_); refine ⟨_, _, hh2, AR hoS.sim (A0 _), ?_⟩) | ((with_reducible refine AH 36 ?_); (refine' CallP.sf ?_ (hj) ?_); (focus first | (with_reducible exact A0 _) | (simp [AA, A8, A1, A0]; done))) | ((with_reducible refine AH 25 ?_); (refine' CallP.sf ?_ (hh1) ?_); (focus first | (with_reducible exact A0 _) | (simp [AA, A8, A1, A0]; done))) | (with_reducible first | refine A5 ?_ ?_ ?_ | exact AB | assumption | refine A2 ?_ | refine KM.of ?_ | refine AD ?_ | refine A3 ?_ | refine AI ?_ | refine A6 ?_ | refine AN ?_ | refine AJ ?_ | intro _g _hg | refine AC ?_ ?_ | intro _hc) | omega)
          refine Sw o2 bnd b e l eb ee cb ce (by omega) (by omega) (by omega) _ i x2 _ _ _ k t nm (Ci pa) (DE fs) (hS1 _ (by assumption)) (Nat.lt_succ_self _) (AY _ _ _) (hx8 _ (by assumption)) rfl rfl rfl rfl rfl _ ?_
          rw [hb3]
          intro en r n' H' e0 e1 e2 e7 hSr
          have hj2 := hJ2 en r n' H' e0 e1 e2 e7 hSr
          clear hS hS1 hJ2 hSr hJ
          
          repeat' (first | (simp -implicitDefEqProofs [Ch, Ca, Ce, Bo, BV, BQ, c24, -getElem?_pos, e0, e1, e2, e7]) | (simp (disch := omega) only [AE]) | (with_reducible first | refine A5 ?_ ?_ ?_ | exact AB | assumption | refine A2 ?_ | refine KM.of ?_ | refine AD ?_ | refine A3 ?_ | refine AI ?_ | refine A6 ?_ | refine AN ?_ | refine AJ ?_ | intro _g _hg | refine AC ?_ ?_ | intro _hc) | omega)
        · rw [if_pos ⟨k1, hm1, hm2⟩] at ho3
          rw [decide_eq_false hm2] at hh2
          
          repeat' (first | (simp -implicitDefEqProofs [c24, BQ, BV, -getElem?_pos, splice, hel, hx2, hi', hp0, hpl, k1, hlv]) | (simp (disch := omega) only [AE]) | ((with_reducible refine AH 25 ?_); refine ⟨_, _, hh2, AR hoS.sim (A0 _), ?_⟩) | ((with_reducible refine AH 36 ?_); (refine' CallP.sf ?_ (hj) ?_); (focus first | (with_reducible exact A0 _) | (simp [AA, A8, A1, A0]; done))) | ((with_reducible refine AH 25 ?_); (refine' CallP.sf ?_ (hh1) ?_); (focus first | (with_reducible exact A0 _) | (simp [AA, A8, A1, A0]; done))) | (with_reducible first | refine A5 ?_ ?_ ?_ | exact AB | assumption | refine A2 ?_ | refine KM.of ?_ | refine AD ?_ | refine A3 ?_ | refine AI ?_ | refine A6 ?_ | refine AN ?_ | refine AJ ?_ | intro _g _hg | refine AC ?_ ?_ | intro _hc) | omega)
          rename_i g8 hg8
          refine Stp.app ((hS1 g8 hg8).new _hg (Nat.lt_succ_self _) _) (by omega) fun x3 n4 H4 hS4 => ?_
          have hS5 := ((hS1 g8 hg8).new _hg (Nat.lt_succ_self _) (some (.row 9 1))).tr hS4
          have hne : g8 ≠ _g := by omega
          have hH4 : H4 g8 = some (.cells 55 [aI k, .str t, .str nm, Ci pa, DE fs, .sl 7 eb .ro, .sl 7 ee .ro]) := by
            rw [hS4.fr g8 (by omega) (hx8 g8 hg8), upd_ne hne, AY]
          have hx3 : Sg x3 ≠ some g8 := fun e => by
            rcases hS4.ow g8 e with h | h
            · omega
            · exact hx8 g8 hg8 h
          have hn4 := hS4.le
          rw [ho3] at hS5
          clear hS4
          repeat' (first | (simp -implicitDefEqProofs [c24, -getElem?_pos, splice]) | (simp (disch := omega) only [AE]) | (with_reducible first | refine A5 ?_ ?_ ?_ | exact AB | assumption | refine A2 ?_ | refine KM.of ?_ | refine AD ?_ | refine A3 ?_ | refine AI ?_ | refine A6 ?_ | refine AN ?_ | refine AJ ?_ | intro _g _hg | refine AC ?_ ?_ | intro _hc) | omega)
          refine Sw o3 bnd b e l eb ee cb ce (by omega) (by omega) (by omega) g8 i x3 _ _ _ k t nm (Ci pa) (DE fs) hS5 (by omega) hH4 hx3 rfl rfl rfl rfl rfl _ ?_
          rw [hb3]
          intro en r n' H' e0 e1 e2 e7 hSr
          have hj2 := hJ2 en r n' H' e0 e1 e2 e7 hSr
          clear hS hS1 hJ2 hSr hJ hS5
          
          repeat' (first | (simp -implicitDefEqProofs [Ch, Ca, Ce, Bo, BV, BQ, c24, -getElem?_pos, e0, e1, e2, e7]) | (simp (disch := omega) only [AE]) | (with_reducible first | refine A5 ?_ ?_ ?_ | exact AB | assumption | refine A2 ?_ | refine KM.of ?_ | refine AD ?_ | refine A3 ?_ | refine AI ?_ | refine A6 ?_ | refine AN ?_ | refine AJ ?_ | intro _g _hg | refine AC ?_ ?_ | intro _hc) | omega)
  · have hi0 : i = l.length := by omega
    subst hi0
    have hi' : ¬ (l.length : Int) < l.length := by omega
    rw [List.drop_length, D1] at hE
    subst hE
    clear hp hJ
    
    repeat' (first | (simp -implicitDefEqProofs [Ch, Ca, Ce, Bo, BV, BQ, c24, -getElem?_pos, hel, hi']) | (simp (disch := omega) only [AE]) | (with_reducible first | refine A5 ?_ ?_ ?_ | exact AB | assumption | refine A2 ?_ | refine KM.of ?_ | refine AD ?_ | refine A3 ?_ | refine AI ?_ | refine A6 ?_ | refine AN ?_ | refine AJ ?_ | intro _g _hg | refine AC ?_ ?_ | intro _hc) | omega)
    all_goals exact Hx (r := x2) rfl hS.le hS.su hS
theorem YQ (p : Pt) : Ia p → ST p → Ba p ≤ 1000000 → Hp p.b (AO p.b) ∧ Hp p.e (AO p.e) := by
  refine Pt.ind (Q := fun p => Ia p → ST p → Ba p ≤ 1000000 → Hp p.b (AO p.b) ∧ Hp p.e (AO p.e)) ?_ p
  intro k t nm pa fs b e hb he ho hpx hs
  simp only [Ia] at ho
  simp only [ST] at hpx
  obtain ⟨_, _, _, _, _, _, _, ob, oe⟩ := ho
  obtain ⟨_, pb, pe⟩ := hpx
  unfold Ba at hs
  have h1 := CB b
  have h2 := CB e
  exact ⟨P9 b (by omega) ob pb fun x hx => hb x hx (D5 ob hx) (Dn pb hx) (by have := Bm hx; omega), P9 e (by omega) oe pe fun x hx => he x hx (D5 oe hx) (Dn pe hx) (by have := Bm hx; omega)⟩
theorem Xj (l : List Pt) (ho : GM l) (hpx : LZ l) (hs : AU l ≤ 1000000) : Hp l (AO l) := P9 l (by have := CB l; omega) ho hpx fun x hx => YQ x (D5 ho hx) (Dn hpx hx) (by have := Bm hx; omega)
end Go.Proofs.YtnfjgphfaemjcaaGreatDoor

/- Templates: the reference's text of one, part by part; no condition. -/
import Derived.Test.YtnfjgphfaemjcaaGreatDoorMgH
import Derived.Test.YtnfjgphfaemjcaaGreatDoorMdP
import Derived.Test.YtnfjgphfaemjcaaGreatDoorMgI
import Derived.Test.YtnfjgphfaemjcaaGreatDoorMgF
import Derived.WalkKit
import Derived.Lib.Hide
import Derived.Lib.AppendZeros
import Derived.Lib.AppendZerosOnto
import Derived.Test.YtnfjgphfaemjcaaGreatDoorMdO
import Derived.Test.YtnfjgphfaemjcaaGreatDoorAdE
import Derived.Test.YtnfjgphfaemjcaaGreatDoorMgK
import Derived.Test.YtnfjgphfaemjcaaGreatDoorMdM
import Derived.Test.YtnfjgphfaemjcaaGreatDoorMdL
import Derived.ProofKit
import Derived.OpenShut
import Derived.LaidLaws
import Derived.Deep.DeepHandedRow
import Derived.Deep.DeepWitnessRowRef
import Derived.Lib.LaidTab
import Derived.Lib.LaidU8
import Derived.MakeChecks
import Derived.Lay
set_option linter.all false
set_option linter.unusedSimpArgs false
set_option linter.unusedVariables false
set_option maxHeartbeats 8000000
namespace Go.Proofs.YtnfjgphfaemjcaaGreatDoor
attribute [local simp] Iz E8 E9 JB Kv JT Jv EA E7 Ff GB Jc Ip JS Jt Iw Ho I0 IS KH Io JE Ix JH JF Pa pe Kd J9 Jz KY J7 Jy JU Ie JR Ju KJ Il JZ FJ Mm MP MS Mx Mj Nv Ny NZ Mr Mq Ml Nr MM No Mz NL NX Mv Mt NB NV FS N6 FG My Np Na Mp Ms Mo Mc Nn N7 Mb NJ MW MU Mf NP O4 Mu Nc Nm NQ NM N3 NC MV N0 FN O2 NE Nx NR Mw Ns O1 NO Nj Nb O0 Mh ND Nh Ma NY MQ MR NH Ku JA Ki Ke K9 Id KE Ii KT JG Ji Hf Jn List.mem_cons guardK DY EN EV Fh Me FE F9 FT FO FC F4 FY FL FW Mi NW F3 KG N4 NN MN NK NS F2 J0 Nk NF Ja KX Nq HM FB FR Fa FX Nz Nu F6 O3 F1 K0 FM FD JN F8 F7 N8 Mk N9 J8 Ng MT Jl Ko Qz IN IH GU IP ID II Dt Eu Ev KZ Ey Es Dv Db Su IF IY Ez IG Hu DT DK BX BK Bw DL Cd ev get put Dz AG DQ JC Ic Iy Jp IC J6 E5 part B0 GL KB Fg isNil Cs D3 DU D2 CW Ih Jb Jx KA Is Kr KP KQ JW KR KN Kl Jr JY JO K8 AV.fits AV.cells ones AV.one Dq Bt Dp DF Dy E3 Ir Ec Ek CY Bd Cx FZ Da AY B3 T8 Fm Ks JP List.getElem?_cons_zero List.getElem?_cons_succ FQ FH FU Kb JM Iq GI Jf JV KU Kn Kg KK Jh Ni JJ Je Jq KI Ij Jo It KL J1 K2 KV Kj Im K4 Jg JK Ka JI K6 Kh
theorem TN (fs : List (AP × Int)) (hf : ∀ f ∈ fs, f.1.length ≤ 24 ∧ 0 ≤ f.2 ∧ f.2 ≤ 200) (hfl : fs.length ≤ 8) (g n : Nat) (H : A4) (k : Int) (t nm : AP) (vp vb ve : AV) (hg : H g = some (.cells 55 [aI k, .str t, .str nm, vp, DE fs, vb, ve])) (acc : AP) (hacc : acc.length ≤ 950000000) (v0 v4 : AV) (Q : AExit → AS → Prop)
  (hQ : Q (.exit 4) ⟨[(0, v0), (3, .str (acc ++ fs.flatMap Lp)), (4, v4), (5, .ptr g 0), (8, aI fs.length), (76, .bool false)], n, H⟩) :
  LoopK (fun Q s => aw Tryz.prog c15_L9 Q s) Q ⟨[(0, v0), (3, .str acc), (4, v4), (5, .ptr g 0), (8, aI 0)], n, H⟩ := by
 
 refine LoopK.go (fun m st => ∃ (j : Nat), j + m = fs.length ∧ st = ⟨[(0, v0), (3, .str (acc ++ (fs.take j).flatMap Lp)), (4, v4), (5, .ptr g 0), (8, aI j)], n, H⟩) fs.length ⟨0, by omega, by simp⟩ ?_
 rintro m st ⟨j, hjm, rfl⟩ J hJ
 by_cases hj : j < fs.length
 ·obtain ⟨x, hx⟩ : ∃ x, fs[j]? = some x := ⟨_, List.getElem?_eq_getElem hj⟩
  have hx2 := PQ hx
  have hj' : (j : Int) < fs.length := by omega
  have htk := SE hx
  obtain ⟨f1, f2, f3⟩ := hf x (List.mem_of_getElem? hx)
  have hk3 := IJ x.1
  have hfk := SR x.1
  have hln := G7 (fs.take j) fun y hy => hf y (List.mem_of_mem_take hy)
  have hl8 : (fs.take j).length ≤ 8 := by simp; omega
  obtain ⟨a, b⟩ := x
  simp only at f1 f2 f3 hk3 htk hfk
  have hi := Ib b (by omega)
  have hil := MD (n := b) (by omega)
  have e0 : Lp (a, b) = 124 :: a ++ if Hy a = 2 then 32 :: Lib.itoa b else [] := rfl
  rw [e0] at htk
  clear e0
  have hfr : ((fs.take j).flatMap Lp).length ≤ 300 := by omega
  generalize (fs.take j).flatMap Lp = fl at *
  generalize Lib.itoa b = ib at *
  generalize Hy a = c at *
  have hcn : (acc ++ fl).length ≤ 950000300 := by simp; omega
  have e1 : acc ++ (fl ++ (124 :: a ++ if c = 2 then 32 :: ib else [])) = (acc ++ fl) ++ (124 :: a) ++ if c = 2 then 32 :: ib else [] := by simp
  generalize acc ++ fl = ac2 at *
  by_cases hc2 : c = 2
  ·subst hc2
   simp only [if_true] at htk e1
   repeat' (first | (simp -implicitDefEqProofs [B9, B8, BA, B5, BC, B4, BB, BD, B7, Ah, Ae, Af, Ai, Al, Am, Ak, Aj, Ag, c15, -getElem?_pos, hg, hx2, hj']) | (simp (disch := omega) only [AE]) | ((with_reducible refine AH 37 ?_); (refine' CallP.sf ?_ (hfk) ?_); (focus first | (with_reducible exact A0 _) | (simp [AA, A8, A1, A0]; done))) | ((with_reducible refine AH 38 ?_); (refine' CallP.sf ?_ (hi) ?_); (focus first | (with_reducible exact A0 _) | (simp [AA, A8, A1, A0]; done))) | (with_reducible first | refine A5 ?_ ?_ ?_ | exact AB | refine SameB.upd ?_ ?_ _ | assumption | refine A2 ?_ | refine KM.of ?_ | refine AD ?_ | refine A3 ?_ | refine A6 ?_ | intro _g _hg | refine AC ?_ ?_ | intro _hc) | omega)
   all_goals exact hJ (m - 1) _ (by omega) ⟨j + 1, by omega, by rw [htk, e1]; simp⟩
  ·simp only [if_neg hc2, List.append_nil] at htk e1
   have hc2' : ¬ ((c : Int) = 2) := by omega
   repeat' (first | (simp -implicitDefEqProofs [B9, B8, BA, B5, BC, B4, BB, BD, B7, Ah, Ae, Af, Ai, Al, Am, Ak, Aj, Ag, c15, -getElem?_pos, hg, hx2, hj', hc2, hc2']) | (simp (disch := omega) only [AE]) | ((with_reducible refine AH 37 ?_); (refine' CallP.sf ?_ (hfk) ?_); (focus first | (with_reducible exact A0 _) | (simp [AA, A8, A1, A0]; done))) | ((with_reducible refine AH 38 ?_); (refine' CallP.sf ?_ (hi) ?_); (focus first | (with_reducible exact A0 _) | (simp [AA, A8, A1, A0]; done))) | (with_reducible first | refine A5 ?_ ?_ ?_ | exact AB | refine SameB.upd ?_ ?_ _ | assumption | refine A2 ?_ | refine KM.of ?_ | refine AD ?_ | refine A3 ?_ | refine A6 ?_ | intro _g _hg | refine AC ?_ ?_ | intro _hc) | omega)
   all_goals exact hJ (m - 1) _ (by omega) ⟨j + 1, by omega, by rw [htk, e1]; simp⟩
 ·have hj0 : j = fs.length := by omega
  subst hj0
  have hj' : ¬ (fs.length : Int) < fs.length := by omega
  rw [List.take_length]
  repeat' (first | (simp -implicitDefEqProofs [B9, B8, BA, B5, BC, B4, BB, BD, B7, Ah, Ae, Af, Ai, Al, Am, Ak, Aj, Ag, c15, -getElem?_pos, hg, hj', hQ]) | (simp (disch := omega) only [AE]) | (with_reducible first | refine A5 ?_ ?_ ?_ | exact AB | refine SameB.upd ?_ ?_ _ | assumption | refine A2 ?_ | refine KM.of ?_ | refine AD ?_ | refine A3 ?_ | refine A6 ?_ | intro _g _hg | refine AC ?_ ?_ | intro _hc) | omega)
  all_goals exact hQ
structure PrC (x : Pt) (k : Int) (t nm : AP) (pa : List AP) (fs : List (AP × Int)) (eb ee : List AV) : Prop where
 q1 : t.length ≤ 1048576
 q3 : nm.length ≤ 24
 q4 : pa.length ≤ 8
 q5 : ∀ s ∈ pa, s.length ≤ 24
 q6 : fs.length ≤ 8
 q7 : ∀ f ∈ fs, f.1.length ≤ 24 ∧ 0 ≤ f.2 ∧ f.2 ≤ 200
 tb : APure Tryz.prog 15 [.sl 7 eb .ro] (.str (Cj x.b))
 te : APure Tryz.prog 15 [.sl 7 ee .ro] (.str (Cj x.e))
 le : ee.length = x.e.length
 lb : (Cj x.b).length ≤ 900000000
 le2 : (Cj x.e).length ≤ 900000000
set_option maxRecDepth 20000 in
theorem Wp (l : List Pt) (hl : l.length ≤ 2000000) (hlen : (Cj l).length ≤ 900000000) (hp : ∀ x ∈ l, ∃ k t nm pa fs eb ee b e, x = .mk k t nm pa fs b e ∧ ER x = .agg [aI k, .str t, .str nm, Ci pa, DE fs, .sl 7 eb .ro, .sl 7 ee .ro] ∧ PrC x k t nm pa fs eb ee) : APure Tryz.prog 15 [Cv l] (.str (Cj l)) := by
 have hel := BJ l
 obtain ⟨z, hz⟩ : ∃ z, Cj l = z := ⟨_, rfl⟩
 rw [hz]
 refine A9 Tryz.func15 ZP rfl fun n H hH => ?_
 repeat' (first | (simp -implicitDefEqProofs [c15, -getElem?_pos, hel]) | (simp (disch := omega) only [AE]) | (with_reducible first | refine A5 ?_ ?_ ?_ | exact AB | assumption | refine A2 ?_ | refine KM.of ?_ | refine AD ?_ | refine A3 ?_ | refine A6 ?_ | intro _g _hg | refine AC ?_ ?_ | intro _hc) | omega)
 refine LoopK.go (fun m st => ∃ (i n2 : Nat) (H2 : A4), i + m = l.length ∧ st = ⟨[(0, Cv l), (3, .str (Cj (l.take i))), (4, aI i)], n2, H2⟩ ∧ n ≤ n2 ∧ SameB n H H2 ∧ ∀ q, n2 ≤ q → H2 q = none) l.length ⟨0, _, _, by omega, rfl, Nat.le_refl _, SameB.rfl_ n H, hH⟩ ?_
 rintro m st ⟨i, n2, H2, him, rfl, hn2, hS, hsup⟩ J hJ
 by_cases hi : i < l.length
 ·obtain ⟨x, hx⟩ : ∃ x, l[i]? = some x := ⟨_, List.getElem?_eq_getElem hi⟩
  have hx2 := EL hx
  have hi' : (i : Int) < l.length := by omega
  have htk := Qw hx
  have hle1 := PB l i
  have hle2 := PB l (i + 1)
  rw [htk] at hle2
  obtain ⟨k, t, nm, pa, fs, eb, ee, b, e, rfl, hxe, C⟩ := hp x (List.mem_of_getElem? hx)
  rw [hxe] at hx2
  obtain ⟨q1, q3, q4, q5, q6, q7, tb, te, le, lb, le2⟩ := C
  have e0 : VX (.mk k t nm pa fs b e) = if k = 1 then DN t else if k = 2 then opS ++ GT pa ++ fs.flatMap Lp ++ ML else (if k = 3 then Wx ++ GT pa ++ ML else LB ++ nm ++ Vk ++ GT pa ++ ML) ++ Cj b ++ (if e = [] then [] else LA ++ Cj e) ++ LI := by rw [VX]
  rw [e0] at htk hle2
  have hj := St pa [46] (by omega) (by simp) (by have := HU q4 q5; unfold GT at this; omega) (fun s hs => by have := q5 s hs; omega)
  have hwl := HU q4 q5
  have hrl := Gl t
  change APure _ _ [Ci pa, .str [46]] (.str (GT pa)) at hj
  change APure _ _ _ (.str (Cj b)) at tb
  change APure _ _ _ (.str (Cj e)) at te
  change ee.length = e.length at le
  change (Cj b).length ≤ _ at lb
  change (Cj e).length ≤ _ at le2
  clear e0 hxe hx hp
  generalize Cj (l.take i) = ac at *
  generalize GT pa = wh at *
  generalize Cj b = xb at *
  generalize Cj e = xe at *
  have hac : ac.length ≤ 900000000 := by omega
  clear hle1
  have fin : ∀ n3 H3 g ac2, ac2 = Cj (l.take (i + 1)) → n2 ≤ g → g < n3 → H3 = upd (upd H2 g (some (.cells 55 [.int .i64 0, .str [], .str [], .sl 0 [] .nil, .sl 0 [] .nil, .sl 0 [] .nil, .sl 0 [] .nil]))) g (some (.cells 55 [aI k, .str t, .str nm, Ci pa, DE fs, .sl 7 eb .ro, .sl 7 ee .ro])) → J ⟨[(0, Cv l), (3, .str ac2), (4, aI ((i : Int) + 1))], n3, H3⟩ := by
   rintro n3 H3 g ac2 rfl h1 h2 rfl
   exact hJ (m - 1) _ (by omega) ⟨i + 1, n3, _, by omega, rfl, by omega, (hS.upd (by omega) _).upd (by omega) _, fun q hq => by rw [upd_ne (by omega), upd_ne (by omega)]; exact hsup q (by omega)⟩
  by_cases k1 : k = 1
  ·rw [if_pos k1] at htk hle2
   subst k1
   repeat' (first | (simp -implicitDefEqProofs [B9, B8, BA, B5, BC, B4, BB, BD, B7, Ah, Ae, Af, Ai, Al, Am, Ak, Aj, Ag, c15, -getElem?_pos, splice, hel, hx2, hi']) | (simp (disch := omega) only [AE]) | ((with_reducible refine AH 36 ?_); (refine' CallP.sf ?_ (hj) ?_); (focus first | (with_reducible exact A0 _) | (simp [AA, A8, A1, A0]; done))) | (with_reducible first | refine A5 ?_ ?_ ?_ | exact AB | assumption | refine A2 ?_ | refine KM.of ?_ | refine AD ?_ | refine A3 ?_ | refine A6 ?_ | intro _g _hg | refine AC ?_ ?_ | intro _hc) | omega)
   refine Uj _ _ 0 _ 1 t nm _ _ _ _ (AY _ _ _) q1 ac (by omega) _ _ _ ?_
   generalize DN t = rt at *
   repeat' (first | (simp -implicitDefEqProofs [B9, B8, BA, B5, BC, B4, BB, BD, B7, Ah, Ae, Af, Ai, Al, Am, Ak, Aj, Ag, c15, -getElem?_pos, splice, hel]) | (simp (disch := omega) only [AE]) | (with_reducible first | refine A5 ?_ ?_ ?_ | exact AB | assumption | refine A2 ?_ | refine KM.of ?_ | refine AD ?_ | refine A3 ?_ | refine A6 ?_ | intro _g _hg | refine AC ?_ ?_ | intro _hc) | omega)
   all_goals exact fin _ _ _ _ htk.symm (by assumption) (by omega) rfl
  ·rw [if_neg k1] at htk hle2
   by_cases k2 : k = 2
   ·rw [if_pos k2] at htk hle2
    subst k2
    repeat' (first | (simp -implicitDefEqProofs [B9, B8, BA, B5, BC, B4, BB, BD, B7, Ah, Ae, Af, Ai, Al, Am, Ak, Aj, Ag, c15, -getElem?_pos, splice, hel, hx2, hi']) | (simp (disch := omega) only [AE]) | ((with_reducible refine AH 36 ?_); (refine' CallP.sf ?_ (hj) ?_); (focus first | (with_reducible exact A0 _) | (simp [AA, A8, A1, A0]; done))) | (with_reducible first | refine A5 ?_ ?_ ?_ | exact AB | assumption | refine A2 ?_ | refine KM.of ?_ | refine AD ?_ | refine A3 ?_ | refine A6 ?_ | intro _g _hg | refine AC ?_ ?_ | intro _hc) | omega)
    refine TN fs q7 q6 _ _ _ 2 t nm _ _ _ (AY _ _ _) _ (by simp; omega) _ _ _ ?_
    have hfl := G7 fs q7
    have hfl2 : fs.length * 30 ≤ 240 := by omega
    have hfl3 : (fs.flatMap Lp).length ≤ 240 := by omega
    generalize fs.flatMap Lp = ft at *
    repeat' (first | (simp -implicitDefEqProofs [B9, B8, BA, B5, BC, B4, BB, BD, B7, Ah, Ae, Af, Ai, Al, Am, Ak, Aj, Ag, c15, -getElem?_pos, splice, hel]) | (simp (disch := omega) only [AE]) | (with_reducible first | refine A5 ?_ ?_ ?_ | exact AB | assumption | refine A2 ?_ | refine KM.of ?_ | refine AD ?_ | refine A3 ?_ | refine A6 ?_ | intro _g _hg | refine AC ?_ ?_ | intro _hc) | omega)
    all_goals exact fin _ _ _ _ (by rw [htk]; simp [opS, ML]) (by assumption) (by omega) rfl
   ·rw [if_neg k2] at htk hle2
    by_cases he0 : e = []
    ·have hee : ee = [] := by
      rw [he0] at le; exact List.length_eq_zero_iff.1 le
     rw [if_pos he0] at htk hle2
     subst hee
     by_cases k3 : k = 3
     ·rw [if_pos k3] at htk hle2
      subst k3
      repeat' (first | (simp -implicitDefEqProofs [B9, B8, BA, B5, BC, B4, BB, BD, B7, Ah, Ae, Af, Ai, Al, Am, Ak, Aj, Ag, c15, -getElem?_pos, splice, hel, hx2, hi']) | (simp (disch := omega) only [AE]) | ((with_reducible refine AH 36 ?_); (refine' CallP.sf ?_ (hj) ?_); (focus first | (with_reducible exact A0 _) | (simp [AA, A8, A1, A0]; done))) | ((with_reducible refine AH 15 ?_); (refine' CallP.sf ?_ (tb) ?_); (focus first | (with_reducible exact A0 _) | (simp [AA, A8, A1, A0]; done))) | (with_reducible first | refine A5 ?_ ?_ ?_ | exact AB | assumption | refine A2 ?_ | refine KM.of ?_ | refine AD ?_ | refine A3 ?_ | refine A6 ?_ | intro _g _hg | refine AC ?_ ?_ | intro _hc) | omega)
      all_goals exact fin _ _ _ _ (by rw [htk]; simp [Wx, ML, LI]) (by assumption) (by omega) rfl
     ·rw [if_neg k3] at htk hle2
      repeat' (first | (simp -implicitDefEqProofs [B9, B8, BA, B5, BC, B4, BB, BD, B7, Ah, Ae, Af, Ai, Al, Am, Ak, Aj, Ag, c15, -getElem?_pos, splice, hel, hx2, hi', k1, k2, k3]) | (simp (disch := omega) only [AE]) | ((with_reducible refine AH 36 ?_); (refine' CallP.sf ?_ (hj) ?_); (focus first | (with_reducible exact A0 _) | (simp [AA, A8, A1, A0]; done))) | ((with_reducible refine AH 15 ?_); (refine' CallP.sf ?_ (tb) ?_); (focus first | (with_reducible exact A0 _) | (simp [AA, A8, A1, A0]; done))) | (with_reducible first | refine A5 ?_ ?_ ?_ | exact AB | assumption | refine A2 ?_ | refine KM.of ?_ | refine AD ?_ | refine A3 ?_ | refine A6 ?_ | intro _g _hg | refine AC ?_ ?_ | intro _hc) | omega)
      all_goals exact fin _ _ _ _ (by rw [htk]; simp [LB, Vk, ML, LI]) (by assumption) (by omega) rfl
    ·have hel2 : (0 : Int) < ee.length := by
      have := List.length_pos_iff.2 he0
      omega
     have hel3 : ¬ ee = [] := by rintro rfl; simp at hel2
     rw [if_neg he0] at htk hle2
     by_cases k3 : k = 3
     ·rw [if_pos k3] at htk hle2
      subst k3
      repeat' (first | (simp -implicitDefEqProofs [B9, B8, BA, B5, BC, B4, BB, BD, B7, Ah, Ae, Af, Ai, Al, Am, Ak, Aj, Ag, c15, -getElem?_pos, splice, hel, hx2, hi', hel2, hel3]) | (simp (disch := omega) only [AE]) | ((with_reducible refine AH 36 ?_); (refine' CallP.sf ?_ (hj) ?_); (focus first | (with_reducible exact A0 _) | (simp [AA, A8, A1, A0]; done))) | ((with_reducible refine AH 15 ?_); (refine' CallP.sf ?_ (tb) ?_); (focus first | (with_reducible exact A0 _) | (simp [AA, A8, A1, A0]; done))) | ((with_reducible refine AH 15 ?_); (refine' CallP.sf ?_ (te) ?_); (focus first | (with_reducible exact A0 _) | (simp [AA, A8, A1, A0]; done))) | (with_reducible first | refine A5 ?_ ?_ ?_ | exact AB | assumption | refine A2 ?_ | refine KM.of ?_ | refine AD ?_ | refine A3 ?_ | refine A6 ?_ | intro _g _hg | refine AC ?_ ?_ | intro _hc) | omega)
      all_goals exact fin _ _ _ _ (by rw [htk]; simp [Wx, ML, LI, LA]) (by assumption) (by omega) rfl
     ·rw [if_neg k3] at htk hle2
      repeat' (first | (simp -implicitDefEqProofs [B9, B8, BA, B5, BC, B4, BB, BD, B7, Ah, Ae, Af, Ai, Al, Am, Ak, Aj, Ag, c15, -getElem?_pos, splice, hel, hx2, hi', k1, k2, k3, hel2, hel3]) | (simp (disch := omega) only [AE]) | ((with_reducible refine AH 36 ?_); (refine' CallP.sf ?_ (hj) ?_); (focus first | (with_reducible exact A0 _) | (simp [AA, A8, A1, A0]; done))) | ((with_reducible refine AH 15 ?_); (refine' CallP.sf ?_ (tb) ?_); (focus first | (with_reducible exact A0 _) | (simp [AA, A8, A1, A0]; done))) | ((with_reducible refine AH 15 ?_); (refine' CallP.sf ?_ (te) ?_); (focus first | (with_reducible exact A0 _) | (simp [AA, A8, A1, A0]; done))) | (with_reducible first | refine A5 ?_ ?_ ?_ | exact AB | assumption | refine A2 ?_ | refine KM.of ?_ | refine AD ?_ | refine A3 ?_ | refine A6 ?_ | intro _g _hg | refine AC ?_ ?_ | intro _hc) | omega)
      all_goals exact fin _ _ _ _ (by rw [htk]; simp [LB, Vk, ML, LI, LA]) (by assumption) (by omega) rfl
 ·have hi0 : i = l.length := by omega
  subst hi0
  have hi' : ¬ (l.length : Int) < l.length := by omega
  rw [List.take_length, hz]
  clear hp hJ
  repeat' (first | (simp -implicitDefEqProofs [B9, B8, BA, B5, BC, B4, BB, BD, B7, Ah, Ae, Af, Ai, Al, Am, Ak, Aj, Ag, c15, -getElem?_pos, hel, hi']) | (simp (disch := omega) only [AE]) | (with_reducible first | refine A5 ?_ ?_ ?_ | exact AB | assumption | refine A2 ?_ | refine KM.of ?_ | refine AD ?_ | refine A3 ?_ | refine A6 ?_ | intro _g _hg | refine AC ?_ ?_ | intro _hc) | omega)
  all_goals first | exact A1 _ | exact hn2 | exact hS
theorem LR {l : List Pt} (ho : GM l) (hs : AU l ≤ 200) (hp : ∀ x ∈ l, Ia x → Ba x ≤ 201 → APure Tryz.prog 15 [.sl 7 (AO x.b) .ro] (.str (Cj x.b)) ∧ APure Tryz.prog 15 [.sl 7 (AO x.e) .ro] (.str (Cj x.e))) : APure Tryz.prog 15 [Cv l] (.str (Cj l)) := by
 have hlen := CB l
 have htl := Ew l ho
 refine Wp l (by omega) (by omega) fun x hx => ?_
 have hox := D5 ho hx
 have hsx := Bm hx
 obtain ⟨hb, he⟩ := hp x hx hox (by omega)
 obtain ⟨k, t, nm, pa, fs, b, e⟩ := x
 have ho' := hox
 simp only [Ia] at ho'
 obtain ⟨h1, h2, h3, h4, h5, h6, h7, h8, h9⟩ := ho'
 unfold Ba at hsx
 have lb := Ew b h8
 have le := Ew e h9
 exact ⟨k, t, nm, pa, fs, AO b, AO e, b, e, rfl, Bv _ _ _ _ _ _ _, h1, h3, h4, h5, h6, h7, hb, he, BJ e, by show (Cj b).length ≤ _; omega, by show (Cj e).length ≤ _; omega⟩
theorem Wj (p : Pt) : Ia p → Ba p ≤ 201 → APure Tryz.prog 15 [.sl 7 (AO p.b) .ro] (.str (Cj p.b)) ∧ APure Tryz.prog 15 [.sl 7 (AO p.e) .ro] (.str (Cj p.e)) := by
 refine Pt.ind (Q := fun p => Ia p → Ba p ≤ 201 → APure Tryz.prog 15 [.sl 7 (AO p.b) .ro] (.str (Cj p.b)) ∧ APure Tryz.prog 15 [.sl 7 (AO p.e) .ro] (.str (Cj p.e))) ?_ p
 intro k t nm pa fs b e hb he ho hs
 simp only [Ia] at ho
 obtain ⟨_, _, _, _, _, _, _, ob, oe⟩ := ho
 unfold Ba at hs
 exact ⟨LR (l := b) ob (by omega) hb, LR (l := e) oe (by omega) he⟩
theorem Wl (l : List Pt) (ho : GM l) (hs : AU l ≤ 200) : APure Tryz.prog 15 [Cv l] (.str (Cj l)) := LR ho hs fun x _ hx hs => Wj x hx hs
theorem Xa (l : List Pt) (hl : l.length ≤ 2000000) (hs : F5 l) : APure Tryz.prog 12 [Cv l] (aF (GR l)) := by
 have hp : APure Tryz.prog 32 [Cv l, aI 0, aI 0] (.tup [aI ((B6 0 0 0 l).1 : Nat), aI (B6 0 0 0 l).2]) := Zh l hl hs 0 0 (by omega) (by omega)
 have e0 : GR l = if (B6 0 0 0 l).2 ≠ 0 then ((B6 0 0 0 l).2, ((B6 0 0 0 l).1 : Int)) else if 4000 < (Cj l).length then (14, -1) else (0, 0) := rfl
 by_cases h0 : (B6 0 0 0 l).2 = 0
 ·have htx := Wl l (KD l 0 0 0 hs h0) (by have := Eb l 0 0 0 (by omega) h0; omega)
  rw [if_neg (by simpa using h0)] at e0
  rw [e0]
  clear e0
  rw [h0] at hp
  generalize (B6 0 0 0 l).1 = x1 at *
  generalize Cj l = tl at *
  by_cases h4 : 4000 < tl.length
  ·rw [if_pos h4]
   have h4' : (4000 : Int) < tl.length := by omega
   have ha := XR 14 (-1)
   refine A9 Tryz.func12 UO rfl fun n H hH => ?_
   repeat' (first | (simp -implicitDefEqProofs [Km, J5, c12, -getElem?_pos, splice, h4']) | (simp (disch := omega) only [AE]) | ((with_reducible refine AH 32 ?_); (refine' CallP.sf ?_ (hp) ?_); (focus first | (with_reducible exact A0 _) | (simp [AA, A8, A1, A0]; done))) | ((with_reducible refine AH 15 ?_); (refine' CallP.sf ?_ (htx) ?_); (focus first | (with_reducible exact A0 _) | (simp [AA, A8, A1, A0]; done))) | ((with_reducible refine AH 27 ?_); (refine' CallP.sf ?_ (ha) ?_); (focus first | (with_reducible exact A0 _) | (simp [AA, A8, A1, A0]; done))) | (with_reducible first | refine A5 ?_ ?_ ?_ | exact AB | refine SameB.upd ?_ ?_ _ | assumption | refine A2 ?_ | refine KM.of ?_ | refine AD ?_ | refine A3 ?_ | refine A6 ?_ | intro _g _hg | refine AC ?_ ?_ | intro _hc) | omega)
   all_goals exact A1 _
  ·rw [if_neg h4]
   have h4' : ¬ (4000 : Int) < tl.length := by omega
   have ha := XR 0 0
   refine A9 Tryz.func12 UO rfl fun n H hH => ?_
   repeat' (first | (simp -implicitDefEqProofs [Km, J5, c12, -getElem?_pos, splice, h4']) | (simp (disch := omega) only [AE]) | ((with_reducible refine AH 32 ?_); (refine' CallP.sf ?_ (hp) ?_); (focus first | (with_reducible exact A0 _) | (simp [AA, A8, A1, A0]; done))) | ((with_reducible refine AH 15 ?_); (refine' CallP.sf ?_ (htx) ?_); (focus first | (with_reducible exact A0 _) | (simp [AA, A8, A1, A0]; done))) | ((with_reducible refine AH 27 ?_); (refine' CallP.sf ?_ (ha) ?_); (focus first | (with_reducible exact A0 _) | (simp [AA, A8, A1, A0]; done))) | (with_reducible first | refine A5 ?_ ?_ ?_ | exact AB | refine SameB.upd ?_ ?_ _ | assumption | refine A2 ?_ | refine KM.of ?_ | refine AD ?_ | refine A3 ?_ | refine A6 ?_ | intro _g _hg | refine AC ?_ ?_ | intro _hc) | omega)
   all_goals exact A1 _
 ·rw [if_pos h0] at e0
  rw [e0]
  clear e0
  generalize (B6 0 0 0 l).1 = x1 at *
  generalize (B6 0 0 0 l).2 = x2 at *
  have ha := XR x2 x1
  refine A9 Tryz.func12 UO rfl fun n H hH => ?_
  repeat' (first | (simp -implicitDefEqProofs [Km, J5, c12, -getElem?_pos, splice, h0]) | (simp (disch := omega) only [AE]) | ((with_reducible refine AH 32 ?_); (refine' CallP.sf ?_ (hp) ?_); (focus first | (with_reducible exact A0 _) | (simp [AA, A8, A1, A0]; done))) | ((with_reducible refine AH 27 ?_); (refine' CallP.sf ?_ (ha) ?_); (focus first | (with_reducible exact A0 _) | (simp [AA, A8, A1, A0]; done))) | (with_reducible first | refine A5 ?_ ?_ ?_ | exact AB | refine SameB.upd ?_ ?_ _ | assumption | refine A2 ?_ | refine KM.of ?_ | refine AD ?_ | refine A3 ?_ | refine A6 ?_ | intro _g _hg | refine AC ?_ ?_ | intro _hc) | omega)
  all_goals exact A1 _
open Go.RowKit
theorem VP : ∃ i z, Tryz.prog.info? 55 = some i ∧ i.zero = some z ∧ z.cells.size = 7 ∧ i.size = 7 ∧ i.bytes = 136 := by
 have h : ((Tryz.prog.info? 55).bind fun i => i.zero.map fun z => (z.cells.size, i.size, i.bytes)) = some (7, 7, 136) := by kernel_rfl
 cases hi : Tryz.prog.info? 55 with
 | none => rw [hi] at h; cases h
 | some i =>
  rw [hi] at h
  simp only [Option.bind_some] at h
  cases hz : i.zero with
  | none => rw [hz] at h; cases h
  | some z =>
   rw [hz] at h
   simp only [Option.map_some, Option.some.injEq, Prod.mk.injEq] at h
   exact ⟨i, z, rfl, hz, h⟩
set_option maxRecDepth 100000 in
theorem XU (k : Nat) (w : World) (h0 : 0 < k) (hm : k ≤ 4000000) : ∃ (cs : Array Value) (cp : Nat), k ≤ cp ∧ cp ≤ maxLen ∧ cs.size = cp * 7 ∧
  Calls Tryz.prog 162 #[.slice none 0 0, .int .i64 k] w fun e w' => e = .returned (.slice (some ⟨w.heap.size, 0, none⟩) 0 cp) ∧ w' = w.drew.alloc (.cells cs 55) := by
 obtain ⟨i0, zv, hi, hz0, hzc, hz1, hz2⟩ := VP
 have hrun := fun (w : World) (ty : TypeId) => Lib.run_append_grow_zeros (P := Tryz.prog) w 22 3 ty 55 i0 _ .i64 .i64 Tryz.underlying22 Tryz.underlying3 hi hz0 none 0 0 [] (by exact run_firstCells_none w.drew i0.size 0 0 0) k (by omega) (by omega) (by omega) (by omega) (by rw [hz2]; omega) (by rw [hz2]; exact growslice_fits (by omega) (by omega))
 have hge := grownCap_ge w (0 + k) 0 55
 have hle := grownCap_le_maxLen w (0 + k) 0 55 (by simp only [maxLen]; omega)
 obtain ⟨cp, hcp⟩ : ∃ cp, cp = grownCap w (0 + k) 0 55 := ⟨_, rfl⟩
 have hrun' := fun ty => hrun w ty
 rw [← hcp] at hge hle
 simp only [← hcp] at hrun'
 simp only [Nat.zero_add] at hge hle hrun'
 obtain ⟨cs, hcs⟩ : ∃ cs : Array Value, cs = #[] ++ Builtin.zeroCells zv.cells k ++ Builtin.zeroCells zv.cells (cp - k) := ⟨_, rfl⟩
 simp only [← hcs] at hrun'
 have hsz : cs.size = cp * 7 := by
  rw [hcs]; simp [size_zeroCells, hzc]; omega
 refine ⟨cs, cp, hge, hle, hsz, ?_⟩
 clear hrun hcs hsz hge hle hcp
 have hn1 : ¬ ((k : Int) < 0) := by omega
 have hn2 : (0 : Int) < (k : Int) := by omega
 have b1 : 0 ≤ cp := Nat.zero_le _
 have HRun := Lib.hid hrun'
 clear hrun'
 go_enter Tryz.func162, Tryz.ntmps162
 go_wp2_with (at_builtin; refine Lib.wpList_append_run _ rfl _ _ 22 3 rfl _ _ rfl rfl _ _ (HRun.out _) ?_)
 go_ret
 exact ⟨rfl, rfl⟩
theorem XW (n : Nat) (H : A4) : ACalls Tryz.prog 162 [.sl 0 [] .nil, .int .i64 0] n H fun r n' H' => r = .sl 0 [] .nil ∧ n' = n ∧ H' = H := by
 intro hs w0 G w vs hl hr0 hrep
 cases hrep with | cons h1 h2 =>
 cases h2 with | cons h2 h3 =>
 cases h3
 cases h1
 cases h2
 have key : Calls Tryz.prog 162 #[.slice none 0 0, .int .i64 0] w fun e w' => e = .returned (.slice none 0 0) ∧ w' = w := by
  go_enter Tryz.func162, Tryz.ntmps162
  go_wp2
  go_ret
  exact ⟨rfl, rfl⟩
 refine key.mono ?_
 rintro e w' ⟨rfl, rfl⟩
 exact ⟨_, _, G, n, H, rfl, ⟨rfl, rfl, rfl⟩, .slnil, Gh.Le.rfl_ _, Nat.le_refl _, hr0⟩
theorem XN (k : Nat) (h0 : 0 < k) (hm : k ≤ 4000000) (n : Nat) (H : A4) : ACalls Tryz.prog 162 [.sl 0 [] .nil, .int .i64 k] n H fun r n' H' => ∃ g, n ≤ g ∧ r = .sl 7 [] (.own g) ∧ n' = g + 1 ∧ H' = upd H g (some (.row 55 0)) := by
 intro hs w0 G w vs hl hr0 hrep
 cases hrep with | cons h1 h2 =>
 cases h2 with | cons h2 h3 =>
 cases h3
 cases h1
 cases h2
 obtain ⟨cs, cp, c1, c2, c3, hc⟩ := XU k w h0 hm
 refine hc.mono ?_
 rintro e w' ⟨rfl, rfl⟩
 have hsz7 : BF Tryz.prog 55 = 7 := by
  obtain ⟨i0, zv, hi, hz0, hzc, hz1, hz2⟩ := VP
  simp [BF, hi, hz1]
 have hrel := (hr0.same (w' := w.drew) rfl rfl rfl rfl).newRow (w' := w.drew.alloc (.cells cs 55)) (cur := cs) (e := 55) (fz := (0, 0)) (vs := []) (c := some (55, cp)) (ob := some (.row 55 0)) rfl rfl rfl rfl
  (fun j u hu => by cases hu) (fun e' c' hc => by injection hc with hc; injection hc with a b; subst a; subst b; exact ⟨rfl, by rw [hsz7]; exact c3⟩)
  (.inr ⟨0, _, rfl, rfl, by simp, Nat.zero_le _, c2, by simp⟩)
 have hle := (hr0.same (w' := w.drew) rfl rfl rfl rfl).addLe [] (some (55, cp))
 refine ⟨_, .sl 7 [] (.own w.heap.size), _, w.heap.size + 1, _, rfl, ⟨w.heap.size, hr0.hi, rfl, rfl, rfl⟩, ?_, hle, by have := hr0.hi; omega, hrel⟩
 exact .slown (e := 55) .nil (Gh.add_sealed _ _ _) ⟨by simp, c2, by omega, by simp, by simp [AQ]⟩ rfl (by simp [Gh.add])
theorem Un (eb ee : List AV) (hb : eb.length ≤ 1000000) (he : ee.length ≤ 1000000) (h0 : 0 < eb.length + ee.length) : APure Tryz.prog 123 [.sl 1 [.sl 7 eb .ro, .sl 7 ee .ro] .ro] (.sl 7 (eb ++ ee) .ro) := by
 have hgr := XN (eb.length + ee.length) h0 (by omega)
 have hcast : ((eb.length + ee.length : Nat) : Int) = (eb.length : Int) + ee.length := by omega
 rw [hcast] at hgr
 have h1 : ¬ ((0 : Int) + eb.length < 0) := by omega
 have h2 : ¬ ((eb.length : Int) + ee.length < 0) := by omega
 have h3 : ¬ ((eb.length : Int) < 0) := by omega
 refine A9 Tryz.func123 Uz rfl fun n H hH => ?_
 repeat' (first | (simp -implicitDefEqProofs [c123, -getElem?_pos]) | (simp (disch := omega) only [AE]) | (with_reducible first | refine A5 ?_ ?_ ?_ | exact AB | assumption | refine A2 ?_ | refine KM.of ?_ | refine AD ?_ | intro _g _hg | refine AC ?_ ?_ | intro _hc) | omega)
 refine LoopK.round ?_
 repeat' (first | (simp -implicitDefEqProofs [Ar, Aw, Av, Ay, As, Au, Ax, Aq, c123, -getElem?_pos, h1, h2, h3]) | (simp (disch := omega) only [AE]) | (with_reducible first | refine A5 ?_ ?_ ?_ | exact AB | assumption | refine A2 ?_ | refine KM.of ?_ | refine AD ?_ | intro _g _hg | refine AC ?_ ?_ | intro _hc) | omega)
 refine LoopK.round ?_
 repeat' (first | (simp -implicitDefEqProofs [Ar, Aw, Av, Ay, As, Au, Ax, Aq, c123, -getElem?_pos, h1, h2, h3]) | (simp (disch := omega) only [AE]) | (with_reducible first | refine A5 ?_ ?_ ?_ | exact AB | assumption | refine A2 ?_ | refine KM.of ?_ | refine AD ?_ | intro _g _hg | refine AC ?_ ?_ | intro _hc) | omega)
 refine LoopK.round ?_
 repeat' (first | (simp -implicitDefEqProofs [Ar, Aw, Av, Ay, As, Au, Ax, Aq, c123, -getElem?_pos, h1, h2, h3]) | (simp (disch := omega) only [AE]) | ((with_reducible refine Br 162 ?_); refine ⟨_, hgr _ _, ?_⟩; rintro r n' H' hn hs ⟨gg, hg, rfl, rfl, rfl⟩) | (with_reducible first | refine A5 ?_ ?_ ?_ | exact AB | assumption | refine A2 ?_ | refine KM.of ?_ | refine AD ?_ | intro _g _hg | refine AC ?_ ?_ | intro _hc) | omega)
 refine LoopK.round ?_
 repeat' (first | (simp -implicitDefEqProofs [Ar, Aw, Av, Ay, As, Au, Ax, Aq, c123, -getElem?_pos, h1, h2, h3]) | (simp (disch := omega) only [AE]) | (with_reducible first | refine A5 ?_ ?_ ?_ | exact AB | assumption | refine A2 ?_ | refine KM.of ?_ | refine AD ?_ | intro _g _hg | refine AC ?_ ?_ | intro _hc) | omega)
 refine ⟨.inl rfl, eb, A0 _, by simp only [List.length_nil]; omega, by simp only [List.length_nil, maxLen]; omega, rfl, AY _ _ _, fun g1 n1 q1 q2 q3 => ?_⟩
 simp only [List.nil_append, List.length_nil, Nat.zero_add]
 repeat' (first | (simp -implicitDefEqProofs [Ar, Aw, Av, Ay, As, Au, Ax, Aq, c123, -getElem?_pos, h1, h2, h3]) | (simp (disch := omega) only [AE]) | (with_reducible first | refine A5 ?_ ?_ ?_ | exact AB | assumption | refine A2 ?_ | refine KM.of ?_ | refine AD ?_ | intro _g _hg | refine AC ?_ ?_ | intro _hc) | omega)
 refine LoopK.round ?_
 repeat' (first | (simp -implicitDefEqProofs [Ar, Aw, Av, Ay, As, Au, Ax, Aq, c123, -getElem?_pos, h1, h2, h3]) | (simp (disch := omega) only [AE]) | (with_reducible first | refine A5 ?_ ?_ ?_ | exact AB | assumption | refine A2 ?_ | refine KM.of ?_ | refine AD ?_ | intro _g _hg | refine AC ?_ ?_ | intro _hc) | omega)
 refine ⟨.inl rfl, ee, A0 _, by omega, by simp only [maxLen]; omega, rfl, AY _ _ _, fun g2 n2 q4 q5 q6 => ?_⟩
 repeat' (first | (simp -implicitDefEqProofs [Ar, Aw, Av, Ay, As, Au, Ax, Aq, c123, -getElem?_pos, h1, h2, h3]) | (simp (disch := omega) only [AE]) | (with_reducible first | refine A5 ?_ ?_ ?_ | exact AB | assumption | refine A2 ?_ | refine KM.of ?_ | refine AD ?_ | intro _g _hg | refine AC ?_ ?_ | intro _hc) | omega)
 refine LoopK.round ?_
 repeat' (first | (simp -implicitDefEqProofs [Ar, Aw, Av, Ay, As, Au, Ax, Aq, c123, -getElem?_pos, h1, h2, h3]) | (simp (disch := omega) only [AE]) | (with_reducible first | refine A5 ?_ ?_ ?_ | exact AB | assumption | refine A2 ?_ | refine KM.of ?_ | refine AD ?_ | intro _g _hg | refine AC ?_ ?_ | intro _hc) | omega)
 all_goals simp only at hg q1 q2 q4 q5
 ·exact ⟨7, _, _, rfl, .inl rfl, .inl rfl, A0 _⟩
 ·omega
 ·intro q hq
  simp (disch := omega) only [upd_ne]
theorem UY : APure Tryz.prog 123 [.sl 1 [.sl 7 [] .ro, .sl 7 [] .ro] .ro] (.sl 0 [] .ro) := by
 refine A9 Tryz.func123 Uz rfl fun n H hH => ?_
 repeat' (first | (simp -implicitDefEqProofs [c123, -getElem?_pos]) | (simp (disch := omega) only [AE]) | (with_reducible first | refine A5 ?_ ?_ ?_ | exact AB | assumption | refine A2 ?_ | refine KM.of ?_ | refine AD ?_ | intro _g _hg | refine AC ?_ ?_ | intro _hc) | omega)
 refine LoopK.round ?_
 repeat' (first | (simp -implicitDefEqProofs [Ar, Aw, Av, Ay, As, Au, Ax, Aq, c123, -getElem?_pos]) | (simp (disch := omega) only [AE]) | (with_reducible first | refine A5 ?_ ?_ ?_ | exact AB | assumption | refine A2 ?_ | refine KM.of ?_ | refine AD ?_ | intro _g _hg | refine AC ?_ ?_ | intro _hc) | omega)
 refine LoopK.round ?_
 repeat' (first | (simp -implicitDefEqProofs [Ar, Aw, Av, Ay, As, Au, Ax, Aq, c123, -getElem?_pos]) | (simp (disch := omega) only [AE]) | (with_reducible first | refine A5 ?_ ?_ ?_ | exact AB | assumption | refine A2 ?_ | refine KM.of ?_ | refine AD ?_ | intro _g _hg | refine AC ?_ ?_ | intro _hc) | omega)
 refine LoopK.round ?_
 repeat' (first | (simp -implicitDefEqProofs [Ar, Aw, Av, Ay, As, Au, Ax, Aq, c123, -getElem?_pos]) | (simp (disch := omega) only [AE]) | ((with_reducible refine Br 162 ?_); refine ⟨_, XW _ _, ?_⟩; rintro r n' H' hn hs ⟨rfl, rfl, rfl⟩) | (with_reducible first | refine A5 ?_ ?_ ?_ | exact AB | assumption | refine A2 ?_ | refine KM.of ?_ | refine AD ?_ | intro _g _hg | refine AC ?_ ?_ | intro _hc) | omega)
 refine LoopK.round ?_
 repeat' (first | (simp -implicitDefEqProofs [Ar, Aw, Av, Ay, As, Au, Ax, Aq, c123, -getElem?_pos]) | (simp (disch := omega) only [AE]) | (with_reducible first | refine A5 ?_ ?_ ?_ | exact AB | assumption | refine A2 ?_ | refine KM.of ?_ | refine AD ?_ | intro _g _hg | refine AC ?_ ?_ | intro _hc) | omega)
 refine ⟨.inr rfl, [], rfl, by simp, by simp [maxLen], fun _ => ?_, fun h => (h rfl).elim⟩
 repeat' (first | (simp -implicitDefEqProofs [Ar, Aw, Av, Ay, As, Au, Ax, Aq, c123, -getElem?_pos]) | (simp (disch := omega) only [AE]) | (with_reducible first | refine A5 ?_ ?_ ?_ | exact AB | assumption | refine A2 ?_ | refine KM.of ?_ | refine AD ?_ | intro _g _hg | refine AC ?_ ?_ | intro _hc) | omega)
 refine LoopK.round ?_
 repeat' (first | (simp -implicitDefEqProofs [Ar, Aw, Av, Ay, As, Au, Ax, Aq, c123, -getElem?_pos]) | (simp (disch := omega) only [AE]) | (with_reducible first | refine A5 ?_ ?_ ?_ | exact AB | assumption | refine A2 ?_ | refine KM.of ?_ | refine AD ?_ | intro _g _hg | refine AC ?_ ?_ | intro _hc) | omega)
 refine ⟨.inr rfl, [], rfl, by simp, by simp [maxLen], fun _ => ?_, fun h => (h rfl).elim⟩
 repeat' (first | (simp -implicitDefEqProofs [Ar, Aw, Av, Ay, As, Au, Ax, Aq, c123, -getElem?_pos]) | (simp (disch := omega) only [AE]) | (with_reducible first | refine A5 ?_ ?_ ?_ | exact AB | assumption | refine A2 ?_ | refine KM.of ?_ | refine AD ?_ | intro _g _hg | refine AC ?_ ?_ | intro _hc) | omega)
 refine LoopK.round ?_
 repeat' (first | (simp -implicitDefEqProofs [Ar, Aw, Av, Ay, As, Au, Ax, Aq, c123, -getElem?_pos]) | (simp (disch := omega) only [AE]) | (with_reducible first | refine A5 ?_ ?_ ?_ | exact AB | assumption | refine A2 ?_ | refine KM.of ?_ | refine AD ?_ | intro _g _hg | refine AC ?_ ?_ | intro _hc) | omega)
 all_goals exact ⟨0, _, _, rfl, .inl rfl, .inr ⟨rfl, rfl⟩, rfl⟩
theorem Pd (x y : AV) (t : Tok) : AA [.sl 1 [x, y] t] [.sl 1 [x, y] .ro] := ⟨_, _, rfl, ⟨1, _, _, rfl, .inl rfl, .inl rfl, A0 _⟩, rfl⟩
def TC (x : Pt) : Prop := APure Tryz.prog 80 [ER x] (aI (Ba x))
theorem Rk {l : List Pt} {i : Nat} {x : Pt} (h : l[i]? = some x) : AU (l.take (i + 1)) = AU (l.take i) + Ba x := by
 rw [List.take_add_one, h, Fq]
 simp [AU]
theorem VT (k : Int) (t nm : AP) (pa : List AP) (fs : List (AP × Int)) (b e : List Pt) (hs : AU b + AU e ≤ 1000000) (hp : ∀ x ∈ b ++ e, TC x) : TC (.mk k t nm pa fs b e) := by
 have hb := CB b
 have he := CB e
 unfold TC
 rw [Bv]
 have hlb := BJ b
 have hle := BJ e
 by_cases h0 : 0 < b.length + e.length
 ·have hc := Un (AO b) (AO e) (by omega) (by omega) (by omega)
  rw [← T2] at hc
  have hsz : Ba (.mk k t nm pa fs b e) = 1 + AU (b ++ e) := by rw [Fq]; unfold Ba; omega
  rw [hsz]
  have hsm : AU (b ++ e) ≤ 1000000 := by rw [Fq]; omega
  generalize b ++ e = l at *
  have hel := BJ l
  generalize AO b = eb at *
  generalize AO e = ee at *
  have hll := CB l
  clear hsz hlb hle hb he h0 hs
  refine A9 Tryz.func80 XB rfl fun n H hH => ?_
  repeat' (first | (simp -implicitDefEqProofs [c80, -getElem?_pos, hel]) | (simp (disch := omega) only [AE]) | ((with_reducible refine AH 123 ?_); refine ⟨_, _, hc, Pd _ _ _, ?_⟩) | (with_reducible first | refine A5 ?_ ?_ ?_ | exact AB | assumption | refine A2 ?_ | refine KM.of ?_ | refine AD ?_ | refine A3 ?_ | refine AI ?_ | refine A6 ?_ | refine AN ?_ | refine AJ ?_ | intro _g _hg | refine AC ?_ ?_ | intro _hc) | omega)
  refine LoopK.go (fun m st => ∃ (i n2 : Nat) (H2 : A4), i + m = l.length ∧ st = ⟨[(3, aI ((1 + AU (l.take i) : Nat))), (11, .sl 7 (AO l) .ro), (12, aI l.length), (13, aI i)], n2, H2⟩ ∧ n ≤ n2 ∧ SameB n H H2 ∧ ∀ q, n2 ≤ q → H2 q = none) l.length ⟨0, _, _, by omega, by simp [AU]; exact ⟨rfl, rfl⟩, ?_, ?_, ?_⟩ ?_
  ·omega
  ·intro q hq
   simp (disch := omega) only [upd_ne]
  ·intro q hq
   simp (disch := omega) only [upd_ne]
   exact hH q (by omega)
  rintro m st ⟨i, n2, H2, him, rfl, hn2, hS, hsup⟩ J hJ
  by_cases hi : i < l.length
  ·obtain ⟨x, hx⟩ : ∃ x, l[i]? = some x := ⟨_, List.getElem?_eq_getElem hi⟩
   have hx2 := EL hx
   have hi' : (i : Int) < l.length := by omega
   have htk := Rk hx
   have hpx := hp x (List.mem_of_getElem? hx)
   have hle1 : AU (l.take (i + 1)) ≤ AU l := by
    conv => rhs; rw [← List.take_append_drop (i + 1) l, Fq]
    omega
   obtain ⟨k, t, nm, pa, fs, b, e⟩ := x
   unfold TC at hpx
   rw [Bv] at hx2 hpx
   generalize Ba (.mk k t nm pa fs b e) = sx at *
   have hsum : ((1 + AU (l.take (i + 1)) : Nat) : Int) = ((1 + AU (l.take i) : Nat) : Int) + sx := by omega
   generalize AO b = eb at *
   generalize AO e = ee at *
   clear hp
   repeat' (first | (simp -implicitDefEqProofs [Kc, Iv, JX, J3, c80, -getElem?_pos, splice, hel, hx2, hi']) | (simp (disch := omega) only [AE]) | ((with_reducible refine AH 80 ?_); (refine' CallP.sf ?_ (hpx) ?_); (focus first | (with_reducible exact A0 _) | (simp [AA, A8, A1, A0]; done))) | (with_reducible first | refine A5 ?_ ?_ ?_ | exact AB | assumption | refine A2 ?_ | refine KM.of ?_ | refine AD ?_ | refine A3 ?_ | refine AI ?_ | refine A6 ?_ | refine AN ?_ | refine AJ ?_ | intro _g _hg | refine AC ?_ ?_ | intro _hc) | omega)
   all_goals exact hJ (m - 1) _ (by omega) ⟨i + 1, _, _, by omega, by rw [hsum]; rfl, by omega, (hS.upd (by omega) _).upd (by omega) _, fun q hq => by rw [upd_ne (by omega), upd_ne (by omega)]; exact hsup q (by omega)⟩
  ·have hi0 : i = l.length := by omega
   subst hi0
   have hi' : ¬ (l.length : Int) < l.length := by omega
   rw [List.take_length]
   clear hp hJ
   repeat' (first | (simp -implicitDefEqProofs [Kc, Iv, JX, J3, c80, -getElem?_pos, hel, hi']) | (simp (disch := omega) only [AE]) | (with_reducible first | refine A5 ?_ ?_ ?_ | exact AB | assumption | refine A2 ?_ | refine KM.of ?_ | refine AD ?_ | refine A3 ?_ | refine AI ?_ | refine A6 ?_ | refine AN ?_ | refine AJ ?_ | intro _g _hg | refine AC ?_ ?_ | intro _hc) | omega)
   all_goals first | exact A1 _ | exact hn2 | exact hS
 ·have hb0 : b = [] := List.length_eq_zero_iff.1 (by omega)
  have he0 : e = [] := List.length_eq_zero_iff.1 (by omega)
  subst hb0; subst he0
  have hsz : Ba (.mk k t nm pa fs [] []) = 1 := by unfold Ba; simp [AU]
  rw [hsz]
  have hc := UY
  have e0 : AO [] = [] := by rw [AO]
  rw [e0]
  refine A9 Tryz.func80 XB rfl fun n H hH => ?_
  repeat' (first | (simp -implicitDefEqProofs [c80, -getElem?_pos]) | (simp (disch := omega) only [AE]) | ((with_reducible refine AH 123 ?_); refine ⟨_, _, hc, Pd _ _ _, ?_⟩) | (with_reducible first | refine A5 ?_ ?_ ?_ | exact AB | assumption | refine A2 ?_ | refine KM.of ?_ | refine AD ?_ | refine A3 ?_ | refine AI ?_ | refine A6 ?_ | refine AN ?_ | refine AJ ?_ | intro _g _hg | refine AC ?_ ?_ | intro _hc) | omega)
  refine LoopK.round ?_
  repeat' (first | (simp -implicitDefEqProofs [Kc, Iv, JX, J3, c80, -getElem?_pos]) | (simp (disch := omega) only [AE]) | (with_reducible first | refine A5 ?_ ?_ ?_ | exact AB | assumption | refine A2 ?_ | refine KM.of ?_ | refine AD ?_ | refine A3 ?_ | refine AI ?_ | refine A6 ?_ | refine AN ?_ | refine AJ ?_ | intro _g _hg | refine AC ?_ ?_ | intro _hc) | omega)
  all_goals first | exact A1 _ | omega | (intro q hq; simp (disch := omega) only [upd_ne])
theorem WJ (p : Pt) : Ba p ≤ 1000000 → TC p := by
 refine Pt.ind (Q := fun p => Ba p ≤ 1000000 → TC p) ?_ p
 intro k t nm pa fs b e hb he hs
 unfold Ba at hs
 refine VT k t nm pa fs b e (by omega) fun x hx => ?_
 rcases List.mem_append.1 hx with hx | hx
 ·have := Bm hx; exact hb x hx (by omega)
 ·have := Bm hx; exact he x hx (by omega)
theorem PV (p : Pt) (hs : Ba p ≤ 1000000) : APure Tryz.prog 80 [ER p] (aI (Ba p)) := WJ p hs
def sv (l : List (List UInt8)) : AV := .sl 1 (l.map .str) .ro
def z0 : AV := .sl 0 [] .nil
def pF : AV := .agg [.int .i64 2, .str [], .str [], .sl 1 [.str [120]] .ro, .sl 2 [.agg [.str [112, 97, 100], .int .i64 3]] .ro, z0, z0]
def pT : AV := .agg [.int .i64 1, .str [59], .str [], z0, z0, z0, z0]
def pE : AV := .agg [.int .i64 4, .str [], .str [120], .sl 1 [.str [108]] .ro, z0, .sl 7 [pF, pT] .ro, z0]
def pB : AV := .agg [.int .i64 4, .str [], .str [120], .sl 1 [.str [108]] .ro, z0, z0, z0]
def qF : Pt := .mk 2 [] [] [[120]] [([112, 97, 100], 3)] [] []
def qT : Pt := .mk 1 [59] [] [] [] [] []
def qE : Pt := .mk 4 [] [120] [[108]] [] [qF, qT] []
def qB : Pt := .mk 4 [] [120] [[108]] [] [] []
theorem APure.to {P : Program} {f : Nat} {a : List AV} {v v' : AV} (h : APure P f a v) (e : v = v') : APure P f a v' := e ▸ h
theorem APure.arg {P : Program} {f : Nat} {a a' : List AV} {v : AV} (h : APure P f a' v) (hs : AA a a') : APure P f a v := fun n H => ACalls.sim (h n H) hs
theorem Eo (z : Nat) : A8 z0 (.sl z [] .ro) := ⟨_, _, _, rfl, .inl rfl, .inr ⟨rfl, rfl⟩, rfl⟩
theorem IX {k t n pa fs b e pa' fs' b' e' : AV} (h1 : A8 pa pa') (h2 : A8 fs fs') (h3 : A8 b b') (h4 : A8 e e') : A8 (.agg [k, t, n, pa, fs, b, e]) (.agg [k, t, n, pa', fs', b', e']) :=
 ⟨_, rfl, AR (A1 _) (AR (A1 _) (AR (A1 _) (AR h1 (AR h2 (AR h3 (AR h4 rfl))))))⟩
theorem Dk : AO [] = [] := by rw [AO]
theorem sF : A8 pF (ER qF) := by unfold qF; rw [Bv, Dk]; exact IX (A1 _) (A1 _) (Eo _) (Eo _)
theorem sT : A8 pT (ER qT) := by unfold qT; rw [Bv, Dk]; exact IX (Eo _) (Eo _) (Eo _) (Eo _)
theorem sB : A8 pB (ER qB) := by unfold qB; rw [Bv, Dk]; exact IX (A1 _) (Eo _) (Eo _) (Eo _)
theorem sE : A8 pE (ER qE) := by
 unfold qE; rw [Bv, Dk]
 refine IX (A1 _) (Eo _) ?_ (Eo _)
 have e : AO [qF, qT] = [ER qF, ER qT] := by rw [AO, AO, AO]
 rw [e]
 exact ⟨_, _, _, rfl, .inl rfl, .inl rfl, AR sF (AR sT rfl)⟩
theorem Xn : APure Tryz.prog 80 [pE] (.int .i64 3) := ((PV qE (by simp [qE, qF, qT, Ba, AU])).to (by simp [qE, qF, qT, Ba, AU])).arg (AR sE rfl)
theorem YJ : APure Tryz.prog 80 [pF] (.int .i64 1) := ((PV qF (by simp [qF, Ba, AU])).to (by simp [qF, Ba, AU])).arg (AR sF rfl)
theorem Xk : APure Tryz.prog 80 [pT] (.int .i64 1) := ((PV qT (by simp [qT, Ba, AU])).to (by simp [qT, Ba, AU])).arg (AR sT rfl)
theorem XS : APure Tryz.prog 68 [pE] (.int .i64 0) := ((IB 4 [] [120] [[108]] [] (AO [qF, qT]) [] (by decide) (by decide) (by decide) (by decide)).to (by kernel_rfl)).arg (AR (by have := sE; unfold qE at this; rw [Bv, Dk] at this; exact this) rfl)
theorem YX : APure Tryz.prog 68 [pB] (.int .i64 0) := ((IB 4 [] [120] [[108]] [] [] [] (by decide) (by decide) (by decide) (by decide)).to (by kernel_rfl)).arg (AR (by have := sB; unfold qB at this; rw [Bv, Dk] at this; exact this) rfl)
theorem YO : APure Tryz.prog 68 [pF] (.int .i64 0) := ((IB 2 [] [] [[120]] [([112, 97, 100], 3)] [] [] (by decide) (by decide) (by decide) (by decide)).to (by kernel_rfl)).arg (AR (by have := sF; unfold qF at this; rw [Bv, Dk] at this; exact this) rfl)
theorem XC : APure Tryz.prog 68 [pT] (.int .i64 0) := ((IB 1 [59] [] [] [] [] [] (by decide) (by decide) (by decide) (by decide)).to (by kernel_rfl)).arg (AR (by have := sT; unfold qT at this; rw [Bv, Dk] at this; exact this) rfl)
theorem YH : APure Tryz.prog 31 [.sl 7 [pE] .ro] (.str [60, 37, 101, 97, 99, 104, 32, 120, 32, 105, 110, 32, 108, 37, 62, 60, 37, 120, 124, 112, 97, 100, 32, 51, 37, 62, 59, 60, 37, 101, 110, 100, 37, 62]) := by
 refine ((UK [qE] (KD _ 0 0 0 (by simp [qE, qF, qT, PG, F5]) (by kernel_rfl)) (by simp [qE, qF, qT, Ba, AU])).to (by kernel_rfl)).arg (AR ?_ rfl)
 have e : AO [qE] = [ER qE] := by rw [AO, AO]
 rw [Cv, e]
 exact ⟨_, _, _, rfl, .inl rfl, .inl rfl, AR sE rfl⟩
def kn0 : Lr := [(178, [.str [105, 102, 32, 101, 97, 99, 104, 32, 105, 110, 32, 101, 108, 115, 101, 32, 101, 110, 100, 32, 111, 112, 101, 110]], sv [[105, 102], [101, 97, 99, 104], [105, 110], [101, 108, 115, 101], [101, 110, 100], [111, 112, 101, 110]]),
 (52, [.sl 1 [.str [108]] .ro, .str [46]], .str [108]),
 (52, [.sl 1 [.str [120]] .ro, .str [46]], .str [120]),
 (63, [.str [59], .str [60, 37], .str [60, 37, 111, 112, 101, 110, 37, 62]], .str [59]),
 (65, [.int .i64 3], .str [51]),
 (171, [.str [49, 48]], .int .i64 2),
 (115, [.str [51]], .tup [.int .i64 3, .nif]),
 (41, [.str [49, 48], .str [46]], .tup [.str [49, 48], .str [], .bool false]),
 (39, [.str [60, 37, 101, 97, 99, 104, 32, 120, 32, 105, 110, 32, 108, 37, 62, 60, 37, 120, 124, 112, 97, 100, 32, 51, 37, 62, 59, 60, 37, 101, 110, 100, 37, 62], .str [60, 37]], .int .i64 (0)),
 (41, [.str [101, 97, 99, 104, 32, 120, 32, 105, 110, 32, 108, 37, 62, 60, 37, 120, 124, 112, 97, 100, 32, 51, 37, 62, 59, 60, 37, 101, 110, 100, 37, 62], .str [37, 62]], .tup [.str [101, 97, 99, 104, 32, 120, 32, 105, 110, 32, 108], .str [60, 37, 120, 124, 112, 97, 100, 32, 51, 37, 62, 59, 60, 37, 101, 110, 100, 37, 62], .bool true]),
 (39, [.str [60, 37, 120, 124, 112, 97, 100, 32, 51, 37, 62, 59, 60, 37, 101, 110, 100, 37, 62], .str [60, 37]], .int .i64 (0)),
 (41, [.str [120, 124, 112, 97, 100, 32, 51, 37, 62, 59, 60, 37, 101, 110, 100, 37, 62], .str [37, 62]], .tup [.str [120, 124, 112, 97, 100, 32, 51], .str [59, 60, 37, 101, 110, 100, 37, 62], .bool true]),
 (39, [.str [59, 60, 37, 101, 110, 100, 37, 62], .str [60, 37]], .int .i64 (1)),
 (41, [.str [101, 110, 100, 37, 62], .str [37, 62]], .tup [.str [101, 110, 100], .str [], .bool true]),
 (39, [.str [], .str [60, 37]], .int .i64 (-1)),
 (41, [.str [101, 97, 99, 104, 32, 120, 32, 105, 110, 32, 108], .str [32]], .tup [.str [101, 97, 99, 104], .str [120, 32, 105, 110, 32, 108], .bool true]),
 (41, [.str [120, 32, 105, 110, 32, 108], .str [32, 105, 110, 32]], .tup [.str [120], .str [108], .bool true]),
 (73, [.str [108], .str [46]], sv [[108]]),
 (41, [.str [120, 124, 112, 97, 100, 32, 51], .str [32]], .tup [.str [120, 124, 112, 97, 100], .str [51], .bool true]),
 (73, [.str [120, 124, 112, 97, 100, 32, 51], .str [124]], sv [[120], [112, 97, 100, 32, 51]]),
 (73, [.str [120], .str [46]], sv [[120]]),
 (41, [.str [112, 97, 100, 32, 51], .str [32]], .tup [.str [112, 97, 100], .str [51], .bool true]),
 (41, [.str [101, 110, 100], .str [32]], .tup [.str [101, 110, 100], .str [], .bool false]),
 (80, [pE], .int .i64 3),
 (80, [pF], .int .i64 1),
 (80, [pT], .int .i64 1),
 (68, [pE], .int .i64 0),
 (68, [pF], .int .i64 0),
 (68, [pT], .int .i64 0),
 (68, [pB], .int .i64 0),
 (31, [.sl 7 [pE] .ro], .str [60, 37, 101, 97, 99, 104, 32, 120, 32, 105, 110, 32, 108, 37, 62, 60, 37, 120, 124, 112, 97, 100, 32, 51, 37, 62, 59, 60, 37, 101, 110, 100, 37, 62])]
theorem ZD : APure Tryz.prog 178 [.str [105, 102, 32, 101, 97, 99, 104, 32, 105, 110, 32, 101, 108, 115, 101, 32, 101, 110, 100, 32, 111, 112, 101, 110]] (sv [[105, 102], [101, 97, 99, 104], [105, 110], [101, 108, 115, 101], [101, 110, 100], [111, 112, 101, 110]]) := (QI [105, 102, 32, 101, 97, 99, 104, 32, 105, 110, 32, 101, 108, 115, 101, 32, 101, 110, 100, 32, 111, 112, 101, 110] (by decide) (by decide) (by decide +kernel)).to (by kernel_rfl)
theorem Zf : APure Tryz.prog 52 [.sl 1 [.str [108]] .ro, .str [46]] (.str [108]) := (P2 [[108]] [46] (by decide) (by decide +kernel)).to (by kernel_rfl)
theorem Yz : APure Tryz.prog 52 [.sl 1 [.str [120]] .ro, .str [46]] (.str [120]) := (P2 [[120]] [46] (by decide) (by decide +kernel)).to (by kernel_rfl)
theorem ZO : APure Tryz.prog 63 [.str [59], .str [60, 37], .str [60, 37, 111, 112, 101, 110, 37, 62]] (.str [59]) := (Wv [59] (by decide)).to (by kernel_rfl)
theorem ZV : APure Tryz.prog 65 [.int .i64 3] (.str [51]) := (Rv 3 (by decide)).to (by kernel_rfl)
theorem ZA : APure Tryz.prog 171 [.str [49, 48]] (.int .i64 2) := Vm [49, 48] (by decide) (by decide)
theorem ZC : APure Tryz.prog 115 [.str [51]] (.tup [.int .i64 3, .nif]) := Sj (by kernel_rfl) (by decide)
theorem ZX : APure Tryz.prog 41 [.str [49, 48], .str [46]] (.tup [.str [49, 48], .str [], .bool false]) := (IV [49, 48] [46] (by decide)).to (by kernel_rfl)
theorem Yo : APure Tryz.prog 39 [.str [60, 37, 101, 97, 99, 104, 32, 120, 32, 105, 110, 32, 108, 37, 62, 60, 37, 120, 124, 112, 97, 100, 32, 51, 37, 62, 59, 60, 37, 101, 110, 100, 37, 62], .str [60, 37]] (.int .i64 (0)) := (LL [60, 37, 101, 97, 99, 104, 32, 120, 32, 105, 110, 32, 108, 37, 62, 60, 37, 120, 124, 112, 97, 100, 32, 51, 37, 62, 59, 60, 37, 101, 110, 100, 37, 62] [60, 37] (by decide)).to (by kernel_rfl)
theorem Ys : APure Tryz.prog 41 [.str [101, 97, 99, 104, 32, 120, 32, 105, 110, 32, 108, 37, 62, 60, 37, 120, 124, 112, 97, 100, 32, 51, 37, 62, 59, 60, 37, 101, 110, 100, 37, 62], .str [37, 62]] (.tup [.str [101, 97, 99, 104, 32, 120, 32, 105, 110, 32, 108], .str [60, 37, 120, 124, 112, 97, 100, 32, 51, 37, 62, 59, 60, 37, 101, 110, 100, 37, 62], .bool true]) := (IV [101, 97, 99, 104, 32, 120, 32, 105, 110, 32, 108, 37, 62, 60, 37, 120, 124, 112, 97, 100, 32, 51, 37, 62, 59, 60, 37, 101, 110, 100, 37, 62] [37, 62] (by decide)).to (by kernel_rfl)
theorem Xl : APure Tryz.prog 39 [.str [60, 37, 120, 124, 112, 97, 100, 32, 51, 37, 62, 59, 60, 37, 101, 110, 100, 37, 62], .str [60, 37]] (.int .i64 (0)) := (LL [60, 37, 120, 124, 112, 97, 100, 32, 51, 37, 62, 59, 60, 37, 101, 110, 100, 37, 62] [60, 37] (by decide)).to (by kernel_rfl)
theorem Xd : APure Tryz.prog 41 [.str [120, 124, 112, 97, 100, 32, 51, 37, 62, 59, 60, 37, 101, 110, 100, 37, 62], .str [37, 62]] (.tup [.str [120, 124, 112, 97, 100, 32, 51], .str [59, 60, 37, 101, 110, 100, 37, 62], .bool true]) := (IV [120, 124, 112, 97, 100, 32, 51, 37, 62, 59, 60, 37, 101, 110, 100, 37, 62] [37, 62] (by decide)).to (by kernel_rfl)
theorem YD : APure Tryz.prog 39 [.str [59, 60, 37, 101, 110, 100, 37, 62], .str [60, 37]] (.int .i64 (1)) := (LL [59, 60, 37, 101, 110, 100, 37, 62] [60, 37] (by decide)).to (by kernel_rfl)
theorem Yb : APure Tryz.prog 41 [.str [101, 110, 100, 37, 62], .str [37, 62]] (.tup [.str [101, 110, 100], .str [], .bool true]) := (IV [101, 110, 100, 37, 62] [37, 62] (by decide)).to (by kernel_rfl)
theorem Yd : APure Tryz.prog 39 [.str [], .str [60, 37]] (.int .i64 (-1)) := (LL [] [60, 37] (by decide)).to (by kernel_rfl)
theorem Xp : APure Tryz.prog 41 [.str [101, 97, 99, 104, 32, 120, 32, 105, 110, 32, 108], .str [32]] (.tup [.str [101, 97, 99, 104], .str [120, 32, 105, 110, 32, 108], .bool true]) := (IV [101, 97, 99, 104, 32, 120, 32, 105, 110, 32, 108] [32] (by decide)).to (by kernel_rfl)
theorem XE : APure Tryz.prog 41 [.str [120, 32, 105, 110, 32, 108], .str [32, 105, 110, 32]] (.tup [.str [120], .str [108], .bool true]) := (IV [120, 32, 105, 110, 32, 108] [32, 105, 110, 32] (by decide)).to (by kernel_rfl)
theorem Y8 : APure Tryz.prog 73 [.str [108], .str [46]] (sv [[108]]) := (PY [108] 46 (by decide)).to (by kernel_rfl)
theorem Yc : APure Tryz.prog 41 [.str [120, 124, 112, 97, 100, 32, 51], .str [32]] (.tup [.str [120, 124, 112, 97, 100], .str [51], .bool true]) := (IV [120, 124, 112, 97, 100, 32, 51] [32] (by decide)).to (by kernel_rfl)
theorem Xv : APure Tryz.prog 73 [.str [120, 124, 112, 97, 100, 32, 51], .str [124]] (sv [[120], [112, 97, 100, 32, 51]]) := (PY [120, 124, 112, 97, 100, 32, 51] 124 (by decide)).to (by kernel_rfl)
theorem Xe : APure Tryz.prog 73 [.str [120], .str [46]] (sv [[120]]) := (PY [120] 46 (by decide)).to (by kernel_rfl)
theorem Xt : APure Tryz.prog 41 [.str [112, 97, 100, 32, 51], .str [32]] (.tup [.str [112, 97, 100], .str [51], .bool true]) := (IV [112, 97, 100, 32, 51] [32] (by decide)).to (by kernel_rfl)
theorem Xy : APure Tryz.prog 41 [.str [101, 110, 100], .str [32]] (.tup [.str [101, 110, 100], .str [], .bool false]) := (IV [101, 110, 100] [32] (by decide)).to (by kernel_rfl)
theorem Xu : APure Tryz.prog 80 [pE] (.int .i64 3) := Xn
theorem Yg : APure Tryz.prog 80 [pF] (.int .i64 1) := YJ
theorem YZ : APure Tryz.prog 80 [pT] (.int .i64 1) := Xk
theorem YC : APure Tryz.prog 68 [pE] (.int .i64 0) := XS
theorem YW : APure Tryz.prog 68 [pF] (.int .i64 0) := YO
theorem YB : APure Tryz.prog 68 [pT] (.int .i64 0) := XC
theorem XV : APure Tryz.prog 68 [pB] (.int .i64 0) := YX
theorem XX : APure Tryz.prog 31 [.sl 7 [pE] .ro] (.str [60, 37, 101, 97, 99, 104, 32, 120, 32, 105, 110, 32, 108, 37, 62, 60, 37, 120, 124, 112, 97, 100, 32, 51, 37, 62, 59, 60, 37, 101, 110, 100, 37, 62]) := YH
theorem Xh : VS Tryz.prog kn0 := ⟨ZD, by kernel_rfl, Zf, by kernel_rfl, Yz, by kernel_rfl, ZO, by kernel_rfl, ZV, by kernel_rfl, ZA, by kernel_rfl, ZC, by kernel_rfl, ZX, by kernel_rfl, Yo, by kernel_rfl, Ys, by kernel_rfl, Xl, by kernel_rfl, Xd, by kernel_rfl, YD, by kernel_rfl, Yb, by kernel_rfl, Yd, by kernel_rfl, Xp, by kernel_rfl, XE, by kernel_rfl, Y8, by kernel_rfl, Yc, by kernel_rfl, Xv, by kernel_rfl, Xe, by kernel_rfl, Xt, by kernel_rfl, Xy, by kernel_rfl, Xu, by kernel_rfl, Yg, by kernel_rfl, YZ, by kernel_rfl, YC, by kernel_rfl, YW, by kernel_rfl, YB, by kernel_rfl, XV, by kernel_rfl, XX, by kernel_rfl, trivial⟩
def xpT (P : Program) (T : Lr) : XP := ⟨P, Fl, fun _ => false, fun e => Nat.beq e 168 || Nat.beq e 55, W5 T, fun _ => false, fun e => Nat.beq e 55, fun f => bif Nat.beq f 42 then [70] else bif Nat.beq f 16 then [13] else []⟩
theorem Pi : APure Tryz.prog 14 [] (.bool true) := run_pure (X := xpT Tryz.prog kn0) (Sa Xh) 3000 (by kernel_rfl) rfl rfl
theorem OI {l : List Pt} (h : (GR l).1 = 0) : GR l = (0, 0) ∧ (B6 0 0 0 l).2 = 0 ∧ (Cj l).length ≤ 4000 := by
 unfold GR at h ⊢
 by_cases h1 : (B6 0 0 0 l).2 = 0
 ·rw [if_neg (by simpa using h1)] at h ⊢
  by_cases h2 : 4000 < (Cj l).length
  ·rw [if_pos h2] at h; cases h
  ·rw [if_neg h2]; exact ⟨rfl, h1, by omega⟩
 ·rw [if_pos h1] at h; exact absurd h h1
open Go.ChangeShapes Go.WideShapes Go.ChangeAt Go.RowKit Go.Deep
theorem Zj : ownKnob Tryz.prog.godebug = none := by kernel_rfl
theorem X5 : laidOutB Tryz.prog = true := by kernel_rfl
theorem Gk {w : World} {v : Value} {x : AV} (h : RepL (R3 w) [v] [x]) : Rep (R3 w) v x := by cases h; assumption
abbrev laidL : List (String × DataW Unit) := Rows.templatePrintMatchesSpecUptoRow.laid
theorem Tw {P : Program} {w : World} {name : String} {d : DataW Unit} {k : IntKind} {zs : List Int} {g t e : Nat} {n : Nat} (h : Lib.VarReads P w name d) (hd : d = Lib.tabData k zs) (hg : P.globalNamed name = some g) (hty : (P.globals[g]?).map (·.type) = some t)
  (ht : P.underlying t = some (.array n e)) (he : P.underlying e = some (.int k)) (hce : P.cellsOf e = 1) (hct : P.cellsOf t = n) : ∃ t fz, w.heap[g]? = some (.cells (zs.map fun z => Value.int k z).toArray t fz) := by
 subst hd
 obtain ⟨g', t', cs, fuel, p, hg', ht', hvar, htr⟩ := h
 obtain rfl := Option.some.inj (hg.symm.trans hg')
 obtain rfl := Option.some.inj (hty.symm.trans ht')
 have hc := Lib.cells_of_tab ht he hce hct htr
 unfold World.var? at hvar
 rw [hg, Option.bind_some] at hvar
 split at hvar
 ·rename_i cs' t2 fz hh
  injection hvar with hvar
  subst hvar
  exact ⟨t2, fz, by rw [hh, ← hc]⟩
 ·cases hvar
theorem VN {P : Program} {w : World} {name nm : String} {d0 d : DataW Unit} {g t : Nat} {ms : Array (String × TypeId)} (h : Lib.VarReads P w name d0) (hd : d0 = .iface nm d) (hg : P.globalNamed name = some g) (hty : (P.globals[g]?).map (·.type) = some t)
  (ht : P.underlying t = some (.interface ms)) : ∃ v, w.cell? ⟨g, 0, none⟩ = some v ∧ (v = .nilIface ∨ ∃ te pe, v = .iface te pe) := by
 subst hd
 obtain ⟨g', t', cs, fuel, p, hg', ht', hvar, htr⟩ := h
 obtain rfl := Option.some.inj (hg.symm.trans hg')
 obtain rfl := Option.some.inj (hty.symm.trans ht')
 obtain ⟨_, u, v, hcs, _, _⟩ := iface_of_trod ht htr
 unfold World.var? at hvar
 rw [hg, Option.bind_some] at hvar
 split at hvar
 ·rename_i cs' t2 fz hh
  injection hvar with hvar
  subst hvar
  refine ⟨.iface u v, ?_, .inr ⟨u, v, rfl⟩⟩
  simp [World.cell?, hh, hcs]
  rw [← Array.getElem?_toList, hcs]; rfl
 ·cases hvar
theorem Vj : U8Extra Tryz.prog LG := ⟨by kernel_rfl, by kernel_rfl, by kernel_rfl, by kernel_rfl, by kernel_rfl, by kernel_rfl, by kernel_rfl⟩
theorem Sm {w : World} (h : laidMetH Tryz.prog laidL w) (hsh : w.ShapedOpen Tryz.prog) : Laid w := by
 rw [MakeChecks.laidMetH_plain _ _ _ (by kernel_rfl)] at h
 have rd : ∀ i (hi : i < laidL.length), Lib.VarReads Tryz.prog w laidL[i].1 laidL[i].2 := fun i hi => Lib.laidMet.reads h (List.getElem_mem hi)
 have e8 : laidL[8].2 = Lib.firstData := by kernel_rfl
 have e3 : laidL[3].2 = Lib.acceptData := by kernel_rfl
 have d8 := rd 8 (by decide)
 have d3 := rd 3 (by decide)
 rw [e8] at d8
 rw [e3] at d3
 have hu := utf8Tabs_of_reads Vn Vj d8 d3
 exact ⟨Tw (rd 7 (by decide)) (by kernel_rfl) (by kernel_rfl) (by kernel_rfl) Tryz.underlying211 Tryz.underlying5 (by kernel_rfl) (by kernel_rfl),
  Tw (rd 2 (by decide)) (by kernel_rfl) (by kernel_rfl) (by kernel_rfl) Tryz.underlying228 Tryz.underlying198 (by kernel_rfl) (by kernel_rfl),
  VN (rd 5 (by decide)) (by rfl) (by kernel_rfl) (by kernel_rfl) Tryz.underlying113,
  VN (rd 4 (by decide)) (by rfl) (by kernel_rfl) (by kernel_rfl) Tryz.underlying113, hu,
  Go.Proofs.cell_of_shapedOpen_int (zero := #[.int .i64 0]) (t := 3) hsh (of_decide_eq_true (by kernel_rfl)) (by kernel_rfl) rfl (by kernel_rfl) (by kernel_rfl) Tryz.underlying3⟩
noncomputable def Eg (os : Os) : World := World.laidAll Tryz.prog os laidL
instance : Inhabited Pt := ⟨.mk 0 [] [] [] [] [] []⟩
section
variable {H : Type} {enc : TypeId × Value → H} {w : World} {base : Nat} {spare : Nat → Bool} {held : Bool} {fuel : Nat}
theorem Ph (d : DataW H) : 1 ≤ Rows.uptoBulk d := by
 cases d with
 | lit v => cases v <;> simp [Rows.uptoBulk]
 | _ => simp [Rows.uptoBulk]
theorem Qr {d : DataW H} : ∀ {l : List (DataW H)}, d ∈ l → Rows.uptoBulk d ≤ Rows.uptoBulkAll l
 | x :: r, h => by
  simp only [Rows.uptoBulkAll]
  rcases List.mem_cons.1 h with rfl | h
  ·omega
  ·have := Qr h; omega
theorem Qs : ∀ l : List (DataW H), l.length ≤ Rows.uptoBulkAll l
 | [] => by simp
 | x :: r => by
  have := Ph x
  have := Qs r
  simp only [Rows.uptoBulkAll, List.length_cons]; omega
theorem US : Tryz.prog.cellsOf 9 = 1 := by kernel_rfl
theorem WT : Tryz.prog.cellsOf 52 = 2 := by kernel_rfl
theorem SI : Tryz.prog.cellsOf 55 = 7 := by kernel_rfl
theorem X9 : Tryz.prog.underlying 55 = some (.struct (Tryz.prog.fieldsOf 55)) := by kernel_rfl
theorem Zd : Tryz.prog.underlying 52 = some (.struct (Tryz.prog.fieldsOf 52)) := by kernel_rfl
theorem Z4 : (Tryz.prog.fieldsOf 55).toList.map (fun f => (f.type, f.offset, Tryz.prog.cellsOf f.type)) = [(3, 0, 1), (9, 1, 1), (9, 2, 1), (35, 3, 1), (53, 4, 1), (22, 5, 1), (22, 6, 1)] := by kernel_rfl
theorem Zl : (Tryz.prog.fieldsOf 52).toList.map (fun f => (f.type, f.offset, Tryz.prog.cellsOf f.type)) = [(9, 0, 1), (3, 1, 1)] := by kernel_rfl
theorem Hd {α : Type} {l : List α} (h : l.length = 7) : ∃ a0 a1 a2 a3 a4 a5 a6, l = [a0, a1, a2, a3, a4, a5, a6] := by
 rcases l with _ | ⟨a0, _ | ⟨a1, _ | ⟨a2, _ | ⟨a3, _ | ⟨a4, _ | ⟨a5, _ | ⟨a6, _ | ⟨a7, l⟩⟩⟩⟩⟩⟩⟩⟩ <;> simp at h
 exact ⟨a0, a1, a2, a3, a4, a5, a6, rfl⟩
theorem Hl {α : Type} {l : List α} (h : l.length = 2) : ∃ a0 a1, l = [a0, a1] := by
 rcases l with _ | ⟨a0, _ | ⟨a1, _ | ⟨a2, l⟩⟩⟩ <;> simp at h
 exact ⟨a0, a1, rfl⟩
theorem Jw {v : Value} {x : DataW H × List MemPlace} (h : DataW.trod enc Tryz.prog w base spare held fuel 9 [v] = some x) : ∃ s : AP, RepL (R3 w) [v] [.str s] ∧ s.length ≤ Rows.uptoBulk x.1 := by
 obtain ⟨s, h1, _, h3⟩ := OQ Tryz.underlying9 h
 have h3' : s.length + 1 ≤ Rows.uptoBulk x.1 := h3
 exact ⟨s, h1, by omega⟩
theorem Sk : ∀ l : List AP, l.length ≤ (l.map fun s : AP => s.length + 1).sum
 | [] => by simp
 | s :: r => by have := Sk r; simp only [List.length_cons, List.map_cons, List.sum_cons]; omega
theorem SQ {s : AP} : ∀ {l : List AP}, s ∈ l → s.length ≤ (l.map fun s : AP => s.length + 1).sum
 | x :: r, h => by
  simp only [List.map_cons, List.sum_cons]
  rcases List.mem_cons.1 h with rfl | h
  ·omega
  ·have := SQ h; omega
theorem SS {α : Type} : ∀ l : List α, (l.map fun _ => 1).sum = l.length
 | [] => rfl
 | x :: r => by rw [List.map_cons, List.sum_cons, SS r, List.length_cons]; omega
theorem RF {v : Value} {x : DataW H × List MemPlace} (h : DataW.trod enc Tryz.prog w base spare held fuel 35 [v] = some x) : ∃ l : List AP, RepL (R3 w) [v] [Ci l] ∧ l.length ≤ Rows.uptoBulk x.1 ∧ ∀ s ∈ l, s.length ≤ Rows.uptoBulk x.1 := by
 obtain ⟨l, h1, _, h3⟩ := open_list (P := Tryz.prog) AV.str (fun _ => True) (fun s => s.length + 1) Tryz.underlying35 US (by decide) (fun a => ⟨rfl, fun y hy => by simp [AV.cells] at hy; subst hy; rfl⟩) (fun k cs y hc hy => by
  rcases cs with _ | ⟨c, _ | ⟨_, _⟩⟩
  ·cases hc
  ·obtain ⟨s, h1, _, h3⟩ := OQ Tryz.underlying9 hy
   exact ⟨s, h1, fun _ => trivial, h3⟩
  ·simp at hc) h
 have h3' : (l.map fun s : AP => s.length + 1).sum + 1 ≤ Rows.uptoBulk x.1 := h3
 exact ⟨l, h1, by have := Sk l; omega, fun s hs => by have := SQ hs; omega⟩
theorem Ta {v : Value} {x : DataW H × List MemPlace} (h : DataW.trod enc Tryz.prog w base spare held fuel 53 [v] = some x) : ∃ l : List (AP × Int), RepL (R3 w) [v] [DE l] ∧ l.length ≤ Rows.uptoBulk x.1 := by
 obtain ⟨l, h1, _, h3⟩ := open_list (P := Tryz.prog) Zq (fun _ => True) (fun _ => 1) Tryz.underlying53 WT (by decide) (fun a => ⟨rfl, fun y hy => by simp [AV.cells] at hy; rcases hy with rfl | rfl <;> rfl⟩) (fun k cs y hc hy => by
  obtain ⟨ys, m, _, hx, hcl, hyl, hf⟩ := DataW.trod_struct Zd hy
  have hfs := Zl
  obtain ⟨f0, f1, hq⟩ := Hl (by have := congrArg List.length Zl; simpa using this : (Tryz.prog.fieldsOf 52).toList.length = 2)
  rw [hq] at hfs
  simp only [List.map_cons, List.map_nil, List.cons.injEq, Prod.mk.injEq, and_true] at hfs
  obtain ⟨⟨t0, o0, k0⟩, ⟨t1, o1, k1⟩⟩ := hfs
  have h0 : (Tryz.prog.fieldsOf 52)[0]? = some f0 := by rw [← Array.getElem?_toList, hq]; rfl
  have h1 : (Tryz.prog.fieldsOf 52)[1]? = some f1 := by rw [← Array.getElem?_toList, hq]; rfl
  have hn : (Tryz.prog.fieldsOf 52).size = 2 := by rw [← Array.length_toList, hq]; rfl
  have g0 := hf 0 f0 h0
  rw [k0, o0, t0] at g0
  have g1 := hf 1 f1 h1
  rw [k1, o1, t1] at g1
  rw [hn] at hyl
  obtain ⟨y0, y1, hys⟩ := Hl hyl
  subst hys
  obtain ⟨z0, z1, hz⟩ := Hl hc
  subst hz
  simp only [List.drop, List.take] at g0 g1
  obtain ⟨s, r0, _⟩ := Jw g0
  obtain ⟨n1, e1, _, w1⟩ := DataW.trod_int Tryz.underlying3 g1
  simp at e1
  subst e1
  exact ⟨(s, n1), .cons (Gk r0) (.cons .int .nil), fun _ => trivial, Ph _⟩) h
 have h3' : (l.map fun _ => 1).sum + 1 ≤ Rows.uptoBulk x.1 := h3
 exact ⟨l, h1, by rw [SS] at h3'; omega⟩
theorem RZ {es sp : List (DataW H)} {d : DataW H} (h : d ∈ es) : SizeOf.sizeOf d < SizeOf.sizeOf (DataW.slice es sp) := by
 have := List.sizeOf_lt_of_mem h
 simp only [DataW.slice.sizeOf_spec]; omega
theorem QN {es : List (DataW H)} {d : DataW H} (h : d ∈ es) : SizeOf.sizeOf d < SizeOf.sizeOf (DataW.agg es) := by
 have := List.sizeOf_lt_of_mem h
 simp only [DataW.agg.sizeOf_spec]; omega
theorem Gd {v : Value} {x : DataW H × List MemPlace} (he : ∀ k cs (y : DataW H × List MemPlace), SizeOf.sizeOf y.1 < SizeOf.sizeOf x.1 → DataW.trod enc Tryz.prog w base spare held k 55 cs = some y → ∃ s : Pt, RepL (R3 w) cs (ER s).cells ∧ (Rows.uptoBulk y.1 ≤ 1048576 → PG s))
  (h : DataW.trod enc Tryz.prog w base spare held fuel 22 [v] = some x) : ∃ p : List Pt, Rep (R3 w) v (Cv p) ∧ (Rows.uptoBulk x.1 ≤ 1048576 → p.length ≤ 2000000 ∧ F5 p) := by
 obtain ⟨n, k, X, Y, hr, hX, hY⟩ := Ld Tryz.underlying22 SI (by decide) h
 have hlt : ∀ i, i < n → SizeOf.sizeOf (Y i).1 < SizeOf.sizeOf x.1 := fun i hi => by
  rcases hY with ⟨h0, _⟩ | ⟨sp, h1⟩
  ·omega
  ·rw [h1]; exact RZ (List.mem_map.2 ⟨i, List.mem_range.2 hi, rfl⟩)
 obtain ⟨f, hf⟩ := choose_lt (n := n) (p := fun i (s : Pt) => RepL (R3 w) (X i) (ER s).cells ∧ (Rows.uptoBulk (Y i).1 ≤ 1048576 → PG s)) (fun i hi => he k (X i) (Y i) (hlt i hi) (hX i hi).2)
 have hlen : (((List.range n).map f).map ER).length = n := by simp
 have hu : ∀ s : Pt, (ER s).cells.length = 7 ∧ ∀ y ∈ (ER s).cells, y.one = true := fun s => by
  obtain ⟨k, t, nm, pa, fs, b, e⟩ := s
  rw [ER]
  refine ⟨rfl, fun y hy => ?_⟩
  simp only [AV.cells, List.mem_cons, List.not_mem_nil, or_false] at hy
  rcases hy with rfl | rfl | rfl | rfl | rfl | rfl | rfl <;> rfl
 refine ⟨(List.range n).map f, ?_, fun hw => ?_⟩
 ·unfold Cv
  rw [Fb]
  refine Oa hr ?_ hlen (by decide) ?_ ?_
  ·rw [List.map_map]
   exact OE fun i hi => (hf i hi).1
  ·intro y hy
   obtain ⟨a, _, rfl⟩ := List.mem_map.1 hy
   exact (hu a).1
  ·intro y hy
   obtain ⟨z, hz, hy⟩ := List.mem_flatMap.1 hy
   obtain ⟨a, _, rfl⟩ := List.mem_map.1 hz
   exact (hu a).2 y hy
 ·have key : ∀ p : List Pt, (∀ s ∈ p, PG s) → F5 p := by
   intro p
   induction p with
   | nil => intro _; trivial
   | cons s r ih => intro h; exact ⟨h s List.mem_cons_self, ih fun y hy => h y (List.mem_cons_of_mem _ hy)⟩
  rcases hY with ⟨h0, h1⟩ | ⟨sp, h1⟩
  ·subst h0; exact ⟨by simp, trivial⟩
  ·rw [h1] at hw
   simp only [Rows.uptoBulk] at hw
   refine ⟨?_, key _ fun s hs => ?_⟩
   ·have := Qs ((List.range n).map fun i => (Y i).1)
    simp at this
    simp; omega
   ·obtain ⟨i, hi, rfl⟩ := List.mem_map.1 hs
    have hi' : i < n := List.mem_range.1 hi
    have := Qr (d := (Y i).1) (l := (List.range n).map fun i => (Y i).1) (List.mem_map.2 ⟨i, hi, rfl⟩)
    exact (hf i hi').2 (by omega)
set_option maxRecDepth 100000 in
theorem RD : ∀ (N : Nat) {fuel : Nat} {cs : List Value} {x : DataW H × List MemPlace}, SizeOf.sizeOf x.1 ≤ N → DataW.trod enc Tryz.prog w base spare held fuel 55 cs = some x → ∃ s : Pt, RepL (R3 w) cs (ER s).cells ∧ (Rows.uptoBulk x.1 ≤ 1048576 → PG s) := by
 intro N
 induction N with
 | zero =>
  intro fuel cs x hN h
  obtain ⟨ys, m, _, hx, _⟩ := DataW.trod_struct X9 h
  rw [hx] at hN
  simp at hN
 | succ N ih =>
  intro fuel cs x hN h
  obtain ⟨ys, m, _, hx, hcl, hyl, hf⟩ := DataW.trod_struct X9 h
  have hfs := Z4
  obtain ⟨f0, f1, f2, f3, f4, f5, f6, hq⟩ := Hd (by have := congrArg List.length Z4; simpa using this : (Tryz.prog.fieldsOf 55).toList.length = 7)
  rw [hq] at hfs
  simp only [List.map_cons, List.map_nil, List.cons.injEq, Prod.mk.injEq, and_true] at hfs
  obtain ⟨⟨t0, o0, k0⟩, ⟨t1, o1, k1⟩, ⟨t2, o2, k2⟩, ⟨t3, o3, k3⟩, ⟨t4, o4, k4⟩, ⟨t5, o5, k5⟩, ⟨t6, o6, k6⟩⟩ := hfs
  have h0 : (Tryz.prog.fieldsOf 55)[0]? = some f0 := by rw [← Array.getElem?_toList, hq]; rfl
  have g0 := hf 0 f0 h0
  rw [k0, o0, t0] at g0
  have h1 : (Tryz.prog.fieldsOf 55)[1]? = some f1 := by rw [← Array.getElem?_toList, hq]; rfl
  have g1 := hf 1 f1 h1
  rw [k1, o1, t1] at g1
  have h2 : (Tryz.prog.fieldsOf 55)[2]? = some f2 := by rw [← Array.getElem?_toList, hq]; rfl
  have g2 := hf 2 f2 h2
  rw [k2, o2, t2] at g2
  have h3 : (Tryz.prog.fieldsOf 55)[3]? = some f3 := by rw [← Array.getElem?_toList, hq]; rfl
  have g3 := hf 3 f3 h3
  rw [k3, o3, t3] at g3
  have h4 : (Tryz.prog.fieldsOf 55)[4]? = some f4 := by rw [← Array.getElem?_toList, hq]; rfl
  have g4 := hf 4 f4 h4
  rw [k4, o4, t4] at g4
  have h5 : (Tryz.prog.fieldsOf 55)[5]? = some f5 := by rw [← Array.getElem?_toList, hq]; rfl
  have g5 := hf 5 f5 h5
  rw [k5, o5, t5] at g5
  have h6 : (Tryz.prog.fieldsOf 55)[6]? = some f6 := by rw [← Array.getElem?_toList, hq]; rfl
  have g6 := hf 6 f6 h6
  rw [k6, o6, t6] at g6
  have hn : (Tryz.prog.fieldsOf 55).size = 7 := by rw [← Array.length_toList, hq]; rfl
  rw [hn] at hyl
  obtain ⟨y0, y1, y2, y3, y4, y5, y6, hys⟩ := Hd hyl
  subst hys
  obtain ⟨z0, z1, z2, z3, z4, z5, z6, hz⟩ := Hd (hcl.trans SI)
  subst hz
  simp only [List.drop, List.take] at g0 g1 g2 g3 g4 g5 g6
  obtain ⟨n0, e0, _, w0⟩ := DataW.trod_int Tryz.underlying3 g0
  simp at e0
  subst e0
  obtain ⟨n1, r1, v1⟩ := Jw g1
  obtain ⟨n2, r2, v2⟩ := Jw g2
  obtain ⟨n3, r3, v3, v3'⟩ := RF g3
  obtain ⟨n4, r4, v4⟩ := Ta g4
  have hy5 : SizeOf.sizeOf y5.1 < SizeOf.sizeOf x.1 := by rw [hx]; exact QN (by simp)
  have hy6 : SizeOf.sizeOf y6.1 < SizeOf.sizeOf x.1 := by rw [hx]; exact QN (by simp)
  obtain ⟨n5, r5, v5⟩ := Gd (fun k cs y hy hk => ih (by omega) hk) g5
  obtain ⟨n6, r6, v6⟩ := Gd (fun k cs y hy hk => ih (by omega) hk) g6
  refine ⟨.mk n0 n1 n2 n3 n4 n5 n6, ?_, fun hw => ?_⟩
  ·rw [ER]
   exact .cons .int (.cons (Gk r1) (.cons (Gk r2) (.cons (Gk r3) (.cons (Gk r4) (.cons r5 (.cons r6 .nil))))))
  ·rw [hx] at hw
   simp only [Rows.uptoBulk, List.map_cons, List.map_nil, Rows.uptoBulkAll] at hw
   obtain ⟨a1, a2⟩ := v5 (by omega)
   obtain ⟨b1, b2⟩ := v6 (by omega)
   exact ⟨by omega, by omega, by omega, fun s hs => by have := v3' s hs; omega, by omega, a1, b1, a2, b2⟩
theorem LS {v : Value} {x : DataW H × List MemPlace} (h : DataW.trod enc Tryz.prog w base spare held fuel 22 [v] = some x) : ∃ p : List Pt, Rep (R3 w) v (Cv p) ∧ (Rows.uptoBulk x.1 ≤ 1048576 → p.length ≤ 2000000 ∧ F5 p) :=
 Gd (fun _ _ _ _ hk => RD _ (Nat.le_refl _) hk) h
end
end Go.Proofs.YtnfjgphfaemjcaaGreatDoor

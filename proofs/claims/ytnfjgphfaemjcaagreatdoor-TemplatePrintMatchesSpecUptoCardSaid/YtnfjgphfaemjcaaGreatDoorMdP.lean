/- Templates: the reference's text of one, part by part; no condition. -/
import Derived.Test.YtnfjgphfaemjcaaGreatDoorMgH
import Derived.Test.YtnfjgphfaemjcaaGreatDoorMdO
import Derived.Test.YtnfjgphfaemjcaaGreatDoorMgI
import Derived.Test.YtnfjgphfaemjcaaGreatDoorMgF
import Derived.WalkKit
import Derived.Lib.Hide
import Derived.Lib.AppendZeros
import Derived.Lib.AppendZerosOnto
import Derived.Test.YtnfjgphfaemjcaaGreatDoorMdN
import Derived.Test.YtnfjgphfaemjcaaGreatDoorAdE
import Derived.Test.YtnfjgphfaemjcaaGreatDoorMgK
import Derived.Test.YtnfjgphfaemjcaaGreatDoorMdL
import Derived.ProofKit
import Derived.OpenShut
import Derived.LaidLaws
import Derived.Deep.DeepHandedRow
import Derived.Deep.DeepWitnessRowRef
import Derived.Lib.LaidTab
import Derived.Lib.LaidU8
import Derived.MakeChecks
import Derived.Lay
set_option linter.all false
set_option linter.unusedSimpArgs false
set_option linter.unusedVariables false
set_option maxHeartbeats 8000000
namespace Go.Proofs.YtnfjgphfaemjcaaGreatDoor
attribute [local simp] Jw E1 Dy JJ KF KK JB Dz E3 G3 Fv JL J3 JF Jr JK II Hu I5 JD K0 Jt JU KQ JC PM pe KD JH Iw Ka KN Jv K9 JQ JO KR Kc Jh KT Ft OG N9 OS NT Nu OV Na Mt OJ N3 O9 NV OF ND NN Mz MW OU NP OB N8 FZ Nn Fa Oh MY Mw N7 N4 Mv Oa OC OA O5 NH Nq OQ NG MU MX Md Oc Nz Ml Ns Mo Nf Mg Od Fj OX NI Nk Nh O3 NF OM Nm NU Nt MZ Mx Mq Ob Nj Mc Nw Of Mm JG Jz Je KU KA J9 Kf K8 Iy Ke Ix HO Jy List.mem_cons guardK DT Dv EA Fx Nc FQ FV Fo Fr Fh Fk Fd Ff FW NM Nx FX JS N2 Oe Oi Ng NY FM J0 Mi NS JE Ju Nd Hj FO FT FN Fb NW Nr Fq NE FP Jx FU FS Jo Fm Fu Ma NA OD KH Nb Mn Kh K7 Qs I7 IK GD I0 IT IF Dc FF Ep Jb Ei Ez Df DS Sq IV I6 FJ IW I8 DL D6 BU BR CJ D7 D4 ev get put Di AG DG JR KI JI KV IQ J2 Dr part Az G6 K6 FY isNil Ci Cw DK Cx CQ Jf K5 JY Kj KO KZ Jj Iz KB Ki KG KL JT Jp J8 JV AV.fits AV.cells ones AV.one DX Bm DZ D1 Dg Du KP EH EQ CM Bk Cn Fc DM Ay BG Sx G0 Jn Iu List.getElem?_cons_zero List.getElem?_cons_succ FL Fp Fg J6 K3 J4 G7 J5 Jl Jc Kb KE Ja KX Mr Jg Jd Jm Ji JA JP J7 Jk Kg J1 KY K4 Iv JM JZ Jq K2 KJ JX Kd
theorem Sg (fs : List (AM × Int)) (hf : ∀ f ∈ fs, f.1.length ≤ 24 ∧ 0 ≤ f.2 ∧ f.2 ≤ 200) (hfl : fs.length ≤ 8) (g n : Nat) (H : A3) (k : Int) (t nm : AM) (vp vb ve : AV) (hg : H g = some (.cells 55 [aI k, .str t, .str nm, vp, Ea fs, vb, ve])) (acc : AM) (hacc : acc.length ≤ 950000000) (v0 v4 : AV) (Q : AExit → AS → Prop)
  (hQ : Q (.exit 4) ⟨[(0, v0), (3, .str (acc ++ fs.flatMap Ky)), (4, v4), (5, .ptr g 0), (8, aI fs.length), (76, .bool false)], n, H⟩) :
  LoopK (fun Q s => aw Tryz.prog c15_L9 Q s) Q ⟨[(0, v0), (3, .str acc), (4, v4), (5, .ptr g 0), (8, aI 0)], n, H⟩ := by
 
 refine LoopK.go (fun m st => ∃ (j : Nat), j + m = fs.length ∧ st = ⟨[(0, v0), (3, .str (acc ++ (fs.take j).flatMap Ky)), (4, v4), (5, .ptr g 0), (8, aI j)], n, H⟩) fs.length ⟨0, by omega, by simp⟩ ?_
 rintro m st ⟨j, hjm, rfl⟩ J hJ
 by_cases hj : j < fs.length
 ·obtain ⟨x, hx⟩ : ∃ x, fs[j]? = some x := ⟨_, List.getElem?_eq_getElem hj⟩
  have hx2 := NO hx
  have hj' : (j : Int) < fs.length := by omega
  have htk := Rg hx
  obtain ⟨f1, f2, f3⟩ := hf x (List.mem_of_getElem? hx)
  have hk3 := HR x.1
  have hfk := Re x.1
  have hln := Er (fs.take j) fun y hy => hf y (List.mem_of_mem_take hy)
  have hl8 : (fs.take j).length ≤ 8 := by simp; omega
  obtain ⟨a, b⟩ := x
  simp only at f1 f2 f3 hk3 htk hfk
  have hi := IL b (by omega)
  have hil := Ks (n := b) (by omega)
  have e0 : Ky (a, b) = 124 :: a ++ if HV a = 2 then 32 :: Lib.itoa b else [] := rfl
  rw [e0] at htk
  clear e0
  have hfr : ((fs.take j).flatMap Ky).length ≤ 300 := by omega
  generalize (fs.take j).flatMap Ky = fl at *
  generalize Lib.itoa b = ib at *
  generalize HV a = c at *
  have hcn : (acc ++ fl).length ≤ 950000300 := by simp; omega
  have e1 : acc ++ (fl ++ (124 :: a ++ if c = 2 then 32 :: ib else [])) = (acc ++ fl) ++ (124 :: a) ++ if c = 2 then 32 :: ib else [] := by simp
  generalize acc ++ fl = ac2 at *
  by_cases hc2 : c = 2
  ·subst hc2
   simp only [if_true] at htk e1
   repeat' (first | (simp -implicitDefEqProofs [B5, B3, B4, B8, B9, B6, B7, BA, B0, Ac, Ab, Ad, AZ, Ag, Ah, Ae, Ai, Aa, c15, -getElem?_pos, hg, hx2, hj']) | (simp (disch := omega) only [AF]) | ((with_reducible refine AH 37 ?_); (refine' CallP.sf ?_ (hfk) ?_); (focus first | (with_reducible exact A0 _) | (simp [AA, A9, A1, A0]; done))) | ((with_reducible refine AH 38 ?_); (refine' CallP.sf ?_ (hi) ?_); (focus first | (with_reducible exact A0 _) | (simp [AA, A9, A1, A0]; done))) | (with_reducible first | refine A6 ?_ ?_ ?_ | exact AC | refine SameB.upd ?_ ?_ _ | assumption | refine A2 ?_ | refine KM.of ?_ | refine AE ?_ | refine A5 ?_ | refine A8 ?_ | intro _g _hg | refine AD ?_ ?_ | intro _hc) | omega)
   all_goals exact hJ (m - 1) _ (by omega) ⟨j + 1, by omega, by rw [htk, e1]; simp⟩
  ·simp only [if_neg hc2, List.append_nil] at htk e1
   have hc2' : ¬ ((c : Int) = 2) := by omega
   repeat' (first | (simp -implicitDefEqProofs [B5, B3, B4, B8, B9, B6, B7, BA, B0, Ac, Ab, Ad, AZ, Ag, Ah, Ae, Ai, Aa, c15, -getElem?_pos, hg, hx2, hj', hc2, hc2']) | (simp (disch := omega) only [AF]) | ((with_reducible refine AH 37 ?_); (refine' CallP.sf ?_ (hfk) ?_); (focus first | (with_reducible exact A0 _) | (simp [AA, A9, A1, A0]; done))) | ((with_reducible refine AH 38 ?_); (refine' CallP.sf ?_ (hi) ?_); (focus first | (with_reducible exact A0 _) | (simp [AA, A9, A1, A0]; done))) | (with_reducible first | refine A6 ?_ ?_ ?_ | exact AC | refine SameB.upd ?_ ?_ _ | assumption | refine A2 ?_ | refine KM.of ?_ | refine AE ?_ | refine A5 ?_ | refine A8 ?_ | intro _g _hg | refine AD ?_ ?_ | intro _hc) | omega)
   all_goals exact hJ (m - 1) _ (by omega) ⟨j + 1, by omega, by rw [htk, e1]; simp⟩
 ·have hj0 : j = fs.length := by omega
  subst hj0
  have hj' : ¬ (fs.length : Int) < fs.length := by omega
  rw [List.take_length]
  repeat' (first | (simp -implicitDefEqProofs [B5, B3, B4, B8, B9, B6, B7, BA, B0, Ac, Ab, Ad, AZ, Ag, Ah, Ae, Ai, Aa, c15, -getElem?_pos, hg, hj', hQ]) | (simp (disch := omega) only [AF]) | (with_reducible first | refine A6 ?_ ?_ ?_ | exact AC | refine SameB.upd ?_ ?_ _ | assumption | refine A2 ?_ | refine KM.of ?_ | refine AE ?_ | refine A5 ?_ | refine A8 ?_ | intro _g _hg | refine AD ?_ ?_ | intro _hc) | omega)
  all_goals exact hQ
structure PrC (x : Pt) (k : Int) (t nm : AM) (pa : List AM) (fs : List (AM × Int)) (eb ee : List AV) : Prop where
 q1 : t.length ≤ 1048576
 q3 : nm.length ≤ 24
 q4 : pa.length ≤ 8
 q5 : ∀ s ∈ pa, s.length ≤ 24
 q6 : fs.length ≤ 8
 q7 : ∀ f ∈ fs, f.1.length ≤ 24 ∧ 0 ≤ f.2 ∧ f.2 ≤ 200
 tb : APure Tryz.prog 15 [.sl 7 eb .ro] (.str (CL x.b))
 te : APure Tryz.prog 15 [.sl 7 ee .ro] (.str (CL x.e))
 le : ee.length = x.e.length
 lb : (CL x.b).length ≤ 900000000
 le2 : (CL x.e).length ≤ 900000000
set_option maxRecDepth 20000 in
theorem Ux (l : List Pt) (hl : l.length ≤ 2000000) (hlen : (CL l).length ≤ 900000000) (hp : ∀ x ∈ l, ∃ k t nm pa fs eb ee b e, x = .mk k t nm pa fs b e ∧ Dw x = .agg [aI k, .str t, .str nm, Gp pa, Ea fs, .sl 7 eb .ro, .sl 7 ee .ro] ∧ PrC x k t nm pa fs eb ee) : APure Tryz.prog 15 [Dx l] (.str (CL l)) := by
 have hel := BY l
 obtain ⟨z, hz⟩ : ∃ z, CL l = z := ⟨_, rfl⟩
 rw [hz]
 refine A7 Tryz.func15 XV rfl fun n H hH => ?_
 repeat' (first | (simp -implicitDefEqProofs [c15, -getElem?_pos, hel]) | (simp (disch := omega) only [AF]) | (with_reducible first | refine A6 ?_ ?_ ?_ | exact AC | assumption | refine A2 ?_ | refine KM.of ?_ | refine AE ?_ | refine A5 ?_ | refine A8 ?_ | intro _g _hg | refine AD ?_ ?_ | intro _hc) | omega)
 refine LoopK.go (fun m st => ∃ (i n2 : Nat) (H2 : A3), i + m = l.length ∧ st = ⟨[(0, Dx l), (3, .str (CL (l.take i))), (4, aI i)], n2, H2⟩ ∧ n ≤ n2 ∧ SameB n H H2 ∧ ∀ q, n2 ≤ q → H2 q = none) l.length ⟨0, _, _, by omega, rfl, Nat.le_refl _, SameB.rfl_ n H, hH⟩ ?_
 rintro m st ⟨i, n2, H2, him, rfl, hn2, hS, hsup⟩ J hJ
 by_cases hi : i < l.length
 ·obtain ⟨x, hx⟩ : ∃ x, l[i]? = some x := ⟨_, List.getElem?_eq_getElem hi⟩
  have hx2 := F7 hx
  have hi' : (i : Int) < l.length := by omega
  have htk := Ps hx
  have hle1 := Mp l i
  have hle2 := Mp l (i + 1)
  rw [htk] at hle2
  obtain ⟨k, t, nm, pa, fs, eb, ee, b, e, rfl, hxe, C⟩ := hp x (List.mem_of_getElem? hx)
  rw [hxe] at hx2
  obtain ⟨q1, q3, q4, q5, q6, q7, tb, te, le, lb, le2⟩ := C
  have e0 : UV (.mk k t nm pa fs b e) = if k = 1 then D5 t else if k = 2 then opS ++ PH pa ++ fs.flatMap Ky ++ Li else (if k = 3 then Vy ++ PH pa ++ Li else Ib ++ nm ++ Vg ++ PH pa ++ Li) ++ CL b ++ (if e = [] then [] else Is ++ CL e) ++ JW := by rw [UV]
  rw [e0] at htk hle2
  have hj := Uy pa [46] (by omega) (by simp) (by have := LH q4 q5; unfold PH at this; omega) (fun s hs => by have := q5 s hs; omega)
  have hwl := LH q4 q5
  have hrl := G8 t
  change APure _ _ [Gp pa, .str [46]] (.str (PH pa)) at hj
  change APure _ _ _ (.str (CL b)) at tb
  change APure _ _ _ (.str (CL e)) at te
  change ee.length = e.length at le
  change (CL b).length ≤ _ at lb
  change (CL e).length ≤ _ at le2
  clear e0 hxe hx hp
  generalize CL (l.take i) = ac at *
  generalize PH pa = wh at *
  generalize CL b = xb at *
  generalize CL e = xe at *
  have hac : ac.length ≤ 900000000 := by omega
  clear hle1
  have fin : ∀ n3 H3 g ac2, ac2 = CL (l.take (i + 1)) → n2 ≤ g → g < n3 → H3 = upd (upd H2 g (some (.cells 55 [.int .i64 0, .str [], .str [], .sl 0 [] .nil, .sl 0 [] .nil, .sl 0 [] .nil, .sl 0 [] .nil]))) g (some (.cells 55 [aI k, .str t, .str nm, Gp pa, Ea fs, .sl 7 eb .ro, .sl 7 ee .ro])) → J ⟨[(0, Dx l), (3, .str ac2), (4, aI ((i : Int) + 1))], n3, H3⟩ := by
   rintro n3 H3 g ac2 rfl h1 h2 rfl
   exact hJ (m - 1) _ (by omega) ⟨i + 1, n3, _, by omega, rfl, by omega, (hS.upd (by omega) _).upd (by omega) _, fun q hq => by rw [upd_ne (by omega), upd_ne (by omega)]; exact hsup q (by omega)⟩
  by_cases k1 : k = 1
  ·rw [if_pos k1] at htk hle2
   subst k1
   repeat' (first | (simp -implicitDefEqProofs [B5, B3, B4, B8, B9, B6, B7, BA, B0, Ac, Ab, Ad, AZ, Ag, Ah, Ae, Ai, Aa, c15, -getElem?_pos, splice, hel, hx2, hi']) | (simp (disch := omega) only [AF]) | ((with_reducible refine AH 36 ?_); (refine' CallP.sf ?_ (hj) ?_); (focus first | (with_reducible exact A0 _) | (simp [AA, A9, A1, A0]; done))) | (with_reducible first | refine A6 ?_ ?_ ?_ | exact AC | assumption | refine A2 ?_ | refine KM.of ?_ | refine AE ?_ | refine A5 ?_ | refine A8 ?_ | intro _g _hg | refine AD ?_ ?_ | intro _hc) | omega)
   refine TE _ _ 0 _ 1 t nm _ _ _ _ (Ay _ _ _) q1 ac (by omega) _ _ _ ?_
   generalize D5 t = rt at *
   repeat' (first | (simp -implicitDefEqProofs [B5, B3, B4, B8, B9, B6, B7, BA, B0, Ac, Ab, Ad, AZ, Ag, Ah, Ae, Ai, Aa, c15, -getElem?_pos, splice, hel]) | (simp (disch := omega) only [AF]) | (with_reducible first | refine A6 ?_ ?_ ?_ | exact AC | assumption | refine A2 ?_ | refine KM.of ?_ | refine AE ?_ | refine A5 ?_ | refine A8 ?_ | intro _g _hg | refine AD ?_ ?_ | intro _hc) | omega)
   all_goals exact fin _ _ _ _ htk.symm (by assumption) (by omega) rfl
  ·rw [if_neg k1] at htk hle2
   by_cases k2 : k = 2
   ·rw [if_pos k2] at htk hle2
    subst k2
    repeat' (first | (simp -implicitDefEqProofs [B5, B3, B4, B8, B9, B6, B7, BA, B0, Ac, Ab, Ad, AZ, Ag, Ah, Ae, Ai, Aa, c15, -getElem?_pos, splice, hel, hx2, hi']) | (simp (disch := omega) only [AF]) | ((with_reducible refine AH 36 ?_); (refine' CallP.sf ?_ (hj) ?_); (focus first | (with_reducible exact A0 _) | (simp [AA, A9, A1, A0]; done))) | (with_reducible first | refine A6 ?_ ?_ ?_ | exact AC | assumption | refine A2 ?_ | refine KM.of ?_ | refine AE ?_ | refine A5 ?_ | refine A8 ?_ | intro _g _hg | refine AD ?_ ?_ | intro _hc) | omega)
    refine Sg fs q7 q6 _ _ _ 2 t nm _ _ _ (Ay _ _ _) _ (by simp; omega) _ _ _ ?_
    have hfl := Er fs q7
    have hfl2 : fs.length * 30 ≤ 240 := by omega
    have hfl3 : (fs.flatMap Ky).length ≤ 240 := by omega
    generalize fs.flatMap Ky = ft at *
    repeat' (first | (simp -implicitDefEqProofs [B5, B3, B4, B8, B9, B6, B7, BA, B0, Ac, Ab, Ad, AZ, Ag, Ah, Ae, Ai, Aa, c15, -getElem?_pos, splice, hel]) | (simp (disch := omega) only [AF]) | (with_reducible first | refine A6 ?_ ?_ ?_ | exact AC | assumption | refine A2 ?_ | refine KM.of ?_ | refine AE ?_ | refine A5 ?_ | refine A8 ?_ | intro _g _hg | refine AD ?_ ?_ | intro _hc) | omega)
    all_goals exact fin _ _ _ _ (by rw [htk]; simp [opS, Li]) (by assumption) (by omega) rfl
   ·rw [if_neg k2] at htk hle2
    by_cases he0 : e = []
    ·have hee : ee = [] := by
      rw [he0] at le; exact List.length_eq_zero_iff.1 le
     rw [if_pos he0] at htk hle2
     subst hee
     by_cases k3 : k = 3
     ·rw [if_pos k3] at htk hle2
      subst k3
      repeat' (first | (simp -implicitDefEqProofs [B5, B3, B4, B8, B9, B6, B7, BA, B0, Ac, Ab, Ad, AZ, Ag, Ah, Ae, Ai, Aa, c15, -getElem?_pos, splice, hel, hx2, hi']) | (simp (disch := omega) only [AF]) | ((with_reducible refine AH 36 ?_); (refine' CallP.sf ?_ (hj) ?_); (focus first | (with_reducible exact A0 _) | (simp [AA, A9, A1, A0]; done))) | ((with_reducible refine AH 15 ?_); (refine' CallP.sf ?_ (tb) ?_); (focus first | (with_reducible exact A0 _) | (simp [AA, A9, A1, A0]; done))) | (with_reducible first | refine A6 ?_ ?_ ?_ | exact AC | assumption | refine A2 ?_ | refine KM.of ?_ | refine AE ?_ | refine A5 ?_ | refine A8 ?_ | intro _g _hg | refine AD ?_ ?_ | intro _hc) | omega)
      all_goals exact fin _ _ _ _ (by rw [htk]; simp [Vy, Li, JW]) (by assumption) (by omega) rfl
     ·rw [if_neg k3] at htk hle2
      repeat' (first | (simp -implicitDefEqProofs [B5, B3, B4, B8, B9, B6, B7, BA, B0, Ac, Ab, Ad, AZ, Ag, Ah, Ae, Ai, Aa, c15, -getElem?_pos, splice, hel, hx2, hi', k1, k2, k3]) | (simp (disch := omega) only [AF]) | ((with_reducible refine AH 36 ?_); (refine' CallP.sf ?_ (hj) ?_); (focus first | (with_reducible exact A0 _) | (simp [AA, A9, A1, A0]; done))) | ((with_reducible refine AH 15 ?_); (refine' CallP.sf ?_ (tb) ?_); (focus first | (with_reducible exact A0 _) | (simp [AA, A9, A1, A0]; done))) | (with_reducible first | refine A6 ?_ ?_ ?_ | exact AC | assumption | refine A2 ?_ | refine KM.of ?_ | refine AE ?_ | refine A5 ?_ | refine A8 ?_ | intro _g _hg | refine AD ?_ ?_ | intro _hc) | omega)
      all_goals exact fin _ _ _ _ (by rw [htk]; simp [Ib, Vg, Li, JW]) (by assumption) (by omega) rfl
    ·have hel2 : (0 : Int) < ee.length := by
      have := List.length_pos_iff.2 he0
      omega
     have hel3 : ¬ ee = [] := by rintro rfl; simp at hel2
     rw [if_neg he0] at htk hle2
     by_cases k3 : k = 3
     ·rw [if_pos k3] at htk hle2
      subst k3
      repeat' (first | (simp -implicitDefEqProofs [B5, B3, B4, B8, B9, B6, B7, BA, B0, Ac, Ab, Ad, AZ, Ag, Ah, Ae, Ai, Aa, c15, -getElem?_pos, splice, hel, hx2, hi', hel2, hel3]) | (simp (disch := omega) only [AF]) | ((with_reducible refine AH 36 ?_); (refine' CallP.sf ?_ (hj) ?_); (focus first | (with_reducible exact A0 _) | (simp [AA, A9, A1, A0]; done))) | ((with_reducible refine AH 15 ?_); (refine' CallP.sf ?_ (tb) ?_); (focus first | (with_reducible exact A0 _) | (simp [AA, A9, A1, A0]; done))) | ((with_reducible refine AH 15 ?_); (refine' CallP.sf ?_ (te) ?_); (focus first | (with_reducible exact A0 _) | (simp [AA, A9, A1, A0]; done))) | (with_reducible first | refine A6 ?_ ?_ ?_ | exact AC | assumption | refine A2 ?_ | refine KM.of ?_ | refine AE ?_ | refine A5 ?_ | refine A8 ?_ | intro _g _hg | refine AD ?_ ?_ | intro _hc) | omega)
      all_goals exact fin _ _ _ _ (by rw [htk]; simp [Vy, Li, JW, Is]) (by assumption) (by omega) rfl
     ·rw [if_neg k3] at htk hle2
      repeat' (first | (simp -implicitDefEqProofs [B5, B3, B4, B8, B9, B6, B7, BA, B0, Ac, Ab, Ad, AZ, Ag, Ah, Ae, Ai, Aa, c15, -getElem?_pos, splice, hel, hx2, hi', k1, k2, k3, hel2, hel3]) | (simp (disch := omega) only [AF]) | ((with_reducible refine AH 36 ?_); (refine' CallP.sf ?_ (hj) ?_); (focus first | (with_reducible exact A0 _) | (simp [AA, A9, A1, A0]; done))) | ((with_reducible refine AH 15 ?_); (refine' CallP.sf ?_ (tb) ?_); (focus first | (with_reducible exact A0 _) | (simp [AA, A9, A1, A0]; done))) | ((with_reducible refine AH 15 ?_); (refine' CallP.sf ?_ (te) ?_); (focus first | (with_reducible exact A0 _) | (simp [AA, A9, A1, A0]; done))) | (with_reducible first | refine A6 ?_ ?_ ?_ | exact AC | assumption | refine A2 ?_ | refine KM.of ?_ | refine AE ?_ | refine A5 ?_ | refine A8 ?_ | intro _g _hg | refine AD ?_ ?_ | intro _hc) | omega)
      all_goals exact fin _ _ _ _ (by rw [htk]; simp [Ib, Vg, Li, JW, Is]) (by assumption) (by omega) rfl
 ·have hi0 : i = l.length := by omega
  subst hi0
  have hi' : ¬ (l.length : Int) < l.length := by omega
  rw [List.take_length, hz]
  clear hp hJ
  repeat' (first | (simp -implicitDefEqProofs [B5, B3, B4, B8, B9, B6, B7, BA, B0, Ac, Ab, Ad, AZ, Ag, Ah, Ae, Ai, Aa, c15, -getElem?_pos, hel, hi']) | (simp (disch := omega) only [AF]) | (with_reducible first | refine A6 ?_ ?_ ?_ | exact AC | assumption | refine A2 ?_ | refine KM.of ?_ | refine AE ?_ | refine A5 ?_ | refine A8 ?_ | intro _g _hg | refine AD ?_ ?_ | intro _hc) | omega)
  all_goals first | exact A1 _ | exact hn2 | exact hS
theorem Kv {l : List Pt} (ho : Gt l) (hs : AW l ≤ 200) (hp : ∀ x ∈ l, MJ x → CH x ≤ 201 → APure Tryz.prog 15 [.sl 7 (AN x.b) .ro] (.str (CL x.b)) ∧ APure Tryz.prog 15 [.sl 7 (AN x.e) .ro] (.str (CL x.e))) : APure Tryz.prog 15 [Dx l] (.str (CL l)) := by
 have hlen := EG l
 have htl := EV l ho
 refine Ux l (by omega) (by omega) fun x hx => ?_
 have hox := L3 ho hx
 have hsx := FG hx
 obtain ⟨hb, he⟩ := hp x hx hox (by omega)
 obtain ⟨k, t, nm, pa, fs, b, e⟩ := x
 have ho' := hox
 simp only [MJ] at ho'
 obtain ⟨h1, h2, h3, h4, h5, h6, h7, h8, h9⟩ := ho'
 unfold CH at hsx
 have lb := EV b h8
 have le := EV e h9
 exact ⟨k, t, nm, pa, fs, AN b, AN e, b, e, rfl, CO _ _ _ _ _ _ _, h1, h3, h4, h5, h6, h7, hb, he, BY e, by show (CL b).length ≤ _; omega, by show (CL e).length ≤ _; omega⟩
theorem VL (p : Pt) : MJ p → CH p ≤ 201 → APure Tryz.prog 15 [.sl 7 (AN p.b) .ro] (.str (CL p.b)) ∧ APure Tryz.prog 15 [.sl 7 (AN p.e) .ro] (.str (CL p.e)) := by
 refine Pt.ind (Q := fun p => MJ p → CH p ≤ 201 → APure Tryz.prog 15 [.sl 7 (AN p.b) .ro] (.str (CL p.b)) ∧ APure Tryz.prog 15 [.sl 7 (AN p.e) .ro] (.str (CL p.e))) ?_ p
 intro k t nm pa fs b e hb he ho hs
 simp only [MJ] at ho
 obtain ⟨_, _, _, _, _, _, _, ob, oe⟩ := ho
 unfold CH at hs
 exact ⟨Kv (l := b) ob (by omega) hb, Kv (l := e) oe (by omega) he⟩
theorem Ru (l : List Pt) (ho : Gt l) (hs : AW l ≤ 200) : APure Tryz.prog 15 [Dx l] (.str (CL l)) := Kv ho hs fun x _ hx hs => VL x hx hs
theorem WP (l : List Pt) (hl : l.length ≤ 2000000) (hs : Ec l) : APure Tryz.prog 12 [Dx l] (aF (ER l)) := by
 have hp : APure Tryz.prog 32 [Dx l, aI 0, aI 0] (.tup [aI ((BC 0 0 0 l).1 : Nat), aI (BC 0 0 0 l).2]) := Xb l hl hs 0 0 (by omega) (by omega)
 have e0 : ER l = if (BC 0 0 0 l).2 ≠ 0 then ((BC 0 0 0 l).2, ((BC 0 0 0 l).1 : Int)) else if 4000 < (CL l).length then (14, -1) else (0, 0) := rfl
 by_cases h0 : (BC 0 0 0 l).2 = 0
 ·have htx := Ru l (I2 l 0 0 0 hs h0) (by have := EC l 0 0 0 (by omega) h0; omega)
  rw [if_neg (by simpa using h0)] at e0
  rw [e0]
  clear e0
  rw [h0] at hp
  generalize (BC 0 0 0 l).1 = x1 at *
  generalize CL l = tl at *
  by_cases h4 : 4000 < tl.length
  ·rw [if_pos h4]
   have h4' : (4000 : Int) < tl.length := by omega
   have ha := WG 14 (-1)
   refine A7 Tryz.func12 TJ rfl fun n H hH => ?_
   repeat' (first | (simp -implicitDefEqProofs [Hv, IN, c12, -getElem?_pos, splice, h4']) | (simp (disch := omega) only [AF]) | ((with_reducible refine AH 32 ?_); (refine' CallP.sf ?_ (hp) ?_); (focus first | (with_reducible exact A0 _) | (simp [AA, A9, A1, A0]; done))) | ((with_reducible refine AH 15 ?_); (refine' CallP.sf ?_ (htx) ?_); (focus first | (with_reducible exact A0 _) | (simp [AA, A9, A1, A0]; done))) | ((with_reducible refine AH 27 ?_); (refine' CallP.sf ?_ (ha) ?_); (focus first | (with_reducible exact A0 _) | (simp [AA, A9, A1, A0]; done))) | (with_reducible first | refine A6 ?_ ?_ ?_ | exact AC | refine SameB.upd ?_ ?_ _ | assumption | refine A2 ?_ | refine KM.of ?_ | refine AE ?_ | refine A5 ?_ | refine A8 ?_ | intro _g _hg | refine AD ?_ ?_ | intro _hc) | omega)
   all_goals exact A1 _
  ·rw [if_neg h4]
   have h4' : ¬ (4000 : Int) < tl.length := by omega
   have ha := WG 0 0
   refine A7 Tryz.func12 TJ rfl fun n H hH => ?_
   repeat' (first | (simp -implicitDefEqProofs [Hv, IN, c12, -getElem?_pos, splice, h4']) | (simp (disch := omega) only [AF]) | ((with_reducible refine AH 32 ?_); (refine' CallP.sf ?_ (hp) ?_); (focus first | (with_reducible exact A0 _) | (simp [AA, A9, A1, A0]; done))) | ((with_reducible refine AH 15 ?_); (refine' CallP.sf ?_ (htx) ?_); (focus first | (with_reducible exact A0 _) | (simp [AA, A9, A1, A0]; done))) | ((with_reducible refine AH 27 ?_); (refine' CallP.sf ?_ (ha) ?_); (focus first | (with_reducible exact A0 _) | (simp [AA, A9, A1, A0]; done))) | (with_reducible first | refine A6 ?_ ?_ ?_ | exact AC | refine SameB.upd ?_ ?_ _ | assumption | refine A2 ?_ | refine KM.of ?_ | refine AE ?_ | refine A5 ?_ | refine A8 ?_ | intro _g _hg | refine AD ?_ ?_ | intro _hc) | omega)
   all_goals exact A1 _
 ·rw [if_pos h0] at e0
  rw [e0]
  clear e0
  generalize (BC 0 0 0 l).1 = x1 at *
  generalize (BC 0 0 0 l).2 = x2 at *
  have ha := WG x2 x1
  refine A7 Tryz.func12 TJ rfl fun n H hH => ?_
  repeat' (first | (simp -implicitDefEqProofs [Hv, IN, c12, -getElem?_pos, splice, h0]) | (simp (disch := omega) only [AF]) | ((with_reducible refine AH 32 ?_); (refine' CallP.sf ?_ (hp) ?_); (focus first | (with_reducible exact A0 _) | (simp [AA, A9, A1, A0]; done))) | ((with_reducible refine AH 27 ?_); (refine' CallP.sf ?_ (ha) ?_); (focus first | (with_reducible exact A0 _) | (simp [AA, A9, A1, A0]; done))) | (with_reducible first | refine A6 ?_ ?_ ?_ | exact AC | refine SameB.upd ?_ ?_ _ | assumption | refine A2 ?_ | refine KM.of ?_ | refine AE ?_ | refine A5 ?_ | refine A8 ?_ | intro _g _hg | refine AD ?_ ?_ | intro _hc) | omega)
  all_goals exact A1 _
open Go.RowKit
theorem UL : ∃ i z, Tryz.prog.info? 55 = some i ∧ i.zero = some z ∧ z.cells.size = 7 ∧ i.size = 7 ∧ i.bytes = 136 := by
 have h : ((Tryz.prog.info? 55).bind fun i => i.zero.map fun z => (z.cells.size, i.size, i.bytes)) = some (7, 7, 136) := by kernel_rfl
 cases hi : Tryz.prog.info? 55 with
 | none => rw [hi] at h; cases h
 | some i =>
  rw [hi] at h
  simp only [Option.bind_some] at h
  cases hz : i.zero with
  | none => rw [hz] at h; cases h
  | some z =>
   rw [hz] at h
   simp only [Option.map_some, Option.some.injEq, Prod.mk.injEq] at h
   exact ⟨i, z, rfl, hz, h⟩
set_option maxRecDepth 100000 in
theorem Wm (k : Nat) (w : World) (h0 : 0 < k) (hm : k ≤ 4000000) : ∃ (cs : Array Value) (cp : Nat), k ≤ cp ∧ cp ≤ maxLen ∧ cs.size = cp * 7 ∧
  Calls Tryz.prog 162 #[.slice none 0 0, .int .i64 k] w fun e w' => e = .returned (.slice (some ⟨w.heap.size, 0, none⟩) 0 cp) ∧ w' = w.drew.alloc (.cells cs 55) := by
 obtain ⟨i0, zv, hi, hz0, hzc, hz1, hz2⟩ := UL
 have hrun := fun (w : World) (ty : TypeId) => Lib.run_append_grow_zeros (P := Tryz.prog) w 22 3 ty 55 i0 _ .i64 .i64 Tryz.underlying22 Tryz.underlying3 hi hz0 none 0 0 [] (by exact run_firstCells_none w.drew i0.size 0 0 0) k (by omega) (by omega) (by omega) (by omega) (by rw [hz2]; omega) (by rw [hz2]; exact growslice_fits (by omega) (by omega))
 have hge := grownCap_ge w (0 + k) 0 55
 have hle := grownCap_le_maxLen w (0 + k) 0 55 (by simp only [maxLen]; omega)
 obtain ⟨cp, hcp⟩ : ∃ cp, cp = grownCap w (0 + k) 0 55 := ⟨_, rfl⟩
 have hrun' := fun ty => hrun w ty
 rw [← hcp] at hge hle
 simp only [← hcp] at hrun'
 simp only [Nat.zero_add] at hge hle hrun'
 obtain ⟨cs, hcs⟩ : ∃ cs : Array Value, cs = #[] ++ Builtin.zeroCells zv.cells k ++ Builtin.zeroCells zv.cells (cp - k) := ⟨_, rfl⟩
 simp only [← hcs] at hrun'
 have hsz : cs.size = cp * 7 := by
  rw [hcs]; simp [size_zeroCells, hzc]; omega
 refine ⟨cs, cp, hge, hle, hsz, ?_⟩
 clear hrun hcs hsz hge hle hcp
 have hn1 : ¬ ((k : Int) < 0) := by omega
 have hn2 : (0 : Int) < (k : Int) := by omega
 have b1 : 0 ≤ cp := Nat.zero_le _
 have HRun := Lib.hid hrun'
 clear hrun'
 go_enter Tryz.func162, Tryz.ntmps162
 go_wp2_with (at_builtin; refine Lib.wpList_append_run _ rfl _ _ 22 3 rfl _ _ rfl rfl _ _ (HRun.out _) ?_)
 go_ret
 exact ⟨rfl, rfl⟩
theorem Wf (n : Nat) (H : A3) : ACalls Tryz.prog 162 [.sl 0 [] .nil, .int .i64 0] n H fun r n' H' => r = .sl 0 [] .nil ∧ n' = n ∧ H' = H := by
 intro hs w0 G w vs hl hr0 hrep
 cases hrep with | cons h1 h2 =>
 cases h2 with | cons h2 h3 =>
 cases h3
 cases h1
 cases h2
 have key : Calls Tryz.prog 162 #[.slice none 0 0, .int .i64 0] w fun e w' => e = .returned (.slice none 0 0) ∧ w' = w := by
  go_enter Tryz.func162, Tryz.ntmps162
  go_wp2
  go_ret
  exact ⟨rfl, rfl⟩
 refine key.mono ?_
 rintro e w' ⟨rfl, rfl⟩
 exact ⟨_, _, G, n, H, rfl, ⟨rfl, rfl, rfl⟩, .slnil, Gh.Le.rfl_ _, Nat.le_refl _, hr0⟩
theorem WI (k : Nat) (h0 : 0 < k) (hm : k ≤ 4000000) (n : Nat) (H : A3) : ACalls Tryz.prog 162 [.sl 0 [] .nil, .int .i64 k] n H fun r n' H' => ∃ g, n ≤ g ∧ r = .sl 7 [] (.own g) ∧ n' = g + 1 ∧ H' = upd H g (some (.row 55 0)) := by
 intro hs w0 G w vs hl hr0 hrep
 cases hrep with | cons h1 h2 =>
 cases h2 with | cons h2 h3 =>
 cases h3
 cases h1
 cases h2
 obtain ⟨cs, cp, c1, c2, c3, hc⟩ := Wm k w h0 hm
 refine hc.mono ?_
 rintro e w' ⟨rfl, rfl⟩
 have hsz7 : BB Tryz.prog 55 = 7 := by
  obtain ⟨i0, zv, hi, hz0, hzc, hz1, hz2⟩ := UL
  simp [BB, hi, hz1]
 have hrel := (hr0.same (w' := w.drew) rfl rfl rfl rfl).newRow (w' := w.drew.alloc (.cells cs 55)) (cur := cs) (e := 55) (fz := (0, 0)) (vs := []) (c := some (55, cp)) (ob := some (.row 55 0)) rfl rfl rfl rfl
  (fun j u hu => by cases hu) (fun e' c' hc => by injection hc with hc; injection hc with a b; subst a; subst b; exact ⟨rfl, by rw [hsz7]; exact c3⟩)
  (.inr ⟨0, _, rfl, rfl, by simp, Nat.zero_le _, c2, by simp⟩)
 have hle := (hr0.same (w' := w.drew) rfl rfl rfl rfl).addLe [] (some (55, cp))
 refine ⟨_, .sl 7 [] (.own w.heap.size), _, w.heap.size + 1, _, rfl, ⟨w.heap.size, hr0.hi, rfl, rfl, rfl⟩, ?_, hle, by have := hr0.hi; omega, hrel⟩
 exact .slown (e := 55) .nil (Gh.add_sealed _ _ _) ⟨by simp, c2, by omega, by simp, by simp [AL]⟩ rfl (by simp [Gh.add])
theorem T1 (eb ee : List AV) (hb : eb.length ≤ 1000000) (he : ee.length ≤ 1000000) (h0 : 0 < eb.length + ee.length) : APure Tryz.prog 123 [.sl 1 [.sl 7 eb .ro, .sl 7 ee .ro] .ro] (.sl 7 (eb ++ ee) .ro) := by
 have hgr := WI (eb.length + ee.length) h0 (by omega)
 have hcast : ((eb.length + ee.length : Nat) : Int) = (eb.length : Int) + ee.length := by omega
 rw [hcast] at hgr
 have h1 : ¬ ((0 : Int) + eb.length < 0) := by omega
 have h2 : ¬ ((eb.length : Int) + ee.length < 0) := by omega
 have h3 : ¬ ((eb.length : Int) < 0) := by omega
 refine A7 Tryz.func123 Tf rfl fun n H hH => ?_
 repeat' (first | (simp -implicitDefEqProofs [c123, -getElem?_pos]) | (simp (disch := omega) only [AF]) | (with_reducible first | refine A6 ?_ ?_ ?_ | exact AC | assumption | refine A2 ?_ | refine KM.of ?_ | refine AE ?_ | intro _g _hg | refine AD ?_ ?_ | intro _hc) | omega)
 refine LoopK.round ?_
 repeat' (first | (simp -implicitDefEqProofs [An, Ak, Ar, Al, Am, Ap, Aq, Ao, c123, -getElem?_pos, h1, h2, h3]) | (simp (disch := omega) only [AF]) | (with_reducible first | refine A6 ?_ ?_ ?_ | exact AC | assumption | refine A2 ?_ | refine KM.of ?_ | refine AE ?_ | intro _g _hg | refine AD ?_ ?_ | intro _hc) | omega)
 refine LoopK.round ?_
 repeat' (first | (simp -implicitDefEqProofs [An, Ak, Ar, Al, Am, Ap, Aq, Ao, c123, -getElem?_pos, h1, h2, h3]) | (simp (disch := omega) only [AF]) | (with_reducible first | refine A6 ?_ ?_ ?_ | exact AC | assumption | refine A2 ?_ | refine KM.of ?_ | refine AE ?_ | intro _g _hg | refine AD ?_ ?_ | intro _hc) | omega)
 refine LoopK.round ?_
 repeat' (first | (simp -implicitDefEqProofs [An, Ak, Ar, Al, Am, Ap, Aq, Ao, c123, -getElem?_pos, h1, h2, h3]) | (simp (disch := omega) only [AF]) | ((with_reducible refine Bj 162 ?_); refine ⟨_, hgr _ _, ?_⟩; rintro r n' H' hn hs ⟨gg, hg, rfl, rfl, rfl⟩) | (with_reducible first | refine A6 ?_ ?_ ?_ | exact AC | assumption | refine A2 ?_ | refine KM.of ?_ | refine AE ?_ | intro _g _hg | refine AD ?_ ?_ | intro _hc) | omega)
 refine LoopK.round ?_
 repeat' (first | (simp -implicitDefEqProofs [An, Ak, Ar, Al, Am, Ap, Aq, Ao, c123, -getElem?_pos, h1, h2, h3]) | (simp (disch := omega) only [AF]) | (with_reducible first | refine A6 ?_ ?_ ?_ | exact AC | assumption | refine A2 ?_ | refine KM.of ?_ | refine AE ?_ | intro _g _hg | refine AD ?_ ?_ | intro _hc) | omega)
 refine ⟨.inl rfl, eb, A0 _, by simp only [List.length_nil]; omega, by simp only [List.length_nil, maxLen]; omega, rfl, Ay _ _ _, fun g1 n1 q1 q2 q3 => ?_⟩
 simp only [List.nil_append, List.length_nil, Nat.zero_add]
 repeat' (first | (simp -implicitDefEqProofs [An, Ak, Ar, Al, Am, Ap, Aq, Ao, c123, -getElem?_pos, h1, h2, h3]) | (simp (disch := omega) only [AF]) | (with_reducible first | refine A6 ?_ ?_ ?_ | exact AC | assumption | refine A2 ?_ | refine KM.of ?_ | refine AE ?_ | intro _g _hg | refine AD ?_ ?_ | intro _hc) | omega)
 refine LoopK.round ?_
 repeat' (first | (simp -implicitDefEqProofs [An, Ak, Ar, Al, Am, Ap, Aq, Ao, c123, -getElem?_pos, h1, h2, h3]) | (simp (disch := omega) only [AF]) | (with_reducible first | refine A6 ?_ ?_ ?_ | exact AC | assumption | refine A2 ?_ | refine KM.of ?_ | refine AE ?_ | intro _g _hg | refine AD ?_ ?_ | intro _hc) | omega)
 refine ⟨.inl rfl, ee, A0 _, by omega, by simp only [maxLen]; omega, rfl, Ay _ _ _, fun g2 n2 q4 q5 q6 => ?_⟩
 repeat' (first | (simp -implicitDefEqProofs [An, Ak, Ar, Al, Am, Ap, Aq, Ao, c123, -getElem?_pos, h1, h2, h3]) | (simp (disch := omega) only [AF]) | (with_reducible first | refine A6 ?_ ?_ ?_ | exact AC | assumption | refine A2 ?_ | refine KM.of ?_ | refine AE ?_ | intro _g _hg | refine AD ?_ ?_ | intro _hc) | omega)
 refine LoopK.round ?_
 repeat' (first | (simp -implicitDefEqProofs [An, Ak, Ar, Al, Am, Ap, Aq, Ao, c123, -getElem?_pos, h1, h2, h3]) | (simp (disch := omega) only [AF]) | (with_reducible first | refine A6 ?_ ?_ ?_ | exact AC | assumption | refine A2 ?_ | refine KM.of ?_ | refine AE ?_ | intro _g _hg | refine AD ?_ ?_ | intro _hc) | omega)
 all_goals simp only at hg q1 q2 q4 q5
 ·exact ⟨7, _, _, rfl, .inl rfl, .inl rfl, A0 _⟩
 ·omega
 ·intro q hq
  simp (disch := omega) only [upd_ne]
theorem TT : APure Tryz.prog 123 [.sl 1 [.sl 7 [] .ro, .sl 7 [] .ro] .ro] (.sl 0 [] .ro) := by
 refine A7 Tryz.func123 Tf rfl fun n H hH => ?_
 repeat' (first | (simp -implicitDefEqProofs [c123, -getElem?_pos]) | (simp (disch := omega) only [AF]) | (with_reducible first | refine A6 ?_ ?_ ?_ | exact AC | assumption | refine A2 ?_ | refine KM.of ?_ | refine AE ?_ | intro _g _hg | refine AD ?_ ?_ | intro _hc) | omega)
 refine LoopK.round ?_
 repeat' (first | (simp -implicitDefEqProofs [An, Ak, Ar, Al, Am, Ap, Aq, Ao, c123, -getElem?_pos]) | (simp (disch := omega) only [AF]) | (with_reducible first | refine A6 ?_ ?_ ?_ | exact AC | assumption | refine A2 ?_ | refine KM.of ?_ | refine AE ?_ | intro _g _hg | refine AD ?_ ?_ | intro _hc) | omega)
 refine LoopK.round ?_
 repeat' (first | (simp -implicitDefEqProofs [An, Ak, Ar, Al, Am, Ap, Aq, Ao, c123, -getElem?_pos]) | (simp (disch := omega) only [AF]) | (with_reducible first | refine A6 ?_ ?_ ?_ | exact AC | assumption | refine A2 ?_ | refine KM.of ?_ | refine AE ?_ | intro _g _hg | refine AD ?_ ?_ | intro _hc) | omega)
 refine LoopK.round ?_
 repeat' (first | (simp -implicitDefEqProofs [An, Ak, Ar, Al, Am, Ap, Aq, Ao, c123, -getElem?_pos]) | (simp (disch := omega) only [AF]) | ((with_reducible refine Bj 162 ?_); refine ⟨_, Wf _ _, ?_⟩; rintro r n' H' hn hs ⟨rfl, rfl, rfl⟩) | (with_reducible first | refine A6 ?_ ?_ ?_ | exact AC | assumption | refine A2 ?_ | refine KM.of ?_ | refine AE ?_ | intro _g _hg | refine AD ?_ ?_ | intro _hc) | omega)
 refine LoopK.round ?_
 repeat' (first | (simp -implicitDefEqProofs [An, Ak, Ar, Al, Am, Ap, Aq, Ao, c123, -getElem?_pos]) | (simp (disch := omega) only [AF]) | (with_reducible first | refine A6 ?_ ?_ ?_ | exact AC | assumption | refine A2 ?_ | refine KM.of ?_ | refine AE ?_ | intro _g _hg | refine AD ?_ ?_ | intro _hc) | omega)
 refine ⟨.inr rfl, [], rfl, by simp, by simp [maxLen], fun _ => ?_, fun h => (h rfl).elim⟩
 repeat' (first | (simp -implicitDefEqProofs [An, Ak, Ar, Al, Am, Ap, Aq, Ao, c123, -getElem?_pos]) | (simp (disch := omega) only [AF]) | (with_reducible first | refine A6 ?_ ?_ ?_ | exact AC | assumption | refine A2 ?_ | refine KM.of ?_ | refine AE ?_ | intro _g _hg | refine AD ?_ ?_ | intro _hc) | omega)
 refine LoopK.round ?_
 repeat' (first | (simp -implicitDefEqProofs [An, Ak, Ar, Al, Am, Ap, Aq, Ao, c123, -getElem?_pos]) | (simp (disch := omega) only [AF]) | (with_reducible first | refine A6 ?_ ?_ ?_ | exact AC | assumption | refine A2 ?_ | refine KM.of ?_ | refine AE ?_ | intro _g _hg | refine AD ?_ ?_ | intro _hc) | omega)
 refine ⟨.inr rfl, [], rfl, by simp, by simp [maxLen], fun _ => ?_, fun h => (h rfl).elim⟩
 repeat' (first | (simp -implicitDefEqProofs [An, Ak, Ar, Al, Am, Ap, Aq, Ao, c123, -getElem?_pos]) | (simp (disch := omega) only [AF]) | (with_reducible first | refine A6 ?_ ?_ ?_ | exact AC | assumption | refine A2 ?_ | refine KM.of ?_ | refine AE ?_ | intro _g _hg | refine AD ?_ ?_ | intro _hc) | omega)
 refine LoopK.round ?_
 repeat' (first | (simp -implicitDefEqProofs [An, Ak, Ar, Al, Am, Ap, Aq, Ao, c123, -getElem?_pos]) | (simp (disch := omega) only [AF]) | (with_reducible first | refine A6 ?_ ?_ ?_ | exact AC | assumption | refine A2 ?_ | refine KM.of ?_ | refine AE ?_ | intro _g _hg | refine AD ?_ ?_ | intro _hc) | omega)
 all_goals exact ⟨0, _, _, rfl, .inl rfl, .inr ⟨rfl, rfl⟩, rfl⟩
theorem PP (x y : AV) (t : Tok) : AA [.sl 1 [x, y] t] [.sl 1 [x, y] .ro] := ⟨_, _, rfl, ⟨1, _, _, rfl, .inl rfl, .inl rfl, A0 _⟩, rfl⟩
def So (x : Pt) : Prop := APure Tryz.prog 80 [Dw x] (aI (CH x))
theorem Qg {l : List Pt} {i : Nat} {x : Pt} (h : l[i]? = some x) : AW (l.take (i + 1)) = AW (l.take i) + CH x := by
 rw [List.take_add_one, h, F3]
 simp [AW]
theorem TP (k : Int) (t nm : AM) (pa : List AM) (fs : List (AM × Int)) (b e : List Pt) (hs : AW b + AW e ≤ 1000000) (hp : ∀ x ∈ b ++ e, So x) : So (.mk k t nm pa fs b e) := by
 have hb := EG b
 have he := EG e
 unfold So
 rw [CO]
 have hlb := BY b
 have hle := BY e
 by_cases h0 : 0 < b.length + e.length
 ·have hc := T1 (AN b) (AN e) (by omega) (by omega) (by omega)
  rw [← Sm] at hc
  have hsz : CH (.mk k t nm pa fs b e) = 1 + AW (b ++ e) := by rw [F3]; unfold CH; omega
  rw [hsz]
  have hsm : AW (b ++ e) ≤ 1000000 := by rw [F3]; omega
  generalize b ++ e = l at *
  have hel := BY l
  generalize AN b = eb at *
  generalize AN e = ee at *
  have hll := EG l
  clear hsz hlb hle hb he h0 hs
  refine A7 Tryz.func80 Vl rfl fun n H hH => ?_
  repeat' (first | (simp -implicitDefEqProofs [c80, -getElem?_pos, hel]) | (simp (disch := omega) only [AF]) | ((with_reducible refine AH 123 ?_); refine ⟨_, _, hc, PP _ _ _, ?_⟩) | (with_reducible first | refine A6 ?_ ?_ ?_ | exact AC | assumption | refine A2 ?_ | refine KM.of ?_ | refine AE ?_ | refine A5 ?_ | refine Aw ?_ | refine A8 ?_ | refine BT ?_ | refine Av ?_ | intro _g _hg | refine AD ?_ ?_ | intro _hc) | omega)
  refine LoopK.go (fun m st => ∃ (i n2 : Nat) (H2 : A3), i + m = l.length ∧ st = ⟨[(3, aI ((1 + AW (l.take i) : Nat))), (11, .sl 7 (AN l) .ro), (12, aI l.length), (13, aI i)], n2, H2⟩ ∧ n ≤ n2 ∧ SameB n H H2 ∧ ∀ q, n2 ≤ q → H2 q = none) l.length ⟨0, _, _, by omega, by simp [AW]; exact ⟨rfl, rfl⟩, ?_, ?_, ?_⟩ ?_
  ·omega
  ·intro q hq
   simp (disch := omega) only [upd_ne]
  ·intro q hq
   simp (disch := omega) only [upd_ne]
   exact hH q (by omega)
  rintro m st ⟨i, n2, H2, him, rfl, hn2, hS, hsup⟩ J hJ
  by_cases hi : i < l.length
  ·obtain ⟨x, hx⟩ : ∃ x, l[i]? = some x := ⟨_, List.getElem?_eq_getElem hi⟩
   have hx2 := F7 hx
   have hi' : (i : Int) < l.length := by omega
   have htk := Qg hx
   have hpx := hp x (List.mem_of_getElem? hx)
   have hle1 : AW (l.take (i + 1)) ≤ AW l := by
    conv => rhs; rw [← List.take_append_drop (i + 1) l, F3]
    omega
   obtain ⟨k, t, nm, pa, fs, b, e⟩ := x
   unfold So at hpx
   rw [CO] at hx2 hpx
   generalize CH (.mk k t nm pa fs b e) = sx at *
   have hsum : ((1 + AW (l.take (i + 1)) : Nat) : Int) = ((1 + AW (l.take i) : Nat) : Int) + sx := by omega
   generalize AN b = eb at *
   generalize AN e = ee at *
   clear hp
   repeat' (first | (simp -implicitDefEqProofs [Hw, IG, IR, IE, c80, -getElem?_pos, splice, hel, hx2, hi']) | (simp (disch := omega) only [AF]) | ((with_reducible refine AH 80 ?_); (refine' CallP.sf ?_ (hpx) ?_); (focus first | (with_reducible exact A0 _) | (simp [AA, A9, A1, A0]; done))) | (with_reducible first | refine A6 ?_ ?_ ?_ | exact AC | assumption | refine A2 ?_ | refine KM.of ?_ | refine AE ?_ | refine A5 ?_ | refine Aw ?_ | refine A8 ?_ | refine BT ?_ | refine Av ?_ | intro _g _hg | refine AD ?_ ?_ | intro _hc) | omega)
   all_goals exact hJ (m - 1) _ (by omega) ⟨i + 1, _, _, by omega, by rw [hsum]; rfl, by omega, (hS.upd (by omega) _).upd (by omega) _, fun q hq => by rw [upd_ne (by omega), upd_ne (by omega)]; exact hsup q (by omega)⟩
  ·have hi0 : i = l.length := by omega
   subst hi0
   have hi' : ¬ (l.length : Int) < l.length := by omega
   rw [List.take_length]
   clear hp hJ
   repeat' (first | (simp -implicitDefEqProofs [Hw, IG, IR, IE, c80, -getElem?_pos, hel, hi']) | (simp (disch := omega) only [AF]) | (with_reducible first | refine A6 ?_ ?_ ?_ | exact AC | assumption | refine A2 ?_ | refine KM.of ?_ | refine AE ?_ | refine A5 ?_ | refine Aw ?_ | refine A8 ?_ | refine BT ?_ | refine Av ?_ | intro _g _hg | refine AD ?_ ?_ | intro _hc) | omega)
   all_goals first | exact A1 _ | exact hn2 | exact hS
 ·have hb0 : b = [] := List.length_eq_zero_iff.1 (by omega)
  have he0 : e = [] := List.length_eq_zero_iff.1 (by omega)
  subst hb0; subst he0
  have hsz : CH (.mk k t nm pa fs [] []) = 1 := by unfold CH; simp [AW]
  rw [hsz]
  have hc := TT
  have e0 : AN [] = [] := by rw [AN]
  rw [e0]
  refine A7 Tryz.func80 Vl rfl fun n H hH => ?_
  repeat' (first | (simp -implicitDefEqProofs [c80, -getElem?_pos]) | (simp (disch := omega) only [AF]) | ((with_reducible refine AH 123 ?_); refine ⟨_, _, hc, PP _ _ _, ?_⟩) | (with_reducible first | refine A6 ?_ ?_ ?_ | exact AC | assumption | refine A2 ?_ | refine KM.of ?_ | refine AE ?_ | refine A5 ?_ | refine Aw ?_ | refine A8 ?_ | refine BT ?_ | refine Av ?_ | intro _g _hg | refine AD ?_ ?_ | intro _hc) | omega)
  refine LoopK.round ?_
  repeat' (first | (simp -implicitDefEqProofs [Hw, IG, IR, IE, c80, -getElem?_pos]) | (simp (disch := omega) only [AF]) | (with_reducible first | refine A6 ?_ ?_ ?_ | exact AC | assumption | refine A2 ?_ | refine KM.of ?_ | refine AE ?_ | refine A5 ?_ | refine Aw ?_ | refine A8 ?_ | refine BT ?_ | refine Av ?_ | intro _g _hg | refine AD ?_ ?_ | intro _hc) | omega)
  all_goals first | exact A1 _ | omega | (intro q hq; simp (disch := omega) only [upd_ne])
theorem Ug (p : Pt) : CH p ≤ 1000000 → So p := by
 refine Pt.ind (Q := fun p => CH p ≤ 1000000 → So p) ?_ p
 intro k t nm pa fs b e hb he hs
 unfold CH at hs
 refine TP k t nm pa fs b e (by omega) fun x hx => ?_
 rcases List.mem_append.1 hx with hx | hx
 ·have := FG hx; exact hb x hx (by omega)
 ·have := FG hx; exact he x hx (by omega)
theorem NX (p : Pt) (hs : CH p ≤ 1000000) : APure Tryz.prog 80 [Dw p] (aI (CH p)) := Ug p hs
def sv (l : List (List UInt8)) : AV := .sl 1 (l.map .str) .ro
def z0 : AV := .sl 0 [] .nil
def pF : AV := .agg [.int .i64 2, .str [], .str [], .sl 1 [.str [120]] .ro, .sl 2 [.agg [.str [112, 97, 100], .int .i64 3]] .ro, z0, z0]
def pT : AV := .agg [.int .i64 1, .str [59], .str [], z0, z0, z0, z0]
def pE : AV := .agg [.int .i64 4, .str [], .str [120], .sl 1 [.str [108]] .ro, z0, .sl 7 [pF, pT] .ro, z0]
def pB : AV := .agg [.int .i64 4, .str [], .str [120], .sl 1 [.str [108]] .ro, z0, z0, z0]
def qF : Pt := .mk 2 [] [] [[120]] [([112, 97, 100], 3)] [] []
def qT : Pt := .mk 1 [59] [] [] [] [] []
def qE : Pt := .mk 4 [] [120] [[108]] [] [qF, qT] []
def qB : Pt := .mk 4 [] [120] [[108]] [] [] []
theorem APure.to {P : Program} {f : Nat} {a : List AV} {v v' : AV} (h : APure P f a v) (e : v = v') : APure P f a v' := e ▸ h
theorem APure.arg {P : Program} {f : Nat} {a a' : List AV} {v : AV} (h : APure P f a' v) (hs : AA a a') : APure P f a v := fun n H => ACalls.sim (h n H) hs
theorem EM (z : Nat) : A9 z0 (.sl z [] .ro) := ⟨_, _, _, rfl, .inl rfl, .inr ⟨rfl, rfl⟩, rfl⟩
theorem HM {k t n pa fs b e pa' fs' b' e' : AV} (h1 : A9 pa pa') (h2 : A9 fs fs') (h3 : A9 b b') (h4 : A9 e e') : A9 (.agg [k, t, n, pa, fs, b, e]) (.agg [k, t, n, pa', fs', b', e']) :=
 ⟨_, rfl, Au (A1 _) (Au (A1 _) (Au (A1 _) (Au h1 (Au h2 (Au h3 (Au h4 rfl))))))⟩
theorem DI : AN [] = [] := by rw [AN]
theorem sF : A9 pF (Dw qF) := by unfold qF; rw [CO, DI]; exact HM (A1 _) (A1 _) (EM _) (EM _)
theorem sT : A9 pT (Dw qT) := by unfold qT; rw [CO, DI]; exact HM (EM _) (EM _) (EM _) (EM _)
theorem sB : A9 pB (Dw qB) := by unfold qB; rw [CO, DI]; exact HM (A1 _) (EM _) (EM _) (EM _)
theorem sE : A9 pE (Dw qE) := by
 unfold qE; rw [CO, DI]
 refine HM (A1 _) (EM _) ?_ (EM _)
 have e : AN [qF, qT] = [Dw qF, Dw qT] := by rw [AN, AN, AN]
 rw [e]
 exact ⟨_, _, _, rfl, .inl rfl, .inl rfl, Au sF (Au sT rfl)⟩
theorem X7 : APure Tryz.prog 80 [pE] (.int .i64 3) := ((NX qE (by simp [qE, qF, qT, CH, AW])).to (by simp [qE, qF, qT, CH, AW])).arg (Au sE rfl)
theorem W7 : APure Tryz.prog 80 [pF] (.int .i64 1) := ((NX qF (by simp [qF, CH, AW])).to (by simp [qF, CH, AW])).arg (Au sF rfl)
theorem XK : APure Tryz.prog 80 [pT] (.int .i64 1) := ((NX qT (by simp [qT, CH, AW])).to (by simp [qT, CH, AW])).arg (Au sT rfl)
theorem W6 : APure Tryz.prog 68 [pE] (.int .i64 0) := ((HJ 4 [] [120] [[108]] [] (AN [qF, qT]) [] (by decide) (by decide) (by decide) (by decide)).to (by kernel_rfl)).arg (Au (by have := sE; unfold qE at this; rw [CO, DI] at this; exact this) rfl)
theorem We : APure Tryz.prog 68 [pB] (.int .i64 0) := ((HJ 4 [] [120] [[108]] [] [] [] (by decide) (by decide) (by decide) (by decide)).to (by kernel_rfl)).arg (Au (by have := sB; unfold qB at this; rw [CO, DI] at this; exact this) rfl)
theorem W3 : APure Tryz.prog 68 [pF] (.int .i64 0) := ((HJ 2 [] [] [[120]] [([112, 97, 100], 3)] [] [] (by decide) (by decide) (by decide) (by decide)).to (by kernel_rfl)).arg (Au (by have := sF; unfold qF at this; rw [CO, DI] at this; exact this) rfl)
theorem Wy : APure Tryz.prog 68 [pT] (.int .i64 0) := ((HJ 1 [59] [] [] [] [] [] (by decide) (by decide) (by decide) (by decide)).to (by kernel_rfl)).arg (Au (by have := sT; unfold qT at this; rw [CO, DI] at this; exact this) rfl)
theorem Wi : APure Tryz.prog 31 [.sl 7 [pE] .ro] (.str [60, 37, 101, 97, 99, 104, 32, 120, 32, 105, 110, 32, 108, 37, 62, 60, 37, 120, 124, 112, 97, 100, 32, 51, 37, 62, 59, 60, 37, 101, 110, 100, 37, 62]) := by
 refine ((Qm [qE] (I2 _ 0 0 0 (by simp [qE, qF, qT, Me, Ec]) (by kernel_rfl)) (by simp [qE, qF, qT, CH, AW])).to (by kernel_rfl)).arg (Au ?_ rfl)
 have e : AN [qE] = [Dw qE] := by rw [AN, AN]
 rw [Dx, e]
 exact ⟨_, _, _, rfl, .inl rfl, .inl rfl, Au sE rfl⟩
def Yh : Lg := [(178, [.str [105, 102, 32, 101, 97, 99, 104, 32, 105, 110, 32, 101, 108, 115, 101, 32, 101, 110, 100, 32, 111, 112, 101, 110]], sv [[105, 102], [101, 97, 99, 104], [105, 110], [101, 108, 115, 101], [101, 110, 100], [111, 112, 101, 110]]),
 (52, [.sl 1 [.str [108]] .ro, .str [46]], .str [108]),
 (52, [.sl 1 [.str [120]] .ro, .str [46]], .str [120]),
 (63, [.str [59], .str [60, 37], .str [60, 37, 111, 112, 101, 110, 37, 62]], .str [59]),
 (65, [.int .i64 3], .str [51]),
 (171, [.str [49, 48]], .int .i64 2),
 (115, [.str [51]], .tup [.int .i64 3, .nif]),
 (41, [.str [49, 48], .str [46]], .tup [.str [49, 48], .str [], .bool false]),
 (39, [.str [60, 37, 101, 97, 99, 104, 32, 120, 32, 105, 110, 32, 108, 37, 62, 60, 37, 120, 124, 112, 97, 100, 32, 51, 37, 62, 59, 60, 37, 101, 110, 100, 37, 62], .str [60, 37]], .int .i64 (0)),
 (41, [.str [101, 97, 99, 104, 32, 120, 32, 105, 110, 32, 108, 37, 62, 60, 37, 120, 124, 112, 97, 100, 32, 51, 37, 62, 59, 60, 37, 101, 110, 100, 37, 62], .str [37, 62]], .tup [.str [101, 97, 99, 104, 32, 120, 32, 105, 110, 32, 108], .str [60, 37, 120, 124, 112, 97, 100, 32, 51, 37, 62, 59, 60, 37, 101, 110, 100, 37, 62], .bool true]),
 (39, [.str [60, 37, 120, 124, 112, 97, 100, 32, 51, 37, 62, 59, 60, 37, 101, 110, 100, 37, 62], .str [60, 37]], .int .i64 (0)),
 (41, [.str [120, 124, 112, 97, 100, 32, 51, 37, 62, 59, 60, 37, 101, 110, 100, 37, 62], .str [37, 62]], .tup [.str [120, 124, 112, 97, 100, 32, 51], .str [59, 60, 37, 101, 110, 100, 37, 62], .bool true]),
 (39, [.str [59, 60, 37, 101, 110, 100, 37, 62], .str [60, 37]], .int .i64 (1)),
 (41, [.str [101, 110, 100, 37, 62], .str [37, 62]], .tup [.str [101, 110, 100], .str [], .bool true]),
 (39, [.str [], .str [60, 37]], .int .i64 (-1)),
 (41, [.str [101, 97, 99, 104, 32, 120, 32, 105, 110, 32, 108], .str [32]], .tup [.str [101, 97, 99, 104], .str [120, 32, 105, 110, 32, 108], .bool true]),
 (41, [.str [120, 32, 105, 110, 32, 108], .str [32, 105, 110, 32]], .tup [.str [120], .str [108], .bool true]),
 (73, [.str [108], .str [46]], sv [[108]]),
 (41, [.str [120, 124, 112, 97, 100, 32, 51], .str [32]], .tup [.str [120, 124, 112, 97, 100], .str [51], .bool true]),
 (73, [.str [120, 124, 112, 97, 100, 32, 51], .str [124]], sv [[120], [112, 97, 100, 32, 51]]),
 (73, [.str [120], .str [46]], sv [[120]]),
 (41, [.str [112, 97, 100, 32, 51], .str [32]], .tup [.str [112, 97, 100], .str [51], .bool true]),
 (41, [.str [101, 110, 100], .str [32]], .tup [.str [101, 110, 100], .str [], .bool false]),
 (80, [pE], .int .i64 3),
 (80, [pF], .int .i64 1),
 (80, [pT], .int .i64 1),
 (68, [pE], .int .i64 0),
 (68, [pF], .int .i64 0),
 (68, [pT], .int .i64 0),
 (68, [pB], .int .i64 0),
 (31, [.sl 7 [pE] .ro], .str [60, 37, 101, 97, 99, 104, 32, 120, 32, 105, 110, 32, 108, 37, 62, 60, 37, 120, 124, 112, 97, 100, 32, 51, 37, 62, 59, 60, 37, 101, 110, 100, 37, 62])]
theorem Xk : APure Tryz.prog 178 [.str [105, 102, 32, 101, 97, 99, 104, 32, 105, 110, 32, 101, 108, 115, 101, 32, 101, 110, 100, 32, 111, 112, 101, 110]] (sv [[105, 102], [101, 97, 99, 104], [105, 110], [101, 108, 115, 101], [101, 110, 100], [111, 112, 101, 110]]) := (Ph [105, 102, 32, 101, 97, 99, 104, 32, 105, 110, 32, 101, 108, 115, 101, 32, 101, 110, 100, 32, 111, 112, 101, 110] (by decide) (by decide) (by decide +kernel)).to (by kernel_rfl)
theorem Xn : APure Tryz.prog 52 [.sl 1 [.str [108]] .ro, .str [46]] (.str [108]) := (Qd [[108]] [46] (by decide) (by decide +kernel)).to (by kernel_rfl)
theorem Xm : APure Tryz.prog 52 [.sl 1 [.str [120]] .ro, .str [46]] (.str [120]) := (Qd [[120]] [46] (by decide) (by decide +kernel)).to (by kernel_rfl)
theorem Xp : APure Tryz.prog 63 [.str [59], .str [60, 37], .str [60, 37, 111, 112, 101, 110, 37, 62]] (.str [59]) := (Vu [59] (by decide)).to (by kernel_rfl)
theorem YB : APure Tryz.prog 65 [.int .i64 3] (.str [51]) := (QX 3 (by decide)).to (by kernel_rfl)
theorem Y8 : APure Tryz.prog 171 [.str [49, 48]] (.int .i64 2) := VG [49, 48] (by decide) (by decide)
theorem Xo : APure Tryz.prog 115 [.str [51]] (.tup [.int .i64 3, .nif]) := RM (by kernel_rfl) (by decide)
theorem Y3 : APure Tryz.prog 41 [.str [49, 48], .str [46]] (.tup [.str [49, 48], .str [], .bool false]) := (Hh [49, 48] [46] (by decide)).to (by kernel_rfl)
theorem YE : APure Tryz.prog 39 [.str [60, 37, 101, 97, 99, 104, 32, 120, 32, 105, 110, 32, 108, 37, 62, 60, 37, 120, 124, 112, 97, 100, 32, 51, 37, 62, 59, 60, 37, 101, 110, 100, 37, 62], .str [60, 37]] (.int .i64 (0)) := (Kl [60, 37, 101, 97, 99, 104, 32, 120, 32, 105, 110, 32, 108, 37, 62, 60, 37, 120, 124, 112, 97, 100, 32, 51, 37, 62, 59, 60, 37, 101, 110, 100, 37, 62] [60, 37] (by decide)).to (by kernel_rfl)
theorem Y5 : APure Tryz.prog 41 [.str [101, 97, 99, 104, 32, 120, 32, 105, 110, 32, 108, 37, 62, 60, 37, 120, 124, 112, 97, 100, 32, 51, 37, 62, 59, 60, 37, 101, 110, 100, 37, 62], .str [37, 62]] (.tup [.str [101, 97, 99, 104, 32, 120, 32, 105, 110, 32, 108], .str [60, 37, 120, 124, 112, 97, 100, 32, 51, 37, 62, 59, 60, 37, 101, 110, 100, 37, 62], .bool true]) := (Hh [101, 97, 99, 104, 32, 120, 32, 105, 110, 32, 108, 37, 62, 60, 37, 120, 124, 112, 97, 100, 32, 51, 37, 62, 59, 60, 37, 101, 110, 100, 37, 62] [37, 62] (by decide)).to (by kernel_rfl)
theorem WD : APure Tryz.prog 39 [.str [60, 37, 120, 124, 112, 97, 100, 32, 51, 37, 62, 59, 60, 37, 101, 110, 100, 37, 62], .str [60, 37]] (.int .i64 (0)) := (Kl [60, 37, 120, 124, 112, 97, 100, 32, 51, 37, 62, 59, 60, 37, 101, 110, 100, 37, 62] [60, 37] (by decide)).to (by kernel_rfl)
theorem W5 : APure Tryz.prog 41 [.str [120, 124, 112, 97, 100, 32, 51, 37, 62, 59, 60, 37, 101, 110, 100, 37, 62], .str [37, 62]] (.tup [.str [120, 124, 112, 97, 100, 32, 51], .str [59, 60, 37, 101, 110, 100, 37, 62], .bool true]) := (Hh [120, 124, 112, 97, 100, 32, 51, 37, 62, 59, 60, 37, 101, 110, 100, 37, 62] [37, 62] (by decide)).to (by kernel_rfl)
theorem X3 : APure Tryz.prog 39 [.str [59, 60, 37, 101, 110, 100, 37, 62], .str [60, 37]] (.int .i64 (1)) := (Kl [59, 60, 37, 101, 110, 100, 37, 62] [60, 37] (by decide)).to (by kernel_rfl)
theorem XM : APure Tryz.prog 41 [.str [101, 110, 100, 37, 62], .str [37, 62]] (.tup [.str [101, 110, 100], .str [], .bool true]) := (Hh [101, 110, 100, 37, 62] [37, 62] (by decide)).to (by kernel_rfl)
theorem X0 : APure Tryz.prog 39 [.str [], .str [60, 37]] (.int .i64 (-1)) := (Kl [] [60, 37] (by decide)).to (by kernel_rfl)
theorem Wo : APure Tryz.prog 41 [.str [101, 97, 99, 104, 32, 120, 32, 105, 110, 32, 108], .str [32]] (.tup [.str [101, 97, 99, 104], .str [120, 32, 105, 110, 32, 108], .bool true]) := (Hh [101, 97, 99, 104, 32, 120, 32, 105, 110, 32, 108] [32] (by decide)).to (by kernel_rfl)
theorem WW : APure Tryz.prog 41 [.str [120, 32, 105, 110, 32, 108], .str [32, 105, 110, 32]] (.tup [.str [120], .str [108], .bool true]) := (Hh [120, 32, 105, 110, 32, 108] [32, 105, 110, 32] (by decide)).to (by kernel_rfl)
theorem WN : APure Tryz.prog 73 [.str [108], .str [46]] (sv [[108]]) := (NC [108] 46 (by decide)).to (by kernel_rfl)
theorem X2 : APure Tryz.prog 41 [.str [120, 124, 112, 97, 100, 32, 51], .str [32]] (.tup [.str [120, 124, 112, 97, 100], .str [51], .bool true]) := (Hh [120, 124, 112, 97, 100, 32, 51] [32] (by decide)).to (by kernel_rfl)
theorem XO : APure Tryz.prog 73 [.str [120, 124, 112, 97, 100, 32, 51], .str [124]] (sv [[120], [112, 97, 100, 32, 51]]) := (NC [120, 124, 112, 97, 100, 32, 51] 124 (by decide)).to (by kernel_rfl)
theorem WF : APure Tryz.prog 73 [.str [120], .str [46]] (sv [[120]]) := (NC [120] 46 (by decide)).to (by kernel_rfl)
theorem WB : APure Tryz.prog 41 [.str [112, 97, 100, 32, 51], .str [32]] (.tup [.str [112, 97, 100], .str [51], .bool true]) := (Hh [112, 97, 100, 32, 51] [32] (by decide)).to (by kernel_rfl)
theorem XJ : APure Tryz.prog 41 [.str [101, 110, 100], .str [32]] (.tup [.str [101, 110, 100], .str [], .bool false]) := (Hh [101, 110, 100] [32] (by decide)).to (by kernel_rfl)
theorem WC : APure Tryz.prog 80 [pE] (.int .i64 3) := X7
theorem WQ : APure Tryz.prog 80 [pF] (.int .i64 1) := W7
theorem Wz : APure Tryz.prog 80 [pT] (.int .i64 1) := XK
theorem W2 : APure Tryz.prog 68 [pE] (.int .i64 0) := W6
theorem WJ : APure Tryz.prog 68 [pF] (.int .i64 0) := W3
theorem XN : APure Tryz.prog 68 [pT] (.int .i64 0) := Wy
theorem Wu : APure Tryz.prog 68 [pB] (.int .i64 0) := We
theorem XB : APure Tryz.prog 31 [.sl 7 [pE] .ro] (.str [60, 37, 101, 97, 99, 104, 32, 120, 32, 105, 110, 32, 108, 37, 62, 60, 37, 120, 124, 112, 97, 100, 32, 51, 37, 62, 59, 60, 37, 101, 110, 100, 37, 62]) := Wi
theorem Wx : TW Tryz.prog Yh := ⟨Xk, by kernel_rfl, Xn, by kernel_rfl, Xm, by kernel_rfl, Xp, by kernel_rfl, YB, by kernel_rfl, Y8, by kernel_rfl, Xo, by kernel_rfl, Y3, by kernel_rfl, YE, by kernel_rfl, Y5, by kernel_rfl, WD, by kernel_rfl, W5, by kernel_rfl, X3, by kernel_rfl, XM, by kernel_rfl, X0, by kernel_rfl, Wo, by kernel_rfl, WW, by kernel_rfl, WN, by kernel_rfl, X2, by kernel_rfl, XO, by kernel_rfl, WF, by kernel_rfl, WB, by kernel_rfl, XJ, by kernel_rfl, WC, by kernel_rfl, WQ, by kernel_rfl, Wz, by kernel_rfl, W2, by kernel_rfl, WJ, by kernel_rfl, XN, by kernel_rfl, Wu, by kernel_rfl, XB, by kernel_rfl, trivial⟩
def Yi (P : Program) (T : Lg) : XP := ⟨P, Fi, fun _ => false, fun e => Nat.beq e 168 || Nat.beq e 55, Uv T, fun _ => false, fun e => Nat.beq e 55, fun f => bif Nat.beq f 42 then [70] else bif Nat.beq f 16 then [13] else []⟩
theorem Pp : APure Tryz.prog 14 [] (.bool true) := run_pure (X := Yi Tryz.prog Yh) (Rk Wx) 3000 (by kernel_rfl) rfl rfl
open Go.ChangeShapes Go.WideShapes Go.ChangeAt Go.RowKit Go.Deep
theorem Yd : ownKnob Tryz.prog.godebug = none := by kernel_rfl
theorem Xw : laidOutB Tryz.prog = true := by kernel_rfl
theorem GC {w : World} {v : Value} {x : AV} (h : RepL (QC w) [v] [x]) : Rep (QC w) v x := by cases h; assumption
abbrev laidL : List (String × DataW Unit) := Rows.templatePrintMatchesSpecUptoRow.laid
theorem TA {P : Program} {w : World} {name : String} {d : DataW Unit} {k : IntKind} {zs : List Int} {g t e : Nat} {n : Nat} (h : Lib.VarReads P w name d) (hd : d = Lib.tabData k zs) (hg : P.globalNamed name = some g) (hty : (P.globals[g]?).map (·.type) = some t)
  (ht : P.underlying t = some (.array n e)) (he : P.underlying e = some (.int k)) (hce : P.cellsOf e = 1) (hct : P.cellsOf t = n) : ∃ t fz, w.heap[g]? = some (.cells (zs.map fun z => Value.int k z).toArray t fz) := by
 subst hd
 obtain ⟨g', t', cs, fuel, p, hg', ht', hvar, htr⟩ := h
 obtain rfl := Option.some.inj (hg.symm.trans hg')
 obtain rfl := Option.some.inj (hty.symm.trans ht')
 have hc := Lib.cells_of_tab ht he hce hct htr
 unfold World.var? at hvar
 rw [hg, Option.bind_some] at hvar
 split at hvar
 ·rename_i cs' t2 fz hh
  injection hvar with hvar
  subst hvar
  exact ⟨t2, fz, by rw [hh, ← hc]⟩
 ·cases hvar
theorem UA {P : Program} {w : World} {name nm : String} {d0 d : DataW Unit} {g t : Nat} {ms : Array (String × TypeId)} (h : Lib.VarReads P w name d0) (hd : d0 = .iface nm d) (hg : P.globalNamed name = some g) (hty : (P.globals[g]?).map (·.type) = some t)
  (ht : P.underlying t = some (.interface ms)) : ∃ v, w.cell? ⟨g, 0, none⟩ = some v ∧ (v = .nilIface ∨ ∃ te pe, v = .iface te pe) := by
 subst hd
 obtain ⟨g', t', cs, fuel, p, hg', ht', hvar, htr⟩ := h
 obtain rfl := Option.some.inj (hg.symm.trans hg')
 obtain rfl := Option.some.inj (hty.symm.trans ht')
 obtain ⟨_, u, v, hcs, _, _⟩ := iface_of_trod ht htr
 unfold World.var? at hvar
 rw [hg, Option.bind_some] at hvar
 split at hvar
 ·rename_i cs' t2 fz hh
  injection hvar with hvar
  subst hvar
  refine ⟨.iface u v, ?_, .inr ⟨u, v, rfl⟩⟩
  simp [World.cell?, hh, hcs]
  rw [← Array.getElem?_toList, hcs]; rfl
 ·cases hvar
theorem Vf : U8Extra Tryz.prog Ia := ⟨by kernel_rfl, by kernel_rfl, by kernel_rfl, by kernel_rfl, by kernel_rfl, by kernel_rfl, by kernel_rfl⟩
theorem Vi {w : World} (h : laidMetH Tryz.prog laidL w) (hsh : w.ShapedOpen Tryz.prog) : Laid w := by
 rw [MakeChecks.laidMetH_plain _ _ _ (by kernel_rfl)] at h
 have rd : ∀ i (hi : i < laidL.length), Lib.VarReads Tryz.prog w laidL[i].1 laidL[i].2 := fun i hi => Lib.laidMet.reads h (List.getElem_mem hi)
 have e8 : laidL[8].2 = Lib.firstData := by kernel_rfl
 have e3 : laidL[3].2 = Lib.acceptData := by kernel_rfl
 have d8 := rd 8 (by decide)
 have d3 := rd 3 (by decide)
 rw [e8] at d8
 rw [e3] at d3
 have hu := utf8Tabs_of_reads VI Vf d8 d3
 exact ⟨TA (rd 7 (by decide)) (by kernel_rfl) (by kernel_rfl) (by kernel_rfl) Tryz.underlying211 Tryz.underlying5 (by kernel_rfl) (by kernel_rfl),
  TA (rd 2 (by decide)) (by kernel_rfl) (by kernel_rfl) (by kernel_rfl) Tryz.underlying228 Tryz.underlying198 (by kernel_rfl) (by kernel_rfl),
  UA (rd 5 (by decide)) (by rfl) (by kernel_rfl) (by kernel_rfl) Tryz.underlying113,
  UA (rd 4 (by decide)) (by rfl) (by kernel_rfl) (by kernel_rfl) Tryz.underlying113, hu,
  Go.Proofs.cell_of_shapedOpen_int (zero := #[.int .i64 0]) (t := 3) hsh (of_decide_eq_true (by kernel_rfl)) (by kernel_rfl) rfl (by kernel_rfl) (by kernel_rfl) Tryz.underlying3⟩
noncomputable def IP (os : Os) : World := World.laidAll Tryz.prog os laidL
instance : Inhabited Pt := ⟨.mk 0 [] [] [] [] [] []⟩
section
variable {H : Type} {enc : TypeId × Value → H} {w : World} {base : Nat} {spare : Nat → Bool} {held : Bool} {fuel : Nat}
theorem Q9 (d : DataW H) : 1 ≤ Rows.uptoBulk d := by
 cases d with
 | lit v => cases v <;> simp [Rows.uptoBulk]
 | _ => simp [Rows.uptoBulk]
theorem Ox {d : DataW H} : ∀ {l : List (DataW H)}, d ∈ l → Rows.uptoBulk d ≤ Rows.uptoBulkAll l
 | x :: r, h => by
  simp only [Rows.uptoBulkAll]
  rcases List.mem_cons.1 h with rfl | h
  ·omega
  ·have := Ox h; omega
theorem PN : ∀ l : List (DataW H), l.length ≤ Rows.uptoBulkAll l
 | [] => by simp
 | x :: r => by
  have := Q9 x
  have := PN r
  simp only [Rows.uptoBulkAll, List.length_cons]; omega
theorem TF : Tryz.prog.cellsOf 9 = 1 := by kernel_rfl
theorem Uo : Tryz.prog.cellsOf 52 = 2 := by kernel_rfl
theorem RZ : Tryz.prog.cellsOf 55 = 7 := by kernel_rfl
theorem Vv : Tryz.prog.underlying 55 = some (.struct (Tryz.prog.fieldsOf 55)) := by kernel_rfl
theorem Xd : Tryz.prog.underlying 52 = some (.struct (Tryz.prog.fieldsOf 52)) := by kernel_rfl
theorem YK : (Tryz.prog.fieldsOf 55).toList.map (fun f => (f.type, f.offset, Tryz.prog.cellsOf f.type)) = [(3, 0, 1), (9, 1, 1), (9, 2, 1), (35, 3, 1), (53, 4, 1), (22, 5, 1), (22, 6, 1)] := by kernel_rfl
theorem Xu : (Tryz.prog.fieldsOf 52).toList.map (fun f => (f.type, f.offset, Tryz.prog.cellsOf f.type)) = [(9, 0, 1), (3, 1, 1)] := by kernel_rfl
theorem HB {α : Type} {l : List α} (h : l.length = 7) : ∃ a0 a1 a2 a3 a4 a5 a6, l = [a0, a1, a2, a3, a4, a5, a6] := by
 rcases l with _ | ⟨a0, _ | ⟨a1, _ | ⟨a2, _ | ⟨a3, _ | ⟨a4, _ | ⟨a5, _ | ⟨a6, _ | ⟨a7, l⟩⟩⟩⟩⟩⟩⟩⟩ <;> simp at h
 exact ⟨a0, a1, a2, a3, a4, a5, a6, rfl⟩
theorem HE {α : Type} {l : List α} (h : l.length = 2) : ∃ a0 a1, l = [a0, a1] := by
 rcases l with _ | ⟨a0, _ | ⟨a1, _ | ⟨a2, l⟩⟩⟩ <;> simp at h
 exact ⟨a0, a1, rfl⟩
theorem IM {v : Value} {x : DataW H × List MemPlace} (h : DataW.trod enc Tryz.prog w base spare held fuel 9 [v] = some x) : ∃ s : AM, RepL (QC w) [v] [.str s] ∧ s.length ≤ Rows.uptoBulk x.1 := by
 obtain ⟨s, h1, _, h3⟩ := M6 Tryz.underlying9 h
 have h3' : s.length + 1 ≤ Rows.uptoBulk x.1 := h3
 exact ⟨s, h1, by omega⟩
theorem RR : ∀ l : List AM, l.length ≤ (l.map fun s : AM => s.length + 1).sum
 | [] => by simp
 | s :: r => by have := RR r; simp only [List.length_cons, List.map_cons, List.sum_cons]; omega
theorem RL {s : AM} : ∀ {l : List AM}, s ∈ l → s.length ≤ (l.map fun s : AM => s.length + 1).sum
 | x :: r, h => by
  simp only [List.map_cons, List.sum_cons]
  rcases List.mem_cons.1 h with rfl | h
  ·omega
  ·have := RL h; omega
theorem Rf {α : Type} : ∀ l : List α, (l.map fun _ => 1).sum = l.length
 | [] => rfl
 | x :: r => by rw [List.map_cons, List.sum_cons, Rf r, List.length_cons]; omega
theorem Qt {v : Value} {x : DataW H × List MemPlace} (h : DataW.trod enc Tryz.prog w base spare held fuel 35 [v] = some x) : ∃ l : List AM, RepL (QC w) [v] [Gp l] ∧ l.length ≤ Rows.uptoBulk x.1 ∧ ∀ s ∈ l, s.length ≤ Rows.uptoBulk x.1 := by
 obtain ⟨l, h1, _, h3⟩ := open_list (P := Tryz.prog) AV.str (fun _ => True) (fun s => s.length + 1) Tryz.underlying35 TF (by decide) (fun a => ⟨rfl, fun y hy => by simp [AV.cells] at hy; subst hy; rfl⟩) (fun k cs y hc hy => by
  rcases cs with _ | ⟨c, _ | ⟨_, _⟩⟩
  ·cases hc
  ·obtain ⟨s, h1, _, h3⟩ := M6 Tryz.underlying9 hy
   exact ⟨s, h1, fun _ => trivial, h3⟩
  ·simp at hc) h
 have h3' : (l.map fun s : AM => s.length + 1).sum + 1 ≤ Rows.uptoBulk x.1 := h3
 exact ⟨l, h1, by have := RR l; omega, fun s hs => by have := RL hs; omega⟩
theorem S7 {v : Value} {x : DataW H × List MemPlace} (h : DataW.trod enc Tryz.prog w base spare held fuel 53 [v] = some x) : ∃ l : List (AM × Int), RepL (QC w) [v] [Ea l] ∧ l.length ≤ Rows.uptoBulk x.1 := by
 obtain ⟨l, h1, _, h3⟩ := open_list (P := Tryz.prog) YR (fun _ => True) (fun _ => 1) Tryz.underlying53 Uo (by decide) (fun a => ⟨rfl, fun y hy => by simp [AV.cells] at hy; rcases hy with rfl | rfl <;> rfl⟩) (fun k cs y hc hy => by
  obtain ⟨ys, m, _, hx, hcl, hyl, hf⟩ := DataW.trod_struct Xd hy
  have hfs := Xu
  obtain ⟨f0, f1, hq⟩ := HE (by have := congrArg List.length Xu; simpa using this : (Tryz.prog.fieldsOf 52).toList.length = 2)
  rw [hq] at hfs
  simp only [List.map_cons, List.map_nil, List.cons.injEq, Prod.mk.injEq, and_true] at hfs
  obtain ⟨⟨t0, o0, k0⟩, ⟨t1, o1, k1⟩⟩ := hfs
  have h0 : (Tryz.prog.fieldsOf 52)[0]? = some f0 := by rw [← Array.getElem?_toList, hq]; rfl
  have h1 : (Tryz.prog.fieldsOf 52)[1]? = some f1 := by rw [← Array.getElem?_toList, hq]; rfl
  have hn : (Tryz.prog.fieldsOf 52).size = 2 := by rw [← Array.length_toList, hq]; rfl
  have g0 := hf 0 f0 h0
  rw [k0, o0, t0] at g0
  have g1 := hf 1 f1 h1
  rw [k1, o1, t1] at g1
  rw [hn] at hyl
  obtain ⟨y0, y1, hys⟩ := HE hyl
  subst hys
  obtain ⟨z0, z1, hz⟩ := HE hc
  subst hz
  simp only [List.drop, List.take] at g0 g1
  obtain ⟨s, r0, _⟩ := IM g0
  obtain ⟨n1, e1, _, w1⟩ := DataW.trod_int Tryz.underlying3 g1
  simp at e1
  subst e1
  exact ⟨(s, n1), .cons (GC r0) (.cons .int .nil), fun _ => trivial, Q9 _⟩) h
 have h3' : (l.map fun _ => 1).sum + 1 ≤ Rows.uptoBulk x.1 := h3
 exact ⟨l, h1, by rw [Rf] at h3'; omega⟩
theorem QV {es sp : List (DataW H)} {d : DataW H} (h : d ∈ es) : SizeOf.sizeOf d < SizeOf.sizeOf (DataW.slice es sp) := by
 have := List.sizeOf_lt_of_mem h
 simp only [DataW.slice.sizeOf_spec]; omega
theorem Pi {es : List (DataW H)} {d : DataW H} (h : d ∈ es) : SizeOf.sizeOf d < SizeOf.sizeOf (DataW.agg es) := by
 have := List.sizeOf_lt_of_mem h
 simp only [DataW.agg.sizeOf_spec]; omega
theorem GE {v : Value} {x : DataW H × List MemPlace} (he : ∀ k cs (y : DataW H × List MemPlace), SizeOf.sizeOf y.1 < SizeOf.sizeOf x.1 → DataW.trod enc Tryz.prog w base spare held k 55 cs = some y → ∃ s : Pt, RepL (QC w) cs (Dw s).cells ∧ (Rows.uptoBulk y.1 ≤ 1048576 → Me s))
  (h : DataW.trod enc Tryz.prog w base spare held fuel 22 [v] = some x) : ∃ p : List Pt, Rep (QC w) v (Dx p) ∧ (Rows.uptoBulk x.1 ≤ 1048576 → p.length ≤ 2000000 ∧ Ec p) := by
 obtain ⟨n, k, X, Y, hr, hX, hY⟩ := LT Tryz.underlying22 RZ (by decide) h
 have hlt : ∀ i, i < n → SizeOf.sizeOf (Y i).1 < SizeOf.sizeOf x.1 := fun i hi => by
  rcases hY with ⟨h0, _⟩ | ⟨sp, h1⟩
  ·omega
  ·rw [h1]; exact QV (List.mem_map.2 ⟨i, List.mem_range.2 hi, rfl⟩)
 obtain ⟨f, hf⟩ := choose_lt (n := n) (p := fun i (s : Pt) => RepL (QC w) (X i) (Dw s).cells ∧ (Rows.uptoBulk (Y i).1 ≤ 1048576 → Me s)) (fun i hi => he k (X i) (Y i) (hlt i hi) (hX i hi).2)
 have hlen : (((List.range n).map f).map Dw).length = n := by simp
 have hu : ∀ s : Pt, (Dw s).cells.length = 7 ∧ ∀ y ∈ (Dw s).cells, y.one = true := fun s => by
  obtain ⟨k, t, nm, pa, fs, b, e⟩ := s
  rw [Dw]
  refine ⟨rfl, fun y hy => ?_⟩
  simp only [AV.cells, List.mem_cons, List.not_mem_nil, or_false] at hy
  rcases hy with rfl | rfl | rfl | rfl | rfl | rfl | rfl <;> rfl
 refine ⟨(List.range n).map f, ?_, fun hw => ?_⟩
 ·unfold Dx
  rw [F9]
  refine MF hr ?_ hlen (by decide) ?_ ?_
  ·rw [List.map_map]
   exact M2 fun i hi => (hf i hi).1
  ·intro y hy
   obtain ⟨a, _, rfl⟩ := List.mem_map.1 hy
   exact (hu a).1
  ·intro y hy
   obtain ⟨z, hz, hy⟩ := List.mem_flatMap.1 hy
   obtain ⟨a, _, rfl⟩ := List.mem_map.1 hz
   exact (hu a).2 y hy
 ·have key : ∀ p : List Pt, (∀ s ∈ p, Me s) → Ec p := by
   intro p
   induction p with
   | nil => intro _; trivial
   | cons s r ih => intro h; exact ⟨h s List.mem_cons_self, ih fun y hy => h y (List.mem_cons_of_mem _ hy)⟩
  rcases hY with ⟨h0, h1⟩ | ⟨sp, h1⟩
  ·subst h0; exact ⟨by simp, trivial⟩
  ·rw [h1] at hw
   simp only [Rows.uptoBulk] at hw
   refine ⟨?_, key _ fun s hs => ?_⟩
   ·have := PN ((List.range n).map fun i => (Y i).1)
    simp at this
    simp; omega
   ·obtain ⟨i, hi, rfl⟩ := List.mem_map.1 hs
    have hi' : i < n := List.mem_range.1 hi
    have := Ox (d := (Y i).1) (l := (List.range n).map fun i => (Y i).1) (List.mem_map.2 ⟨i, hi, rfl⟩)
    exact (hf i hi').2 (by omega)
set_option maxRecDepth 100000 in
theorem QE : ∀ (N : Nat) {fuel : Nat} {cs : List Value} {x : DataW H × List MemPlace}, SizeOf.sizeOf x.1 ≤ N → DataW.trod enc Tryz.prog w base spare held fuel 55 cs = some x → ∃ s : Pt, RepL (QC w) cs (Dw s).cells ∧ (Rows.uptoBulk x.1 ≤ 1048576 → Me s) := by
 intro N
 induction N with
 | zero =>
  intro fuel cs x hN h
  obtain ⟨ys, m, _, hx, _⟩ := DataW.trod_struct Vv h
  rw [hx] at hN
  simp at hN
 | succ N ih =>
  intro fuel cs x hN h
  obtain ⟨ys, m, _, hx, hcl, hyl, hf⟩ := DataW.trod_struct Vv h
  have hfs := YK
  obtain ⟨f0, f1, f2, f3, f4, f5, f6, hq⟩ := HB (by have := congrArg List.length YK; simpa using this : (Tryz.prog.fieldsOf 55).toList.length = 7)
  rw [hq] at hfs
  simp only [List.map_cons, List.map_nil, List.cons.injEq, Prod.mk.injEq, and_true] at hfs
  obtain ⟨⟨t0, o0, k0⟩, ⟨t1, o1, k1⟩, ⟨t2, o2, k2⟩, ⟨t3, o3, k3⟩, ⟨t4, o4, k4⟩, ⟨t5, o5, k5⟩, ⟨t6, o6, k6⟩⟩ := hfs
  have h0 : (Tryz.prog.fieldsOf 55)[0]? = some f0 := by rw [← Array.getElem?_toList, hq]; rfl
  have g0 := hf 0 f0 h0
  rw [k0, o0, t0] at g0
  have h1 : (Tryz.prog.fieldsOf 55)[1]? = some f1 := by rw [← Array.getElem?_toList, hq]; rfl
  have g1 := hf 1 f1 h1
  rw [k1, o1, t1] at g1
  have h2 : (Tryz.prog.fieldsOf 55)[2]? = some f2 := by rw [← Array.getElem?_toList, hq]; rfl
  have g2 := hf 2 f2 h2
  rw [k2, o2, t2] at g2
  have h3 : (Tryz.prog.fieldsOf 55)[3]? = some f3 := by rw [← Array.getElem?_toList, hq]; rfl
  have g3 := hf 3 f3 h3
  rw [k3, o3, t3] at g3
  have h4 : (Tryz.prog.fieldsOf 55)[4]? = some f4 := by rw [← Array.getElem?_toList, hq]; rfl
  have g4 := hf 4 f4 h4
  rw [k4, o4, t4] at g4
  have h5 : (Tryz.prog.fieldsOf 55)[5]? = some f5 := by rw [← Array.getElem?_toList, hq]; rfl
  have g5 := hf 5 f5 h5
  rw [k5, o5, t5] at g5
  have h6 : (Tryz.prog.fieldsOf 55)[6]? = some f6 := by rw [← Array.getElem?_toList, hq]; rfl
  have g6 := hf 6 f6 h6
  rw [k6, o6, t6] at g6
  have hn : (Tryz.prog.fieldsOf 55).size = 7 := by rw [← Array.length_toList, hq]; rfl
  rw [hn] at hyl
  obtain ⟨y0, y1, y2, y3, y4, y5, y6, hys⟩ := HB hyl
  subst hys
  obtain ⟨z0, z1, z2, z3, z4, z5, z6, hz⟩ := HB (hcl.trans RZ)
  subst hz
  simp only [List.drop, List.take] at g0 g1 g2 g3 g4 g5 g6
  obtain ⟨n0, e0, _, w0⟩ := DataW.trod_int Tryz.underlying3 g0
  simp at e0
  subst e0
  obtain ⟨n1, r1, v1⟩ := IM g1
  obtain ⟨n2, r2, v2⟩ := IM g2
  obtain ⟨n3, r3, v3, v3'⟩ := Qt g3
  obtain ⟨n4, r4, v4⟩ := S7 g4
  have hy5 : SizeOf.sizeOf y5.1 < SizeOf.sizeOf x.1 := by rw [hx]; exact Pi (by simp)
  have hy6 : SizeOf.sizeOf y6.1 < SizeOf.sizeOf x.1 := by rw [hx]; exact Pi (by simp)
  obtain ⟨n5, r5, v5⟩ := GE (fun k cs y hy hk => ih (by omega) hk) g5
  obtain ⟨n6, r6, v6⟩ := GE (fun k cs y hy hk => ih (by omega) hk) g6
  refine ⟨.mk n0 n1 n2 n3 n4 n5 n6, ?_, fun hw => ?_⟩
  ·rw [Dw]
   exact .cons .int (.cons (GC r1) (.cons (GC r2) (.cons (GC r3) (.cons (GC r4) (.cons r5 (.cons r6 .nil))))))
  ·rw [hx] at hw
   simp only [Rows.uptoBulk, List.map_cons, List.map_nil, Rows.uptoBulkAll] at hw
   obtain ⟨a1, a2⟩ := v5 (by omega)
   obtain ⟨b1, b2⟩ := v6 (by omega)
   exact ⟨by omega, by omega, by omega, fun s hs => by have := v3' s hs; omega, by omega, a1, b1, a2, b2⟩
theorem R8 {v : Value} {x : DataW H × List MemPlace} (h : DataW.trod enc Tryz.prog w base spare held fuel 22 [v] = some x) : ∃ p : List Pt, Rep (QC w) v (Dx p) ∧ (Rows.uptoBulk x.1 ≤ 1048576 → p.length ≤ 2000000 ∧ Ec p) :=
 GE (fun _ _ _ _ hk => QE _ (Nat.le_refl _) hk) h
end
end Go.Proofs.YtnfjgphfaemjcaaGreatDoor

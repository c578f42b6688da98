/- Templates: the reference's text of one; no condition. -/
import Derived.Test.YtnfjgphfaemjcaaGreatDoorMgI
import Derived.Test.YtnfjgphfaemjcaaGreatDoorMdQ
import Derived.Test.YtnfjgphfaemjcaaGreatDoorMgJ
import Derived.Test.YtnfjgphfaemjcaaGreatDoorMgG
import Derived.WalkKit
import Derived.Lib.Hide
import Derived.Lib.AppendZeros
import Derived.Lib.AppendZerosOnto
import Derived.Test.YtnfjgphfaemjcaaGreatDoorMdO
import Derived.Test.YtnfjgphfaemjcaaGreatDoorAdE
import Derived.Test.YtnfjgphfaemjcaaGreatDoorMgL
import Derived.Test.YtnfjgphfaemjcaaGreatDoorMdN
import Derived.Test.YtnfjgphfaemjcaaGreatDoorMdP
set_option linter.all false
set_option maxHeartbeats 8000000
namespace Go.Proofs.YtnfjgphfaemjcaaGreatDoor
theorem A1s (c : UInt8) (m : Nat) (hm : m < 256) : c = UInt8.ofNat m ↔ (c.toNat : Int) = m := by
 constructor
 ·rintro rfl; simp; omega
 ·intro h; apply UInt8.toNat_inj.1; simp; omega
attribute [local simp] KJ EJ EI KX LT Lg L9 EG ED Fy GP LK KU Kz Ji KH J5 J7 J9 LA LF Ki Li Kq KB Qt pe Jv Kn Jl Kx Kb Jz LM K0 KZ KP Jr Jo L0 FN Np Od OB Nv Nq OI ON OA Nt O0 Oj Ns Of O9 Nr Ny O1 OQ OW OK No FX O6 FL OT Og Nj NP NS Nn Nu OF NZ NY NN Oc O4 OM NU NV Ot NX Oe O5 Om OC NQ NW Nx Fr Na OH OP Ok Oi Nk OR O2 On OS Nc OG Ol OU Ob NM Oa NT Nz K8 K2 LL KG Kg Jm Ju Kk K6 L6 LE IS Jc List.mem_cons guardK Dl Ed Er GX Nd Fh FO Fp FY FP FM FJ Fs Fg Nl OV FV Kf Oq OZ OE Nb Nw Fd LX OX Nf Jw La OD I9 Fq FT Fn FZ Ng Ni FQ OJ FW LN Fw Fe KV Fm Ft Nh O8 Oo KF OL Nm KI Jh Sg JD JH H9 JE JI JA Dx G0 Fz L8 G4 G3 E0 Dn UK JM JK G5 JJ JN Ds DY BN BR C0 DZ DI ev get put EW AD D9 KY KN LV Jx JB Kh EO part Ap Gz L1 Gc isNil Cu D4 Da D8 CE Lc LW LO K7 L2 J6 Jq Lf Jf KD L3 LZ Lh Jp LI LQ AV.fits AV.cells ones AV.one E5 Bp E7 DQ EV EN KE FA Fo CH BS Cw G7 E3 AN B6 VJ GL Lj Ke List.getElem?_cons_zero List.getElem?_cons_succ Fa FR Ff KR Kj Ku Gt LH L4 LS LG LD Jt KQ O3 KK Ja KL Ky LY Ko Je LB Ks Kv KO Kp KT L5 K5 Kw LJ Km LU Jy E6
theorem Yc (g n n0 : Nat) (H : A3) (k : Int) (t nm : AE) (vp vf vb ve : AV) (hg : H g = some (.cells 55 [aI k, .str t, .str nm, vp, vf, vb, ve])) (ht : t.length ≤ 1048576) (acc : AE) (hacc : acc.length ≤ 950000000) (v0 v4 : AV) (Q : AExit → AS → Prop)
  (hQ : Q (.exit 2) ⟨[(0, v0), (3, .str (acc ++ E1 t)), (4, v4), (5, .ptr g 0), (7, aI t.length), (29, .bool false)], n, H⟩) :
  LoopK (fun Q s => aw Tryz.prog c15_L15 Q s) Q ⟨[(0, v0), (3, .str acc), (4, v4), (5, .ptr g 0), (7, aI 0)], n, H⟩ := by
 
 refine LoopK.go (fun m st => ∃ (j : Nat) (dn : AE), j + m = t.length ∧ st = ⟨[(0, v0), (3, .str (acc ++ dn)), (4, v4), (5, .ptr g 0), (7, aI j)], n, H⟩ ∧ E1 t = dn ++ E1 (t.drop j) ∧ dn.length ≤ 4 * j) t.length ⟨0, [], by omega, by simp, by simp, by simp⟩ ?_
 rintro m st ⟨j, dn, hjm, rfl, hE, hdn⟩ J hJ
 by_cases hj : j < t.length
 ·obtain ⟨a, ha⟩ : ∃ a, t[j]? = some a := ⟨_, List.getElem?_eq_getElem hj⟩
  have hj' : (j : Int) < t.length := by omega
  have hda := drop_at ha
  rw [hda] at hE
  have hcut : List.drop j (List.take (j + 1) t) = [a] := by
   rw [List.take_add_one, ha, List.drop_append_of_le_length (by simp; omega), List.drop_of_length_le (by simp; omega)]; rfl
  have hal : acc.length + dn.length ≤ 960000000 := by omega
  have hal2 : (acc ++ dn).length = acc.length + dn.length := by simp
  have hk1 : ((j + 1 : Nat) : Int) = (j : Int) + 1 := by omega
  have ht1 : ((j : Int) + 1).toNat = j + 1 := by omega
  by_cases hj1 : j + 1 < t.length
  ·obtain ⟨b, hb⟩ : ∃ b, t[j + 1]? = some b := ⟨_, List.getElem?_eq_getElem hj1⟩
   have hj1' : (j : Int) + 1 < t.length := by omega
   have hj1'' : (j : Int) + 1 ≤ t.length := by omega
   rw [drop_at hb] at hE
   rw [E1] at hE
   by_cases hop : a = 60 ∧ b = 37
   ·rw [if_pos hop] at hE
    obtain ⟨rfl, rfl⟩ := hop
    repeat' (first | simp -implicitDefEqProofs [BH, B9, BF, BG, BA, BI, BD, BE, BB, Ac, Ad, Ah, Aj, Ak, Af, Ai, Ag, Ae, SB, -getElem?_pos, hg, ha, hb, hj', hj1', ht1] | simp (disch := omega) only [AA] | (with_reducible first | exact AI | refine BT ?_ | intro _g _hg | refine A9 ?_ ?_ | intro _hc) | omega)
    all_goals exact hJ (m - 2) _ (by omega) ⟨j + 2, dn ++ Pm, by omega, by simp [Pm]; omega, by rw [hE]; simp, by simp [Pm]; omega⟩
   ·rw [if_neg hop, ← drop_at hb] at hE
    by_cases ha60 : a = 60
    ·have hb37 : ¬ b = 37 := fun h => hop ⟨ha60, h⟩
     have hb37' : ¬ (b.toNat : Int) = 37 := fun h => hb37 ((A1s b 37 (by omega)).2 h)
     subst ha60
     repeat' (first | simp -implicitDefEqProofs [BH, B9, BF, BG, BA, BI, BD, BE, BB, Ac, Ad, Ah, Aj, Ak, Af, Ai, Ag, Ae, SB, -getElem?_pos, hg, ha, hb, hj', hj1', hj1'', ht1, hb37, hb37', hcut] | simp (disch := omega) only [AA] | (with_reducible first | exact AI | refine BT ?_ | intro _g _hg | refine A9 ?_ ?_ | intro _hc) | omega)
     all_goals exact hJ (m - 1) _ (by omega) ⟨j + 1, dn ++ [60], by omega, by simp, by rw [hE]; simp, by simp; omega⟩
    ·have ha60' : ¬ (a.toNat : Int) = 60 := fun h => ha60 ((A1s a 60 (by omega)).2 h)
     repeat' (first | simp -implicitDefEqProofs [BH, B9, BF, BG, BA, BI, BD, BE, BB, Ac, Ad, Ah, Aj, Ak, Af, Ai, Ag, Ae, SB, -getElem?_pos, hg, ha, hb, hj', hj1', hj1'', ht1, ha60, ha60', hcut] | simp (disch := omega) only [AA] | (with_reducible first | exact AI | refine BT ?_ | intro _g _hg | refine A9 ?_ ?_ | intro _hc) | omega)
     all_goals exact hJ (m - 1) _ (by omega) ⟨j + 1, dn ++ [a], by omega, by simp, by rw [hE]; simp, by simp; omega⟩
  ·have hj1' : ¬ (j : Int) + 1 < t.length := by omega
   have hj1'' : (j : Int) + 1 ≤ t.length := by omega
   rw [List.drop_of_length_le (by omega)] at hE
   have e2 : E1 [a] = [a] := by simp [E1]
   rw [e2] at hE
   have hno : t[j + 1]? = none := List.getElem?_eq_none (by omega)
   repeat' (first | simp -implicitDefEqProofs [BH, B9, BF, BG, BA, BI, BD, BE, BB, Ac, Ad, Ah, Aj, Ak, Af, Ai, Ag, Ae, SB, -getElem?_pos, hg, ha, hno, hj', hj1', hj1'', ht1, hcut] | simp (disch := omega) only [AA] | (with_reducible first | exact AI | refine BT ?_ | intro _g _hg | refine A9 ?_ ?_ | intro _hc) | omega)
   all_goals exact hJ (m - 1) _ (by omega) ⟨j + 1, dn ++ [a], by omega, by simp, by rw [hE, List.drop_of_length_le (by omega)]; simp [E1], by simp; omega⟩
 ·have hj0 : j = t.length := by omega
  subst hj0
  have hj' : ¬ (t.length : Int) < t.length := by omega
  have e0 : E1 t = dn := by rw [hE]; simp [E1]
  rw [e0] at hQ
  clear hE
  repeat' (first | simp -implicitDefEqProofs [BH, B9, BF, BG, BA, BI, BD, BE, BB, Ac, Ad, Ah, Aj, Ak, Af, Ai, Ag, Ae, SB, -getElem?_pos, hg, hj', hQ] | simp (disch := omega) only [AA] | (with_reducible first | exact AI | refine BT ?_ | intro _g _hg | refine A9 ?_ ?_ | intro _hc) | omega)
  all_goals exact hQ
theorem XI (fs : List (AE × Int)) (hf : ∀ f ∈ fs, f.1.length ≤ 24 ∧ 0 ≤ f.2 ∧ f.2 ≤ 200) (hfl : fs.length ≤ 8) (g n : Nat) (H : A3) (k : Int) (t nm : AE) (vp vb ve : AV) (hg : H g = some (.cells 55 [aI k, .str t, .str nm, vp, Aq fs, vb, ve])) (acc : AE) (hacc : acc.length ≤ 950000000) (v0 v4 : AV) (Q : AExit → AS → Prop)
  (hQ : Q (.exit 4) ⟨[(0, v0), (3, .str (acc ++ fs.flatMap Q5)), (4, v4), (5, .ptr g 0), (8, aI fs.length), (76, .bool false)], n, H⟩) :
  LoopK (fun Q s => aw Tryz.prog c15_L9 Q s) Q ⟨[(0, v0), (3, .str acc), (4, v4), (5, .ptr g 0), (8, aI 0)], n, H⟩ := by
 
 refine LoopK.go (fun m st => ∃ (j : Nat), j + m = fs.length ∧ st = ⟨[(0, v0), (3, .str (acc ++ (fs.take j).flatMap Q5)), (4, v4), (5, .ptr g 0), (8, aI j)], n, H⟩) fs.length ⟨0, by omega, by simp⟩ ?_
 rintro m st ⟨j, hjm, rfl⟩ J hJ
 by_cases hj : j < fs.length
 ·obtain ⟨x, hx⟩ : ∃ x, fs[j]? = some x := ⟨_, List.getElem?_eq_getElem hj⟩
  have hx2 := Px hx
  have hj' : (j : Int) < fs.length := by omega
  have htk := Vl hx
  obtain ⟨f1, f2, f3⟩ := hf x (List.mem_of_getElem? hx)
  have hk3 := HO x.1
  have hfk := Ro x.1
  have hln := HP (fs.take j) fun y hy => hf y (List.mem_of_mem_take hy)
  have hl8 : (fs.take j).length ≤ 8 := by simp; omega
  obtain ⟨a, b⟩ := x
  simp only at f1 f2 f3 hk3 htk hfk
  have hi := MU b (by omega)
  have hil := Pc (n := b) (by omega)
  have e0 : Q5 (a, b) = 124 :: a ++ if IA a = 2 then 32 :: Lib.itoa b else [] := rfl
  rw [e0] at htk
  clear e0
  have hfr : ((fs.take j).flatMap Q5).length ≤ 300 := by omega
  generalize (fs.take j).flatMap Q5 = fl at *
  generalize Lib.itoa b = ib at *
  generalize IA a = c at *
  have hcn : (acc ++ fl).length ≤ 950000300 := by simp; omega
  have e1 : acc ++ (fl ++ (124 :: a ++ if c = 2 then 32 :: ib else [])) = (acc ++ fl) ++ (124 :: a) ++ if c = 2 then 32 :: ib else [] := by simp
  generalize acc ++ fl = ac2 at *
  by_cases hc2 : c = 2
  ·subst hc2
   simp only [if_true] at htk e1
   repeat' (first | simp -implicitDefEqProofs [BH, B9, BF, BG, BA, BI, BD, BE, BB, Ac, Ad, Ah, Aj, Ak, Af, Ai, Ag, Ae, SB, -getElem?_pos, hg, hx2, hj'] | simp (disch := omega) only [AA] | ((with_reducible refine A8 37 ?_); (refine' CallP.sf ?_ (hfk) ?_); (focus first | (with_reducible exact A0 _) | (simp [A5, A4, A1, A0]; done))) | ((with_reducible refine A8 38 ?_); (refine' CallP.sf ?_ (hi) ?_); (focus first | (with_reducible exact A0 _) | (simp [A5, A4, A1, A0]; done))) | (with_reducible first | exact AI | refine BT ?_ | intro _g _hg | refine A9 ?_ ?_ | intro _hc) | omega)
   all_goals exact hJ (m - 1) _ (by omega) ⟨j + 1, by omega, by rw [htk, e1]; simp⟩
  ·simp only [if_neg hc2, List.append_nil] at htk e1
   have hc2' : ¬ ((c : Int) = 2) := by omega
   repeat' (first | simp -implicitDefEqProofs [BH, B9, BF, BG, BA, BI, BD, BE, BB, Ac, Ad, Ah, Aj, Ak, Af, Ai, Ag, Ae, SB, -getElem?_pos, hg, hx2, hj', hc2, hc2'] | simp (disch := omega) only [AA] | ((with_reducible refine A8 37 ?_); (refine' CallP.sf ?_ (hfk) ?_); (focus first | (with_reducible exact A0 _) | (simp [A5, A4, A1, A0]; done))) | ((with_reducible refine A8 38 ?_); (refine' CallP.sf ?_ (hi) ?_); (focus first | (with_reducible exact A0 _) | (simp [A5, A4, A1, A0]; done))) | (with_reducible first | exact AI | refine BT ?_ | intro _g _hg | refine A9 ?_ ?_ | intro _hc) | omega)
   all_goals exact hJ (m - 1) _ (by omega) ⟨j + 1, by omega, by rw [htk, e1]; simp⟩
 ·have hj0 : j = fs.length := by omega
  subst hj0
  have hj' : ¬ (fs.length : Int) < fs.length := by omega
  rw [List.take_length]
  repeat' (first | simp -implicitDefEqProofs [BH, B9, BF, BG, BA, BI, BD, BE, BB, Ac, Ad, Ah, Aj, Ak, Af, Ai, Ag, Ae, SB, -getElem?_pos, hg, hj', hQ] | simp (disch := omega) only [AA] | (with_reducible first | exact AI | refine BT ?_ | intro _g _hg | refine A9 ?_ ?_ | intro _hc) | omega)
  all_goals exact hQ
structure PrC (x : Pt) (k : Int) (t nm : AE) (pa : List AE) (fs : List (AE × Int)) (eb ee : List AV) : Prop where
 q1 : t.length ≤ 1048576
 q3 : nm.length ≤ 24
 q4 : pa.length ≤ 8
 q5 : ∀ s ∈ pa, s.length ≤ 24
 q6 : fs.length ≤ 8
 q7 : ∀ f ∈ fs, f.1.length ≤ 24 ∧ 0 ≤ f.2 ∧ f.2 ≤ 200
 tb : APure Tryz.prog 15 [.sl 7 eb .ro] (.str (DC x.b))
 te : APure Tryz.prog 15 [.sl 7 ee .ro] (.str (DC x.e))
 le : ee.length = x.e.length
 lb : (DC x.b).length ≤ 900000000
 le2 : (DC x.e).length ≤ 900000000
set_option maxRecDepth 20000 in
theorem A0b (l : List Pt) (hl : l.length ≤ 2000000) (hlen : (DC l).length ≤ 900000000) (hp : ∀ x ∈ l, ∃ k t nm pa fs eb ee b e, x = .mk k t nm pa fs b e ∧ Hq x = .agg [aI k, .str t, .str nm, CG pa, Aq fs, .sl 7 eb .ro, .sl 7 ee .ro] ∧ PrC x k t nm pa fs eb ee) : APure Tryz.prog 15 [Cr l] (.str (DC l)) := by
 have hel := B3 l
 obtain ⟨z, hz⟩ : ∃ z, DC l = z := ⟨_, rfl⟩
 rw [hz]
 refine A6 Tryz.func15 A5w rfl fun n H hH => ?_
 repeat' (first | simp -implicitDefEqProofs [SB, -getElem?_pos, hel] | simp (disch := omega) only [AA] | (with_reducible first | exact AI | refine AP ?_ | intro _g _hg | refine A9 ?_ ?_ | intro _hc) | omega)
 refine LoopK.go (fun m st => ∃ (i n2 : Nat) (H2 : A3), i + m = l.length ∧ st = ⟨[(0, Cr l), (3, .str (DC (l.take i))), (4, aI i)], n2, H2⟩ ∧ n ≤ n2 ∧ SameB n H H2 ∧ ∀ q, n2 ≤ q → H2 q = none) l.length ⟨0, _, _, by omega, rfl, Nat.le_refl _, SameB.rfl_ n H, hH⟩ ?_
 rintro m st ⟨i, n2, H2, him, rfl, hn2, hS, hsup⟩ J hJ
 by_cases hi : i < l.length
 ·obtain ⟨x, hx⟩ : ∃ x, l[i]? = some x := ⟨_, List.getElem?_eq_getElem hi⟩
  have hx2 := GW hx
  have hi' : (i : Int) < l.length := by omega
  have htk := Tx hx
  have hle1 := Sb l i
  have hle2 := Sb l (i + 1)
  rw [htk] at hle2
  obtain ⟨k, t, nm, pa, fs, eb, ee, b, e, rfl, hxe, C⟩ := hp x (List.mem_of_getElem? hx)
  rw [hxe] at hx2
  obtain ⟨q1, q3, q4, q5, q6, q7, tb, te, le, lb, le2⟩ := C
  have e0 : ZP (.mk k t nm pa fs b e) = if k = 1 then E1 t else if k = 2 then opS ++ T7 pa ++ fs.flatMap Q5 ++ clS else (if k = 3 then ifS ++ T7 pa ++ clS else N6 ++ nm ++ Wn ++ T7 pa ++ clS) ++ DC b ++ (if e = [] then [] else N3 ++ DC e) ++ OY := by rw [ZP]
  rw [e0] at htk hle2
  have hj := Zi pa [46] (by omega) (by simp) (by have := Pd q4 q5; unfold T7 at this; omega) (fun s hs => by have := q5 s hs; omega)
  have hwl := Pd q4 q5
  have hrl := IR t
  change APure _ _ [CG pa, .str [46]] (.str (T7 pa)) at hj
  change APure _ _ _ (.str (DC b)) at tb
  change APure _ _ _ (.str (DC e)) at te
  change ee.length = e.length at le
  change (DC b).length ≤ _ at lb
  change (DC e).length ≤ _ at le2
  clear e0 hxe hx hp
  generalize DC (l.take i) = ac at *
  generalize T7 pa = wh at *
  generalize DC b = xb at *
  generalize DC e = xe at *
  have hac : ac.length ≤ 900000000 := by omega
  clear hle1
  have fin : ∀ n3 H3 g ac2, ac2 = DC (l.take (i + 1)) → n2 ≤ g → g < n3 → H3 = upd (upd H2 g (some (.cells 55 [.int .i64 0, .str [], .str [], .sl 0 [] .nil, .sl 0 [] .nil, .sl 0 [] .nil, .sl 0 [] .nil]))) g (some (.cells 55 [aI k, .str t, .str nm, CG pa, Aq fs, .sl 7 eb .ro, .sl 7 ee .ro])) → J ⟨[(0, Cr l), (3, .str ac2), (4, aI ((i : Int) + 1))], n3, H3⟩ := by
   rintro n3 H3 g ac2 rfl h1 h2 rfl
   exact hJ (m - 1) _ (by omega) ⟨i + 1, n3, _, by omega, rfl, by omega, (hS.upd (by omega) _).upd (by omega) _, fun q hq => by rw [upd_ne (by omega), upd_ne (by omega)]; exact hsup q (by omega)⟩
  by_cases k1 : k = 1
  ·rw [if_pos k1] at htk hle2
   subst k1
   repeat' (first | simp -implicitDefEqProofs [BH, B9, BF, BG, BA, BI, BD, BE, BB, Ac, Ad, Ah, Aj, Ak, Af, Ai, Ag, Ae, SB, -getElem?_pos, splice, hel, hx2, hi'] | simp (disch := omega) only [AA] | ((with_reducible refine A8 36 ?_); (refine' CallP.sf ?_ (hj) ?_); (focus first | (with_reducible exact A0 _) | (simp [A5, A4, A1, A0]; done))) | (with_reducible first | exact AI | refine AP ?_ | intro _g _hg | refine A9 ?_ ?_ | intro _hc) | omega)
   refine Yc _ _ 0 _ 1 t nm _ _ _ _ (AN _ _ _) q1 ac (by omega) _ _ _ ?_
   generalize E1 t = rt at *
   repeat' (first | simp -implicitDefEqProofs [BH, B9, BF, BG, BA, BI, BD, BE, BB, Ac, Ad, Ah, Aj, Ak, Af, Ai, Ag, Ae, SB, -getElem?_pos, splice, hel] | simp (disch := omega) only [AA] | (with_reducible first | exact AI | refine AP ?_ | intro _g _hg | refine A9 ?_ ?_ | intro _hc) | omega)
   all_goals exact fin _ _ _ _ htk.symm (by assumption) (by omega) rfl
  ·rw [if_neg k1] at htk hle2
   by_cases k2 : k = 2
   ·rw [if_pos k2] at htk hle2
    subst k2
    repeat' (first | simp -implicitDefEqProofs [BH, B9, BF, BG, BA, BI, BD, BE, BB, Ac, Ad, Ah, Aj, Ak, Af, Ai, Ag, Ae, SB, -getElem?_pos, splice, hel, hx2, hi'] | simp (disch := omega) only [AA] | ((with_reducible refine A8 36 ?_); (refine' CallP.sf ?_ (hj) ?_); (focus first | (with_reducible exact A0 _) | (simp [A5, A4, A1, A0]; done))) | (with_reducible first | exact AI | refine AP ?_ | intro _g _hg | refine A9 ?_ ?_ | intro _hc) | omega)
    refine XI fs q7 q6 _ _ _ 2 t nm _ _ _ (AN _ _ _) _ (by simp; omega) _ _ _ ?_
    have hfl := HP fs q7
    have hfl2 : fs.length * 30 ≤ 240 := by omega
    have hfl3 : (fs.flatMap Q5).length ≤ 240 := by omega
    generalize fs.flatMap Q5 = ft at *
    repeat' (first | simp -implicitDefEqProofs [BH, B9, BF, BG, BA, BI, BD, BE, BB, Ac, Ad, Ah, Aj, Ak, Af, Ai, Ag, Ae, SB, -getElem?_pos, splice, hel] | simp (disch := omega) only [AA] | (with_reducible first | exact AI | refine AP ?_ | intro _g _hg | refine A9 ?_ ?_ | intro _hc) | omega)
    all_goals exact fin _ _ _ _ (by rw [htk]; simp [opS, clS]) (by assumption) (by omega) rfl
   ·rw [if_neg k2] at htk hle2
    by_cases he0 : e = []
    ·have hee : ee = [] := by
      rw [he0] at le; exact List.length_eq_zero_iff.1 le
     rw [if_pos he0] at htk hle2
     subst hee
     by_cases k3 : k = 3
     ·rw [if_pos k3] at htk hle2
      subst k3
      repeat' (first | simp -implicitDefEqProofs [BH, B9, BF, BG, BA, BI, BD, BE, BB, Ac, Ad, Ah, Aj, Ak, Af, Ai, Ag, Ae, SB, -getElem?_pos, splice, hel, hx2, hi'] | simp (disch := omega) only [AA] | ((with_reducible refine A8 36 ?_); (refine' CallP.sf ?_ (hj) ?_); (focus first | (with_reducible exact A0 _) | (simp [A5, A4, A1, A0]; done))) | ((with_reducible refine A8 15 ?_); (refine' CallP.sf ?_ (tb) ?_); (focus first | (with_reducible exact A0 _) | (simp [A5, A4, A1, A0]; done))) | (with_reducible first | exact AI | refine AP ?_ | intro _g _hg | refine A9 ?_ ?_ | intro _hc) | omega)
      all_goals exact fin _ _ _ _ (by rw [htk]; simp [ifS, clS, OY]) (by assumption) (by omega) rfl
     ·rw [if_neg k3] at htk hle2
      repeat' (first | simp -implicitDefEqProofs [BH, B9, BF, BG, BA, BI, BD, BE, BB, Ac, Ad, Ah, Aj, Ak, Af, Ai, Ag, Ae, SB, -getElem?_pos, splice, hel, hx2, hi', k1, k2, k3] | simp (disch := omega) only [AA] | ((with_reducible refine A8 36 ?_); (refine' CallP.sf ?_ (hj) ?_); (focus first | (with_reducible exact A0 _) | (simp [A5, A4, A1, A0]; done))) | ((with_reducible refine A8 15 ?_); (refine' CallP.sf ?_ (tb) ?_); (focus first | (with_reducible exact A0 _) | (simp [A5, A4, A1, A0]; done))) | (with_reducible first | exact AI | refine AP ?_ | intro _g _hg | refine A9 ?_ ?_ | intro _hc) | omega)
      all_goals exact fin _ _ _ _ (by rw [htk]; simp [N6, Wn, clS, OY]) (by assumption) (by omega) rfl
    ·have hel2 : (0 : Int) < ee.length := by
      have := List.length_pos_iff.2 he0
      omega
     have hel3 : ¬ ee = [] := by rintro rfl; simp at hel2
     rw [if_neg he0] at htk hle2
     by_cases k3 : k = 3
     ·rw [if_pos k3] at htk hle2
      subst k3
      repeat' (first | simp -implicitDefEqProofs [BH, B9, BF, BG, BA, BI, BD, BE, BB, Ac, Ad, Ah, Aj, Ak, Af, Ai, Ag, Ae, SB, -getElem?_pos, splice, hel, hx2, hi', hel2, hel3] | simp (disch := omega) only [AA] | ((with_reducible refine A8 36 ?_); (refine' CallP.sf ?_ (hj) ?_); (focus first | (with_reducible exact A0 _) | (simp [A5, A4, A1, A0]; done))) | ((with_reducible refine A8 15 ?_); (refine' CallP.sf ?_ (tb) ?_); (focus first | (with_reducible exact A0 _) | (simp [A5, A4, A1, A0]; done))) | ((with_reducible refine A8 15 ?_); (refine' CallP.sf ?_ (te) ?_); (focus first | (with_reducible exact A0 _) | (simp [A5, A4, A1, A0]; done))) | (with_reducible first | exact AI | refine AP ?_ | intro _g _hg | refine A9 ?_ ?_ | intro _hc) | omega)
      all_goals exact fin _ _ _ _ (by rw [htk]; simp [ifS, clS, OY, N3]) (by assumption) (by omega) rfl
     ·rw [if_neg k3] at htk hle2
      repeat' (first | simp -implicitDefEqProofs [BH, B9, BF, BG, BA, BI, BD, BE, BB, Ac, Ad, Ah, Aj, Ak, Af, Ai, Ag, Ae, SB, -getElem?_pos, splice, hel, hx2, hi', k1, k2, k3, hel2, hel3] | simp (disch := omega) only [AA] | ((with_reducible refine A8 36 ?_); (refine' CallP.sf ?_ (hj) ?_); (focus first | (with_reducible exact A0 _) | (simp [A5, A4, A1, A0]; done))) | ((with_reducible refine A8 15 ?_); (refine' CallP.sf ?_ (tb) ?_); (focus first | (with_reducible exact A0 _) | (simp [A5, A4, A1, A0]; done))) | ((with_reducible refine A8 15 ?_); (refine' CallP.sf ?_ (te) ?_); (focus first | (with_reducible exact A0 _) | (simp [A5, A4, A1, A0]; done))) | (with_reducible first | exact AI | refine AP ?_ | intro _g _hg | refine A9 ?_ ?_ | intro _hc) | omega)
      all_goals exact fin _ _ _ _ (by rw [htk]; simp [N6, Wn, clS, OY, N3]) (by assumption) (by omega) rfl
 ·have hi0 : i = l.length := by omega
  subst hi0
  have hi' : ¬ (l.length : Int) < l.length := by omega
  rw [List.take_length, hz]
  clear hp hJ
  repeat' (first | simp -implicitDefEqProofs [BH, B9, BF, BG, BA, BI, BD, BE, BB, Ac, Ad, Ah, Aj, Ak, Af, Ai, Ag, Ae, SB, -getElem?_pos, hel, hi'] | simp (disch := omega) only [AA] | (with_reducible first | exact AI | refine AP ?_ | intro _g _hg | refine A9 ?_ ?_ | intro _hc) | omega)
  all_goals first | exact A1 _ | exact hn2 | exact hS
theorem PT {l : List Pt} (ho : Jj l) (hs : AX l ≤ 200) (hp : ∀ x ∈ l, Qu x → Cn x ≤ 201 → APure Tryz.prog 15 [.sl 7 (AB x.b) .ro] (.str (DC x.b)) ∧ APure Tryz.prog 15 [.sl 7 (AB x.e) .ro] (.str (DC x.e))) : APure Tryz.prog 15 [Cr l] (.str (DC l)) := by
 have hlen := GI l
 have htl := Gf l ho
 refine A0b l (by omega) (by omega) fun x hx => ?_
 have hox := PP ho hx
 have hsx := HN hx
 obtain ⟨hb, he⟩ := hp x hx hox (by omega)
 obtain ⟨k, t, nm, pa, fs, b, e⟩ := x
 have ho' := hox
 simp only [Qu] at ho'
 obtain ⟨h1, h2, h3, h4, h5, h6, h7, h8, h9⟩ := ho'
 unfold Cn at hsx
 have lb := Gf b h8
 have le := Gf e h9
 exact ⟨k, t, nm, pa, fs, AB b, AB e, b, e, rfl, B7 _ _ _ _ _ _ _, h1, h3, h4, h5, h6, h7, hb, he, B3 e, by show (DC b).length ≤ _; omega, by show (DC e).length ≤ _; omega⟩
theorem A0j (p : Pt) : Qu p → Cn p ≤ 201 → APure Tryz.prog 15 [.sl 7 (AB p.b) .ro] (.str (DC p.b)) ∧ APure Tryz.prog 15 [.sl 7 (AB p.e) .ro] (.str (DC p.e)) := by
 refine Pt.ind (Q := fun p => Qu p → Cn p ≤ 201 → APure Tryz.prog 15 [.sl 7 (AB p.b) .ro] (.str (DC p.b)) ∧ APure Tryz.prog 15 [.sl 7 (AB p.e) .ro] (.str (DC p.e))) ?_ p
 intro k t nm pa fs b e hb he ho hs
 simp only [Qu] at ho
 obtain ⟨_, _, _, _, _, _, _, ob, oe⟩ := ho
 unfold Cn at hs
 exact ⟨PT (l := b) ob (by omega) hb, PT (l := e) oe (by omega) he⟩
theorem Zp (l : List Pt) (ho : Jj l) (hs : AX l ≤ 200) : APure Tryz.prog 15 [Cr l] (.str (DC l)) := PT ho hs fun x _ hx hs => A0j x hx hs
theorem A49 (l : List Pt) (hl : l.length ≤ 2000000) (hs : FU l) : APure Tryz.prog 12 [Cr l] (aF (EK l)) := by
 have hp : APure Tryz.prog 32 [Cr l, aI 0, aI 0] (.tup [aI ((BU 0 0 0 l).1 : Nat), aI (BU 0 0 0 l).2]) := A4o l hl hs 0 0 (by omega) (by omega)
 have e0 : EK l = if (BU 0 0 0 l).2 ≠ 0 then ((BU 0 0 0 l).2, ((BU 0 0 0 l).1 : Int)) else if 4000 < (DC l).length then (14, -1) else (0, 0) := rfl
 by_cases h0 : (BU 0 0 0 l).2 = 0
 ·have htx := Zp l (Rv l 0 0 0 hs h0) (by have := Hr l 0 0 0 (by omega) h0; omega)
  rw [if_neg (by simpa using h0)] at e0
  rw [e0]
  clear e0
  rw [h0] at hp
  generalize (BU 0 0 0 l).1 = x1 at *
  generalize DC l = tl at *
  by_cases h4 : 4000 < tl.length
  ·rw [if_pos h4]
   have h4' : (4000 : Int) < tl.length := by omega
   have ha := Rg 14 (-1)
   refine A6 Tryz.func12 Yf rfl fun n H hH => ?_
   repeat' (first | simp -implicitDefEqProofs [Mz, Mv, c12, -getElem?_pos, splice, h4'] | simp (disch := omega) only [AA] | ((with_reducible refine A8 32 ?_); (refine' CallP.sf ?_ (hp) ?_); (focus first | (with_reducible exact A0 _) | (simp [A5, A4, A1, A0]; done))) | ((with_reducible refine A8 15 ?_); (refine' CallP.sf ?_ (htx) ?_); (focus first | (with_reducible exact A0 _) | (simp [A5, A4, A1, A0]; done))) | ((with_reducible refine A8 27 ?_); (refine' CallP.sf ?_ (ha) ?_); (focus first | (with_reducible exact A0 _) | (simp [A5, A4, A1, A0]; done))) | (with_reducible first | exact AI | refine BT ?_ | intro _g _hg | refine A9 ?_ ?_ | intro _hc) | omega)
   all_goals exact A1 _
  ·rw [if_neg h4]
   have h4' : ¬ (4000 : Int) < tl.length := by omega
   have ha := Rg 0 0
   refine A6 Tryz.func12 Yf rfl fun n H hH => ?_
   repeat' (first | simp -implicitDefEqProofs [Mz, Mv, c12, -getElem?_pos, splice, h4'] | simp (disch := omega) only [AA] | ((with_reducible refine A8 32 ?_); (refine' CallP.sf ?_ (hp) ?_); (focus first | (with_reducible exact A0 _) | (simp [A5, A4, A1, A0]; done))) | ((with_reducible refine A8 15 ?_); (refine' CallP.sf ?_ (htx) ?_); (focus first | (with_reducible exact A0 _) | (simp [A5, A4, A1, A0]; done))) | ((with_reducible refine A8 27 ?_); (refine' CallP.sf ?_ (ha) ?_); (focus first | (with_reducible exact A0 _) | (simp [A5, A4, A1, A0]; done))) | (with_reducible first | exact AI | refine BT ?_ | intro _g _hg | refine A9 ?_ ?_ | intro _hc) | omega)
   all_goals exact A1 _
 ·rw [if_pos h0] at e0
  rw [e0]
  clear e0
  generalize (BU 0 0 0 l).1 = x1 at *
  generalize (BU 0 0 0 l).2 = x2 at *
  have ha := Rg x2 x1
  refine A6 Tryz.func12 Yf rfl fun n H hH => ?_
  repeat' (first | simp -implicitDefEqProofs [Mz, Mv, c12, -getElem?_pos, splice, h0] | simp (disch := omega) only [AA] | ((with_reducible refine A8 32 ?_); (refine' CallP.sf ?_ (hp) ?_); (focus first | (with_reducible exact A0 _) | (simp [A5, A4, A1, A0]; done))) | ((with_reducible refine A8 27 ?_); (refine' CallP.sf ?_ (ha) ?_); (focus first | (with_reducible exact A0 _) | (simp [A5, A4, A1, A0]; done))) | (with_reducible first | exact AI | refine BT ?_ | intro _g _hg | refine A9 ?_ ?_ | intro _hc) | omega)
  all_goals exact A1 _
open Go.RowKit
theorem Xn : ∃ i z, Tryz.prog.info? 55 = some i ∧ i.zero = some z ∧ z.cells.size = 7 ∧ i.size = 7 ∧ i.bytes = 136 := by
 have h : ((Tryz.prog.info? 55).bind fun i => i.zero.map fun z => (z.cells.size, i.size, i.bytes)) = some (7, 7, 136) := by kernel_rfl
 cases hi : Tryz.prog.info? 55 with
 | none => rw [hi] at h; cases h
 | some i =>
  rw [hi] at h
  simp only [Option.bind_some] at h
  cases hz : i.zero with
  | none => rw [hz] at h; cases h
  | some z =>
   rw [hz] at h
   simp only [Option.map_some, Option.some.injEq, Prod.mk.injEq] at h
   exact ⟨i, z, rfl, hz, h⟩
set_option maxRecDepth 100000 in
theorem A2e (k : Nat) (w : World) (h0 : 0 < k) (hm : k ≤ 4000000) : ∃ (cs : Array Value) (cp : Nat), k ≤ cp ∧ cp ≤ maxLen ∧ cs.size = cp * 7 ∧
  Calls Tryz.prog 162 #[.slice none 0 0, .int .i64 k] w fun e w' => e = .returned (.slice (some ⟨w.heap.size, 0, none⟩) 0 cp) ∧ w' = w.drew.alloc (.cells cs 55) := by
 obtain ⟨i0, zv, hi, hz0, hzc, hz1, hz2⟩ := Xn
 have hrun := fun (w : World) (ty : TypeId) => Lib.run_append_grow_zeros (P := Tryz.prog) w 22 3 ty 55 i0 _ .i64 .i64 Tryz.underlying22 Tryz.underlying3 hi hz0 none 0 0 [] (by exact run_firstCells_none w.drew i0.size 0 0 0) k (by omega) (by omega) (by omega) (by omega) (by rw [hz2]; omega) (by rw [hz2]; exact growslice_fits (by omega) (by omega))
 have hge := grownCap_ge w (0 + k) 0 55
 have hle := grownCap_le_maxLen w (0 + k) 0 55 (by simp only [maxLen]; omega)
 obtain ⟨cp, hcp⟩ : ∃ cp, cp = grownCap w (0 + k) 0 55 := ⟨_, rfl⟩
 have hrun' := fun ty => hrun w ty
 rw [← hcp] at hge hle
 simp only [← hcp] at hrun'
 simp only [Nat.zero_add] at hge hle hrun'
 obtain ⟨cs, hcs⟩ : ∃ cs : Array Value, cs = #[] ++ Builtin.zeroCells zv.cells k ++ Builtin.zeroCells zv.cells (cp - k) := ⟨_, rfl⟩
 simp only [← hcs] at hrun'
 have hsz : cs.size = cp * 7 := by
  rw [hcs]; simp [size_zeroCells, hzc]; omega
 refine ⟨cs, cp, hge, hle, hsz, ?_⟩
 clear hrun hcs hsz hge hle hcp
 have hn1 : ¬ ((k : Int) < 0) := by omega
 have hn2 : (0 : Int) < (k : Int) := by omega
 have b1 : 0 ≤ cp := Nat.zero_le _
 have HRun := Lib.hid hrun'
 clear hrun'
 go_enter Tryz.func162, Tryz.ntmps162
 go_wp2_with (at_builtin; refine Lib.wpList_append_run _ rfl _ _ 22 3 rfl _ _ rfl rfl _ _ (HRun.out _) ?_)
 go_ret
 exact ⟨rfl, rfl⟩
theorem A2r (n : Nat) (H : A3) : ACalls Tryz.prog 162 [.sl 0 [] .nil, .int .i64 0] n H fun r n' H' => r = .sl 0 [] .nil ∧ n' = n ∧ H' = H := by
 intro hs w0 G w vs hl hr0 hrep
 cases hrep with | cons h1 h2 =>
 cases h2 with | cons h2 h3 =>
 cases h3
 cases h1
 cases h2
 have key : Calls Tryz.prog 162 #[.slice none 0 0, .int .i64 0] w fun e w' => e = .returned (.slice none 0 0) ∧ w' = w := by
  go_enter Tryz.func162, Tryz.ntmps162
  go_wp2
  go_ret
  exact ⟨rfl, rfl⟩
 refine key.mono ?_
 rintro e w' ⟨rfl, rfl⟩
 exact ⟨_, _, G, n, H, rfl, ⟨rfl, rfl, rfl⟩, .slnil, Gh.Le.rfl_ _, Nat.le_refl _, hr0⟩
theorem A26 (k : Nat) (h0 : 0 < k) (hm : k ≤ 4000000) (n : Nat) (H : A3) : ACalls Tryz.prog 162 [.sl 0 [] .nil, .int .i64 k] n H fun r n' H' => ∃ g, n ≤ g ∧ r = .sl 7 [] (.own g) ∧ n' = g + 1 ∧ H' = upd H g (some (.row 55 0)) := by
 intro hs w0 G w vs hl hr0 hrep
 cases hrep with | cons h1 h2 =>
 cases h2 with | cons h2 h3 =>
 cases h3
 cases h1
 cases h2
 obtain ⟨cs, cp, c1, c2, c3, hc⟩ := A2e k w h0 hm
 refine hc.mono ?_
 rintro e w' ⟨rfl, rfl⟩
 have hsz7 : BJ Tryz.prog 55 = 7 := by
  obtain ⟨i0, zv, hi, hz0, hzc, hz1, hz2⟩ := Xn
  simp [BJ, hi, hz1]
 have hrel := (hr0.same (w' := w.drew) rfl rfl rfl rfl).newRow (w' := w.drew.alloc (.cells cs 55)) (cur := cs) (e := 55) (fz := (0, 0)) (vs := []) (c := some (55, cp)) (ob := some (.row 55 0)) rfl rfl rfl rfl
  (fun j u hu => by cases hu) (fun e' c' hc => by injection hc with hc; injection hc with a b; subst a; subst b; exact ⟨rfl, by rw [hsz7]; exact c3⟩)
  (.inr ⟨0, _, rfl, rfl, by simp, Nat.zero_le _, c2, by simp⟩)
 have hle := (hr0.same (w' := w.drew) rfl rfl rfl rfl).addLe [] (some (55, cp))
 refine ⟨_, .sl 7 [] (.own w.heap.size), _, w.heap.size + 1, _, rfl, ⟨w.heap.size, hr0.hi, rfl, rfl, rfl⟩, ?_, hle, by have := hr0.hi; omega, hrel⟩
 exact .slown (e := 55) .nil (Gh.add_sealed _ _ _) ⟨by simp, c2, by omega, by simp, by simp [AG]⟩ rfl (by simp [Gh.add])
theorem Yb (eb ee : List AV) (hb : eb.length ≤ 1000000) (he : ee.length ≤ 1000000) (h0 : 0 < eb.length + ee.length) : APure Tryz.prog 123 [.sl 1 [.sl 7 eb .ro, .sl 7 ee .ro] .ro] (.sl 7 (eb ++ ee) .ro) := by
 have hgr := A26 (eb.length + ee.length) h0 (by omega)
 have hcast : ((eb.length + ee.length : Nat) : Int) = (eb.length : Int) + ee.length := by omega
 rw [hcast] at hgr
 have h1 : ¬ ((0 : Int) + eb.length < 0) := by omega
 have h2 : ¬ ((eb.length : Int) + ee.length < 0) := by omega
 have h3 : ¬ ((eb.length : Int) < 0) := by omega
 refine A6 Tryz.func123 XY rfl fun n H hH => ?_
 repeat' (first | simp -implicitDefEqProofs [Hu, -getElem?_pos] | simp (disch := omega) only [AA] | (with_reducible first | exact AI | refine Hl ?_ | intro _g _hg | refine A9 ?_ ?_ | intro _hc) | omega)
 refine LoopK.round ?_
 repeat' (first | simp -implicitDefEqProofs [Au, Ax, As, Ay, B0, Az, Av, Aw, Hu, -getElem?_pos, h1, h2, h3] | simp (disch := omega) only [AA] | (with_reducible first | exact AI | refine Hl ?_ | intro _g _hg | refine A9 ?_ ?_ | intro _hc) | omega)
 refine LoopK.round ?_
 repeat' (first | simp -implicitDefEqProofs [Au, Ax, As, Ay, B0, Az, Av, Aw, Hu, -getElem?_pos, h1, h2, h3] | simp (disch := omega) only [AA] | (with_reducible first | exact AI | refine Hl ?_ | intro _g _hg | refine A9 ?_ ?_ | intro _hc) | omega)
 refine LoopK.round ?_
 repeat' (first | simp -implicitDefEqProofs [Au, Ax, As, Ay, B0, Az, Av, Aw, Hu, -getElem?_pos, h1, h2, h3] | simp (disch := omega) only [AA] | ((with_reducible refine Al 162 ?_); refine ⟨_, hgr _ _, ?_⟩; rintro r n' H' hn hs ⟨gg, hg, rfl, rfl, rfl⟩) | (with_reducible first | exact AI | refine Hl ?_ | intro _g _hg | refine A9 ?_ ?_ | intro _hc) | omega)
 refine LoopK.round ?_
 repeat' (first | simp -implicitDefEqProofs [Au, Ax, As, Ay, B0, Az, Av, Aw, Hu, -getElem?_pos, h1, h2, h3] | simp (disch := omega) only [AA] | (with_reducible first | exact AI | refine Hl ?_ | intro _g _hg | refine A9 ?_ ?_ | intro _hc) | omega)
 refine ⟨.inl rfl, eb, A0 _, by simp only [List.length_nil]; omega, by simp only [List.length_nil, maxLen]; omega, rfl, AN _ _ _, fun g1 n1 q1 q2 q3 => ?_⟩
 simp only [List.nil_append, List.length_nil, Nat.zero_add]
 repeat' (first | simp -implicitDefEqProofs [Au, Ax, As, Ay, B0, Az, Av, Aw, Hu, -getElem?_pos, h1, h2, h3] | simp (disch := omega) only [AA] | (with_reducible first | exact AI | refine Hl ?_ | intro _g _hg | refine A9 ?_ ?_ | intro _hc) | omega)
 refine LoopK.round ?_
 repeat' (first | simp -implicitDefEqProofs [Au, Ax, As, Ay, B0, Az, Av, Aw, Hu, -getElem?_pos, h1, h2, h3] | simp (disch := omega) only [AA] | (with_reducible first | exact AI | refine Hl ?_ | intro _g _hg | refine A9 ?_ ?_ | intro _hc) | omega)
 refine ⟨.inl rfl, ee, A0 _, by omega, by simp only [maxLen]; omega, rfl, AN _ _ _, fun g2 n2 q4 q5 q6 => ?_⟩
 repeat' (first | simp -implicitDefEqProofs [Au, Ax, As, Ay, B0, Az, Av, Aw, Hu, -getElem?_pos, h1, h2, h3] | simp (disch := omega) only [AA] | (with_reducible first | exact AI | refine Hl ?_ | intro _g _hg | refine A9 ?_ ?_ | intro _hc) | omega)
 refine LoopK.round ?_
 repeat' (first | simp -implicitDefEqProofs [Au, Ax, As, Ay, B0, Az, Av, Aw, Hu, -getElem?_pos, h1, h2, h3] | simp (disch := omega) only [AA] | (with_reducible first | exact AI | refine Hl ?_ | intro _g _hg | refine A9 ?_ ?_ | intro _hc) | omega)
 all_goals simp only at hg q1 q2 q4 q5
 ·exact ⟨7, _, _, rfl, .inl rfl, .inl rfl, A0 _⟩
 ·omega
 ·intro q hq
  simp (disch := omega) only [upd_ne]
theorem YM : APure Tryz.prog 123 [.sl 1 [.sl 7 [] .ro, .sl 7 [] .ro] .ro] (.sl 0 [] .ro) := by
 refine A6 Tryz.func123 XY rfl fun n H hH => ?_
 repeat' (first | simp -implicitDefEqProofs [Hu, -getElem?_pos] | simp (disch := omega) only [AA] | (with_reducible first | exact AI | refine Hl ?_ | intro _g _hg | refine A9 ?_ ?_ | intro _hc) | omega)
 refine LoopK.round ?_
 repeat' (first | simp -implicitDefEqProofs [Au, Ax, As, Ay, B0, Az, Av, Aw, Hu, -getElem?_pos] | simp (disch := omega) only [AA] | (with_reducible first | exact AI | refine Hl ?_ | intro _g _hg | refine A9 ?_ ?_ | intro _hc) | omega)
 refine LoopK.round ?_
 repeat' (first | simp -implicitDefEqProofs [Au, Ax, As, Ay, B0, Az, Av, Aw, Hu, -getElem?_pos] | simp (disch := omega) only [AA] | (with_reducible first | exact AI | refine Hl ?_ | intro _g _hg | refine A9 ?_ ?_ | intro _hc) | omega)
 refine LoopK.round ?_
 repeat' (first | simp -implicitDefEqProofs [Au, Ax, As, Ay, B0, Az, Av, Aw, Hu, -getElem?_pos] | simp (disch := omega) only [AA] | ((with_reducible refine Al 162 ?_); refine ⟨_, A2r _ _, ?_⟩; rintro r n' H' hn hs ⟨rfl, rfl, rfl⟩) | (with_reducible first | exact AI | refine Hl ?_ | intro _g _hg | refine A9 ?_ ?_ | intro _hc) | omega)
 refine LoopK.round ?_
 repeat' (first | simp -implicitDefEqProofs [Au, Ax, As, Ay, B0, Az, Av, Aw, Hu, -getElem?_pos] | simp (disch := omega) only [AA] | (with_reducible first | exact AI | refine Hl ?_ | intro _g _hg | refine A9 ?_ ?_ | intro _hc) | omega)
 refine ⟨.inr rfl, [], rfl, by simp, by simp [maxLen], fun _ => ?_, fun h => (h rfl).elim⟩
 repeat' (first | simp -implicitDefEqProofs [Au, Ax, As, Ay, B0, Az, Av, Aw, Hu, -getElem?_pos] | simp (disch := omega) only [AA] | (with_reducible first | exact AI | refine Hl ?_ | intro _g _hg | refine A9 ?_ ?_ | intro _hc) | omega)
 refine LoopK.round ?_
 repeat' (first | simp -implicitDefEqProofs [Au, Ax, As, Ay, B0, Az, Av, Aw, Hu, -getElem?_pos] | simp (disch := omega) only [AA] | (with_reducible first | exact AI | refine Hl ?_ | intro _g _hg | refine A9 ?_ ?_ | intro _hc) | omega)
 refine ⟨.inr rfl, [], rfl, by simp, by simp [maxLen], fun _ => ?_, fun h => (h rfl).elim⟩
 repeat' (first | simp -implicitDefEqProofs [Au, Ax, As, Ay, B0, Az, Av, Aw, Hu, -getElem?_pos] | simp (disch := omega) only [AA] | (with_reducible first | exact AI | refine Hl ?_ | intro _g _hg | refine A9 ?_ ?_ | intro _hc) | omega)
 refine LoopK.round ?_
 repeat' (first | simp -implicitDefEqProofs [Au, Ax, As, Ay, B0, Az, Av, Aw, Hu, -getElem?_pos] | simp (disch := omega) only [AA] | (with_reducible first | exact AI | refine Hl ?_ | intro _g _hg | refine A9 ?_ ?_ | intro _hc) | omega)
 all_goals exact ⟨0, _, _, rfl, .inl rfl, .inr ⟨rfl, rfl⟩, rfl⟩
theorem Ti (x y : AV) (t : Tok) : A5 [.sl 1 [x, y] t] [.sl 1 [x, y] .ro] := ⟨_, _, rfl, ⟨1, _, _, rfl, .inl rfl, .inl rfl, A0 _⟩, rfl⟩
def Wm (x : Pt) : Prop := APure Tryz.prog 80 [Hq x] (aI (Cn x))
theorem Ub {l : List Pt} {i : Nat} {x : Pt} (h : l[i]? = some x) : AX (l.take (i + 1)) = AX (l.take i) + Cn x := by
 rw [List.take_add_one, h, HQ]
 simp [AX]
theorem Z7 (k : Int) (t nm : AE) (pa : List AE) (fs : List (AE × Int)) (b e : List Pt) (hs : AX b + AX e ≤ 1000000) (hp : ∀ x ∈ b ++ e, Wm x) : Wm (.mk k t nm pa fs b e) := by
 have hb := GI b
 have he := GI e
 unfold Wm
 rw [B7]
 have hlb := B3 b
 have hle := B3 e
 by_cases h0 : 0 < b.length + e.length
 ·have hc := Yb (AB b) (AB e) (by omega) (by omega) (by omega)
  rw [← MS] at hc
  have hsz : Cn (.mk k t nm pa fs b e) = 1 + AX (b ++ e) := by rw [HQ]; unfold Cn; omega
  rw [hsz]
  have hsm : AX (b ++ e) ≤ 1000000 := by rw [HQ]; omega
  generalize b ++ e = l at *
  have hel := B3 l
  generalize AB b = eb at *
  generalize AB e = ee at *
  have hll := GI l
  clear hsz hlb hle hb he h0 hs
  refine A6 Tryz.func80 A1k rfl fun n H hH => ?_
  repeat' (first | simp -implicitDefEqProofs [c80, -getElem?_pos, hel] | simp (disch := omega) only [AA] | ((with_reducible refine A8 123 ?_); refine ⟨_, _, hc, Ti _ _ _, ?_⟩) | (with_reducible first | exact AI | refine AZ ?_ | intro _g _hg | refine A9 ?_ ?_ | intro _hc) | omega)
  refine LoopK.go (fun m st => ∃ (i n2 : Nat) (H2 : A3), i + m = l.length ∧ st = ⟨[(3, aI ((1 + AX (l.take i) : Nat))), (11, .sl 7 (AB l) .ro), (12, aI l.length), (13, aI i)], n2, H2⟩ ∧ n ≤ n2 ∧ SameB n H H2 ∧ ∀ q, n2 ≤ q → H2 q = none) l.length ⟨0, _, _, by omega, by simp [AX]; exact ⟨rfl, rfl⟩, ?_, ?_, ?_⟩ ?_
  ·omega
  ·intro q hq
   simp (disch := omega) only [upd_ne]
  ·intro q hq
   simp (disch := omega) only [upd_ne]
   exact hH q (by omega)
  rintro m st ⟨i, n2, H2, him, rfl, hn2, hS, hsup⟩ J hJ
  by_cases hi : i < l.length
  ·obtain ⟨x, hx⟩ : ∃ x, l[i]? = some x := ⟨_, List.getElem?_eq_getElem hi⟩
   have hx2 := GW hx
   have hi' : (i : Int) < l.length := by omega
   have htk := Ub hx
   have hpx := hp x (List.mem_of_getElem? hx)
   have hle1 : AX (l.take (i + 1)) ≤ AX l := by
    conv => rhs; rw [← List.take_append_drop (i + 1) l, HQ]
    omega
   obtain ⟨k, t, nm, pa, fs, b, e⟩ := x
   unfold Wm at hpx
   rw [B7] at hx2 hpx
   generalize Cn (.mk k t nm pa fs b e) = sx at *
   have hsum : ((1 + AX (l.take (i + 1)) : Nat) : Int) = ((1 + AX (l.take i) : Nat) : Int) + sx := by omega
   generalize AB b = eb at *
   generalize AB e = ee at *
   clear hp
   repeat' (first | simp -implicitDefEqProofs [MV, Ml, Mn, Mg, c80, -getElem?_pos, splice, hel, hx2, hi'] | simp (disch := omega) only [AA] | ((with_reducible refine A8 80 ?_); (refine' CallP.sf ?_ (hpx) ?_); (focus first | (with_reducible exact A0 _) | (simp [A5, A4, A1, A0]; done))) | (with_reducible first | exact AI | refine AZ ?_ | intro _g _hg | refine A9 ?_ ?_ | intro _hc) | omega)
   all_goals exact hJ (m - 1) _ (by omega) ⟨i + 1, _, _, by omega, by rw [hsum]; rfl, by omega, (hS.upd (by omega) _).upd (by omega) _, fun q hq => by rw [upd_ne (by omega), upd_ne (by omega)]; exact hsup q (by omega)⟩
  ·have hi0 : i = l.length := by omega
   subst hi0
   have hi' : ¬ (l.length : Int) < l.length := by omega
   rw [List.take_length]
   clear hp hJ
   repeat' (first | simp -implicitDefEqProofs [MV, Ml, Mn, Mg, c80, -getElem?_pos, hel, hi'] | simp (disch := omega) only [AA] | (with_reducible first | exact AI | refine AZ ?_ | intro _g _hg | refine A9 ?_ ?_ | intro _hc) | omega)
   all_goals first | exact A1 _ | exact hn2 | exact hS
 ·have hb0 : b = [] := List.length_eq_zero_iff.1 (by omega)
  have he0 : e = [] := List.length_eq_zero_iff.1 (by omega)
  subst hb0; subst he0
  have hsz : Cn (.mk k t nm pa fs [] []) = 1 := by unfold Cn; simp [AX]
  rw [hsz]
  have hc := YM
  have e0 : AB [] = [] := by rw [AB]
  rw [e0]
  refine A6 Tryz.func80 A1k rfl fun n H hH => ?_
  repeat' (first | simp -implicitDefEqProofs [c80, -getElem?_pos] | simp (disch := omega) only [AA] | ((with_reducible refine A8 123 ?_); refine ⟨_, _, hc, Ti _ _ _, ?_⟩) | (with_reducible first | exact AI | refine AZ ?_ | intro _g _hg | refine A9 ?_ ?_ | intro _hc) | omega)
  refine LoopK.round ?_
  repeat' (first | simp -implicitDefEqProofs [MV, Ml, Mn, Mg, c80, -getElem?_pos] | simp (disch := omega) only [AA] | (with_reducible first | exact AI | refine AZ ?_ | intro _g _hg | refine A9 ?_ ?_ | intro _hc) | omega)
  all_goals first | exact A1 _ | omega | (intro q hq; simp (disch := omega) only [upd_ne])
theorem Zt (p : Pt) : Cn p ≤ 1000000 → Wm p := by
 refine Pt.ind (Q := fun p => Cn p ≤ 1000000 → Wm p) ?_ p
 intro k t nm pa fs b e hb he hs
 unfold Cn at hs
 refine Z7 k t nm pa fs b e (by omega) fun x hx => ?_
 rcases List.mem_append.1 hx with hx | hx
 ·have := HN hx; exact hb x hx (by omega)
 ·have := HN hx; exact he x hx (by omega)
theorem SC (p : Pt) (hs : Cn p ≤ 1000000) : APure Tryz.prog 80 [Hq p] (aI (Cn p)) := Zt p hs
def sv (l : List (List UInt8)) : AV := .sl 1 (l.map .str) .ro
def z0 : AV := .sl 0 [] .nil
def pF : AV := .agg [.int .i64 2, .str [], .str [], .sl 1 [.str [120]] .ro, .sl 2 [.agg [.str [112, 97, 100], .int .i64 3]] .ro, z0, z0]
def pT : AV := .agg [.int .i64 1, .str [59], .str [], z0, z0, z0, z0]
def pE : AV := .agg [.int .i64 4, .str [], .str [120], .sl 1 [.str [108]] .ro, z0, .sl 7 [pF, pT] .ro, z0]
def pB : AV := .agg [.int .i64 4, .str [], .str [120], .sl 1 [.str [108]] .ro, z0, z0, z0]
def qF : Pt := .mk 2 [] [] [[120]] [([112, 97, 100], 3)] [] []
def qT : Pt := .mk 1 [59] [] [] [] [] []
def qE : Pt := .mk 4 [] [120] [[108]] [] [qF, qT] []
def qB : Pt := .mk 4 [] [120] [[108]] [] [] []
theorem APure.to {P : Program} {f : Nat} {a : List AV} {v v' : AV} (h : APure P f a v) (e : v = v') : APure P f a v' := e ▸ h
theorem APure.arg {P : Program} {f : Nat} {a a' : List AV} {v : AV} (h : APure P f a' v) (hs : A5 a a') : APure P f a v := fun n H => ACalls.sim (h n H) hs
theorem GT (z : Nat) : A4 z0 (.sl z [] .ro) := ⟨_, _, _, rfl, .inl rfl, .inr ⟨rfl, rfl⟩, rfl⟩
theorem Lz {k t n pa fs b e pa' fs' b' e' : AV} (h1 : A4 pa pa') (h2 : A4 fs fs') (h3 : A4 b b') (h4 : A4 e e') : A4 (.agg [k, t, n, pa, fs, b, e]) (.agg [k, t, n, pa', fs', b', e']) :=
 ⟨_, rfl, A2 (A1 _) (A2 (A1 _) (A2 (A1 _) (A2 h1 (A2 h2 (A2 h3 (A2 h4 rfl))))))⟩
theorem EP : AB [] = [] := by rw [AB]
theorem sF : A4 pF (Hq qF) := by unfold qF; rw [B7, EP]; exact Lz (A1 _) (A1 _) (GT _) (GT _)
theorem sT : A4 pT (Hq qT) := by unfold qT; rw [B7, EP]; exact Lz (GT _) (GT _) (GT _) (GT _)
theorem sB : A4 pB (Hq qB) := by unfold qB; rw [B7, EP]; exact Lz (A1 _) (GT _) (GT _) (GT _)
theorem sE : A4 pE (Hq qE) := by
 unfold qE; rw [B7, EP]
 refine Lz (A1 _) (GT _) ?_ (GT _)
 have e : AB [qF, qT] = [Hq qF, Hq qT] := by rw [AB, AB, AB]
 rw [e]
 exact ⟨_, _, _, rfl, .inl rfl, .inl rfl, A2 sF (A2 sT rfl)⟩
theorem A43 : APure Tryz.prog 80 [pE] (.int .i64 3) := ((SC qE (by simp [qE, qF, qT, Cn, AX])).to (by simp [qE, qF, qT, Cn, AX])).arg (A2 sE rfl)
theorem A2t : APure Tryz.prog 80 [pF] (.int .i64 1) := ((SC qF (by simp [qF, Cn, AX])).to (by simp [qF, Cn, AX])).arg (A2 sF rfl)
theorem A2k : APure Tryz.prog 80 [pT] (.int .i64 1) := ((SC qT (by simp [qT, Cn, AX])).to (by simp [qT, Cn, AX])).arg (A2 sT rfl)
theorem A3m : APure Tryz.prog 68 [pE] (.int .i64 0) := ((J3 4 [] [120] [[108]] [] (AB [qF, qT]) [] (by decide) (by decide) (by decide) (by decide)).to (by kernel_rfl)).arg (A2 (by have := sE; unfold qE at this; rw [B7, EP] at this; exact this) rfl)
theorem A39 : APure Tryz.prog 68 [pB] (.int .i64 0) := ((J3 4 [] [120] [[108]] [] [] [] (by decide) (by decide) (by decide) (by decide)).to (by kernel_rfl)).arg (A2 (by have := sB; unfold qB at this; rw [B7, EP] at this; exact this) rfl)
theorem A37 : APure Tryz.prog 68 [pF] (.int .i64 0) := ((J3 2 [] [] [[120]] [([112, 97, 100], 3)] [] [] (by decide) (by decide) (by decide) (by decide)).to (by kernel_rfl)).arg (A2 (by have := sF; unfold qF at this; rw [B7, EP] at this; exact this) rfl)
theorem A3n : APure Tryz.prog 68 [pT] (.int .i64 0) := ((J3 1 [59] [] [] [] [] [] (by decide) (by decide) (by decide) (by decide)).to (by kernel_rfl)).arg (A2 (by have := sT; unfold qT at this; rw [B7, EP] at this; exact this) rfl)
theorem A4j : APure Tryz.prog 31 [.sl 7 [pE] .ro] (.str [60, 37, 101, 97, 99, 104, 32, 120, 32, 105, 110, 32, 108, 37, 62, 60, 37, 120, 124, 112, 97, 100, 32, 51, 37, 62, 59, 60, 37, 101, 110, 100, 37, 62]) := by
 refine ((Xh [qE] (Rv _ 0 0 0 (by simp [qE, qF, qT, Ph, FU]) (by kernel_rfl)) (by simp [qE, qF, qT, Cn, AX])).to (by kernel_rfl)).arg (A2 ?_ rfl)
 have e : AB [qE] = [Hq qE] := by rw [AB, AB]
 rw [Cr, e]
 exact ⟨_, _, _, rfl, .inl rfl, .inl rfl, A2 sE rfl⟩
def kn0 : PB := [(178, [.str [105, 102, 32, 101, 97, 99, 104, 32, 105, 110, 32, 101, 108, 115, 101, 32, 101, 110, 100, 32, 111, 112, 101, 110]], sv [[105, 102], [101, 97, 99, 104], [105, 110], [101, 108, 115, 101], [101, 110, 100], [111, 112, 101, 110]]),
 (52, [.sl 1 [.str [108]] .ro, .str [46]], .str [108]),
 (52, [.sl 1 [.str [120]] .ro, .str [46]], .str [120]),
 (63, [.str [59], .str [60, 37], .str [60, 37, 111, 112, 101, 110, 37, 62]], .str [59]),
 (65, [.int .i64 3], .str [51]),
 (171, [.str [49, 48]], .int .i64 2),
 (115, [.str [51]], .tup [.int .i64 3, .nif]),
 (41, [.str [49, 48], .str [46]], .tup [.str [49, 48], .str [], .bool false]),
 (39, [.str [60, 37, 101, 97, 99, 104, 32, 120, 32, 105, 110, 32, 108, 37, 62, 60, 37, 120, 124, 112, 97, 100, 32, 51, 37, 62, 59, 60, 37, 101, 110, 100, 37, 62], .str [60, 37]], .int .i64 (0)),
 (41, [.str [101, 97, 99, 104, 32, 120, 32, 105, 110, 32, 108, 37, 62, 60, 37, 120, 124, 112, 97, 100, 32, 51, 37, 62, 59, 60, 37, 101, 110, 100, 37, 62], .str [37, 62]], .tup [.str [101, 97, 99, 104, 32, 120, 32, 105, 110, 32, 108], .str [60, 37, 120, 124, 112, 97, 100, 32, 51, 37, 62, 59, 60, 37, 101, 110, 100, 37, 62], .bool true]),
 (39, [.str [60, 37, 120, 124, 112, 97, 100, 32, 51, 37, 62, 59, 60, 37, 101, 110, 100, 37, 62], .str [60, 37]], .int .i64 (0)),
 (41, [.str [120, 124, 112, 97, 100, 32, 51, 37, 62, 59, 60, 37, 101, 110, 100, 37, 62], .str [37, 62]], .tup [.str [120, 124, 112, 97, 100, 32, 51], .str [59, 60, 37, 101, 110, 100, 37, 62], .bool true]),
 (39, [.str [59, 60, 37, 101, 110, 100, 37, 62], .str [60, 37]], .int .i64 (1)),
 (41, [.str [101, 110, 100, 37, 62], .str [37, 62]], .tup [.str [101, 110, 100], .str [], .bool true]),
 (39, [.str [], .str [60, 37]], .int .i64 (-1)),
 (41, [.str [101, 97, 99, 104, 32, 120, 32, 105, 110, 32, 108], .str [32]], .tup [.str [101, 97, 99, 104], .str [120, 32, 105, 110, 32, 108], .bool true]),
 (41, [.str [120, 32, 105, 110, 32, 108], .str [32, 105, 110, 32]], .tup [.str [120], .str [108], .bool true]),
 (73, [.str [108], .str [46]], sv [[108]]),
 (41, [.str [120, 124, 112, 97, 100, 32, 51], .str [32]], .tup [.str [120, 124, 112, 97, 100], .str [51], .bool true]),
 (73, [.str [120, 124, 112, 97, 100, 32, 51], .str [124]], sv [[120], [112, 97, 100, 32, 51]]),
 (73, [.str [120], .str [46]], sv [[120]]),
 (41, [.str [112, 97, 100, 32, 51], .str [32]], .tup [.str [112, 97, 100], .str [51], .bool true]),
 (41, [.str [101, 110, 100], .str [32]], .tup [.str [101, 110, 100], .str [], .bool false]),
 (80, [pE], .int .i64 3),
 (80, [pF], .int .i64 1),
 (80, [pT], .int .i64 1),
 (68, [pE], .int .i64 0),
 (68, [pF], .int .i64 0),
 (68, [pT], .int .i64 0),
 (68, [pB], .int .i64 0),
 (31, [.sl 7 [pE] .ro], .str [60, 37, 101, 97, 99, 104, 32, 120, 32, 105, 110, 32, 108, 37, 62, 60, 37, 120, 124, 112, 97, 100, 32, 51, 37, 62, 59, 60, 37, 101, 110, 100, 37, 62])]
theorem A62 : APure Tryz.prog 178 [.str [105, 102, 32, 101, 97, 99, 104, 32, 105, 110, 32, 101, 108, 115, 101, 32, 101, 110, 100, 32, 111, 112, 101, 110]] (sv [[105, 102], [101, 97, 99, 104], [105, 110], [101, 108, 115, 101], [101, 110, 100], [111, 112, 101, 110]]) := (TT [105, 102, 32, 101, 97, 99, 104, 32, 105, 110, 32, 101, 108, 115, 101, 32, 101, 110, 100, 32, 111, 112, 101, 110] (by decide) (by decide) (by decide +kernel)).to (by kernel_rfl)
theorem A67 : APure Tryz.prog 52 [.sl 1 [.str [108]] .ro, .str [46]] (.str [108]) := (V7 [[108]] [46] (by decide) (by decide +kernel)).to (by kernel_rfl)
theorem A56 : APure Tryz.prog 52 [.sl 1 [.str [120]] .ro, .str [46]] (.str [120]) := (V7 [[120]] [46] (by decide) (by decide +kernel)).to (by kernel_rfl)
theorem A5e : APure Tryz.prog 63 [.str [59], .str [60, 37], .str [60, 37, 111, 112, 101, 110, 37, 62]] (.str [59]) := (A1p [59] (by decide)).to (by kernel_rfl)
theorem A4l : APure Tryz.prog 65 [.int .i64 3] (.str [51]) := (VK 3 (by decide)).to (by kernel_rfl)
theorem A5k : APure Tryz.prog 171 [.str [49, 48]] (.int .i64 2) := A0n [49, 48] (by decide) (by decide)
theorem A5v : APure Tryz.prog 115 [.str [51]] (.tup [.int .i64 3, .nif]) := Rr (by kernel_rfl) (by decide)
theorem A61 : APure Tryz.prog 41 [.str [49, 48], .str [46]] (.tup [.str [49, 48], .str [], .bool false]) := (I7 [49, 48] [46] (by decide)).to (by kernel_rfl)
theorem A5y : APure Tryz.prog 39 [.str [60, 37, 101, 97, 99, 104, 32, 120, 32, 105, 110, 32, 108, 37, 62, 60, 37, 120, 124, 112, 97, 100, 32, 51, 37, 62, 59, 60, 37, 101, 110, 100, 37, 62], .str [60, 37]] (.int .i64 (0)) := (MF [60, 37, 101, 97, 99, 104, 32, 120, 32, 105, 110, 32, 108, 37, 62, 60, 37, 120, 124, 112, 97, 100, 32, 51, 37, 62, 59, 60, 37, 101, 110, 100, 37, 62] [60, 37] (by decide)).to (by kernel_rfl)
theorem A5j : APure Tryz.prog 41 [.str [101, 97, 99, 104, 32, 120, 32, 105, 110, 32, 108, 37, 62, 60, 37, 120, 124, 112, 97, 100, 32, 51, 37, 62, 59, 60, 37, 101, 110, 100, 37, 62], .str [37, 62]] (.tup [.str [101, 97, 99, 104, 32, 120, 32, 105, 110, 32, 108], .str [60, 37, 120, 124, 112, 97, 100, 32, 51, 37, 62, 59, 60, 37, 101, 110, 100, 37, 62], .bool true]) := (I7 [101, 97, 99, 104, 32, 120, 32, 105, 110, 32, 108, 37, 62, 60, 37, 120, 124, 112, 97, 100, 32, 51, 37, 62, 59, 60, 37, 101, 110, 100, 37, 62] [37, 62] (by decide)).to (by kernel_rfl)
theorem A3a : APure Tryz.prog 39 [.str [60, 37, 120, 124, 112, 97, 100, 32, 51, 37, 62, 59, 60, 37, 101, 110, 100, 37, 62], .str [60, 37]] (.int .i64 (0)) := (MF [60, 37, 120, 124, 112, 97, 100, 32, 51, 37, 62, 59, 60, 37, 101, 110, 100, 37, 62] [60, 37] (by decide)).to (by kernel_rfl)
theorem A42 : APure Tryz.prog 41 [.str [120, 124, 112, 97, 100, 32, 51, 37, 62, 59, 60, 37, 101, 110, 100, 37, 62], .str [37, 62]] (.tup [.str [120, 124, 112, 97, 100, 32, 51], .str [59, 60, 37, 101, 110, 100, 37, 62], .bool true]) := (I7 [120, 124, 112, 97, 100, 32, 51, 37, 62, 59, 60, 37, 101, 110, 100, 37, 62] [37, 62] (by decide)).to (by kernel_rfl)
theorem A23 : APure Tryz.prog 39 [.str [59, 60, 37, 101, 110, 100, 37, 62], .str [60, 37]] (.int .i64 (1)) := (MF [59, 60, 37, 101, 110, 100, 37, 62] [60, 37] (by decide)).to (by kernel_rfl)
theorem A3d : APure Tryz.prog 41 [.str [101, 110, 100, 37, 62], .str [37, 62]] (.tup [.str [101, 110, 100], .str [], .bool true]) := (I7 [101, 110, 100, 37, 62] [37, 62] (by decide)).to (by kernel_rfl)
theorem A2x : APure Tryz.prog 39 [.str [], .str [60, 37]] (.int .i64 (-1)) := (MF [] [60, 37] (by decide)).to (by kernel_rfl)
theorem A3g : APure Tryz.prog 41 [.str [101, 97, 99, 104, 32, 120, 32, 105, 110, 32, 108], .str [32]] (.tup [.str [101, 97, 99, 104], .str [120, 32, 105, 110, 32, 108], .bool true]) := (I7 [101, 97, 99, 104, 32, 120, 32, 105, 110, 32, 108] [32] (by decide)).to (by kernel_rfl)
theorem A2j : APure Tryz.prog 41 [.str [120, 32, 105, 110, 32, 108], .str [32, 105, 110, 32]] (.tup [.str [120], .str [108], .bool true]) := (I7 [120, 32, 105, 110, 32, 108] [32, 105, 110, 32] (by decide)).to (by kernel_rfl)
theorem A2b : APure Tryz.prog 73 [.str [108], .str [46]] (sv [[108]]) := (I1 [108] 46 (by decide)).to (by kernel_rfl)
theorem A33 : APure Tryz.prog 41 [.str [120, 124, 112, 97, 100, 32, 51], .str [32]] (.tup [.str [120, 124, 112, 97, 100], .str [51], .bool true]) := (I7 [120, 124, 112, 97, 100, 32, 51] [32] (by decide)).to (by kernel_rfl)
theorem A3x : APure Tryz.prog 73 [.str [120, 124, 112, 97, 100, 32, 51], .str [124]] (sv [[120], [112, 97, 100, 32, 51]]) := (I1 [120, 124, 112, 97, 100, 32, 51] 124 (by decide)).to (by kernel_rfl)
theorem A2m : APure Tryz.prog 73 [.str [120], .str [46]] (sv [[120]]) := (I1 [120] 46 (by decide)).to (by kernel_rfl)
theorem A1y : APure Tryz.prog 41 [.str [112, 97, 100, 32, 51], .str [32]] (.tup [.str [112, 97, 100], .str [51], .bool true]) := (I7 [112, 97, 100, 32, 51] [32] (by decide)).to (by kernel_rfl)
theorem A3h : APure Tryz.prog 41 [.str [101, 110, 100], .str [32]] (.tup [.str [101, 110, 100], .str [], .bool false]) := (I7 [101, 110, 100] [32] (by decide)).to (by kernel_rfl)
theorem A2q : APure Tryz.prog 80 [pE] (.int .i64 3) := A43
theorem A44 : APure Tryz.prog 80 [pF] (.int .i64 1) := A2t
theorem A1u : APure Tryz.prog 80 [pT] (.int .i64 1) := A2k
theorem A29 : APure Tryz.prog 68 [pE] (.int .i64 0) := A3m
theorem A31 : APure Tryz.prog 68 [pF] (.int .i64 0) := A37
theorem A3l : APure Tryz.prog 68 [pT] (.int .i64 0) := A3n
theorem A2y : APure Tryz.prog 68 [pB] (.int .i64 0) := A39
theorem A4i : APure Tryz.prog 31 [.sl 7 [pE] .ro] (.str [60, 37, 101, 97, 99, 104, 32, 120, 32, 105, 110, 32, 108, 37, 62, 60, 37, 120, 124, 112, 97, 100, 32, 51, 37, 62, 59, 60, 37, 101, 110, 100, 37, 62]) := A4j
theorem A45 : YI Tryz.prog kn0 := ⟨A62, by kernel_rfl, A67, by kernel_rfl, A56, by kernel_rfl, A5e, by kernel_rfl, A4l, by kernel_rfl, A5k, by kernel_rfl, A5v, by kernel_rfl, A61, by kernel_rfl, A5y, by kernel_rfl, A5j, by kernel_rfl, A3a, by kernel_rfl, A42, by kernel_rfl, A23, by kernel_rfl, A3d, by kernel_rfl, A2x, by kernel_rfl, A3g, by kernel_rfl, A2j, by kernel_rfl, A2b, by kernel_rfl, A33, by kernel_rfl, A3x, by kernel_rfl, A2m, by kernel_rfl, A1y, by kernel_rfl, A3h, by kernel_rfl, A2q, by kernel_rfl, A44, by kernel_rfl, A1u, by kernel_rfl, A29, by kernel_rfl, A31, by kernel_rfl, A3l, by kernel_rfl, A2y, by kernel_rfl, A4i, by kernel_rfl, trivial⟩
def xpT (P : Program) (T : PB) : XP := ⟨P, GB, fun _ => false, fun e => Nat.beq e 168 || Nat.beq e 55, A16 T, fun _ => false, fun e => Nat.beq e 55, fun f => bif Nat.beq f 42 then [70] else bif Nat.beq f 16 then [13] else []⟩
theorem Sr : APure Tryz.prog 14 [] (.bool true) := run_pure (X := xpT Tryz.prog kn0) (W8 A45) 3000 (by kernel_rfl) rfl rfl
def slG : AV → Option Nat
 | .sl _ _ (.own g) => some g
 | _ => none
def Sl (x : AV) (l : List AE) (n : Nat) (H : A3) : Prop := (l = [] ∧ x = .sl 0 [] .nil) ∨ ∃ g, g < n ∧ x = .sl 1 (l.map AV.str) (.own g) ∧ H g = some (.row 9 l.length)
structure Stp (x : AV) (n : Nat) (H : A3) (x' : AV) (n' : Nat) (H' : A3) (l' : List AE) : Prop where
 sl : Sl x' l' n' H'
 le : n ≤ n'
 fr : ∀ q, q < n → slG x ≠ some q → H' q = H q
 ow : ∀ g, slG x' = some g → n ≤ g ∨ slG x = some g
 su : ∀ q, n' ≤ q → H' q = none
variable {x x0 : AV} {l : List AE} {n g n0 n' : Nat} {H H0 H' : A3}
theorem Sl.own (h : Sl x l n H) (hg : slG x = some g) : g < n := by
 rcases h with ⟨_, rfl⟩ | ⟨g', h1, rfl, _⟩
 ·cases hg
 ·cases hg; exact h1
theorem Sl.sim (h : Sl x l n H) : A4 x (CG l) := by
 rcases h with ⟨rfl, rfl⟩ | ⟨g', h1, rfl, _⟩
 ·exact ⟨_, _, _, rfl, .inl rfl, .inr ⟨rfl, rfl⟩, rfl⟩
 ·exact ⟨_, _, _, rfl, .inl rfl, .inl rfl, A0 _⟩
theorem Sl.len (h : Sl x l n H) : Rs x = some (.int .i64 l.length) := by
 rcases h with ⟨rfl, rfl⟩ | ⟨g', h1, rfl, _⟩
 ·rfl
 ·simp [Rs]
theorem Stp.refl (h : Sl x l n H) (hs : ∀ q, n ≤ q → H q = none) : Stp x n H x n H l :=
 ⟨h, Nat.le_refl _, fun _ _ _ => rfl, fun _ h => .inr h, hs⟩
theorem Stp.tr {x x' x'' : AV} {l l' : List AE} {n n' n'' : Nat} {H H' H'' : A3} (h : Stp x n H x' n' H' l) (k : Stp x' n' H' x'' n'' H'' l') : Stp x n H x'' n'' H'' l' := by
 refine ⟨k.sl, Nat.le_trans h.le k.le, fun q hq hx => ?_, fun g hg => ?_, k.su⟩
 ·rw [k.fr q (by have := h.le; omega) (fun e => ?_), h.fr q hq hx]
  rcases h.ow q e with h1 | h1
  ·omega
  ·exact hx h1
 ·rcases k.ow g hg with h1 | h1
  ·exact .inl (by have := h.le; omega)
  ·exact h.ow g h1
theorem Stp.new (h : Stp x0 n0 H0 x n H l) (hg : n ≤ g) (hn : g < n') (o : Option AObj) : Stp x0 n0 H0 x n' (upd H g o) l := by
 refine h.tr ⟨?_, by omega, fun q hq _ => upd_ne (by omega), fun _ h => .inr h, fun q hq => by rw [upd_ne (by omega)]; exact h.su q (by omega)⟩
 rcases h.sl with h1 | ⟨g', h1, h2, h3⟩
 ·exact .inl h1
 ·exact .inr ⟨g', by omega, h2, by rw [upd_ne (by omega)]; exact h3⟩
theorem Stp.news (h : Stp x0 n0 H0 x n H l) (hn : n ≤ n') (hs : ∀ q, q < n → H' q = H q) (hu : ∀ q, n' ≤ q → H' q = none) : Stp x0 n0 H0 x n' H' l := by
 refine h.tr ⟨?_, hn, fun q hq _ => hs q hq, fun _ h => .inr h, hu⟩
 rcases h.sl with h1 | ⟨g', h1, h2, h3⟩
 ·exact .inl h1
 ·exact .inr ⟨g', by omega, h2, by rw [hs g' h1]; exact h3⟩
theorem Stp.app {d : Option Nat} {K : AS → Prop} {e : AH} {w : AE} {t : Tok} (h : Stp x0 n0 H0 x n H l) (hl : l.length ≤ 1000000) (hk : ∀ x' n' H', Stp x n H x' n' H' (l ++ [w]) → K ⟨AD e d x', n', H'⟩) : appKS 9 1 16 d K ⟨e, n, H⟩ x (.sl 1 [.str w] t) := by
 refine ⟨.inl rfl, [.str w], A0 _, ?_⟩
 rcases h.sl with ⟨rfl, rfl⟩ | ⟨g, h1, rfl, h3⟩
 ·refine ⟨by simp, by simp [maxLen], ?_⟩
  refine And.intro (fun e => by cases e) (fun _ => Or.inl fun g hg => hk _ _ _ ?_)
  refine ⟨.inr ⟨g, by omega, rfl, AN _ _ _⟩, by simp only at hg; omega, fun q hq _ => upd_ne (by simp only at hg; omega), fun g' hg' => .inl ?_, fun q hq => by rw [upd_ne (by omega)]; exact h.su q (by simp only at hg; omega)⟩
  cases hg'; exact hg
 ·refine ⟨by simp; omega, by simp [maxLen]; omega, rfl, by simpa using h3, fun g' n' q1 q2 q3 => ?_⟩
  have e1 : List.map AV.str l ++ [.str w] = List.map AV.str (l ++ [w]) := by simp
  rw [e1]
  refine hk _ _ _ ⟨.inr ⟨g', q3, rfl, by rw [AN]; simp⟩, q2, fun q hq hx => ?_, fun g2 hg2 => ?_, fun q hq => ?_⟩
  ·have hqg : q ≠ g := fun e => hx (by rw [e]; rfl)
   simp only at q1 q2
   have : q ≠ g' := by rcases q1 with rfl | q1 <;> omega
   rw [upd_ne this, upd_ne hqg]
  ·cases hg2
   rcases q1 with rfl | q1
   ·exact .inr rfl
   ·exact .inl q1
  ·simp only at q1 q2
   rw [upd_ne (by omega), upd_ne (by omega)]
   exact h.su q (by omega)
end Go.Proofs.YtnfjgphfaemjcaaGreatDoor

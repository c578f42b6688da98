/- Templates: names, paths and filters, as the reference knows them; no condition. -/
import Derived.Test.YtnfjgphfaemjcaaGreatDoorMgH
import Derived.Test.YtnfjgphfaemjcaaGreatDoorMdM
import Derived.Test.YtnfjgphfaemjcaaGreatDoorMgI
import Derived.Test.YtnfjgphfaemjcaaGreatDoorMdL
set_option linter.all false
set_option linter.unusedSimpArgs false
set_option linter.unusedVariables false
set_option maxHeartbeats 4000000
namespace Go.Proofs.YtnfjgphfaemjcaaGreatDoor
def okF (c : UInt8) : Bool := Hd c || BE c
theorem Uz (c : UInt8) : Hd c = ((decide ((97 : Int) ≤ c.toNat) && decide ((c.toNat : Int) ≤ 122)) || (decide ((65 : Int) ≤ c.toNat) && decide ((c.toNat : Int) ≤ 90)) || decide ((c.toNat : Int) = 95)) := by
 unfold Hd
 congr 1
 ·congr 1
  ·congr 1 <;> (apply decide_eq_decide.2; omega)
  ·congr 1 <;> (apply decide_eq_decide.2; omega)
 ·apply decide_eq_decide.2; omega
theorem VJ {s : AM} {c : UInt8} (h : s[0]? = some c) : Gn s = (decide ((s.length : Int) ≤ 24) && !BE c && s.all okF) := by
 cases s with
 | nil => simp at h
 | cons d r =>
  simp only [List.getElem?_cons_zero, Option.some.injEq] at h
  subst h
  have : decide ((d :: r).length ≤ 24) = decide (((d :: r).length : Int) ≤ 24) := decide_eq_decide.2 (by omega)
  unfold Gn
  rw [this]
  simp only [ne_eq, reduceCtorEq, not_false_eq_true, decide_true, Bool.true_and, List.headD_cons]
  rfl
attribute [local simp] Jw E1 Dy JJ KF KK JB Dz E3 G3 Fv JL J3 JF Jr JK II Hu I5 JD K0 Jt JU KQ JC PM pe KD JH Iw Ka KN Jv K9 JQ JO KR Kc Jh KT Ft OG N9 OS NT Nu OV Na Mt OJ N3 O9 NV OF ND NN Mz MW OU NP OB N8 FZ Nn Fa Oh MY Mw N7 N4 Mv Oa OC OA O5 NH Nq OQ NG MU MX Md Oc Nz Ml Ns Mo Nf Mg Od Fj OX NI Nk Nh O3 NF OM Nm NU Nt MZ Mx Mq Ob Nj Mc Nw Of Mm JG Jz Je KU KA J9 Kf K8 Iy Ke Ix HO Jy List.mem_cons guardK DT Dv EA Fx Nc FQ FV Fo Fr Fh Fk Fd Ff FW NM Nx FX JS N2 Oe Oi Ng NY FM J0 Mi NS JE Ju Nd Hj FO FT FN Fb NW Nr Fq NE FP Jx FU FS Jo Fm Fu Ma NA OD KH Nb Mn Kh K7 Qs I7 IK GD I0 IT IF Dc FF Ep Jb Ei Ez Df DS Sq IV I6 FJ IW I8 DL D6 BU BR CJ D7 D4 ev get put Di AG DG JR KI JI KV IQ J2 Dr part Az G6 K6 FY isNil Ci Cw DK Cx CQ Jf K5 JY Kj KO KZ Jj Iz KB Ki KG KL JT Jp J8 JV AV.fits AV.cells ones AV.one DX Bm DZ D1 Dg Du KP EH EQ CM Bk Cn Fc DM Ay BG Sx G0 Jn Iu List.getElem?_cons_zero List.getElem?_cons_succ FL Fp Fg J6 K3 J4 G7 J5 Jl Jc Kb KE Ja KX Mr Jg Jd Jm Ji JA JP J7 Jk Kg J1 KY K4 Iv JM JZ Jq K2 KJ JX Kd
theorem Uf (s : AM) (hs : s.length ≤ 2000000) : APure Tryz.prog 142 [.str s] (.bool (Gn s)) := by
 by_cases hne : s = []
 ·subst hne
  have e : Gn [] = false := rfl
  rw [e]
  refine A7 Tryz.func142 Nl rfl fun n H hH => ?_
  repeat' (first | (simp -implicitDefEqProofs [Ct, Ck, Co, Cr, Cm, c142, -getElem?_pos]) | (simp (disch := omega) only [AF]) | (with_reducible first | refine A6 ?_ ?_ ?_ | exact AC | refine SameB.upd ?_ ?_ _ | assumption | refine A2 ?_ | refine KM.of ?_ | refine AE ?_ | intro _g _hg | refine AD ?_ ?_ | intro _hc) | omega)
  all_goals exact A1 _
 ·obtain ⟨c, hg0⟩ : ∃ c, s[0]? = some c := ⟨_, List.getElem?_eq_getElem (List.length_pos_iff.2 hne)⟩
  have hd0 := NB c
  rw [VJ hg0]
  generalize BE c = b0 at *
  by_cases h24 : (s.length : Int) ≤ 24
  ·rw [decide_eq_true h24]
   have h24' : ¬ (24 : Int) < (s.length : Int) := by omega
   cases b0
   ·simp only [Bool.not_false, Bool.true_and] at *
    obtain ⟨z, hz⟩ : ∃ z, s.all okF = z := ⟨_, rfl⟩
    rw [hz]
    refine A7 Tryz.func142 Nl rfl fun n H hH => ?_
    repeat' (first | (simp -implicitDefEqProofs [Ct, Ck, Co, Cr, Cm, c142, -getElem?_pos, h24', hne, hg0]) | (simp (disch := omega) only [AF]) | ((with_reducible refine AH 154 ?_); (refine' CallP.sf ?_ (hd0) ?_); (focus first | (with_reducible exact A0 _) | (simp [AA, A9, A1, A0]; done))) | (with_reducible first | refine A6 ?_ ?_ ?_ | exact AC | refine SameB.upd ?_ ?_ _ | assumption | refine A2 ?_ | refine KM.of ?_ | refine AE ?_ | intro _g _hg | refine AD ?_ ?_ | intro _hc) | omega)
    refine LoopK.go (fun m st => ∃ (k : Nat), k + m = s.length ∧ st = ⟨[(0, .str s), (3, aI k)], n, H⟩ ∧ z = (s.drop k).all okF) s.length ⟨0, by omega, rfl, by rw [← hz]; rfl⟩ ?_
    rintro m st ⟨k, hkm, rfl, hE⟩ J hJ
    by_cases hk : k < s.length
    ·obtain ⟨y, hy⟩ : ∃ y, s[k]? = some y := ⟨_, List.getElem?_eq_getElem hk⟩
     rw [drop_at hy, List.all_cons] at hE
     have hd := NB y
     have hl := Uz y
     have h95 : y = 95 ↔ (y.toNat : Int) = 95 := ⟨fun e => by rw [e]; rfl, fun e => UInt8.toNat_inj.1 (show y.toNat = 95 by omega)⟩
     have hk' : (k : Int) < s.length := by omega
     unfold okF at hE
     generalize Hd y = bl at *
     generalize BE y = bd at *
     clear hz
     cases bl
     ·cases bd
      ·repeat' (first | (simp -implicitDefEqProofs [Ct, Ck, Co, Cr, Cm, c142, -getElem?_pos, hy, hk']) | (simp (disch := omega) only [AF]) | ((with_reducible refine AH 154 ?_); (refine' CallP.sf ?_ (hd) ?_); (focus first | (with_reducible exact A0 _) | (simp [AA, A9, A1, A0]; done))) | (with_reducible first | refine A6 ?_ ?_ ?_ | exact AC | refine SameB.upd ?_ ?_ _ | assumption | refine A2 ?_ | refine KM.of ?_ | refine AE ?_ | intro _g _hg | refine AD ?_ ?_ | intro _hc) | omega)
       all_goals first | (exfalso; grind) | (refine AY ?_; rw [hE]; rfl)
      ·repeat' (first | (simp -implicitDefEqProofs [Ct, Ck, Co, Cr, Cm, c142, -getElem?_pos, hy, hk']) | (simp (disch := omega) only [AF]) | ((with_reducible refine AH 154 ?_); (refine' CallP.sf ?_ (hd) ?_); (focus first | (with_reducible exact A0 _) | (simp [AA, A9, A1, A0]; done))) | (with_reducible first | refine A6 ?_ ?_ ?_ | exact AC | refine SameB.upd ?_ ?_ _ | assumption | refine A2 ?_ | refine KM.of ?_ | refine AE ?_ | intro _g _hg | refine AD ?_ ?_ | intro _hc) | omega)
       all_goals first | (exact hJ (m - 1) _ (by omega) ⟨k + 1, by omega, rfl, by rw [hE]; rfl⟩) | (exfalso; grind)
     ·repeat' (first | (simp -implicitDefEqProofs [Ct, Ck, Co, Cr, Cm, c142, -getElem?_pos, hy, hk']) | (simp (disch := omega) only [AF]) | ((with_reducible refine AH 154 ?_); (refine' CallP.sf ?_ (hd) ?_); (focus first | (with_reducible exact A0 _) | (simp [AA, A9, A1, A0]; done))) | (with_reducible first | refine A6 ?_ ?_ ?_ | exact AC | refine SameB.upd ?_ ?_ _ | assumption | refine A2 ?_ | refine KM.of ?_ | refine AE ?_ | intro _g _hg | refine AD ?_ ?_ | intro _hc) | omega)
      all_goals first | (exact hJ (m - 1) _ (by omega) ⟨k + 1, by omega, rfl, by rw [hE]; rfl⟩) | (exfalso; grind)
    ·have hk0 : k = s.length := by omega
     subst hk0
     have hk' : ¬ (s.length : Int) < s.length := by omega
     rw [List.drop_length] at hE
     rw [hE]
     repeat' (first | (simp -implicitDefEqProofs [Ct, Ck, Co, Cr, Cm, c142, -getElem?_pos, hk']) | (simp (disch := omega) only [AF]) | (with_reducible first | refine A6 ?_ ?_ ?_ | exact AC | refine SameB.upd ?_ ?_ _ | assumption | refine A2 ?_ | refine KM.of ?_ | refine AE ?_ | intro _g _hg | refine AD ?_ ?_ | intro _hc) | omega)
     all_goals exact A1 _
   ·simp only [Bool.not_true, Bool.and_false, Bool.false_and] at *
    refine A7 Tryz.func142 Nl rfl fun n H hH => ?_
    repeat' (first | (simp -implicitDefEqProofs [Ct, Ck, Co, Cr, Cm, c142, -getElem?_pos, h24', hne, hg0]) | (simp (disch := omega) only [AF]) | ((with_reducible refine AH 154 ?_); (refine' CallP.sf ?_ (hd0) ?_); (focus first | (with_reducible exact A0 _) | (simp [AA, A9, A1, A0]; done))) | (with_reducible first | refine A6 ?_ ?_ ?_ | exact AC | refine SameB.upd ?_ ?_ _ | assumption | refine A2 ?_ | refine KM.of ?_ | refine AE ?_ | intro _g _hg | refine AD ?_ ?_ | intro _hc) | omega)
    all_goals exact A1 _
  ·rw [decide_eq_false h24]
   have h24' : (24 : Int) < (s.length : Int) := by omega
   simp only [Bool.false_and] at *
   refine A7 Tryz.func142 Nl rfl fun n H hH => ?_
   repeat' (first | (simp -implicitDefEqProofs [Ct, Ck, Co, Cr, Cm, c142, -getElem?_pos, h24', hne, hg0]) | (simp (disch := omega) only [AF]) | ((with_reducible refine AH 154 ?_); (refine' CallP.sf ?_ (hd0) ?_); (focus first | (with_reducible exact A0 _) | (simp [AA, A9, A1, A0]; done))) | (with_reducible first | refine A6 ?_ ?_ ?_ | exact AC | refine SameB.upd ?_ ?_ _ | assumption | refine A2 ?_ | refine KM.of ?_ | refine AE ?_ | intro _g _hg | refine AD ?_ ?_ | intro _hc) | omega)
   all_goals exact A1 _
def TH (s : AM) : Bool := !decide (s = YT) && !decide (s = Ry) && !decide (s = YV) && !decide (s = Ro) && !decide (s = Vj) && !decide (s = Rp)
theorem Xy (s : AM) : HS s = (Gn s && TH s) := by
 unfold HS TH
 congr 1
 by_cases h : s ∈ UW
 ·have := h
  simp only [UW, List.mem_cons, List.not_mem_nil, or_false] at this
  rw [decide_eq_true h]
  rcases this with rfl | rfl | rfl | rfl | rfl | rfl <;> decide
 ·have := h
  simp only [UW, List.mem_cons, List.not_mem_nil, or_false, not_or] at this
  rw [decide_eq_false h]
  simp [this]
theorem Kr (s : AM) (hs : s.length ≤ 2000000) : APure Tryz.prog 105 [.str s] (.bool (HS s)) := by
 have h1 := Uf s hs
 have hk := Xy s
 unfold TH YT Ry YV Ro Vj Rp at hk
 rw [hk]
 generalize Gn s = b at *
 clear hk
 refine A7 Tryz.func105 Ws rfl fun n H hH => ?_
 repeat' (first | (simp -implicitDefEqProofs [c105, -getElem?_pos]) | (simp (disch := omega) only [AF]) | ((with_reducible refine AH 142 ?_); (refine' CallP.sf ?_ (h1) ?_); (focus first | (with_reducible exact A0 _) | (simp [AA, A9, A1, A0]; done))) | (with_reducible first | refine A6 ?_ ?_ ?_ | exact AC | refine SameB.upd ?_ ?_ _ | assumption | refine A2 ?_ | refine KM.of ?_ | refine AE ?_ | intro _g _hg | refine AD ?_ ?_ | intro _hc) | omega)
 all_goals (refine AY ?_; grind)
theorem TK (s : AM) (hs : s.length ≤ 2000000) : APure Tryz.prog 143 [.str s] (.bool (R5 s)) := by
 have h1 := TY s hs
 obtain ⟨h2, h3⟩ := Uj s
 have hx : R5 s = ((G5 s).2 && decide (0 ≤ (G5 s).1) && decide ((G5 s).1 ≤ 999)) := by
  unfold R5
  rw [← h2]
  cases hb : (G5 s).2 with
  | false => simp
  | true => rw [h3 (by rw [← h2]; exact hb)]
 rw [hx]
 generalize (G5 s).1 = v at *
 generalize (G5 s).2 = b at *
 clear hx h2 h3
 refine A7 Tryz.func143 WV rfl fun n H hH => ?_
 cases b
 ·repeat' (first | (simp -implicitDefEqProofs [c143, -getElem?_pos]) | (simp (disch := omega) only [AF]) | ((with_reducible refine AH 116 ?_); (refine' CallP.sf ?_ (h1) ?_); (focus first | (with_reducible exact A0 _) | (simp [AA, A9, A1, A0]; done))) | (with_reducible first | refine A6 ?_ ?_ ?_ | exact AC | refine SameB.upd ?_ ?_ _ | assumption | refine A2 ?_ | refine KM.of ?_ | refine AE ?_ | intro _g _hg | refine AD ?_ ?_ | intro _hc) | omega)
  all_goals (refine AY ?_; grind)
 ·repeat' (first | (simp -implicitDefEqProofs [c143, -getElem?_pos]) | (simp (disch := omega) only [AF]) | ((with_reducible refine AH 116 ?_); (refine' CallP.sf ?_ (h1) ?_); (focus first | (with_reducible exact A0 _) | (simp [AA, A9, A1, A0]; done))) | (with_reducible first | refine A6 ?_ ?_ ?_ | exact AC | refine SameB.upd ?_ ?_ _ | assumption | refine A2 ?_ | refine KM.of ?_ | refine AE ?_ | intro _g _hg | refine AD ?_ ?_ | intro _hc) | omega)
  all_goals (refine AY ?_; grind)
theorem VH (p : List AM) (hb : ∀ s ∈ p, s.length ≤ 2000000) (hl : p.length ≤ 140737488355328) : APure Tryz.prog 106 [Gp p] (.bool (DN p)) := by
 cases p with
 | nil =>
  have e : DN [] = false := rfl
  rw [e]
  refine A7 Tryz.func106 Ny rfl fun n H hH => ?_
  repeat' (first | (simp -implicitDefEqProofs [Cv, Cp, Cq, Cl, Cs, c106, -getElem?_pos]) | (simp (disch := omega) only [AF]) | (with_reducible first | refine A6 ?_ ?_ ?_ | exact AC | refine SameB.upd ?_ ?_ _ | assumption | refine A2 ?_ | refine KM.of ?_ | refine AE ?_ | intro _g _hg | refine AD ?_ ?_ | intro _hc) | omega)
  all_goals exact A1 _
 | cons h t =>
  have h1 := Kr h (hb h List.mem_cons_self)
  have e : DN (h :: t) = (decide ((t.length : Int) + 1 ≤ 8) && HS h && t.all fun s => HS s || R5 s) := by
   have : (decide (t.length ≤ 7)) = decide ((t.length : Int) + 1 ≤ 8) := decide_eq_decide.2 (by omega)
   simp only [DN, this]
  rw [e]
  have hg : (UP (h :: t))[0]? = some (.str h) := rfl
  obtain ⟨z, hz⟩ : ∃ z, (t.all fun s => HS s || R5 s) = z := ⟨_, rfl⟩
  rw [hz]
  generalize HS h = ba at *
  by_cases h8 : (t.length : Int) + 1 ≤ 8
  ·rw [decide_eq_true h8]
   have h8' : ¬ (8 : Int) < (t.length : Int) + 1 := by omega
   cases ba
   ·refine A7 Tryz.func106 Ny rfl fun n H hH => ?_
    repeat' (first | (simp -implicitDefEqProofs [Cv, Cp, Cq, Cl, Cs, c106, -getElem?_pos, h8']) | (simp (disch := omega) only [AF]) | ((with_reducible refine AH 105 ?_); (refine' CallP.sf ?_ (h1) ?_); (focus first | (with_reducible exact A0 _) | (simp [AA, A9, A1, A0]; done))) | (with_reducible first | refine A6 ?_ ?_ ?_ | exact AC | refine SameB.upd ?_ ?_ _ | assumption | refine A2 ?_ | refine KM.of ?_ | refine AE ?_ | intro _g _hg | refine AD ?_ ?_ | intro _hc) | omega)
    all_goals exact A1 _
   ·simp only [Bool.true_and]
    refine A7 Tryz.func106 Ny rfl fun n H hH => ?_
    repeat' (first | (simp -implicitDefEqProofs [Cv, Cp, Cq, Cl, Cs, c106, -getElem?_pos, h8']) | (simp (disch := omega) only [AF]) | ((with_reducible refine AH 105 ?_); (refine' CallP.sf ?_ (h1) ?_); (focus first | (with_reducible exact A0 _) | (simp [AA, A9, A1, A0]; done))) | (with_reducible first | refine A6 ?_ ?_ ?_ | exact AC | refine SameB.upd ?_ ?_ _ | assumption | refine A2 ?_ | refine KM.of ?_ | refine AE ?_ | intro _g _hg | refine AD ?_ ?_ | intro _hc) | omega)
    refine LoopK.go (fun m st => ∃ (k : Nat), k + m = t.length ∧ st = ⟨[(0, Gp (h :: t)), (3, aI (k + 1 : Nat))], n, H⟩ ∧ z = (t.drop k).all fun s => HS s || R5 s) t.length ⟨0, by omega, rfl, by rw [← hz]; rfl⟩ ?_
    rintro m st ⟨k, hkm, rfl, hE⟩ J hJ
    clear hz e
    by_cases hk : k < t.length
    ·obtain ⟨y, hy⟩ : ∃ y, t[k]? = some y := ⟨_, List.getElem?_eq_getElem hk⟩
     have hyb := hb y (List.mem_cons_of_mem _ (List.mem_of_getElem? hy))
     rw [drop_at hy, List.all_cons] at hE
     have hi := Kr y hyb
     have hx := TK y hyb
     have hk' : ((k + 1 : Nat) : Int) < (t.length : Int) + 1 := by omega
     have hk2 : (k : Int) + 1 < (t.length : Int) + 1 := by omega
     generalize HS y = bi at *
     generalize R5 y = bx at *
     cases bi
     ·cases bx
      ·repeat' (first | (simp -implicitDefEqProofs [Cv, Cp, Cq, Cl, Cs, c106, -getElem?_pos, hy, hk', hk2]) | (simp (disch := omega) only [AF]) | ((with_reducible refine AH 105 ?_); (refine' CallP.sf ?_ (hi) ?_); (focus first | (with_reducible exact A0 _) | (simp [AA, A9, A1, A0]; done))) | ((with_reducible refine AH 143 ?_); (refine' CallP.sf ?_ (hx) ?_); (focus first | (with_reducible exact A0 _) | (simp [AA, A9, A1, A0]; done))) | (with_reducible first | refine A6 ?_ ?_ ?_ | exact AC | refine SameB.upd ?_ ?_ _ | assumption | refine A2 ?_ | refine KM.of ?_ | refine AE ?_ | intro _g _hg | refine AD ?_ ?_ | intro _hc) | omega)
       all_goals (refine AY ?_; rw [hE]; rfl)
      ·repeat' (first | (simp -implicitDefEqProofs [Cv, Cp, Cq, Cl, Cs, c106, -getElem?_pos, hy, hk', hk2]) | (simp (disch := omega) only [AF]) | ((with_reducible refine AH 105 ?_); (refine' CallP.sf ?_ (hi) ?_); (focus first | (with_reducible exact A0 _) | (simp [AA, A9, A1, A0]; done))) | ((with_reducible refine AH 143 ?_); (refine' CallP.sf ?_ (hx) ?_); (focus first | (with_reducible exact A0 _) | (simp [AA, A9, A1, A0]; done))) | (with_reducible first | refine A6 ?_ ?_ ?_ | exact AC | refine SameB.upd ?_ ?_ _ | assumption | refine A2 ?_ | refine KM.of ?_ | refine AE ?_ | intro _g _hg | refine AD ?_ ?_ | intro _hc) | omega)
       all_goals (exact hJ (m - 1) _ (by omega) ⟨k + 1, by omega, rfl, by rw [hE]; rfl⟩)
     ·repeat' (first | (simp -implicitDefEqProofs [Cv, Cp, Cq, Cl, Cs, c106, -getElem?_pos, hy, hk', hk2]) | (simp (disch := omega) only [AF]) | ((with_reducible refine AH 105 ?_); (refine' CallP.sf ?_ (hi) ?_); (focus first | (with_reducible exact A0 _) | (simp [AA, A9, A1, A0]; done))) | ((with_reducible refine AH 143 ?_); (refine' CallP.sf ?_ (hx) ?_); (focus first | (with_reducible exact A0 _) | (simp [AA, A9, A1, A0]; done))) | (with_reducible first | refine A6 ?_ ?_ ?_ | exact AC | refine SameB.upd ?_ ?_ _ | assumption | refine A2 ?_ | refine KM.of ?_ | refine AE ?_ | intro _g _hg | refine AD ?_ ?_ | intro _hc) | omega)
      all_goals (exact hJ (m - 1) _ (by omega) ⟨k + 1, by omega, rfl, by rw [hE]; rfl⟩)
    ·have hk0 : k = t.length := by omega
     subst hk0
     have hk' : ¬ ((t.length + 1 : Nat) : Int) < (t.length : Int) + 1 := by omega
     rw [List.drop_length] at hE
     rw [hE]
     repeat' (first | (simp -implicitDefEqProofs [Cv, Cp, Cq, Cl, Cs, c106, -getElem?_pos, hk']) | (simp (disch := omega) only [AF]) | (with_reducible first | refine A6 ?_ ?_ ?_ | exact AC | refine SameB.upd ?_ ?_ _ | assumption | refine A2 ?_ | refine KM.of ?_ | refine AE ?_ | intro _g _hg | refine AD ?_ ?_ | intro _hc) | omega)
     all_goals exact A1 _
  ·rw [decide_eq_false h8]
   have h8' : (8 : Int) < (t.length : Int) + 1 := by omega
   simp only [Bool.false_and]
   refine A7 Tryz.func106 Ny rfl fun n H hH => ?_
   repeat' (first | (simp -implicitDefEqProofs [Cv, Cp, Cq, Cl, Cs, c106, -getElem?_pos, h8']) | (simp (disch := omega) only [AF]) | ((with_reducible refine AH 105 ?_); (refine' CallP.sf ?_ (h1) ?_); (focus first | (with_reducible exact A0 _) | (simp [AA, A9, A1, A0]; done))) | (with_reducible first | refine A6 ?_ ?_ ?_ | exact AC | refine SameB.upd ?_ ?_ _ | assumption | refine A2 ?_ | refine KM.of ?_ | refine AE ?_ | intro _g _hg | refine AD ?_ ?_ | intro _hc) | omega)
   all_goals exact A1 _
theorem Re (s : AM) : APure Tryz.prog 37 [.str s] (aI (HV s : Nat)) := by
 have h1 : HV s = if s = L5 then 1 else if s = L7 then 1 else if s = P9 then 1 else if s = Hq then 1 else if s = Tl then 2 else if s = LA then 2 else if s = UQ then 2 else 0 := by
  unfold HV Y2 Xg
  simp only [List.mem_cons, List.not_mem_nil, or_false]
  grind
 obtain ⟨z, hz⟩ : ∃ z, HV s = z := ⟨_, rfl⟩
 rw [hz] at h1 ⊢
 unfold L5 L7 P9 Hq Tl LA UQ at h1
 refine A7 Tryz.func37 Xf rfl fun n H hH => ?_
 repeat' (first | (simp -implicitDefEqProofs [SD, Sc, c37, -getElem?_pos]) | (simp (disch := omega) only [AF]) | (with_reducible first | refine A6 ?_ ?_ ?_ | exact AC | refine SameB.upd ?_ ?_ _ | assumption | refine A2 ?_ | refine KM.of ?_ | refine AE ?_ | intro _g _hg | refine AD ?_ ?_ | intro _hc) | omega)
 all_goals (refine AY ?_; grind)
def O4 : List (AV × AV) := [(.str [117, 112, 112, 101, 114], .bool false), (.str [108, 111, 119, 101, 114], .bool false), (.str [116, 114, 105, 109], .bool false), (.str [106, 115, 111, 110], .bool false), (.str [112, 97, 100], .bool true), (.str [114, 105, 103, 104, 116], .bool true), (.str [99, 117, 116], .bool true)]
theorem Sl (n : Nat) (H : A3) : ACalls Tryz.prog 64 [] n H fun r n' H' => ∃ g, n ≤ g ∧ n' = g + 1 ∧ r = .mp g ∧ H' = upd H g (some (.map none O4)) := by
 refine CU Tryz.func64 XT rfl fun hs => ?_
 repeat' (first | (simp -implicitDefEqProofs [c64, -getElem?_pos]) | (simp (disch := omega) only [AF]) | (with_reducible first | refine A6 ?_ ?_ ?_ | exact AC | assumption | refine A2 ?_ | refine KM.of ?_ | refine AE ?_ | refine VF ?_ | intro _g _hg | refine AD ?_ ?_ | intro _hc) | omega)
 simp only [Cc]
 exact RP (r := .mp _) rfl (by omega) (fun k hk => by rw [upd_ne (by omega)]; exact hs k (by omega)) ⟨_, by omega, rfl, rfl, rfl⟩
theorem Pn (s : AM) : BR (.str s) O4 = if HV s = 0 then none else some (.bool (decide (HV s = 2))) := by
 simp only [O4, BR, D7]
 unfold HV Y2 Xg L5 L7 P9 Hq Tl LA UQ
 simp only [List.mem_cons, List.not_mem_nil, or_false, decide_eq_true_eq]
 by_cases h1 : s = [117, 112, 112, 101, 114]
 ·simp [h1]
 by_cases h2 : s = [108, 111, 119, 101, 114]
 ·simp [h2]
 by_cases h3 : s = [116, 114, 105, 109]
 ·simp [h3]
 by_cases h4 : s = [106, 115, 111, 110]
 ·simp [h4]
 by_cases h5 : s = [112, 97, 100]
 ·simp [h5]
 by_cases h6 : s = [114, 105, 103, 104, 116]
 ·simp [h6]
 by_cases h7 : s = [99, 117, 116]
 ·simp [h7]
 simp [h1, h2, h3, h4, h5, h6, h7]
theorem Bq {gs : List Nat} {d : Option Nat} {K : AS → Prop} {e : AK} {n : Nat} {H : A3} (hs : ∀ k, n ≤ k → H k = none) (hk : ∀ g n', n ≤ g → (n' = 0 ∨ n' = g + 1) → K ⟨AG e d (.mp g), n', upd H g (some (.map none O4))⟩) : exM .early gs d K ⟨e, n, H⟩ (CallK Tryz.prog 64 [] d (KC gs H K) ⟨e, n, H⟩) := by
 refine ⟨fun m => ⟨.mp (max n m), 0, _, KeepM.new (hs _ (by omega)), fun k ob hk _ h => ?_, hk (max n m) 0 (by omega) (.inl rfl)⟩, _, Sl n H, ?_⟩
 ·rw [← h]; exact CT (by simp only [upd]; rw [if_neg (by omega)])
 ·rintro r n' H' hle hsup ⟨g, h1, h2, rfl, rfl⟩
  exact ⟨KeepM.new (hs g h1), hk g n' h1 (.inr h2)⟩
theorem D9 {gs : List Nat} {ops : List AOper} {K : AS → Prop} {e : AK} {n : Nat} {H : A3} (h : A4 Tryz.prog .early n gs ops (dryK .early K) ⟨e, n, H⟩) : XZ Tryz.prog .early gs ops K ⟨e, n, H⟩ := ⟨[], h⟩
theorem E6 {K : AS → Prop} {e : AK} {n' g : Nat} {H : A3} {ob : AObj} (hn : n' = 0 ∨ n' = g + 1) (hg : H g = some ob) (hk : n' = g + 1 → K ⟨e, n', H⟩) : dryK .early K ⟨e, n', H⟩ := by
 rcases hn with h | h
 ·exact .inl ⟨g, by simp only; omega, by simp only; rw [hg]; simp⟩
 ·exact .inr (hk h)
theorem HR (s : AM) : HV s = 0 ∨ HV s = 1 ∨ HV s = 2 := by
 unfold HV
 (repeat' split) <;> simp
theorem NO {l : List (AM × Int)} {i : Nat} {x : AM × Int} (h : l[i]? = some x) : (l.map YR)[i]? = some (YR x) := by rw [List.getElem?_map, h]; rfl
theorem HJ (k : Int) (t nm : AM) (pa : List AM) (fs : List (AM × Int)) (lb le : List AV) (hpa : ∀ s ∈ pa, s.length ≤ 2000000) (hpl : pa.length ≤ 2000000) (hn : nm.length ≤ 2000000) (hf : fs.length ≤ 2000000) :
  APure Tryz.prog 68 [.agg [aI k, .str t, .str nm, Gp pa, Ea fs, .sl 7 lb .ro, .sl 7 le .ro]] (aI (Np k nm pa fs)) := by
 have h1 := OR nm hn
 have h2 := WE pa hpa (by omega)
 have hA : Np k nm pa fs = if (k = 4 ∧ HS nm = false) ∨ (k ≠ 1 ∧ DN pa = false) then 7 else if 8 < fs.length then 2 else H6 0 fs := rfl
 rw [hA]
 generalize HS nm = b1 at *
 generalize DN pa = b2 at *
 obtain ⟨z, hz⟩ : ∃ z, (if 8 < fs.length then 2 else H6 0 fs) = z := ⟨_, rfl⟩
 rw [hz]
 refine A7 Tryz.func68 YH rfl fun n H hH => ?_
 have fin : ∀ g e, n ≤ g → get e 1 = .ptr g 0 → aw Tryz.prog c68_k8 (ID (aI z) n H c68.res) ⟨e, g + 1, upd H g (some (.cells 55 [aI k, .str t, .str nm, Gp pa, Ea fs, .sl 7 lb .ro, .sl 7 le .ro]))⟩ := by
  clear h1 h2 hA
  intro g e hg he
  by_cases h8 : (8 : Int) < fs.length
  ·rw [if_pos (by omega)] at hz
   subst hz
   repeat' (first | (simp -implicitDefEqProofs [CF, Bx, C3, C2, C8, Bv, C7, Bz, c68, -getElem?_pos, he, h8]) | (simp (disch := omega) only [AF]) | (with_reducible first | refine A6 ?_ ?_ ?_ | exact AC | refine SameB.upd ?_ ?_ _ | assumption | refine A2 ?_ | refine KM.of ?_ | refine AE ?_ | refine A5 ?_ | refine A8 ?_ | intro _g _hg | refine AD ?_ ?_ | intro _hc) | omega)
   all_goals exact A1 _
  ·rw [if_neg (by omega)] at hz
   repeat' (first | (simp -implicitDefEqProofs [CF, Bx, C3, C2, C8, Bv, C7, Bz, c68, -getElem?_pos, he, h8]) | (simp (disch := omega) only [AF]) | (with_reducible first | refine A6 ?_ ?_ ?_ | exact AC | refine SameB.upd ?_ ?_ _ | assumption | refine A2 ?_ | refine KM.of ?_ | refine AE ?_ | refine A5 ?_ | refine A8 ?_ | intro _g _hg | refine AD ?_ ?_ | intro _hc) | omega)
   refine LoopK.go (fun m st => ∃ (i n' : Nat) (H' : A3), i + m = fs.length ∧ st = ⟨[(32, Ea fs), (33, aI fs.length), (34, aI i)], n', H'⟩ ∧ n ≤ n' ∧ SameB n H H' ∧ (∀ q, n' ≤ q → H' q = none) ∧ z = H6 i (fs.drop i)) fs.length ⟨0, _, _, by omega, rfl, by omega, (SameB.rfl_ n H).upd hg _, fun q hq => by rw [upd_ne (by omega)]; exact hH q (by omega), hz.symm⟩ ?_
   rintro m st ⟨i, n1, H1, him, rfl, hn1, hS, hsup, hE⟩ J hJ
   clear hz he
   by_cases hi : i < fs.length
   ·obtain ⟨x, hx⟩ : ∃ x, fs[i]? = some x := ⟨_, List.getElem?_eq_getElem hi⟩
    have hx2 := NO hx
    have hi' : (i : Int) < fs.length := by omega
    rw [drop_at hx, H6] at hE
    have hm := Pn x.1
    have hk3 := HR x.1
    have hj : x.1 = Hq ↔ x.1 = [106, 115, 111, 110] := Iff.rfl
    obtain ⟨a, b⟩ := x
    simp only at hE hm hk3 hj
    generalize HV a = c at *
    rcases hk3 with rfl | rfl | rfl
    ·simp only [if_true] at hE hm
     repeat' (first | (simp -implicitDefEqProofs [CF, Bx, C3, C2, C8, Bv, C7, Bz, c68, -getElem?_pos, splice, hm, hx2, hi']) | (simp (disch := omega) only [AF]) | ((with_reducible refine D9 ?_)) | ((refine Bq ?_ ?_); (focus (intro q hq; simp only [Cc]; rw [upd_ne (by omega)]; exact hsup q (by omega))); intro _gm _nm _hgm _hnm) | ((refine E6 _hnm (Ay _ _ _) ?_); intro _hn2; subst _hn2) | (with_reducible first | refine A6 ?_ ?_ ?_ | exact AC | refine SameB.upd ?_ ?_ _ | assumption | refine A2 ?_ | refine KM.of ?_ | refine AE ?_ | refine A5 ?_ | refine A8 ?_ | intro _g _hg | refine AD ?_ ?_ | intro _hc) | omega)
     all_goals (refine AY ?_; rw [hE])
    ·simp only [show ¬ ((1 : Nat) = 0) by decide, show ¬ ((1 : Nat) = 2) by decide, show ¬ ((2 : Nat) = 0) by decide, show ¬ ((2 : Nat) = 1) by decide, if_false, decide_true, decide_false, true_and, false_and, or_false] at hE hm
     by_cases hr : (b < 0 ∨ 200 < b) ∨ b ≠ 0
     ·rw [if_pos hr] at hE
      repeat' (first | (simp -implicitDefEqProofs [CF, Bx, C3, C2, C8, Bv, C7, Bz, c68, -getElem?_pos, splice, hm, hx2, hi']) | (simp (disch := omega) only [AF]) | ((with_reducible refine D9 ?_)) | ((refine Bq ?_ ?_); (focus (intro q hq; simp only [Cc]; rw [upd_ne (by omega)]; exact hsup q (by omega))); intro _gm _nm _hgm _hnm) | ((refine E6 _hnm (Ay _ _ _) ?_); intro _hn2; subst _hn2) | (with_reducible first | refine A6 ?_ ?_ ?_ | exact AC | refine SameB.upd ?_ ?_ _ | assumption | refine A2 ?_ | refine KM.of ?_ | refine AE ?_ | refine A5 ?_ | refine A8 ?_ | intro _g _hg | refine AD ?_ ?_ | intro _hc) | omega)
      all_goals first | (refine AY ?_; rw [hE]; done) | (exfalso; omega) | skip
     ·rw [if_neg hr] at hE
      have r1 : ¬ b < 0 := by omega
      have r2 : ¬ 200 < b := by omega
      have r3 : b = 0 := by omega
      by_cases hjn : 0 < i ∧ a = Hq
      ·rw [if_pos hjn] at hE
       obtain ⟨j1, j2⟩ := hjn
       have j1' : (0 : Int) < i := by omega
       rw [hj] at j2
       subst j2
       repeat' (first | (simp -implicitDefEqProofs [CF, Bx, C3, C2, C8, Bv, C7, Bz, c68, -getElem?_pos, splice, hm, hx2, hi', r1, r2, r3, j1']) | (simp (disch := omega) only [AF]) | ((with_reducible refine D9 ?_)) | ((refine Bq ?_ ?_); (focus (intro q hq; simp only [Cc]; rw [upd_ne (by omega)]; exact hsup q (by omega))); intro _gm _nm _hgm _hnm) | ((refine E6 _hnm (Ay _ _ _) ?_); intro _hn2; subst _hn2) | (with_reducible first | refine A6 ?_ ?_ ?_ | exact AC | refine SameB.upd ?_ ?_ _ | assumption | refine A2 ?_ | refine KM.of ?_ | refine AE ?_ | refine A5 ?_ | refine A8 ?_ | intro _g _hg | refine AD ?_ ?_ | intro _hc) | omega)
       all_goals (refine AY ?_; rw [hE])
      ·rw [if_neg hjn] at hE
       have hjn' : ¬ (0 < (i : Int) ∧ a = [106, 115, 111, 110]) := fun h => hjn ⟨by omega, hj.2 h.2⟩
       by_cases j2 : a = [106, 115, 111, 110]
       ·have j1' : ¬ (0 : Int) < i := fun h => hjn' ⟨h, j2⟩
        subst j2
        repeat' (first | (simp -implicitDefEqProofs [CF, Bx, C3, C2, C8, Bv, C7, Bz, c68, -getElem?_pos, splice, hm, hx2, hi', r1, r2, r3, j1']) | (simp (disch := omega) only [AF]) | ((with_reducible refine D9 ?_)) | ((refine Bq ?_ ?_); (focus (intro q hq; simp only [Cc]; rw [upd_ne (by omega)]; exact hsup q (by omega))); intro _gm _nm _hgm _hnm) | ((refine E6 _hnm (Ay _ _ _) ?_); intro _hn2; subst _hn2) | (with_reducible first | refine A6 ?_ ?_ ?_ | exact AC | refine SameB.upd ?_ ?_ _ | assumption | refine A2 ?_ | refine KM.of ?_ | refine AE ?_ | refine A5 ?_ | refine A8 ?_ | intro _g _hg | refine AD ?_ ?_ | intro _hc) | omega)
        exact hJ (m - 1) _ (by omega) ⟨i + 1, _, _, by omega, rfl, by omega, ((hS.upd (by omega) _).upd (by omega) _).upd (by omega) _, fun q hq => by rw [upd_ne (by omega), upd_ne (by omega), upd_ne (by omega)]; exact hsup q (by omega), by rw [hE]⟩
       ·repeat' (first | (simp -implicitDefEqProofs [CF, Bx, C3, C2, C8, Bv, C7, Bz, c68, -getElem?_pos, splice, hm, hx2, hi', r1, r2, r3, j2]) | (simp (disch := omega) only [AF]) | ((with_reducible refine D9 ?_)) | ((refine Bq ?_ ?_); (focus (intro q hq; simp only [Cc]; rw [upd_ne (by omega)]; exact hsup q (by omega))); intro _gm _nm _hgm _hnm) | ((refine E6 _hnm (Ay _ _ _) ?_); intro _hn2; subst _hn2) | (with_reducible first | refine A6 ?_ ?_ ?_ | exact AC | refine SameB.upd ?_ ?_ _ | assumption | refine A2 ?_ | refine KM.of ?_ | refine AE ?_ | refine A5 ?_ | refine A8 ?_ | intro _g _hg | refine AD ?_ ?_ | intro _hc) | omega)
        exact hJ (m - 1) _ (by omega) ⟨i + 1, _, _, by omega, rfl, by omega, ((hS.upd (by omega) _).upd (by omega) _).upd (by omega) _, fun q hq => by rw [upd_ne (by omega), upd_ne (by omega), upd_ne (by omega)]; exact hsup q (by omega), by rw [hE]⟩
    ·simp only [show ¬ ((1 : Nat) = 0) by decide, show ¬ ((1 : Nat) = 2) by decide, show ¬ ((2 : Nat) = 0) by decide, show ¬ ((2 : Nat) = 1) by decide, if_false, decide_true, decide_false, true_and, false_and, or_false] at hE hm
     by_cases hr : b < 0 ∨ 200 < b
     ·rw [if_pos hr] at hE
      repeat' (first | (simp -implicitDefEqProofs [CF, Bx, C3, C2, C8, Bv, C7, Bz, c68, -getElem?_pos, splice, hm, hx2, hi']) | (simp (disch := omega) only [AF]) | ((with_reducible refine D9 ?_)) | ((refine Bq ?_ ?_); (focus (intro q hq; simp only [Cc]; rw [upd_ne (by omega)]; exact hsup q (by omega))); intro _gm _nm _hgm _hnm) | ((refine E6 _hnm (Ay _ _ _) ?_); intro _hn2; subst _hn2) | (with_reducible first | refine A6 ?_ ?_ ?_ | exact AC | refine SameB.upd ?_ ?_ _ | assumption | refine A2 ?_ | refine KM.of ?_ | refine AE ?_ | refine A5 ?_ | refine A8 ?_ | intro _g _hg | refine AD ?_ ?_ | intro _hc) | omega)
      all_goals first | (refine AY ?_; rw [hE]; done) | (exfalso; omega) | skip
     ·rw [if_neg hr] at hE
      have r1 : ¬ b < 0 := by omega
      have r2 : ¬ 200 < b := by omega
      by_cases hjn : 0 < i ∧ a = Hq
      ·rw [if_pos hjn] at hE
       obtain ⟨j1, j2⟩ := hjn
       have j1' : (0 : Int) < i := by omega
       rw [hj] at j2
       subst j2
       repeat' (first | (simp -implicitDefEqProofs [CF, Bx, C3, C2, C8, Bv, C7, Bz, c68, -getElem?_pos, splice, hm, hx2, hi', r1, r2, j1']) | (simp (disch := omega) only [AF]) | ((with_reducible refine D9 ?_)) | ((refine Bq ?_ ?_); (focus (intro q hq; simp only [Cc]; rw [upd_ne (by omega)]; exact hsup q (by omega))); intro _gm _nm _hgm _hnm) | ((refine E6 _hnm (Ay _ _ _) ?_); intro _hn2; subst _hn2) | (with_reducible first | refine A6 ?_ ?_ ?_ | exact AC | refine SameB.upd ?_ ?_ _ | assumption | refine A2 ?_ | refine KM.of ?_ | refine AE ?_ | refine A5 ?_ | refine A8 ?_ | intro _g _hg | refine AD ?_ ?_ | intro _hc) | omega)
       all_goals (refine AY ?_; rw [hE])
      ·rw [if_neg hjn] at hE
       have hjn' : ¬ (0 < (i : Int) ∧ a = [106, 115, 111, 110]) := fun h => hjn ⟨by omega, hj.2 h.2⟩
       by_cases j2 : a = [106, 115, 111, 110]
       ·have j1' : ¬ (0 : Int) < i := fun h => hjn' ⟨h, j2⟩
        subst j2
        repeat' (first | (simp -implicitDefEqProofs [CF, Bx, C3, C2, C8, Bv, C7, Bz, c68, -getElem?_pos, splice, hm, hx2, hi', r1, r2, j1']) | (simp (disch := omega) only [AF]) | ((with_reducible refine D9 ?_)) | ((refine Bq ?_ ?_); (focus (intro q hq; simp only [Cc]; rw [upd_ne (by omega)]; exact hsup q (by omega))); intro _gm _nm _hgm _hnm) | ((refine E6 _hnm (Ay _ _ _) ?_); intro _hn2; subst _hn2) | (with_reducible first | refine A6 ?_ ?_ ?_ | exact AC | refine SameB.upd ?_ ?_ _ | assumption | refine A2 ?_ | refine KM.of ?_ | refine AE ?_ | refine A5 ?_ | refine A8 ?_ | intro _g _hg | refine AD ?_ ?_ | intro _hc) | omega)
        exact hJ (m - 1) _ (by omega) ⟨i + 1, _, _, by omega, rfl, by omega, ((hS.upd (by omega) _).upd (by omega) _).upd (by omega) _, fun q hq => by rw [upd_ne (by omega), upd_ne (by omega), upd_ne (by omega)]; exact hsup q (by omega), by rw [hE]⟩
       ·repeat' (first | (simp -implicitDefEqProofs [CF, Bx, C3, C2, C8, Bv, C7, Bz, c68, -getElem?_pos, splice, hm, hx2, hi', r1, r2, j2]) | (simp (disch := omega) only [AF]) | ((with_reducible refine D9 ?_)) | ((refine Bq ?_ ?_); (focus (intro q hq; simp only [Cc]; rw [upd_ne (by omega)]; exact hsup q (by omega))); intro _gm _nm _hgm _hnm) | ((refine E6 _hnm (Ay _ _ _) ?_); intro _hn2; subst _hn2) | (with_reducible first | refine A6 ?_ ?_ ?_ | exact AC | refine SameB.upd ?_ ?_ _ | assumption | refine A2 ?_ | refine KM.of ?_ | refine AE ?_ | refine A5 ?_ | refine A8 ?_ | intro _g _hg | refine AD ?_ ?_ | intro _hc) | omega)
        exact hJ (m - 1) _ (by omega) ⟨i + 1, _, _, by omega, rfl, by omega, ((hS.upd (by omega) _).upd (by omega) _).upd (by omega) _, fun q hq => by rw [upd_ne (by omega), upd_ne (by omega), upd_ne (by omega)]; exact hsup q (by omega), by rw [hE]⟩
   ·have hi0 : i = fs.length := by omega
    subst hi0
    have hi' : ¬ (fs.length : Int) < fs.length := by omega
    rw [List.drop_length] at hE
    rw [hE]
    repeat' (first | (simp -implicitDefEqProofs [CF, Bx, C3, C2, C8, Bv, C7, Bz, c68, -getElem?_pos, hi', H6]) | (simp (disch := omega) only [AF]) | (with_reducible first | refine A6 ?_ ?_ ?_ | exact AC | refine SameB.upd ?_ ?_ _ | assumption | refine A2 ?_ | refine KM.of ?_ | refine AE ?_ | refine A5 ?_ | refine A8 ?_ | intro _g _hg | refine AD ?_ ?_ | intro _hc) | omega)
    all_goals exact A1 _
 by_cases k4 : k = 4
 ·cases b1
  ·rw [if_pos (.inl ⟨k4, rfl⟩)]
   repeat' (first | (simp -implicitDefEqProofs [c68, -getElem?_pos, k4]) | (simp (disch := omega) only [AF]) | ((with_reducible refine AH 107 ?_); (refine' CallP.sf ?_ (h1) ?_); (focus first | (with_reducible exact A0 _) | (simp [AA, A9, A1, A0]; done))) | ((with_reducible refine AH 108 ?_); (refine' CallP.sf ?_ (h2) ?_); (focus first | (with_reducible exact A0 _) | (simp [AA, A9, A1, A0]; done))) | (with_reducible first | refine A6 ?_ ?_ ?_ | exact AC | refine SameB.upd ?_ ?_ _ | assumption | refine A2 ?_ | refine KM.of ?_ | refine AE ?_ | refine A5 ?_ | refine A8 ?_ | intro _g _hg | refine AD ?_ ?_ | intro _hc) | omega)
   all_goals exact A1 _
  ·have k1 : k ≠ 1 := by omega
   cases b2
   ·rw [if_pos (.inr ⟨k1, rfl⟩)]
    repeat' (first | (simp -implicitDefEqProofs [c68, -getElem?_pos, k4]) | (simp (disch := omega) only [AF]) | ((with_reducible refine AH 107 ?_); (refine' CallP.sf ?_ (h1) ?_); (focus first | (with_reducible exact A0 _) | (simp [AA, A9, A1, A0]; done))) | ((with_reducible refine AH 108 ?_); (refine' CallP.sf ?_ (h2) ?_); (focus first | (with_reducible exact A0 _) | (simp [AA, A9, A1, A0]; done))) | (with_reducible first | refine A6 ?_ ?_ ?_ | exact AC | refine SameB.upd ?_ ?_ _ | assumption | refine A2 ?_ | refine KM.of ?_ | refine AE ?_ | refine A5 ?_ | refine A8 ?_ | intro _g _hg | refine AD ?_ ?_ | intro _hc) | omega)
    all_goals exact A1 _
   ·rw [if_neg (by simp)]
    repeat' (first | (simp -implicitDefEqProofs [c68, -getElem?_pos, k4]) | (simp (disch := omega) only [AF]) | ((with_reducible refine AH 107 ?_); (refine' CallP.sf ?_ (h1) ?_); (focus first | (with_reducible exact A0 _) | (simp [AA, A9, A1, A0]; done))) | ((with_reducible refine AH 108 ?_); (refine' CallP.sf ?_ (h2) ?_); (focus first | (with_reducible exact A0 _) | (simp [AA, A9, A1, A0]; done))) | (with_reducible first | refine A6 ?_ ?_ ?_ | exact AC | refine SameB.upd ?_ ?_ _ | assumption | refine A2 ?_ | refine KM.of ?_ | refine AE ?_ | refine A5 ?_ | refine A8 ?_ | intro _g _hg | refine AD ?_ ?_ | intro _hc) | omega)
    all_goals (subst k4; exact fin _ _ (by assumption) rfl)
 ·by_cases k1 : k = 1
  ·rw [if_neg (by simp [k4, k1])]
   repeat' (first | (simp -implicitDefEqProofs [c68, -getElem?_pos, k1]) | (simp (disch := omega) only [AF]) | ((with_reducible refine AH 107 ?_); (refine' CallP.sf ?_ (h1) ?_); (focus first | (with_reducible exact A0 _) | (simp [AA, A9, A1, A0]; done))) | ((with_reducible refine AH 108 ?_); (refine' CallP.sf ?_ (h2) ?_); (focus first | (with_reducible exact A0 _) | (simp [AA, A9, A1, A0]; done))) | (with_reducible first | refine A6 ?_ ?_ ?_ | exact AC | refine SameB.upd ?_ ?_ _ | assumption | refine A2 ?_ | refine KM.of ?_ | refine AE ?_ | refine A5 ?_ | refine A8 ?_ | intro _g _hg | refine AD ?_ ?_ | intro _hc) | omega)
   all_goals (subst k1; exact fin _ _ (by assumption) rfl)
  ·cases b2
   ·rw [if_pos (.inr ⟨k1, rfl⟩)]
    repeat' (first | (simp -implicitDefEqProofs [c68, -getElem?_pos, k4, k1]) | (simp (disch := omega) only [AF]) | ((with_reducible refine AH 107 ?_); (refine' CallP.sf ?_ (h1) ?_); (focus first | (with_reducible exact A0 _) | (simp [AA, A9, A1, A0]; done))) | ((with_reducible refine AH 108 ?_); (refine' CallP.sf ?_ (h2) ?_); (focus first | (with_reducible exact A0 _) | (simp [AA, A9, A1, A0]; done))) | (with_reducible first | refine A6 ?_ ?_ ?_ | exact AC | refine SameB.upd ?_ ?_ _ | assumption | refine A2 ?_ | refine KM.of ?_ | refine AE ?_ | refine A5 ?_ | refine A8 ?_ | intro _g _hg | refine AD ?_ ?_ | intro _hc) | omega)
    all_goals exact A1 _
   ·rw [if_neg (by simp [k4])]
    repeat' (first | (simp -implicitDefEqProofs [c68, -getElem?_pos, k4, k1]) | (simp (disch := omega) only [AF]) | ((with_reducible refine AH 107 ?_); (refine' CallP.sf ?_ (h1) ?_); (focus first | (with_reducible exact A0 _) | (simp [AA, A9, A1, A0]; done))) | ((with_reducible refine AH 108 ?_); (refine' CallP.sf ?_ (h2) ?_); (focus first | (with_reducible exact A0 _) | (simp [AA, A9, A1, A0]; done))) | (with_reducible first | refine A6 ?_ ?_ ?_ | exact AC | refine SameB.upd ?_ ?_ _ | assumption | refine A2 ?_ | refine KM.of ?_ | refine AE ?_ | refine A5 ?_ | refine A8 ?_ | intro _g _hg | refine AD ?_ ?_ | intro _hc) | omega)
    all_goals exact fin _ _ (by assumption) rfl
theorem R3 {P : Program} {f : Nat} {args : List AV} {n : Nat} {H : A3} {R R' : Fz} (h : ACalls P f args n H R) (k : ∀ r n' H', R r n' H' → R' r n' H') : ACalls P f args n H R' := fun hs w0 G w vs hl hr hv => (h hs w0 G w vs hl hr hv).mono fun e w' ⟨v, r, G', n', H', e1, e2, e3⟩ => ⟨v, r, G', n', H', e1, k _ _ _ e2, e3⟩
def Bs (n0 : Nat) (H0 : A3) (g : Nat) (b : AM) (bs : List (Nat × AObj)) (n : Nat) (H : A3) : Prop :=
 ∃ a0 xb, Owns n0 H0 ((g, Xx a0 xb) :: bs) [Us xb b] n H ∧ (a0 = .np ∨ a0 = .ptr g 0) ∧ (∀ x ∈ bs, x.1 ≠ g) ∧ (b = [] → ∃ z, xb = .sl z [] .nil)
def Gd (n : Nat) (H : A3) : List (Nat × AObj) → Prop
 | [] => True
 | (g, ob) :: r => (H g = some ob ∧ g < n) ∧ Gd n H r
section
variable {n0 g n : Nat} {H0 H : A3} {b : AM} {bs : List (Nat × AObj)}
theorem Bs.le (h : Bs n0 H0 g b bs n H) : n0 ≤ n := by obtain ⟨_, _, h, _⟩ := h; exact h.le
theorem Bs.same (h : Bs n0 H0 g b bs n H) : SameB n0 H0 H := by obtain ⟨_, _, h, _⟩ := h; exact h.same
theorem Bs.sup (h : Bs n0 H0 g b bs n H) : ∀ q, n ≤ q → H q = none := by obtain ⟨_, _, h, _⟩ := h; exact h.mem.sup
theorem Bs.at_ (h : Bs n0 H0 g b bs n H) {g5 : Nat} {ob : AObj} (hm : (g5, ob) ∈ bs) : H g5 = some ob ∧ g5 < n := by
 obtain ⟨_, _, h, _⟩ := h
 have h1 := (h.box _ (List.mem_cons_of_mem _ hm)).1
 exact ⟨h1, h.mem.lt h1⟩
theorem Bs.facts (h : Bs n0 H0 g b bs n H) : Gd n H bs := by
 have key : ∀ l : List (Nat × AObj), (∀ x ∈ l, x ∈ bs) → Gd n H l := by
  intro l
  induction l with
  | nil => intro _; trivial
  | cons x r ih =>
   intro hl
   obtain ⟨g5, ob⟩ := x
   have hx : (g5, ob) ∈ bs := hl _ List.mem_cons_self
   exact ⟨Bs.at_ h hx, ih fun y hy => hl y (List.mem_cons_of_mem _ hy)⟩
 exact key bs fun _ h => h
theorem Bs.lt (h : Bs n0 H0 g b bs n H) : g < n ∧ n0 ≤ g := by
 obtain ⟨_, _, h, _⟩ := h
 obtain ⟨h1, h2, _⟩ := h.box _ List.mem_cons_self
 exact ⟨h.mem.lt h1, h2⟩
theorem Bs.less {bs' : List (Nat × AObj)} (h : Bs n0 H0 g b bs n H) (hs : ∀ x ∈ bs', x ∈ bs) : Bs n0 H0 g b bs' n H := by
 obtain ⟨a0, xb, h, h1, h2, h3⟩ := h
 refine ⟨a0, xb, ⟨h.mem, fun x hx => ?_, h.row, h.apart⟩, h1, fun x hx => h2 x (hs x hx), h3⟩
 rcases List.mem_cons.1 hx with rfl | hx
 ·exact h.box _ List.mem_cons_self
 ·exact h.box _ (List.mem_cons_of_mem _ (hs _ hx))
theorem Bs.add (h : Bs n0 H0 g b bs n H) {g5 : Nat} (hg : n ≤ g5) (ob : AObj) (hr : ∀ e m, ob ≠ .row e m) : Bs n0 H0 g b ((g5, ob) :: bs) (g5 + 1) (upd H g5 (some ob)) := by
 have hl := h.lt
 obtain ⟨a0, xb, h, h1, h2, h3⟩ := h
 have h' := h.addOb hg ob hr
 refine ⟨a0, xb, ⟨h'.mem, fun x hx => ?_, h'.row, h'.apart⟩, h1, fun x hx => ?_, h3⟩
 ·refine h'.box x ?_
  simp only [List.mem_cons] at hx ⊢
  rcases hx with h | h | h
  ·exact .inr (.inl h)
  ·exact .inl h
  ·exact .inr (.inr h)
 ·rcases List.mem_cons.1 hx with rfl | hx
  ·simp only; omega
  ·exact h2 x hx
theorem Bs.add2 (h : Bs n0 H0 g b bs n H) {g5 : Nat} (hg : n ≤ g5) (ob0 : Option AObj) (e : TypeId) (cs : List AV) : Bs n0 H0 g b ((g5, .cells e cs) :: bs) (g5 + 1) (upd (upd H g5 ob0) g5 (some (.cells e cs))) := by
 rw [Cc]; exact h.add hg _ (by intro e m h; cases h)
theorem Bs.start (hs : ∀ k, n ≤ k → H k = none) (hg : n ≤ g) : Bs n H g [] [] (g + 1) (upd H g (some (Xx .np (.sl 0 [] .nil)))) :=
 ⟨.np, .sl 0 [] .nil, ((Owns.start hs).addBox hg _ _).addNil _ _ _, .inl rfl, by simp, fun _ => ⟨0, rfl⟩⟩
theorem Bs.write (h : Bs n0 H0 g b bs n H) (c : AM) (hc : c ≠ [] ∨ b ≠ []) (hlen : b.length + c.length ≤ 1000000000000) :
  ACalls Tryz.prog 62 [.ptr g 0, .str c] n H fun _ n' H' => n ≤ n' ∧ Bs n0 H0 g (b ++ c) bs n' H' := by
 obtain ⟨a0, xb, h, h1, h2, h3⟩ := h
 refine R3 (Lv c h h1 h2 hlen) fun r n' H' ⟨_, hle, xb', hO⟩ => ⟨hle, _, xb', hO, .inr rfl, h2, fun e => ?_⟩
 have := List.append_eq_nil_iff.1 e
 rcases hc with hc | hc
 ·exact absurd this.2 hc
 ·exact absurd this.1 hc
theorem Bs.rel {b' : AM} (e : b = b') (h : Bs n0 H0 g b bs n H) : Bs n0 H0 g b' bs n H := e ▸ h
theorem Bs.str (h : Bs n0 H0 g b bs n H) (hlen : b.length ≤ 1000000000) : APureAt Tryz.prog 47 [.ptr g 0] n H (.str b) := by
 obtain ⟨a0, xb, h, h1, h2, h3⟩ := h
 exact PI h h1 h3 hlen
end
theorem CO (k : Int) (t n : AM) (pa : List AM) (fs : List (AM × Int)) (b e : List Pt) : Dw (.mk k t n pa fs b e) = .agg [aI k, .str t, .str n, Gp pa, Ea fs, .sl 7 (AN b) .ro, .sl 7 (AN e) .ro] := by rw [Dw]
theorem Ps {l : List Pt} {i : Nat} {x : Pt} (h : l[i]? = some x) : CL (l.take (i + 1)) = CL (l.take i) ++ UV x := by
 rw [List.take_add_one, h, O6]
 simp [CL]
theorem Mp (l : List Pt) (i : Nat) : (CL (l.take i)).length ≤ (CL l).length := by
 conv => rhs; rw [← List.take_append_drop i l, O6]
 simp
theorem Rg {l : List (AM × Int)} {i : Nat} {x : AM × Int} (h : l[i]? = some x) : (l.take (i + 1)).flatMap Ky = (l.take i).flatMap Ky ++ Ky x := by
 rw [List.take_add_one, h]
 simp
theorem Ti (fs : List (AM × Int)) (hf : ∀ f ∈ fs, f.1.length ≤ 24 ∧ 0 ≤ f.2 ∧ f.2 ≤ 200) (hfl : fs.length ≤ 8) (n : Nat) (H : A3) (g : Nat) (acc : AM) (hacc : acc ≠ []) (hal : acc.length ≤ 950000000) (v9 v10 v11 : AV) (Q : AExit → AS → Prop)
  (n1 : Nat) (H1 : A3) (hB0 : Bs n H g acc [] n1 H1) (hQ : ∀ n2 H2, Bs n H g (acc ++ fs.flatMap Ky) [] n2 H2 → Q (.exit 3) ⟨[(3, .ptr g 0), (9, v9), (10, v10), (11, v11), (40, Ea fs), (41, aI fs.length), (42, aI fs.length), (43, .bool false)], n2, H2⟩) :
  LoopK (fun Q s => aw Tryz.prog c31_L8 Q s) Q ⟨[(3, .ptr g 0), (9, v9), (10, v10), (11, v11), (40, Ea fs), (41, aI fs.length), (42, aI 0)], n1, H1⟩ := by
 
 refine LoopK.go (fun m st => ∃ (j n2 : Nat) (H2 : A3), j + m = fs.length ∧ st = ⟨[(3, .ptr g 0), (9, v9), (10, v10), (11, v11), (40, Ea fs), (41, aI fs.length), (42, aI j)], n2, H2⟩ ∧ Bs n H g (acc ++ (fs.take j).flatMap Ky) [] n2 H2) fs.length ⟨0, _, _, by omega, rfl, by simpa using hB0⟩ ?_
 clear hB0
 rintro m st ⟨j, n2, H2, hjm, rfl, hB⟩ J hJ
 have _hq : True := trivial
 by_cases hj : j < fs.length
 ·obtain ⟨x, hx⟩ : ∃ x, fs[j]? = some x := ⟨_, List.getElem?_eq_getElem hj⟩
  have hx2 := NO hx
  have hj' : (j : Int) < fs.length := by omega
  have htk := Rg hx
  obtain ⟨f1, f2, f3⟩ := hf x (List.mem_of_getElem? hx)
  have hm := Pn x.1
  have hk3 := HR x.1
  have hln := Er (fs.take j) fun y hy => hf y (List.mem_of_mem_take hy)
  have hl8 : (fs.take j).length ≤ 8 := by simp; omega
  obtain ⟨a, b⟩ := x
  simp only at f1 f2 f3 hm hk3 htk
  have hi := QX b (by omega)
  have hil := Ks (n := b) (by omega)
  have e0 : Ky (a, b) = 124 :: a ++ if HV a = 2 then 32 :: Lib.itoa b else [] := rfl
  rw [e0] at htk
  clear e0
  have hfr : ((fs.take j).flatMap Ky).length ≤ 300 := by omega
  generalize (fs.take j).flatMap Ky = fl at *
  generalize Lib.itoa b = ib at *
  generalize HV a = c at *
  have hcl : (acc ++ fl) ≠ [] := by simp [hacc]
  have hcn : (acc ++ fl).length ≤ 950000300 := by simp; omega
  have e1 : acc ++ (fl ++ (124 :: a ++ if c = 2 then 32 :: ib else [])) = (acc ++ fl) ++ (124 :: a) ++ if c = 2 then 32 :: ib else [] := by simp
  generalize acc ++ fl = ac2 at *
  rcases hk3 with rfl | rfl | rfl
  ·simp only [if_true, show ¬ ((0 : Nat) = 2) by decide, if_false, List.append_nil] at hm htk e1
   repeat' (first | (simp -implicitDefEqProofs [Bn, CA, Bw, C9, CC, CE, Bt, C0, Bp, Bc, BZ, Ba, Bb, c31, -getElem?_pos, splice, hm, hx2, hj', _hq]) | (simp (disch := omega) only [AF]) | ((with_reducible refine Bj 62 ?_); (refine ⟨_, Bs.write (by assumption) _ ?_ ?_, ?_⟩); (rotate_left 2); (rintro _ _n2 _H2 _hn2 _hs2 ⟨_hle2, _hB⟩); (have _hq := Bs.facts _hB); (dsimp only [Gd] at _hq)) | ((with_reducible refine Bj 62 ?_); (refine ⟨_, Bs.write (by exact Bs.add2 (by assumption) (by assumption) _ _ _) _ ?_ ?_, ?_⟩); (rotate_left 2); (rintro _ _n2 _H2 _hn2 _hs2 ⟨_hle2, _hB⟩); (have _hq := Bs.facts _hB); (dsimp only [Gd] at _hq)) | ((with_reducible refine Bj 62 ?_); (refine ⟨_, Bs.write (by exact Bs.add (by assumption) (by assumption) _ (by intro e m h; cases h)) _ ?_ ?_, ?_⟩); (rotate_left 2); (rintro _ _n2 _H2 _hn2 _hs2 ⟨_hle2, _hB⟩); (have _hq := Bs.facts _hB); (dsimp only [Gd] at _hq)) | ((with_reducible refine D9 ?_)) | ((refine Bq ?_ ?_); (focus exact Bs.sup (by assumption)); intro _gm _nm _hgm _hnm) | ((refine E6 _hnm (Ay _ _ _) ?_); intro _hn2; subst _hn2) | ((with_reducible refine AH 65 ?_); (refine' CallP.sf ?_ (hi) ?_); (focus first | (with_reducible exact A0 _) | (simp [AA, A9, A1, A0]; done))) | (with_reducible first | refine A6 ?_ ?_ ?_ | exact AC | assumption | refine A2 ?_ | refine KM.of ?_ | refine AE ?_ | refine A5 ?_ | refine A8 ?_ | intro _g _hg | refine AD ?_ ?_ | intro _hc) | omega)
   all_goals exact hJ (m - 1) _ (by omega) ⟨j + 1, _, _, by omega, rfl, by rw [htk, e1]; exact ((Bs.add (by assumption) (by assumption) _ (by intro e m h; cases h))).less (by simp)⟩
  ·simp only [show ¬ ((1 : Nat) = 0) by decide, show ¬ ((1 : Nat) = 2) by decide, if_false, List.append_nil, decide_false] at hm htk e1
   repeat' (first | (simp -implicitDefEqProofs [Bn, CA, Bw, C9, CC, CE, Bt, C0, Bp, Bc, BZ, Ba, Bb, c31, -getElem?_pos, splice, hm, hx2, hj', _hq]) | (simp (disch := omega) only [AF]) | ((with_reducible refine Bj 62 ?_); (refine ⟨_, Bs.write (by assumption) _ ?_ ?_, ?_⟩); (rotate_left 2); (rintro _ _n2 _H2 _hn2 _hs2 ⟨_hle2, _hB⟩); (have _hq := Bs.facts _hB); (dsimp only [Gd] at _hq)) | ((with_reducible refine Bj 62 ?_); (refine ⟨_, Bs.write (by exact Bs.add2 (by assumption) (by assumption) _ _ _) _ ?_ ?_, ?_⟩); (rotate_left 2); (rintro _ _n2 _H2 _hn2 _hs2 ⟨_hle2, _hB⟩); (have _hq := Bs.facts _hB); (dsimp only [Gd] at _hq)) | ((with_reducible refine Bj 62 ?_); (refine ⟨_, Bs.write (by exact Bs.add (by assumption) (by assumption) _ (by intro e m h; cases h)) _ ?_ ?_, ?_⟩); (rotate_left 2); (rintro _ _n2 _H2 _hn2 _hs2 ⟨_hle2, _hB⟩); (have _hq := Bs.facts _hB); (dsimp only [Gd] at _hq)) | ((with_reducible refine D9 ?_)) | ((refine Bq ?_ ?_); (focus exact Bs.sup (by assumption)); intro _gm _nm _hgm _hnm) | ((refine E6 _hnm (Ay _ _ _) ?_); intro _hn2; subst _hn2) | ((with_reducible refine AH 65 ?_); (refine' CallP.sf ?_ (hi) ?_); (focus first | (with_reducible exact A0 _) | (simp [AA, A9, A1, A0]; done))) | (with_reducible first | refine A6 ?_ ?_ ?_ | exact AC | assumption | refine A2 ?_ | refine KM.of ?_ | refine AE ?_ | refine A5 ?_ | refine A8 ?_ | intro _g _hg | refine AD ?_ ?_ | intro _hc) | omega)
   all_goals exact hJ (m - 1) _ (by omega) ⟨j + 1, _, _, by omega, rfl, by rw [htk, e1]; exact ((Bs.add (by assumption) (by assumption) _ (by intro e m h; cases h))).less (by simp)⟩
  ·simp only [show ¬ ((2 : Nat) = 0) by decide, if_false, if_true, decide_true] at hm htk e1
   repeat' (first | (simp -implicitDefEqProofs [Bn, CA, Bw, C9, CC, CE, Bt, C0, Bp, Bc, BZ, Ba, Bb, c31, -getElem?_pos, splice, hm, hx2, hj', _hq]) | (simp (disch := omega) only [AF]) | ((with_reducible refine Bj 62 ?_); (refine ⟨_, Bs.write (by assumption) _ ?_ ?_, ?_⟩); (rotate_left 2); (rintro _ _n2 _H2 _hn2 _hs2 ⟨_hle2, _hB⟩); (have _hq := Bs.facts _hB); (dsimp only [Gd] at _hq)) | ((with_reducible refine Bj 62 ?_); (refine ⟨_, Bs.write (by exact Bs.add2 (by assumption) (by assumption) _ _ _) _ ?_ ?_, ?_⟩); (rotate_left 2); (rintro _ _n2 _H2 _hn2 _hs2 ⟨_hle2, _hB⟩); (have _hq := Bs.facts _hB); (dsimp only [Gd] at _hq)) | ((with_reducible refine Bj 62 ?_); (refine ⟨_, Bs.write (by exact Bs.add (by assumption) (by assumption) _ (by intro e m h; cases h)) _ ?_ ?_, ?_⟩); (rotate_left 2); (rintro _ _n2 _H2 _hn2 _hs2 ⟨_hle2, _hB⟩); (have _hq := Bs.facts _hB); (dsimp only [Gd] at _hq)) | ((with_reducible refine D9 ?_)) | ((refine Bq ?_ ?_); (focus exact Bs.sup (by assumption)); intro _gm _nm _hgm _hnm) | ((refine E6 _hnm (Ay _ _ _) ?_); intro _hn2; subst _hn2) | ((with_reducible refine AH 65 ?_); (refine' CallP.sf ?_ (hi) ?_); (focus first | (with_reducible exact A0 _) | (simp [AA, A9, A1, A0]; done))) | (with_reducible first | refine A6 ?_ ?_ ?_ | exact AC | assumption | refine A2 ?_ | refine KM.of ?_ | refine AE ?_ | refine A5 ?_ | refine A8 ?_ | intro _g _hg | refine AD ?_ ?_ | intro _hc) | omega)
   all_goals exact hJ (m - 1) _ (by omega) ⟨j + 1, _, _, by omega, rfl, by rw [htk, e1]; exact Bs.less (by assumption) (by simp)⟩
 ·have hj0 : j = fs.length := by omega
  subst hj0
  have hj' : ¬ (fs.length : Int) < fs.length := by omega
  rw [List.take_length] at hB
  repeat' (first | (simp -implicitDefEqProofs [Bn, CA, Bw, C9, CC, CE, Bt, C0, Bp, Bc, BZ, Ba, Bb, c31, -getElem?_pos, hj']) | (simp (disch := omega) only [AF]) | (with_reducible first | refine A6 ?_ ?_ ?_ | exact AC | assumption | refine A2 ?_ | refine KM.of ?_ | refine AE ?_ | refine A5 ?_ | refine A8 ?_ | intro _g _hg | refine AD ?_ ?_ | intro _hc) | omega)
  exact hQ _ _ hB
structure PtC (x : Pt) (k : Int) (t nm : AM) (pa : List AM) (fs : List (AM × Int)) (eb ee : List AV) : Prop where
 q1 : t.length ≤ 1048576
 q2 : k = 1 → t ≠ []
 q3 : nm.length ≤ 24
 q4 : pa.length ≤ 8
 q5 : ∀ s ∈ pa, s.length ≤ 24
 q6 : fs.length ≤ 8
 q7 : ∀ f ∈ fs, f.1.length ≤ 24 ∧ 0 ≤ f.2 ∧ f.2 ≤ 200
 tb : APure Tryz.prog 31 [.sl 7 eb .ro] (.str (CL x.b))
 te : APure Tryz.prog 31 [.sl 7 ee .ro] (.str (CL x.e))
 le : ee.length = x.e.length
 lb : (CL x.b).length ≤ 900000000
 le2 : (CL x.e).length ≤ 900000000
theorem Wd (l : List Pt) (hl : l.length ≤ 2000000) (hlen : (CL l).length ≤ 900000000) (hp : ∀ x ∈ l, ∃ k t nm pa fs eb ee b e, x = .mk k t nm pa fs b e ∧ Dw x = .agg [aI k, .str t, .str nm, Gp pa, Ea fs, .sl 7 eb .ro, .sl 7 ee .ro] ∧ PtC x k t nm pa fs eb ee) : APure Tryz.prog 31 [Dx l] (.str (CL l)) := by
 have hel := BY l
 obtain ⟨z, hz⟩ : ∃ z, CL l = z := ⟨_, rfl⟩
 rw [hz]
 refine A7 Tryz.func31 Xr rfl fun n H hH => ?_
 repeat' (first | (simp -implicitDefEqProofs [c31, -getElem?_pos, hel]) | (simp (disch := omega) only [AF]) | (with_reducible first | refine A6 ?_ ?_ ?_ | exact AC | assumption | refine A2 ?_ | refine KM.of ?_ | refine AE ?_ | refine A5 ?_ | refine A8 ?_ | intro _g _hg | refine AD ?_ ?_ | intro _hc) | omega)
 refine LoopK.go (fun m st => ∃ (i n2 : Nat) (H2 : A3), i + m = l.length ∧ st = ⟨[(3, .ptr _g 0), (9, Dx l), (10, aI l.length), (11, aI i)], n2, H2⟩ ∧ Bs n H _g (CL (l.take i)) [] n2 H2) l.length ⟨0, _, _, by omega, rfl, Bs.start hH (by assumption)⟩ ?_
 rintro m st ⟨i, n2, H2, him, rfl, hB⟩ J hJ
 have _hq : True := trivial
 by_cases hi : i < l.length
 ·obtain ⟨x, hx⟩ : ∃ x, l[i]? = some x := ⟨_, List.getElem?_eq_getElem hi⟩
  have hx2 := F7 hx
  have hi' : (i : Int) < l.length := by omega
  have htk := Ps hx
  have hle1 := Mp l i
  have hle2 := Mp l (i + 1)
  rw [htk] at hle2
  obtain ⟨k, t, nm, pa, fs, eb, ee, b, e, rfl, hxe, C⟩ := hp x (List.mem_of_getElem? hx)
  rw [hxe] at hx2
  obtain ⟨q1, q2, q3, q4, q5, q6, q7, tb, te, le, lb, le2⟩ := C
  have e0 : UV (.mk k t nm pa fs b e) = if k = 1 then D5 t else if k = 2 then opS ++ PH pa ++ fs.flatMap Ky ++ Li else (if k = 3 then Vy ++ PH pa ++ Li else Ib ++ nm ++ Vg ++ PH pa ++ Li) ++ CL b ++ (if e = [] then [] else Is ++ CL e) ++ JW := by rw [UV]
  rw [e0] at htk hle2
  have hj := Qd pa [46] (by omega) (by have := LH q4 q5; unfold PH at this; omega)
  have hwl := LH q4 q5
  have hrl := G8 t
  change APure _ _ [Gp pa, .str [46]] (.str (PH pa)) at hj
  change APure _ _ _ (.str (CL b)) at tb
  change APure _ _ _ (.str (CL e)) at te
  change ee.length = e.length at le
  change (CL b).length ≤ _ at lb
  change (CL e).length ≤ _ at le2
  clear e0 hxe hx hp
  generalize CL (l.take i) = ac at *
  generalize PH pa = wh at *
  generalize CL b = xb at *
  generalize CL e = xe at *
  have hac : ac.length ≤ 900000000 := by omega
  clear hle1
  by_cases k1 : k = 1
  ·have hrp := Vu t (by omega)
   have hrn := V9 t (q2 k1)
   unfold opS LW at hrp
   rw [if_pos k1] at htk hle2
   generalize D5 t = rt at *
   subst k1
   
   repeat' (first | (simp -implicitDefEqProofs [Bn, CA, Bw, C9, CC, CE, Bt, C0, Bp, Bc, BZ, Ba, Bb, c31, -getElem?_pos, splice, hel, hx2, hi', _hq, hrn]) | (simp (disch := omega) only [AF]) | ((with_reducible refine Bj 62 ?_); (refine ⟨_, Bs.write (by assumption) _ ?_ ?_, ?_⟩); (rotate_left 2); (rintro _ _n2 _H2 _hn2 _hs2 ⟨_hle2, _hB⟩); (have _hq := Bs.facts _hB); (dsimp only [Gd] at _hq)) | ((with_reducible refine Bj 62 ?_); (refine ⟨_, Bs.write (by exact Bs.add2 (by assumption) (by assumption) _ _ _) _ ?_ ?_, ?_⟩); (rotate_left 2); (rintro _ _n2 _H2 _hn2 _hs2 ⟨_hle2, _hB⟩); (have _hq := Bs.facts _hB); (dsimp only [Gd] at _hq)) | ((with_reducible refine Bj 62 ?_); (refine ⟨_, Bs.write (by exact Bs.add (by assumption) (by assumption) _ (by intro e m h; cases h)) _ ?_ ?_, ?_⟩); (rotate_left 2); (rintro _ _n2 _H2 _hn2 _hs2 ⟨_hle2, _hB⟩); (have _hq := Bs.facts _hB); (dsimp only [Gd] at _hq)) | ((with_reducible refine AH 52 ?_); (refine' CallP.sf ?_ (hj) ?_); (focus first | (with_reducible exact A0 _) | (simp [AA, A9, A1, A0]; done))) | ((with_reducible refine AH 63 ?_); (refine' CallP.sf ?_ (hrp) ?_); (focus first | (with_reducible exact A0 _) | (simp [AA, A9, A1, A0]; done))) | (with_reducible first | refine A6 ?_ ?_ ?_ | exact AC | assumption | refine A2 ?_ | refine KM.of ?_ | refine AE ?_ | refine A5 ?_ | refine A8 ?_ | intro _g _hg | refine AD ?_ ?_ | intro _hc) | omega)
   all_goals exact hJ (m - 1) _ (by omega) ⟨i + 1, _, _, by omega, rfl, by rw [htk]; exact Bs.less (by assumption) (by simp)⟩
  ·rw [if_neg k1] at htk hle2
   by_cases k2 : k = 2
   ·rw [if_pos k2] at htk hle2
    have hfl := Er fs q7
    have hfl2 : fs.length * 30 ≤ 240 := by omega
    subst k2
    
    repeat' (first | (simp -implicitDefEqProofs [Bn, CA, Bw, C9, CC, CE, Bt, C0, Bp, Bc, BZ, Ba, Bb, c31, -getElem?_pos, splice, hel, hx2, hi', _hq]) | (simp (disch := omega) only [AF]) | ((with_reducible refine Bj 62 ?_); (refine ⟨_, Bs.write (by assumption) _ ?_ ?_, ?_⟩); (rotate_left 2); (rintro _ _n2 _H2 _hn2 _hs2 ⟨_hle2, _hB⟩); (have _hq := Bs.facts _hB); (dsimp only [Gd] at _hq)) | ((with_reducible refine Bj 62 ?_); (refine ⟨_, Bs.write (by exact Bs.add2 (by assumption) (by assumption) _ _ _) _ ?_ ?_, ?_⟩); (rotate_left 2); (rintro _ _n2 _H2 _hn2 _hs2 ⟨_hle2, _hB⟩); (have _hq := Bs.facts _hB); (dsimp only [Gd] at _hq)) | ((with_reducible refine Bj 62 ?_); (refine ⟨_, Bs.write (by exact Bs.add (by assumption) (by assumption) _ (by intro e m h; cases h)) _ ?_ ?_, ?_⟩); (rotate_left 2); (rintro _ _n2 _H2 _hn2 _hs2 ⟨_hle2, _hB⟩); (have _hq := Bs.facts _hB); (dsimp only [Gd] at _hq)) | ((with_reducible refine AH 52 ?_); (refine' CallP.sf ?_ (hj) ?_); (focus first | (with_reducible exact A0 _) | (simp [AA, A9, A1, A0]; done))) | (with_reducible first | refine A6 ?_ ?_ ?_ | exact AC | assumption | refine A2 ?_ | refine KM.of ?_ | refine AE ?_ | refine A5 ?_ | refine A8 ?_ | intro _g _hg | refine AD ?_ ?_ | intro _hc) | omega)
    have hB4 := _hB.less (bs' := []) (by simp)
    refine Ti fs q7 q6 n H _ _ ?_ ?_ _ _ _ _ _ _ hB4 fun n3 H3 hB3 => ?_
    ·simp
    ·simp; omega
    have _hq : True := trivial
    have hfl3 : (fs.flatMap Ky).length ≤ 240 := by omega
    generalize fs.flatMap Ky = ft at *
    repeat' (first | (simp -implicitDefEqProofs [Bn, CA, Bw, C9, CC, CE, Bt, C0, Bp, Bc, BZ, Ba, Bb, c31, -getElem?_pos, _hq]) | (simp (disch := omega) only [AF]) | ((with_reducible refine Bj 62 ?_); (refine ⟨_, Bs.write (by assumption) _ ?_ ?_, ?_⟩); (rotate_left 2); (rintro _ _n2 _H2 _hn2 _hs2 ⟨_hle2, _hB⟩); (have _hq := Bs.facts _hB); (dsimp only [Gd] at _hq)) | ((with_reducible refine Bj 62 ?_); (refine ⟨_, Bs.write (by exact Bs.add2 (by assumption) (by assumption) _ _ _) _ ?_ ?_, ?_⟩); (rotate_left 2); (rintro _ _n2 _H2 _hn2 _hs2 ⟨_hle2, _hB⟩); (have _hq := Bs.facts _hB); (dsimp only [Gd] at _hq)) | ((with_reducible refine Bj 62 ?_); (refine ⟨_, Bs.write (by exact Bs.add (by assumption) (by assumption) _ (by intro e m h; cases h)) _ ?_ ?_, ?_⟩); (rotate_left 2); (rintro _ _n2 _H2 _hn2 _hs2 ⟨_hle2, _hB⟩); (have _hq := Bs.facts _hB); (dsimp only [Gd] at _hq)) | (with_reducible first | refine A6 ?_ ?_ ?_ | exact AC | assumption | refine A2 ?_ | refine KM.of ?_ | refine AE ?_ | refine A5 ?_ | refine A8 ?_ | intro _g _hg | refine AD ?_ ?_ | intro _hc) | omega)
    all_goals exact hJ (m - 1) _ (by omega) ⟨i + 1, _, _, by omega, rfl, by rw [htk]; refine Bs.rel ?_ (Bs.less (by assumption) (by simp)); simp [opS, Li]⟩
   ·rw [if_neg k2] at htk hle2
    by_cases he0 : e = []
    ·have hee : ee = [] := by
      rw [he0] at le; exact List.length_eq_zero_iff.1 le
     rw [if_pos he0] at htk hle2
     subst hee
     by_cases k3 : k = 3
     ·rw [if_pos k3] at htk hle2
      subst k3
      
      repeat' (first | (simp -implicitDefEqProofs [Bn, CA, Bw, C9, CC, CE, Bt, C0, Bp, Bc, BZ, Ba, Bb, c31, -getElem?_pos, splice, hel, hx2, hi', _hq]) | (simp (disch := omega) only [AF]) | ((with_reducible refine Bj 62 ?_); (refine ⟨_, Bs.write (by assumption) _ ?_ ?_, ?_⟩); (rotate_left 2); (rintro _ _n2 _H2 _hn2 _hs2 ⟨_hle2, _hB⟩); (have _hq := Bs.facts _hB); (dsimp only [Gd] at _hq)) | ((with_reducible refine Bj 62 ?_); (refine ⟨_, Bs.write (by exact Bs.add2 (by assumption) (by assumption) _ _ _) _ ?_ ?_, ?_⟩); (rotate_left 2); (rintro _ _n2 _H2 _hn2 _hs2 ⟨_hle2, _hB⟩); (have _hq := Bs.facts _hB); (dsimp only [Gd] at _hq)) | ((with_reducible refine Bj 62 ?_); (refine ⟨_, Bs.write (by exact Bs.add (by assumption) (by assumption) _ (by intro e m h; cases h)) _ ?_ ?_, ?_⟩); (rotate_left 2); (rintro _ _n2 _H2 _hn2 _hs2 ⟨_hle2, _hB⟩); (have _hq := Bs.facts _hB); (dsimp only [Gd] at _hq)) | ((with_reducible refine AH 52 ?_); (refine' CallP.sf ?_ (hj) ?_); (focus first | (with_reducible exact A0 _) | (simp [AA, A9, A1, A0]; done))) | ((with_reducible refine AH 31 ?_); (refine' CallP.sf ?_ (tb) ?_); (focus first | (with_reducible exact A0 _) | (simp [AA, A9, A1, A0]; done))) | (with_reducible first | refine A6 ?_ ?_ ?_ | exact AC | assumption | refine A2 ?_ | refine KM.of ?_ | refine AE ?_ | refine A5 ?_ | refine A8 ?_ | intro _g _hg | refine AD ?_ ?_ | intro _hc) | omega)
      all_goals exact hJ (m - 1) _ (by omega) ⟨i + 1, _, _, by omega, rfl, by rw [htk]; refine Bs.rel ?_ (Bs.less (by assumption) (by simp)); simp [Vy, Li, JW]⟩
     ·rw [if_neg k3] at htk hle2
      
      repeat' (first | (simp -implicitDefEqProofs [Bn, CA, Bw, C9, CC, CE, Bt, C0, Bp, Bc, BZ, Ba, Bb, c31, -getElem?_pos, splice, hel, hx2, hi', _hq, k1, k2, k3]) | (simp (disch := omega) only [AF]) | ((with_reducible refine Bj 62 ?_); (refine ⟨_, Bs.write (by assumption) _ ?_ ?_, ?_⟩); (rotate_left 2); (rintro _ _n2 _H2 _hn2 _hs2 ⟨_hle2, _hB⟩); (have _hq := Bs.facts _hB); (dsimp only [Gd] at _hq)) | ((with_reducible refine Bj 62 ?_); (refine ⟨_, Bs.write (by exact Bs.add2 (by assumption) (by assumption) _ _ _) _ ?_ ?_, ?_⟩); (rotate_left 2); (rintro _ _n2 _H2 _hn2 _hs2 ⟨_hle2, _hB⟩); (have _hq := Bs.facts _hB); (dsimp only [Gd] at _hq)) | ((with_reducible refine Bj 62 ?_); (refine ⟨_, Bs.write (by exact Bs.add (by assumption) (by assumption) _ (by intro e m h; cases h)) _ ?_ ?_, ?_⟩); (rotate_left 2); (rintro _ _n2 _H2 _hn2 _hs2 ⟨_hle2, _hB⟩); (have _hq := Bs.facts _hB); (dsimp only [Gd] at _hq)) | ((with_reducible refine AH 52 ?_); (refine' CallP.sf ?_ (hj) ?_); (focus first | (with_reducible exact A0 _) | (simp [AA, A9, A1, A0]; done))) | ((with_reducible refine AH 31 ?_); (refine' CallP.sf ?_ (tb) ?_); (focus first | (with_reducible exact A0 _) | (simp [AA, A9, A1, A0]; done))) | (with_reducible first | refine A6 ?_ ?_ ?_ | exact AC | assumption | refine A2 ?_ | refine KM.of ?_ | refine AE ?_ | refine A5 ?_ | refine A8 ?_ | intro _g _hg | refine AD ?_ ?_ | intro _hc) | omega)
      all_goals exact hJ (m - 1) _ (by omega) ⟨i + 1, _, _, by omega, rfl, by rw [htk]; refine Bs.rel ?_ (Bs.less (by assumption) (by simp)); simp [Ib, Vg, Li, JW]⟩
    ·have hel2 : (0 : Int) < ee.length := by
      have := List.length_pos_iff.2 he0
      omega
     have hel3 : ¬ ee = [] := by rintro rfl; simp at hel2
     rw [if_neg he0] at htk hle2
     by_cases k3 : k = 3
     ·rw [if_pos k3] at htk hle2
      subst k3
      
      repeat' (first | (simp -implicitDefEqProofs [Bn, CA, Bw, C9, CC, CE, Bt, C0, Bp, Bc, BZ, Ba, Bb, c31, -getElem?_pos, splice, hel, hx2, hi', _hq, hel2, hel3]) | (simp (disch := omega) only [AF]) | ((with_reducible refine Bj 62 ?_); (refine ⟨_, Bs.write (by assumption) _ ?_ ?_, ?_⟩); (rotate_left 2); (rintro _ _n2 _H2 _hn2 _hs2 ⟨_hle2, _hB⟩); (have _hq := Bs.facts _hB); (dsimp only [Gd] at _hq)) | ((with_reducible refine Bj 62 ?_); (refine ⟨_, Bs.write (by exact Bs.add2 (by assumption) (by assumption) _ _ _) _ ?_ ?_, ?_⟩); (rotate_left 2); (rintro _ _n2 _H2 _hn2 _hs2 ⟨_hle2, _hB⟩); (have _hq := Bs.facts _hB); (dsimp only [Gd] at _hq)) | ((with_reducible refine Bj 62 ?_); (refine ⟨_, Bs.write (by exact Bs.add (by assumption) (by assumption) _ (by intro e m h; cases h)) _ ?_ ?_, ?_⟩); (rotate_left 2); (rintro _ _n2 _H2 _hn2 _hs2 ⟨_hle2, _hB⟩); (have _hq := Bs.facts _hB); (dsimp only [Gd] at _hq)) | ((with_reducible refine AH 52 ?_); (refine' CallP.sf ?_ (hj) ?_); (focus first | (with_reducible exact A0 _) | (simp [AA, A9, A1, A0]; done))) | ((with_reducible refine AH 31 ?_); (refine' CallP.sf ?_ (tb) ?_); (focus first | (with_reducible exact A0 _) | (simp [AA, A9, A1, A0]; done))) | ((with_reducible refine AH 31 ?_); (refine' CallP.sf ?_ (te) ?_); (focus first | (with_reducible exact A0 _) | (simp [AA, A9, A1, A0]; done))) | (with_reducible first | refine A6 ?_ ?_ ?_ | exact AC | assumption | refine A2 ?_ | refine KM.of ?_ | refine AE ?_ | refine A5 ?_ | refine A8 ?_ | intro _g _hg | refine AD ?_ ?_ | intro _hc) | omega)
      all_goals exact hJ (m - 1) _ (by omega) ⟨i + 1, _, _, by omega, rfl, by rw [htk]; refine Bs.rel ?_ (Bs.less (by assumption) (by simp)); simp [Vy, Li, JW, Is]⟩
     ·rw [if_neg k3] at htk hle2
      
      repeat' (first | (simp -implicitDefEqProofs [Bn, CA, Bw, C9, CC, CE, Bt, C0, Bp, Bc, BZ, Ba, Bb, c31, -getElem?_pos, splice, hel, hx2, hi', _hq, k1, k2, k3, hel2, hel3]) | (simp (disch := omega) only [AF]) | ((with_reducible refine Bj 62 ?_); (refine ⟨_, Bs.write (by assumption) _ ?_ ?_, ?_⟩); (rotate_left 2); (rintro _ _n2 _H2 _hn2 _hs2 ⟨_hle2, _hB⟩); (have _hq := Bs.facts _hB); (dsimp only [Gd] at _hq)) | ((with_reducible refine Bj 62 ?_); (refine ⟨_, Bs.write (by exact Bs.add2 (by assumption) (by assumption) _ _ _) _ ?_ ?_, ?_⟩); (rotate_left 2); (rintro _ _n2 _H2 _hn2 _hs2 ⟨_hle2, _hB⟩); (have _hq := Bs.facts _hB); (dsimp only [Gd] at _hq)) | ((with_reducible refine Bj 62 ?_); (refine ⟨_, Bs.write (by exact Bs.add (by assumption) (by assumption) _ (by intro e m h; cases h)) _ ?_ ?_, ?_⟩); (rotate_left 2); (rintro _ _n2 _H2 _hn2 _hs2 ⟨_hle2, _hB⟩); (have _hq := Bs.facts _hB); (dsimp only [Gd] at _hq)) | ((with_reducible refine AH 52 ?_); (refine' CallP.sf ?_ (hj) ?_); (focus first | (with_reducible exact A0 _) | (simp [AA, A9, A1, A0]; done))) | ((with_reducible refine AH 31 ?_); (refine' CallP.sf ?_ (tb) ?_); (focus first | (with_reducible exact A0 _) | (simp [AA, A9, A1, A0]; done))) | ((with_reducible refine AH 31 ?_); (refine' CallP.sf ?_ (te) ?_); (focus first | (with_reducible exact A0 _) | (simp [AA, A9, A1, A0]; done))) | (with_reducible first | refine A6 ?_ ?_ ?_ | exact AC | assumption | refine A2 ?_ | refine KM.of ?_ | refine AE ?_ | refine A5 ?_ | refine A8 ?_ | intro _g _hg | refine AD ?_ ?_ | intro _hc) | omega)
      all_goals exact hJ (m - 1) _ (by omega) ⟨i + 1, _, _, by omega, rfl, by rw [htk]; refine Bs.rel ?_ (Bs.less (by assumption) (by simp)); simp [Ib, Vg, Li, JW, Is]⟩
 ·have hi0 : i = l.length := by omega
  subst hi0
  have hi' : ¬ (l.length : Int) < l.length := by omega
  rw [List.take_length, hz] at hB
  have hstr := hB.str (by rw [← hz]; omega)
  have hsame := hB.same
  have hle := hB.le
  clear hp
  repeat' (first | (simp -implicitDefEqProofs [Bn, CA, Bw, C9, CC, CE, Bt, C0, Bp, Bc, BZ, Ba, Bb, c31, -getElem?_pos, hel, hi']) | (simp (disch := omega) only [AF]) | ((with_reducible refine Bj 47 ?_); (refine' CallK.sfAt ?_ (hstr) ?_); (focus first | (with_reducible exact A0 _) | (simp [AA, A9, A1, A0]; done))) | (with_reducible first | refine A6 ?_ ?_ ?_ | exact AC | assumption | refine A2 ?_ | refine KM.of ?_ | refine AE ?_ | refine A5 ?_ | refine A8 ?_ | intro _g _hg | refine AD ?_ ?_ | intro _hc) | omega)
  all_goals first | exact A1 _ | exact hle | exact hsame
theorem FG : ∀ {l : List Pt} {x : Pt}, x ∈ l → CH x ≤ AW l
 | y :: r, x, hx => by
  simp only [AW]
  rcases List.mem_cons.1 hx with rfl | hx
  ·omega
  ·have := FG hx; omega
theorem EG : ∀ l : List Pt, l.length ≤ AW l
 | [] => by simp [AW]
 | x :: r => by
  have := EG r
  have : 1 ≤ CH x := by cases x; unfold CH; omega
  simp only [AW, List.length_cons]; omega
theorem My {l : List Pt} (ho : Gt l) (hs : AW l ≤ 200) (hp : ∀ x ∈ l, MJ x → CH x ≤ 201 → APure Tryz.prog 31 [.sl 7 (AN x.b) .ro] (.str (CL x.b)) ∧ APure Tryz.prog 31 [.sl 7 (AN x.e) .ro] (.str (CL x.e))) : APure Tryz.prog 31 [Dx l] (.str (CL l)) := by
 have hlen := EG l
 have htl := EV l ho
 refine Wd l (by omega) (by omega) fun x hx => ?_
 have hox := L3 ho hx
 have hsx := FG hx
 obtain ⟨hb, he⟩ := hp x hx hox (by omega)
 obtain ⟨k, t, nm, pa, fs, b, e⟩ := x
 have ho' := hox
 simp only [MJ] at ho'
 obtain ⟨h1, h2, h3, h4, h5, h6, h7, h8, h9⟩ := ho'
 unfold CH at hsx
 have lb := EV b h8
 have le := EV e h9
 exact ⟨k, t, nm, pa, fs, AN b, AN e, b, e, rfl, CO _ _ _ _ _ _ _, h1, h2, h3, h4, h5, h6, h7, hb, he, BY e, by show (CL b).length ≤ _; omega, by show (CL e).length ≤ _; omega⟩
theorem Wj (p : Pt) : MJ p → CH p ≤ 201 → APure Tryz.prog 31 [.sl 7 (AN p.b) .ro] (.str (CL p.b)) ∧ APure Tryz.prog 31 [.sl 7 (AN p.e) .ro] (.str (CL p.e)) := by
 refine Pt.ind (Q := fun p => MJ p → CH p ≤ 201 → APure Tryz.prog 31 [.sl 7 (AN p.b) .ro] (.str (CL p.b)) ∧ APure Tryz.prog 31 [.sl 7 (AN p.e) .ro] (.str (CL p.e))) ?_ p
 intro k t nm pa fs b e hb he ho hs
 simp only [MJ] at ho
 obtain ⟨_, _, _, _, _, _, _, ob, oe⟩ := ho
 unfold CH at hs
 exact ⟨My (l := b) ob (by omega) hb, My (l := e) oe (by omega) he⟩
theorem Qm (l : List Pt) (ho : Gt l) (hs : AW l ≤ 200) : APure Tryz.prog 31 [Dx l] (.str (CL l)) := My ho hs fun x _ hx hs => Wj x hx hs
def BW {α : Type} (l : List α) : Bool := decide ((0 : Int) < (l.length : Int))
theorem TQ {α : Type} (l : List α) : decide (l ≠ []) = BW l := by
 unfold BW
 cases l with
 | nil => simp
 | cons x r => simp
def Q4 (k : Int) (t n : AM) (pf ff : Bool) (bf ef : Bool) : Bool :=
 (decide (k = 1) == decide (t = [])) || (decide (k ≠ 4) && decide (n ≠ [])) || (decide (k = 1) && pf) || (decide (k ≠ 2) && ff) || (decide (k < 3) && (bf || ef))
theorem Pg (pv k : Int) (t n : AM) (pa : List AM) (fs : List (AM × Int)) (b e : List Pt) : M7 pv k t n pa fs b e = (Q4 k t n (BW pa) (BW fs) (BW b) (BW e) || (decide (k = 1) && decide (pv = 1))) := by
 have h1 : decide (pa ≠ []) = BW pa := by rw [← TQ]
 have h2 : decide (fs ≠ []) = BW fs := by rw [← TQ]
 have h3 : decide (b ≠ []) = BW b := by unfold BW; cases b <;> simp <;> omega
 have h4 : decide (e ≠ []) = BW e := by unfold BW; cases e <;> simp <;> omega
 unfold M7 Q4
 rw [h1, h2, h3, h4]
def RC (i d k : Int) (fb : Bool) : Int := if 200 ≤ i then 2 else if 16 < d then 25 else if k < 1 ∨ 4 < k then 5 else if fb = true then 6 else 0
theorem TB {pv k : Int} {t n : AM} {pa : List AM} {fs : List (AM × Int)} {b e : List Pt} {i d : Nat} {fb : Bool} (hf : Q4 k t n (BW pa) (BW fs) (BW b) (BW e) = fb) : Ee pv i d k t n pa fs b e = if RC i d k fb ≠ 0 then RC i d k fb else if k = 1 ∧ pv = 1 then 6 else Np k n pa fs := by
 unfold Ee RC
 rw [Pg, hf]
 by_cases h1 : 200 ≤ i
 ·have h1' : (200 : Int) ≤ (i : Int) := by omega
  simp [h1, h1']
 ·have h1' : ¬ (200 : Int) ≤ (i : Int) := by omega
  by_cases h2 : 16 < d
  ·have h2' : (16 : Int) < (d : Int) := by omega
   simp [h1, h1', h2, h2']
  ·have h2' : ¬ (16 : Int) < (d : Int) := by omega
   simp only [h1, h1', h2, h2', if_false]
   by_cases h3 : k < 1 ∨ 4 < k
   ·simp [h3]
   ·simp only [h3, if_false]
    cases fb
    ·by_cases hk : k = 1 <;> by_cases hp : pv = 1 <;> simp [hk, hp]
    ·simp
theorem VU (i d k : Int) (t n : AM) (pa : List AM) (fs : List (AM × Int)) (eb ee : List AV) (hl : pa.length ≤ 2000000 ∧ fs.length ≤ 2000000 ∧ eb.length ≤ 2000000 ∧ ee.length ≤ 2000000) : APure Tryz.prog 67 [.agg [aI k, .str t, .str n, Gp pa, Ea fs, .sl 7 eb .ro, .sl 7 ee .ro], aI i, aI d] (aI (RC i d k (Q4 k t n (BW pa) (BW fs) (BW eb) (BW ee)))) := by
 obtain ⟨fb, hfb⟩ : ∃ fb, Q4 k t n (BW pa) (BW fs) (BW eb) (BW ee) = fb := ⟨_, rfl⟩
 rw [hfb]
 obtain ⟨z, hz⟩ : ∃ z, RC i d k fb = z := ⟨_, rfl⟩
 rw [hz]
 unfold RC at hz
 obtain ⟨l1, l2, l3, l4⟩ := hl
 by_cases h1 : 200 ≤ i
 ·rw [if_pos h1] at hz
  subst hz
  refine A7 Tryz.func67 Pd rfl fun n H hH => ?_
  repeat' (first | (simp -implicitDefEqProofs [FH, F1, FI, Ey, Ek, Es, En, Eo, c67, -getElem?_pos, h1]) | (simp (disch := omega) only [AF]) | (with_reducible first | refine A6 ?_ ?_ ?_ | exact AC | refine SameB.upd ?_ ?_ _ | assumption | refine A2 ?_ | refine KM.of ?_ | refine AE ?_ | refine A5 ?_ | refine A8 ?_ | intro _g _hg | refine AD ?_ ?_ | intro _hc) | omega)
  all_goals exact A1 _
 ·rw [if_neg h1] at hz
  by_cases h2 : 16 < d
  ·rw [if_pos h2] at hz
   subst hz
   refine A7 Tryz.func67 Pd rfl fun n H hH => ?_
   repeat' (first | (simp -implicitDefEqProofs [FH, F1, FI, Ey, Ek, Es, En, Eo, c67, -getElem?_pos, h1, h2]) | (simp (disch := omega) only [AF]) | (with_reducible first | refine A6 ?_ ?_ ?_ | exact AC | refine SameB.upd ?_ ?_ _ | assumption | refine A2 ?_ | refine KM.of ?_ | refine AE ?_ | refine A5 ?_ | refine A8 ?_ | intro _g _hg | refine AD ?_ ?_ | intro _hc) | omega)
   all_goals exact A1 _
  ·rw [if_neg h2] at hz
   by_cases h3 : k < 1 ∨ 4 < k
   ·rw [if_pos h3] at hz
    subst hz
    rcases h3 with h3 | h3
    ·refine A7 Tryz.func67 Pd rfl fun n H hH => ?_
     repeat' (first | (simp -implicitDefEqProofs [FH, F1, FI, Ey, Ek, Es, En, Eo, c67, -getElem?_pos, h1, h2, h3]) | (simp (disch := omega) only [AF]) | (with_reducible first | refine A6 ?_ ?_ ?_ | exact AC | refine SameB.upd ?_ ?_ _ | assumption | refine A2 ?_ | refine KM.of ?_ | refine AE ?_ | refine A5 ?_ | refine A8 ?_ | intro _g _hg | refine AD ?_ ?_ | intro _hc) | omega)
     all_goals exact A1 _
    ·have h3' : ¬ k < 1 := by omega
     refine A7 Tryz.func67 Pd rfl fun n H hH => ?_
     repeat' (first | (simp -implicitDefEqProofs [FH, F1, FI, Ey, Ek, Es, En, Eo, c67, -getElem?_pos, h1, h2, h3, h3']) | (simp (disch := omega) only [AF]) | (with_reducible first | refine A6 ?_ ?_ ?_ | exact AC | refine SameB.upd ?_ ?_ _ | assumption | refine A2 ?_ | refine KM.of ?_ | refine AE ?_ | refine A5 ?_ | refine A8 ?_ | intro _g _hg | refine AD ?_ ?_ | intro _hc) | omega)
     all_goals exact A1 _
   ·rw [if_neg h3] at hz
    have h4 : ¬ k < 1 := by omega
    have h5 : ¬ 4 < k := by omega
    refine A7 Tryz.func67 Pd rfl fun n H hH => ?_
    repeat' (first | (simp -implicitDefEqProofs [FH, F1, FI, Ey, Ek, Es, En, Eo, c67, -getElem?_pos, h1, h2, h4, h5]) | (simp (disch := omega) only [AF]) | (with_reducible first | refine A6 ?_ ?_ ?_ | exact AC | refine SameB.upd ?_ ?_ _ | assumption | refine A2 ?_ | refine KM.of ?_ | refine AE ?_ | refine A5 ?_ | refine A8 ?_ | intro _g _hg | refine AD ?_ ?_ | intro _hc) | omega)
    all_goals (refine AY ?_; rw [← hz, ← hfb]; unfold Q4 BW; grind)
end Go.Proofs.YtnfjgphfaemjcaaGreatDoor

/- Streams: who asks for less gets less; no condition. -/
import Derived.Test.YtjdccdelcnmocaaGreatDoorMgI
import Derived.Test.YtjdccdelcnmocaaGreatDoorMdQ
set_option linter.all false
set_option linter.unusedSimpArgs false
set_option linter.unusedVariables false
set_option maxHeartbeats 4000000
namespace Go.Proofs.YtjdccdelcnmocaaGreatDoor
theorem Jc : ∀ {l : Aw} {cur fin : Ad}, monL cur l fin → ∀ {i : Nat} {e : Int × Ad}, l[i]? = some e → leC cur e.2 ∧ leC e.2 fin ∧ ∀ {j : Nat} {e' : Int × Ad}, i ≤ j → l[j]? = some e' → leC e.2 e'.2
 | [], _, _, _, i, e, h => by simp at h
 | (x, c) :: r, cur, fin, hm, 0, e, h => by
  simp at h; subst h
  refine ⟨hm.1, hm.2.fin, fun {j e'} _ hj => ?_⟩
  cases j with
  | zero => simp at hj; subst hj; exact leC.rfl_ _
  | succ j => exact (Jc hm.2 (i := j) (by simpa using hj)).1
 | (x, c) :: r, cur, fin, hm, i + 1, e, h => by
  have h1 := Jc hm.2 (i := i) (e := e) (by simpa using h)
  refine ⟨hm.1.tr h1.1, h1.2.1, fun {j e'} hij hj => ?_⟩
  cases j with
  | zero => omega
  | succ j => exact h1.2.2 (j := j) (by omega) (by simpa using hj)
def IM (F : Fut) (m : Nat) : Ad := if m ≤ F.l.length then Hp F m else F.fin
theorem leC.nn {a b : Ad} (h : leC a b) (ha : ∀ x ∈ a, 0 ≤ x) : ∀ x ∈ b, 0 ≤ x := fun y hy => by
 obtain ⟨i, hi⟩ := List.mem_iff_getElem?.1 hy
 have hl : i < a.length := by rw [h.1]; exact (List.getElem?_eq_some_iff.1 hi).1
 have h1 := List.getElem?_eq_getElem hl
 have := h.2 i _ _ h1 hi
 have := ha _ (List.mem_of_getElem? h1)
 omega
theorem Jz {F : Fut} {i : Nat} {e : Int × Ad} (h : F.l[i]? = some e) : Hp F (i + 1) = e.2 := by
 unfold Hp
 rw [List.getD_eq_getElem?_getD, List.getElem?_cons_succ, List.getElem?_map, h]; rfl
theorem WD {F : Fut} (h : Jj F) (m : Nat) : (IM F m).length = F.cur.length := by
 unfold IM
 split
 ·cases m with
  | zero => rfl
  | succ i =>
   obtain ⟨e, he⟩ : ∃ e, F.l[i]? = some e := ⟨_, List.getElem?_eq_getElem (by omega)⟩
   rw [Jz he]
   exact (Jc h.1 he).1.1.symm
 ·exact h.1.fin.1.symm
theorem Yh {F : Fut} (h : Jj F) {a b : Nat} (hab : a ≤ b) : leC (IM F a) (IM F b) ∧ ∀ x ∈ IM F a, 0 ≤ x := by
 have key : ∀ m, leC F.cur (IM F m) := fun m => by
  unfold IM
  split
  ·cases m with
   | zero => exact leC.rfl_ _
   | succ i =>
    obtain ⟨e, he⟩ : ∃ e, F.l[i]? = some e := ⟨_, List.getElem?_eq_getElem (by omega)⟩
    rw [Jz he]
    exact (Jc h.1 he).1
  ·exact h.1.fin
 refine ⟨?_, (key a).nn h.2⟩
 cases a with
 | zero => exact key b
 | succ i =>
  by_cases hi : i < F.l.length
  ·obtain ⟨e, he⟩ : ∃ e, F.l[i]? = some e := ⟨_, List.getElem?_eq_getElem hi⟩
   have h1 := Jc h.1 he
   have e1 : IM F (i + 1) = e.2 := by unfold IM; rw [if_pos (by omega), Jz he]
   rw [e1]
   obtain ⟨j, rfl⟩ : ∃ j, b = j + 1 := ⟨b - 1, by omega⟩
   unfold IM
   split
   ·obtain ⟨e', he'⟩ : ∃ e, F.l[j]? = some e := ⟨_, List.getElem?_eq_getElem (by omega)⟩
    rw [Jz he']
    exact h1.2.2 (by omega) he'
   ·exact h1.2.1
  ·have e1 : IM F (i + 1) = F.fin := by unfold IM; rw [if_neg (by omega)]
   have e2 : IM F b = F.fin := by unfold IM; rw [if_neg (by omega)]
   rw [e1, e2]; exact leC.rfl_ _
theorem VU {s : St} (h : (Am s).1 = 0) {m : Nat} (hm : m ≤ 5000) : Oj s m = .tup [.sl 1 (((GH (AQ s)).take m).map aI) .ro, .sl 1 ((IM (AQ s) m).map aI) .ro, .bool (decide ((AQ s).l.length < m)), aF (0, 0)] := by
 rw [Oj, if_neg (fun h' => h' h), if_neg (by omega), Int.toNat_natCast]; rfl
attribute [local simp] LV Ev Er Mx Lf M4 NG FQ F4 HI H5 Mi Ll Ls Ka MD NM LX N7 NF MF Mq O8 Nk LY T2 pe LP LT KO MB ND MR Nn O7 NU MW Nt OC NV Ee NB Mv Mw M5 Mt N5 Mf LB LZ Me L3 Ln NI MO N2 KP NL Lz OD Ni Lo F3 N3 F5 Mn Li KI Kr NA Ml MP NJ KV KJ Ko Lk Ld NS MY Ky MH Kd L2 KY O9 NY Kk Ki LU F1 KZ Kc MX LW MN NT My KN Kl Mb KT L0 MT Kt MA Md Mz OA KK Kq Kb KU Kn NX Nl Mm O0 Nd NC Mj M0 Np List.mem_cons guardK Di Fr GV HT Lm Eo FI FP Ej F7 FD Eu Eh FA NP Kj Ew LL M3 Nb Kh MU ML FO MI Nj Kg Nw Mk MK HM El FT F6 Ep Mp L6 FG Ke Ex L8 FN Em Nf FR FV Mo Lt Lp LQ MQ LJ Na Nh T0 Ju KB IE JY Jb Js EN Gn Gs OF Gi Gq EW Dk UR K5 Jm Gk Ji K9 ES EY CA Bf Cr DG AL ev get put I3 AR EH Nq Ng Mh Nv KQ LE Fg part Bu IB Nz IA isNil DC DJ Fi Da Db Kv Lq Lr Kz KG Jg OE LC Lx MZ O6 No L7 LN MJ Lj AV.fits AV.cells ones AV.one Fh DB Fd Ec Gu Fp KH Hw HU DA Bt CF FE I4 AO Br Uo HA NZ Mc List.getElem?_cons_zero List.getElem?_cons_succ F9 FC Eg Kw LG Nx IN Lc MC M1 KX L4 M6 Ks L1 Mr LI Kp
theorem VA (s : St) (hf : BK s) (a b : Int) : APure Tryz.prog 7 [encS s, aI a, aI b] (.bool true) := by
 have hw := FZ s hf
 have hst := GR
 have hi1 := GO a 0 5000
 have hi2 := GO b 0 a
 have hr := fun m => Ws s hf m
 have hrv := @VU s
 have hmon := Qm s
 have hbd : (Am s).1 = 0 → (AQ s).l.length ≤ 5000 := fun h0 => by
  obtain ⟨_, h2, h3, _⟩ := Az h0
  have := (Gr s h2).1
  obtain ⟨k, o, m, v, p⟩ := s
  have := h3.1
  omega
 have hcur := Ud s
 have hz60 : (Am s).1 = 0 → Ah s ≤ 60 := fun h0 => (Az h0).2.2.2
 generalize Ah s = sz at *
 generalize hxf : GH (AQ s) = xs at *
 have hxl : xs.length = (AQ s).l.length := by rw [← hxf]; simp [GH]
 generalize Am s = f at *
 generalize Oj s = rv at *
 generalize AQ s = F at *
 obtain ⟨k, o, m, v, p⟩ := s
 rw [AN] at *
 by_cases h0 : f.1 = 0
 ·by_cases ha : 0 ≤ a ∧ a ≤ 5000
  ·rw [decide_eq_true ha.1, decide_eq_true ha.2] at hi1
   by_cases hb : 0 ≤ b ∧ b ≤ a
   ·rw [decide_eq_true hb.1, decide_eq_true hb.2] at hi2
    obtain ⟨a, rfl⟩ : ∃ j : Nat, a = j := ⟨a.toNat, by omega⟩
    obtain ⟨b, rfl⟩ : ∃ j : Nat, b = j := ⟨b.toNat, by omega⟩
    have hra := hr a
    have hrb := hr b
    rw [hrv h0 (by omega)] at hra hrb
    obtain ⟨hle, hnn⟩ := Yh hmon (a := b) (b := a) (by omega)
    have hint := MS (xs.take b) (xs.take b) (by simp; omega)
    rw [decide_eq_true rfl] at hint
    have hcl := WD hmon b
    have hcu := hcur
    rw [← hcl] at hcu
    have hz := hz60 h0
    generalize IM F a = ca at *
    generalize IM F b = cb at *
    generalize hya : (xs.take a).map aI = ya at *
    generalize hyb : (xs.take b).map aI = yb at *
    have hyal : ya.length = min a xs.length := by rw [← hya]; simp
    have hybl : yb.length = min b xs.length := by rw [← hyb]; simp
    have hpre : ya.take yb.length = yb := by
     rw [hybl, ← hya, ← hyb, ← List.map_take, List.take_take]
     congr 1
     rcases Nat.le_total b xs.length with h | h
     ·rw [show min (min b xs.length) a = b by omega]
     ·rw [List.take_of_length_le (l := xs) (i := min (min b xs.length) a) (by omega), List.take_of_length_le h]
    have d1 : ¬ (ya.length : Int) < yb.length := by omega
    have d2 : ¬ (b : Int) < yb.length := by omega
    have d3 : F.l.length < b → F.l.length < a := by omega
    have d4 : (yb.length : Int) < b ↔ F.l.length < b := by omega
    have d5 : ca.length = cb.length := hle.1.symm
    have hcal : (ca.map aI).length = cb.length := by simp [d5]
    have hcbl : (cb.map aI).length = cb.length := by simp
    generalize hea : decide (F.l.length < a) = ea at *
    generalize heb : decide (F.l.length < b) = eb at *
    have d6 : eb = true → ea = true := fun h => by rw [← heb] at h; rw [← hea]; simpa using d3 (by simpa using h)
    have d7 : (yb.length : Int) < b → eb = true := fun h => by rw [← heb]; simpa using d4.1 h
    have hj : ∀ (j : Nat), j < cb.length → ∃ x y, ca[j]? = some x ∧ cb[j]? = some y ∧ ¬ x < y ∧ ¬ y < 0 := fun j hj => by
     obtain ⟨y, hy⟩ : ∃ y, cb[j]? = some y := ⟨_, List.getElem?_eq_getElem hj⟩
     obtain ⟨x, hx⟩ : ∃ x, ca[j]? = some x := ⟨_, List.getElem?_eq_getElem (by omega)⟩
     have := hle.2 j y x hy hx
     have := hnn y (List.mem_of_getElem? hy)
     exact ⟨x, y, hx, hy, by omega, by omega⟩
    clear d3 d4 hle hnn hea heb hmon hbd hrv hr
    
    refine AA Tryz.func7 YG rfl fun n H hH => ?_
    have hlp : ∀ (n2 : Nat) (H2 : A7), n ≤ n2 → SameB n H H2 → LoopK (fun Q s => aw Tryz.prog c7_L4 Q s) (DZ 0 (Dq (aw Tryz.prog c7_k1 (OW (.bool true) n H [.tmp 6])) (OW (.bool true) n H [.tmp 6]))) ⟨[(7, .sl 1 ya .ro), (8, .sl 1 (ca.map aI) .ro), (11, .sl 1 yb .ro), (12, .sl 1 (cb.map aI) .ro), (15, aI 0)], n2, H2⟩ := by
     intro n2 H2 hn2 hsame
     refine LoopK.go (fun q st => ∃ j : Nat, j + q = cb.length ∧ st = ⟨[(7, .sl 1 ya .ro), (8, .sl 1 (ca.map aI) .ro), (11, .sl 1 yb .ro), (12, .sl 1 (cb.map aI) .ro), (15, aI j)], n2, H2⟩) cb.length ⟨0, by omega, rfl⟩ ?_
     rintro q st ⟨j, hjq, rfl⟩ J hJ
     by_cases hjl : j < cb.length
     ·obtain ⟨x, y, hx, hy, h1, h2⟩ := hj j hjl
      have hxa := ET (f := aI) hx
      have hya := ET (f := aI) hy
      have hjl' : (j : Int) < cb.length := by omega
      
      repeat' (first | (simp -implicitDefEqProofs [IQ, JX, Jd, -getElem?_pos, hcal, hcbl, hjl', hx, hy, h1, h2, d5]) | (simp (disch := omega) only [AC]) | (with_reducible first | refine A8 ?_ ?_ ?_ | exact AB | assumption | refine A2 ?_ | refine KM.of ?_ | refine AD ?_ | refine A3 ?_ | refine A6 ?_ | intro _g _hg | refine AE ?_ ?_ | intro _hc) | omega)
      exact hJ (q - 1) _ (by omega) ⟨j + 1, by omega, rfl⟩
     ·have hjl' : ¬ (j : Int) < cb.length := by omega
      have d9 : (yb.length : Int) ≤ ya.length := by omega
      
      repeat' (first | (simp -implicitDefEqProofs [IQ, Jp, -getElem?_pos, hcal, hcbl, hjl', hpre, d9, d5]) | (simp (disch := omega) only [AC]) | ((with_reducible refine A9 22 ?_); (refine' CallP.sf ?_ (hint) ?_); (focus first | (with_reducible exact A0 _) | (simp [A5, A4, A1, A0]; done))) | ((with_reducible refine A9 16 ?_); (refine' CallP.sf ?_ (hst) ?_); (focus first | (with_reducible exact A0 _) | (simp [A5, A4, A1, A0]; done))) | (with_reducible first | refine A8 ?_ ?_ ?_ | exact AB | assumption | refine A2 ?_ | refine KM.of ?_ | refine AD ?_ | refine A3 ?_ | refine A6 ?_ | intro _g _hg | refine AE ?_ ?_ | intro _hc) | omega)
      all_goals exact A1 _
    by_cases d8 : (yb.length : Int) < b
    ·have e1 := d7 d8
     have e2 := d6 e1
     subst e1 e2
     repeat' (first | (simp -implicitDefEqProofs [c7, Ha, Hg, -getElem?_pos, h0, d1, d2, d8, d5, splice]) | (simp (disch := omega) only [AC]) | ((with_reducible refine A9 14 ?_); (refine' CallP.sf ?_ (hw) ?_); (focus first | (with_reducible exact A0 _) | (simp [A5, A4, A1, A0]; done))) | ((with_reducible refine A9 19 ?_); (refine' CallP.sf ?_ (hi1) ?_); (focus first | (with_reducible exact A0 _) | (simp [A5, A4, A1, A0]; done))) | ((with_reducible refine A9 19 ?_); (refine' CallP.sf ?_ (hi2) ?_); (focus first | (with_reducible exact A0 _) | (simp [A5, A4, A1, A0]; done))) | ((with_reducible refine A9 16 ?_); (refine' CallP.sf ?_ (hst) ?_); (focus first | (with_reducible exact A0 _) | (simp [A5, A4, A1, A0]; done))) | ((with_reducible refine A9 18 ?_); (refine' CallP.sf ?_ (hra) ?_); (focus first | (with_reducible exact A0 _) | (simp [A5, A4, A1, A0]; done))) | ((with_reducible refine A9 18 ?_); (refine' CallP.sf ?_ (hrb) ?_); (focus first | (with_reducible exact A0 _) | (simp [A5, A4, A1, A0]; done))) | (with_reducible first | refine A8 ?_ ?_ ?_ | exact AB | assumption | refine A2 ?_ | refine KM.of ?_ | refine AD ?_ | refine A3 ?_ | refine A6 ?_ | intro _g _hg | refine AE ?_ ?_ | intro _hc) | omega)
     exact hlp _ _ (by omega) (fun k' hk => by simp (disch := omega) only [upd_ne])
    ·cases eb with
     | true =>
      have e2 := d6 rfl
      subst e2
      repeat' (first | (simp -implicitDefEqProofs [c7, Ha, Hg, -getElem?_pos, h0, d1, d2, d8, d5, splice]) | (simp (disch := omega) only [AC]) | ((with_reducible refine A9 14 ?_); (refine' CallP.sf ?_ (hw) ?_); (focus first | (with_reducible exact A0 _) | (simp [A5, A4, A1, A0]; done))) | ((with_reducible refine A9 19 ?_); (refine' CallP.sf ?_ (hi1) ?_); (focus first | (with_reducible exact A0 _) | (simp [A5, A4, A1, A0]; done))) | ((with_reducible refine A9 19 ?_); (refine' CallP.sf ?_ (hi2) ?_); (focus first | (with_reducible exact A0 _) | (simp [A5, A4, A1, A0]; done))) | ((with_reducible refine A9 16 ?_); (refine' CallP.sf ?_ (hst) ?_); (focus first | (with_reducible exact A0 _) | (simp [A5, A4, A1, A0]; done))) | ((with_reducible refine A9 18 ?_); (refine' CallP.sf ?_ (hra) ?_); (focus first | (with_reducible exact A0 _) | (simp [A5, A4, A1, A0]; done))) | ((with_reducible refine A9 18 ?_); (refine' CallP.sf ?_ (hrb) ?_); (focus first | (with_reducible exact A0 _) | (simp [A5, A4, A1, A0]; done))) | (with_reducible first | refine A8 ?_ ?_ ?_ | exact AB | assumption | refine A2 ?_ | refine KM.of ?_ | refine AD ?_ | refine A3 ?_ | refine A6 ?_ | intro _g _hg | refine AE ?_ ?_ | intro _hc) | omega)
      exact hlp _ _ (by omega) (fun k' hk => by simp (disch := omega) only [upd_ne])
     | false =>
      repeat' (first | (simp -implicitDefEqProofs [c7, Ha, Hg, -getElem?_pos, h0, d1, d2, d8, d5, splice]) | (simp (disch := omega) only [AC]) | ((with_reducible refine A9 14 ?_); (refine' CallP.sf ?_ (hw) ?_); (focus first | (with_reducible exact A0 _) | (simp [A5, A4, A1, A0]; done))) | ((with_reducible refine A9 19 ?_); (refine' CallP.sf ?_ (hi1) ?_); (focus first | (with_reducible exact A0 _) | (simp [A5, A4, A1, A0]; done))) | ((with_reducible refine A9 19 ?_); (refine' CallP.sf ?_ (hi2) ?_); (focus first | (with_reducible exact A0 _) | (simp [A5, A4, A1, A0]; done))) | ((with_reducible refine A9 16 ?_); (refine' CallP.sf ?_ (hst) ?_); (focus first | (with_reducible exact A0 _) | (simp [A5, A4, A1, A0]; done))) | ((with_reducible refine A9 18 ?_); (refine' CallP.sf ?_ (hra) ?_); (focus first | (with_reducible exact A0 _) | (simp [A5, A4, A1, A0]; done))) | ((with_reducible refine A9 18 ?_); (refine' CallP.sf ?_ (hrb) ?_); (focus first | (with_reducible exact A0 _) | (simp [A5, A4, A1, A0]; done))) | (with_reducible first | refine A8 ?_ ?_ ?_ | exact AB | assumption | refine A2 ?_ | refine KM.of ?_ | refine AD ?_ | refine A3 ?_ | refine A6 ?_ | intro _g _hg | refine AE ?_ ?_ | intro _hc) | omega)
      exact hlp _ _ (by omega) (fun k' hk => by simp (disch := omega) only [upd_ne])
   ·have hb' : (decide (0 ≤ b) && decide (b ≤ a)) = false := by simpa using hb
    rw [hb'] at hi2
    
    refine AA Tryz.func7 YG rfl fun n H hH => ?_
    repeat' (first | (simp -implicitDefEqProofs [Jp, Jd, JX, IQ, Hg, Ha, c7, -getElem?_pos, h0, splice]) | (simp (disch := omega) only [AC]) | ((with_reducible refine A9 14 ?_); (refine' CallP.sf ?_ (hw) ?_); (focus first | (with_reducible exact A0 _) | (simp [A5, A4, A1, A0]; done))) | ((with_reducible refine A9 19 ?_); (refine' CallP.sf ?_ (hi1) ?_); (focus first | (with_reducible exact A0 _) | (simp [A5, A4, A1, A0]; done))) | ((with_reducible refine A9 19 ?_); (refine' CallP.sf ?_ (hi2) ?_); (focus first | (with_reducible exact A0 _) | (simp [A5, A4, A1, A0]; done))) | ((with_reducible refine A9 16 ?_); (refine' CallP.sf ?_ (hst) ?_); (focus first | (with_reducible exact A0 _) | (simp [A5, A4, A1, A0]; done))) | (with_reducible first | refine A8 ?_ ?_ ?_ | exact AB | assumption | refine A2 ?_ | refine KM.of ?_ | refine AD ?_ | refine A3 ?_ | refine A6 ?_ | intro _g _hg | refine AE ?_ ?_ | intro _hc) | omega)
    all_goals first | exact A1 _ | (intro g hg; simp (disch := omega) only [upd_ne])
  ·have ha' : (decide (0 ≤ a) && decide (a ≤ 5000)) = false := by simpa using ha
   rw [ha'] at hi1
   
   refine AA Tryz.func7 YG rfl fun n H hH => ?_
   repeat' (first | (simp -implicitDefEqProofs [Jp, Jd, JX, IQ, Hg, Ha, c7, -getElem?_pos, h0, splice]) | (simp (disch := omega) only [AC]) | ((with_reducible refine A9 14 ?_); (refine' CallP.sf ?_ (hw) ?_); (focus first | (with_reducible exact A0 _) | (simp [A5, A4, A1, A0]; done))) | ((with_reducible refine A9 19 ?_); (refine' CallP.sf ?_ (hi1) ?_); (focus first | (with_reducible exact A0 _) | (simp [A5, A4, A1, A0]; done))) | ((with_reducible refine A9 16 ?_); (refine' CallP.sf ?_ (hst) ?_); (focus first | (with_reducible exact A0 _) | (simp [A5, A4, A1, A0]; done))) | (with_reducible first | refine A8 ?_ ?_ ?_ | exact AB | assumption | refine A2 ?_ | refine KM.of ?_ | refine AD ?_ | refine A3 ?_ | refine A6 ?_ | intro _g _hg | refine AE ?_ ?_ | intro _hc) | omega)
   all_goals first | exact A1 _ | (intro g hg; simp (disch := omega) only [upd_ne])
 ·
  refine AA Tryz.func7 YG rfl fun n H hH => ?_
  repeat' (first | (simp -implicitDefEqProofs [Jp, Jd, JX, IQ, Hg, Ha, c7, -getElem?_pos, h0, splice]) | (simp (disch := omega) only [AC]) | ((with_reducible refine A9 14 ?_); (refine' CallP.sf ?_ (hw) ?_); (focus first | (with_reducible exact A0 _) | (simp [A5, A4, A1, A0]; done))) | ((with_reducible refine A9 16 ?_); (refine' CallP.sf ?_ (hst) ?_); (focus first | (with_reducible exact A0 _) | (simp [A5, A4, A1, A0]; done))) | (with_reducible first | refine A8 ?_ ?_ ?_ | exact AB | assumption | refine A2 ?_ | refine KM.of ?_ | refine AD ?_ | refine A3 ?_ | refine A6 ?_ | intro _g _hg | refine AE ?_ ?_ | intro _hc) | omega)
  all_goals first | exact A1 _ | (intro g hg; simp (disch := omega) only [upd_ne])
end Go.Proofs.YtjdccdelcnmocaaGreatDoor

/- Templates: directives are carried out: else and end; no condition. -/
import Derived.Test.YtnfjgphfaemjcaaGreatDoorMgI
import Derived.Test.YtnfjgphfaemjcaaGreatDoorMdP
import Derived.Test.YtnfjgphfaemjcaaGreatDoorMdM
import Derived.Test.YtnfjgphfaemjcaaGreatDoorAdE
set_option linter.all false
set_option linter.unusedSimpArgs false
set_option linter.unusedVariables false
set_option maxHeartbeats 8000000
namespace Go.Proofs.YtnfjgphfaemjcaaGreatDoor
theorem pm5 {α : Type} (A D : α) (L S E G : List α) : (A :: (L ++ (S ++ ((D :: E) ++ G)))).Perm ([D] ++ (A :: (L ++ (S ++ (E ++ G))))) := by
 classical exact List.perm_iff_count.2 fun a => by simp [List.count_append, List.count_cons]; omega
theorem pm6 {α : Type} (A D : α) (L S E G : List α) : (A :: (L ++ (S ++ ((D :: E) ++ G)))).Perm ((A :: (S ++ (D :: E))) ++ (L ++ G)) := by
 classical exact List.perm_iff_count.2 fun a => by simp [List.count_append, List.count_cons]; omega
structure TopF (gp gl gk : Nat) (ps : List Pt) (o : Op) (r : List Op) (n0 n : Nat) (H0 H : A2) : Prop where
 p : H gp = some (.cells 74 [CW gl ps, .slg 1 gk (r.length + 1)])
 k : H gk = some (.grow 127 (LU (r.map Op.g) ++ [.ptr o.g 0]))
 w : H o.g = some (.cells 126 (opC o))
 kn : gk < n
 on : o.g < n
 kp : gk ≠ gp
 og : o.g ≠ gp
 ok : o.g ≠ gk
 len : (LU (r.map Op.g)).length = r.length
theorem ZF {gp gl gk : Nat} {ps : List Pt} {o : Op} {r : List Op} {n0 n : Nat} {H0 H : A2} (hO : Own n0 H0 (M4 gp gl (some gk) ps (o :: r)) n H) : TopF gp gl gk ps o r n0 n H0 H := by
 have hP := hO.fst.1
 have hK : (gk, AObj.grow 127 (LU (o.g :: r.map Op.g))) ∈ M4 gp gl (some gk) ps (o :: r) := by simp [M4, Po]
 have hG : (o.g, AObj.cells 126 (opC o)) ∈ M4 gp gl (some gk) ps (o :: r) := by simp [M4, U2]
 have a := hO.at_ hK
 have b := hO.at_ hG
 rw [Lt] at a
 refine ⟨hP, a.1, b.1, a.2.2, b.2.2, ?_, ?_, ?_, by rw [P0, List.length_map]⟩
 ·rintro rfl; have := a.1; rw [hP] at this; cases this
 ·intro e
  have h2 := b.1
  rw [e, hP] at h2
  injection h2 with h2
  injection h2 with h2 _
  exact absurd h2 (by decide)
 ·intro e
  have h1 := a.1; have h2 := b.1
  rw [e, h1] at h2; cases h2
attribute [local simp] Jm Dg Dj KG JZ J0 KK DQ DZ EU FW I7 Id IP KJ IM IT KR JD K4 IH Ix J2 Ju KD R5 pe Jg J3 JV K7 KF Jn Ip J9 KQ Jw KT ID J8 F0 Nd NU MY Mh MU Mj MN ML Nf MK M9 MQ NP Nn Mn Ms Np MB Mi M8 NA F2 NG FC MA NB No NL NF NX N2 NK Mp MH MC Nh MF N6 NC NM MG NN NZ MO Mm ND Nk NR NI Eu NJ Mv MX NE Me Mb NT MI NS Md Mt ME MJ N8 Nm MV NQ NO Mo I6 K5 Jv Ji Jb JQ I5 IZ IL Ig JA HM K9 List.mem_cons guardK Cs E6 EM Fd Ng Ew F1 Ez Es Ep F8 Eq F7 Ef MS MR Er Jq Ml NV Nl MM Mx El JG N3 Mc JT Jp Nc Gp F5 Ey Et FA Ni N5 F9 N4 Ej KI En Ek JE Ev FB My MT Mr IX Mu Nq J4 Jo Qz I0 Hd G4 HQ Hu Hx DC Ea EW JB Eb Ee DG Cv Su Hc HS Ec Hq Hs Cl Ch B1 Au Ba Ci Cb ev get put Dx AB CS K8 I4 Io Jh Hy Ib DP part Am Fo IF Fb isNil CI CP Cp CQ CR Im JM IC Ia Jx JO JS JN IA It KA IU Jt IK Is K0 AV.fits AV.cells ones AV.one D7 BY DB CY DK DM KO E5 EG C5 BB CD ER Cw AY Ao TZ FO K3 I9 List.getElem?_cons_zero List.getElem?_cons_succ Ei Eg Eh JC K2 Jy Fp Ih IQ IR Jz JP Iu J7 Mg Ij Ii JF IE KN JY IB JI Ie KH KP JW Je IG Jl JK Jk Jd J6 Jj
theorem To {n0 n gp : Nat} {H0 H : A2} {st : Cz} (h : PS n0 H0 gp st n H) (hb : M6 100000 st) :
  ACalls Tryz.prog 42 [.ptr gp 0, .str [101, 108, 115, 101]] n H (fun r n' H' => r = .bool (BJ .els st).isSome ∧ PS n0 H0 gp ((BJ .els st).getD st) n' H' ∧ n ≤ n') := by
 have hsup := h.own.2.2.2.1
 have hcut := QL [101, 108, 115, 101] 32 (by simp)
 generalize Bb 32 [101, 108, 115, 101] = br at *
 have h0 := h
 obtain ⟨gl, gs, ops, hO, he, hgs⟩ := h
 obtain ⟨ps, kk⟩ := st
 simp only at he hO
 cases ops with
 | nil =>
  have hkk : kk = [] := by rw [← he]; rfl
  subst hkk
  have e1 : BJ .els (ps, []) = none := rfl
  rw [e1]
  have hP : H gp = some (.cells 74 [CW gl ps, M5 gs 0]) := hO.fst.1
  generalize CW gl ps = vp at *
  refine AO Tryz.func42 Gk rfl fun hs => ?_
  cases gs with
  | none =>
   repeat' (first | (simp -implicitDefEqProofs [BQ, BN, BV, BL, BS, BR, BM, BU, BT, Ay, c42, -getElem?_pos, hP, M5]) | (simp (disch := omega) only [AJ]) | ((with_reducible refine AP 41 ?_); (refine' CallP.sf ?_ (hcut) ?_); (focus first | (with_reducible exact A0 _) | (simp [AC, AA, A1, A0]; done))) | (with_reducible first | refine A8 ?_ ?_ ?_ | exact AG | assumption | refine A3 ?_ | refine KM.of ?_ | refine AI ?_ | refine A5 ?_ | refine A7 ?_ | intro _g _hg | refine AK ?_ ?_ | intro _hc) | omega)
   exact B8 rfl (Nat.le_refl _) hsup ⟨rfl, h0, Nat.le_refl _⟩
  | some g =>
   repeat' (first | (simp -implicitDefEqProofs [BQ, BN, BV, BL, BS, BR, BM, BU, BT, Ay, c42, -getElem?_pos, hP, M5]) | (simp (disch := omega) only [AJ]) | ((with_reducible refine AP 41 ?_); (refine' CallP.sf ?_ (hcut) ?_); (focus first | (with_reducible exact A0 _) | (simp [AC, AA, A1, A0]; done))) | (with_reducible first | refine A8 ?_ ?_ ?_ | exact AG | assumption | refine A3 ?_ | refine KM.of ?_ | refine AI ?_ | refine A5 ?_ | refine A7 ?_ | intro _g _hg | refine AK ?_ ?_ | intro _hc) | omega)
   exact B8 rfl (Nat.le_refl _) hsup ⟨rfl, h0, Nat.le_refl _⟩
 | cons o r =>
  cases gs with
  | none => exact absurd (hgs rfl) (by simp)
  | some gk =>
   obtain ⟨t1, t2, t3, t4, t5, t6, t7, t8, t9⟩ := ZF hO
   have hrl : r.length ≤ 100000 := by have := hb.2.1; rw [← he] at this; simp at this; omega
   obtain ⟨⟨k', t', nm', pa', fs', b2, e2⟩, f, g, gb, ge⟩ := o
   have hkk : kk = (Pt.mk k' t' nm' pa' fs' b2 e2, f) :: r.map (fun o => (o.p, o.f)) := by rw [← he]; rfl
   subst hkk
   simp only [opC, Pt.k, Pt.t, Pt.n, Pt.pa, Pt.fs, Pt.b, Pt.e] at t3 t2 t5 t7 t8
   have hi : ((r.length : Int) + 1 - 1) = r.length := by omega
   have hne0 : ¬ ((r.length : Int) + 1 = 0) := by omega
   have q0 : ∀ z, (LU (r.map Op.g) ++ z)[r.length]? = z[0]? := fun z => by rw [← t9, List.getElem?_append_right (Nat.le_refl _)]; simp
   have hfin : f = false → PS n0 H0 gp (ps, (Pt.mk k' t' nm' pa' fs' b2 e2, true) :: r.map (fun o => (o.p, o.f))) n (upd H g (some (.cells 126 [aI k', .str t', .str nm', DN pa', Bz fs', CW gb b2, CW ge e2, .bool true]))) := by
    intro hf
    subst hf
    have hO1 := hO.perm (pm5 _ _ _ _ _ _)
    have hO2 := hO1.re (n' := n) (H' := upd H g (some (.cells 126 [aI k', .str t', .str nm', DN pa', Bz fs', CW gb b2, CW ge e2, .bool true]))) (ys := [(g, .cells 126 [aI k', .str t', .str nm', DN pa', Bz fs', CW gb b2, CW ge e2, .bool true])]) (Nat.le_refl _) (fun q hq => by rw [upd_ne (by omega)]; exact hsup q hq) (fun q hq hm => upd_ne (by simpa using hm)) (fun y hy => by rw [List.mem_singleton.1 hy]; exact ⟨AY _ _ _, .inl (by simp)⟩) (by simp)
    exact ⟨gl, some gk, ⟨Pt.mk k' t' nm' pa' fs' b2 e2, true, g, gb, ge⟩ :: r, hO2.perm (pm5 (gp, .cells 74 [CW gl ps, M5 (some gk) (r.length + 1)]) (g, .cells 126 [aI k', .str t', .str nm', DN pa', Bz fs', CW gb b2, CW ge e2, .bool true]) (Gm gl ps) (Po (some gk) (g :: r.map Op.g)) (Gm gb b2 ++ Gm ge e2) (r.flatMap U2)).symm, rfl, fun h => by cases h⟩
   clear hO he hgs
   have o5 := L1 gb b2
   have o6 := L1 ge e2
   generalize LU (r.map Op.g) = cs at *
   generalize CW gb b2 = v5 at *
   generalize CW ge e2 = v6 at *
   generalize CW gl ps = vp at *
   refine AO Tryz.func42 Gk rfl fun hs => ?_
   cases f with
   | false =>
    have e1 : BJ .els (ps, (Pt.mk k' t' nm' pa' fs' b2 e2, false) :: r.map (fun o => (o.p, o.f))) = some (ps, (Pt.mk k' t' nm' pa' fs' b2 e2, true) :: r.map (fun o => (o.p, o.f))) := rfl
    rw [e1]
    repeat' (first | (simp -implicitDefEqProofs [BQ, BN, BV, BL, BS, BR, BM, BU, BT, Ay, c42, -getElem?_pos, t1, t2, t3, q0, hi, hne0, splice]) | (simp (disch := omega) only [AJ]) | ((with_reducible refine AP 41 ?_); (refine' CallP.sf ?_ (hcut) ?_); (focus first | (with_reducible exact A0 _) | (simp [AC, AA, A1, A0]; done))) | (with_reducible first | refine A8 ?_ ?_ ?_ | exact AG | assumption | refine A3 ?_ | refine KM.of ?_ | refine AI ?_ | refine A5 ?_ | refine A7 ?_ | intro _g _hg | refine AK ?_ ?_ | intro _hc) | omega)
    all_goals exact B8 rfl (Nat.le_refl _) (fun q hq => by rw [upd_ne (by omega)]; exact hsup q hq) ⟨rfl, hfin rfl, Nat.le_refl _⟩
   | true =>
    have e1 : BJ .els (ps, (Pt.mk k' t' nm' pa' fs' b2 e2, true) :: r.map (fun o => (o.p, o.f))) = none := rfl
    rw [e1]
    repeat' (first | (simp -implicitDefEqProofs [BQ, BN, BV, BL, BS, BR, BM, BU, BT, Ay, c42, -getElem?_pos, t1, t2, t3, q0, hi, hne0, splice]) | (simp (disch := omega) only [AJ]) | ((with_reducible refine AP 41 ?_); (refine' CallP.sf ?_ (hcut) ?_); (focus first | (with_reducible exact A0 _) | (simp [AC, AA, A1, A0]; done))) | (with_reducible first | refine A8 ?_ ?_ ?_ | exact AG | assumption | refine A3 ?_ | refine KM.of ?_ | refine AI ?_ | refine A5 ?_ | refine A7 ?_ | intro _g _hg | refine AK ?_ ?_ | intro _hc) | omega)
    all_goals exact B8 rfl (Nat.le_refl _) hsup ⟨rfl, h0, Nat.le_refl _⟩
theorem T6 {n0 n gp : Nat} {H0 H : A2} {st : Cz} (h : PS n0 H0 gp st n H) (hb : M6 100000 st) :
  ACalls Tryz.prog 42 [.ptr gp 0, .str [101, 110, 100]] n H (fun r n' H' => r = .bool (BJ .fin st).isSome ∧ PS n0 H0 gp ((BJ .fin st).getD st) n' H' ∧ n ≤ n') := by
 have hsup := h.own.2.2.2.1
 have hcut := QL [101, 110, 100] 32 (by simp)
 generalize Bb 32 [101, 110, 100] = br at *
 have h0 := h
 obtain ⟨gl, gs, ops, hO, he, hgs⟩ := h
 obtain ⟨ps, kk⟩ := st
 simp only at he hO
 cases ops with
 | nil =>
  have hkk : kk = [] := by rw [← he]; rfl
  subst hkk
  have e1 : BJ .fin (ps, []) = none := rfl
  rw [e1]
  have hP : H gp = some (.cells 74 [CW gl ps, M5 gs 0]) := hO.fst.1
  generalize CW gl ps = vp at *
  refine AO Tryz.func42 Gk rfl fun hs => ?_
  cases gs with
  | none =>
   repeat' (first | (simp -implicitDefEqProofs [BQ, BN, BV, BL, BS, BR, BM, BU, BT, Ay, c42, -getElem?_pos, hP, M5]) | (simp (disch := omega) only [AJ]) | ((with_reducible refine AP 41 ?_); (refine' CallP.sf ?_ (hcut) ?_); (focus first | (with_reducible exact A0 _) | (simp [AC, AA, A1, A0]; done))) | (with_reducible first | refine A8 ?_ ?_ ?_ | exact AG | assumption | refine A3 ?_ | refine KM.of ?_ | refine AI ?_ | refine A5 ?_ | refine A7 ?_ | intro _g _hg | refine AK ?_ ?_ | intro _hc) | omega)
   exact B8 rfl (Nat.le_refl _) hsup ⟨rfl, h0, Nat.le_refl _⟩
  | some g =>
   repeat' (first | (simp -implicitDefEqProofs [BQ, BN, BV, BL, BS, BR, BM, BU, BT, Ay, c42, -getElem?_pos, hP, M5]) | (simp (disch := omega) only [AJ]) | ((with_reducible refine AP 41 ?_); (refine' CallP.sf ?_ (hcut) ?_); (focus first | (with_reducible exact A0 _) | (simp [AC, AA, A1, A0]; done))) | (with_reducible first | refine A8 ?_ ?_ ?_ | exact AG | assumption | refine A3 ?_ | refine KM.of ?_ | refine AI ?_ | refine A5 ?_ | refine A7 ?_ | intro _g _hg | refine AK ?_ ?_ | intro _hc) | omega)
   exact B8 rfl (Nat.le_refl _) hsup ⟨rfl, h0, Nat.le_refl _⟩
 | cons o r =>
  cases gs with
  | none => exact absurd (hgs rfl) (by simp)
  | some gk =>
   obtain ⟨t1, t2, t3, t4, t5, t6, t7, t8, t9⟩ := ZF hO
   have hrl : r.length ≤ 100000 := by have := hb.2.1; rw [← he] at this; simp at this; omega
   obtain ⟨⟨k', t', nm', pa', fs', b2, e2⟩, f, g, gb, ge⟩ := o
   have hkk : kk = (Pt.mk k' t' nm' pa' fs' b2 e2, f) :: r.map (fun o => (o.p, o.f)) := by rw [← he]; rfl
   subst hkk
   simp only [opC, Pt.k, Pt.t, Pt.n, Pt.pa, Pt.fs, Pt.b, Pt.e] at t3 t2 t5 t7 t8
   have hi : ((r.length : Int) + 1 - 1) = r.length := by omega
   have hne0 : ¬ ((r.length : Int) + 1 = 0) := by omega
   have q0 : ∀ z, (LU (r.map Op.g) ++ z)[r.length]? = z[0]? := fun z => by rw [← t9, List.getElem?_append_right (Nat.le_refl _)]; simp
   have hil : (r.length : Int) ≤ (r.length : Int) + 1 := by omega
   obtain ⟨hbp, hbl, hbo⟩ := hb
   obtain ⟨ob1, ob2, ob3, ob4⟩ := hbo (Pt.mk k' t' nm' pa' fs' b2 e2, f) List.mem_cons_self
   have hcall : ∀ g9, n ≤ g9 → ∀ o2 o1 : Option AObj, ACalls Tryz.prog 70 [.ptr gp 0, .agg [aI k', .str t', .str nm', DN pa', Bz fs', CW gb b2, CW ge e2]] (g9 + 1) (upd (upd (upd H g9 o2) g9 o1) gp (some (.cells 74 [CW gl ps, .slg 1 gk r.length]))) (fun r' n' H' => r' = .tup [] ∧ PS n0 H0 gp (DA (.mk k' t' nm' pa' fs' b2 e2) (ps, r.map (fun o => (o.p, o.f)))) n' H' ∧ g9 + 1 ≤ n') := by
    intro g9 hg9 o2 o1
    have hgpn := h0.own.2.1
    have fb : b2 ≠ [] → H gb = some (CT b2) ∧ gb < n ∧ gb ≠ gp ∧ gb ≠ gk := fun hne => by
     have hm : (gb, CT b2) ∈ M4 gp gl (some gk) ps (⟨Pt.mk k' t' nm' pa' fs' b2 e2, f, g, gb, ge⟩ :: r) := by simp [M4, U2, Pt.b, EP hne]
     have a := hO.at_ hm
     refine ⟨a.1, a.2.2, fun e => ?_, fun e => ?_⟩
     ·have := a.1; rw [e, t1] at this; cases this
     ·have h1 := a.1; rw [e, t2] at h1; injection h1 with h1; injection h1 with h1 _; exact absurd h1 (by decide)
    have fe : e2 ≠ [] → H ge = some (CT e2) ∧ ge < n ∧ ge ≠ gp ∧ ge ≠ gk := fun hne => by
     have hm : (ge, CT e2) ∈ M4 gp gl (some gk) ps (⟨Pt.mk k' t' nm' pa' fs' b2 e2, f, g, gb, ge⟩ :: r) := by simp [M4, U2, Pt.e, EP hne]
     have a := hO.at_ hm
     refine ⟨a.1, a.2.2, fun e => ?_, fun e => ?_⟩
     ·have := a.1; rw [e, t1] at this; cases this
     ·have h1 := a.1; rw [e, t2] at h1; injection h1 with h1; injection h1 with h1 _; exact absurd h1 (by decide)
    have fbe : b2 ≠ [] → e2 ≠ [] → gb ≠ ge := fun h1 h2 e => by
     have := hO.nd
     have hs : ([(gb, CT b2)] ++ [(ge, CT e2)] : List (Nat × AObj)).Sublist (M4 gp gl (some gk) ps (⟨Pt.mk k' t' nm' pa' fs' b2 e2, f, g, gb, ge⟩ :: r)) := by
      have e1 : Gm gb b2 ++ Gm ge e2 = [(gb, CT b2)] ++ [(ge, CT e2)] := by rw [EP h1, EP h2]
      rw [← e1]
      exact ((((List.sublist_append_left _ _).trans (List.sublist_cons_self _ _ |>.trans (List.Sublist.refl _))).trans (List.sublist_append_right _ _)).trans (List.sublist_append_right _ _)).trans (List.sublist_cons_self _ _)
     have := (hs.map Prod.fst).nodup this
     simp [e] at this
    have ht' : t'.length ≤ 100000 := UV ob3
    refine ACalls.shrIn (g := gk) (a := LU (r.map Op.g)) (b := [.ptr g 0]) (by simp (disch := omega) only [upd_ne]; exact t2) ?_
    refine UU (fun hne => ?_) (fun hne => ?_) fbe ?_
    ·obtain ⟨a1, a2, a3, a4⟩ := fb hne
     simp (disch := omega) only [upd_ne]; exact a1
    ·obtain ⟨a1, a2, a3, a4⟩ := fe hne
     simp (disch := omega) only [upd_ne]; exact a1
    ·refine UR ⟨gl, some gk, r, ?_, rfl, fun h => by cases h⟩ ⟨hbp, by simp only [List.length_map]; exact hrl, fun o ho => hbo o (List.mem_cons_of_mem _ ho)⟩ ht' (fun hk => absurd hk ob4)
     generalize hH3 : (if e2 = [] then (if b2 = [] then _ else _) else _ : A2) = H3
     have hq : ∀ q, q ≠ g9 → q ≠ gp → q ≠ gk → (b2 ≠ [] → q ≠ gb) → (e2 ≠ [] → q ≠ ge) → H3 q = H q := by
      intro q c1 c2 c3 c4 c5
      rw [← hH3]
      by_cases hb0 : b2 = [] <;> by_cases he0 : e2 = []
      ·simp (disch := assumption) only [hb0, he0, if_true, upd_ne]
      ·have := c5 he0
       simp (disch := assumption) only [hb0, he0, if_true, if_false, upd_ne]
      ·have := c4 hb0
       simp (disch := assumption) only [hb0, he0, if_true, if_false, upd_ne]
      ·have := c4 hb0
       have := c5 he0
       simp (disch := assumption) only [hb0, he0, if_true, if_false, upd_ne]
     have hgp3 : H3 gp = some (.cells 74 [CW gl ps, .slg 1 gk r.length]) ∧ H3 gk = some (.grow 127 (LU (r.map Op.g))) := by
      rw [← hH3]
      by_cases hb0 : b2 = [] <;> by_cases he0 : e2 = []
      ·simp (disch := omega) only [hb0, he0, if_true, upd_ne, AY]; exact ⟨trivial, trivial⟩
      ·obtain ⟨_, _, a3, a4⟩ := fe he0
       simp (disch := omega) only [hb0, he0, if_true, if_false, upd_ne, AY]; exact ⟨trivial, trivial⟩
      ·obtain ⟨_, _, b3, b4⟩ := fb hb0
       simp (disch := omega) only [hb0, he0, if_true, if_false, upd_ne, AY]; exact ⟨trivial, trivial⟩
      ·obtain ⟨_, _, a3, a4⟩ := fe he0
       obtain ⟨_, _, b3, b4⟩ := fb hb0
       simp (disch := omega) only [hb0, he0, if_false, upd_ne, AY]; exact ⟨trivial, trivial⟩
     have hO1 := hO.perm (pm6 _ _ _ _ _ _)
     have hO2 := hO1.re (n' := g9 + 1) (H' := H3) (ys := (gp, .cells 74 [CW gl ps, .slg 1 gk r.length]) :: [(gk, .grow 127 (LU (r.map Op.g)))]) (by omega) (fun q hq2 => ?_) (fun q hq2 hm => ?_) (fun y hy => ?_) ?_
     ·exact hO2.perm (pm3 _ (Gm gl ps) [_] (r.flatMap U2)).symm
     ·rw [hq q (by omega) (by omega) (by omega) (fun h => by have := fb h; omega) (fun h => by have := fe h; omega)]
      exact hsup q (by omega)
     ·simp only [List.map_cons, List.map_append, List.mem_cons, List.mem_append, not_or] at hm
      obtain ⟨m1, m2, m3, m4, m5⟩ := hm
      refine hq q (by omega) m1 (fun e => m2 (by rw [e]; simp [Po])) (fun h e => m4 ?_) (fun h e => m5 ?_)
      ·rw [e]; simp [Pt.b, EP h]
      ·rw [e]; simp [Pt.e, EP h]
     ·simp only [List.mem_cons, List.not_mem_nil, or_false] at hy
      rcases hy with rfl | rfl
      ·exact ⟨hgp3.1, .inl (by simp)⟩
      ·exact ⟨hgp3.2, .inl (by simp [Po])⟩
     ·simp [Ne.symm t6]
   clear hO he hgs
   have hgpn := h0.own.2.1
   have o5 := L1 gb b2
   have o6 := L1 ge e2
   have o51 := o5.1
   have o61 := o6.1
   unfold AV.one at o51 o61
   generalize LU (r.map Op.g) = cs at *
   have e1 : BJ .fin (ps, (Pt.mk k' t' nm' pa' fs' b2 e2, f) :: r.map (fun o => (o.p, o.f))) = some (DA (.mk k' t' nm' pa' fs' b2 e2) (ps, r.map (fun o => (o.p, o.f)))) := rfl
   rw [e1]
   generalize DA (.mk k' t' nm' pa' fs' b2 e2) (ps, r.map (fun o => (o.p, o.f))) = st2 at *
   generalize CW gb b2 = v5 at *
   generalize CW ge e2 = v6 at *
   generalize CW gl ps = vp at *
   refine AO Tryz.func42 Gk rfl fun hs => ?_
   repeat' (first | (simp -implicitDefEqProofs [BQ, BN, BV, BL, BS, BR, BM, BU, BT, Ay, c42, -getElem?_pos, t1, t2, t3, q0, hi, hne0, hil, splice, o51, o61, DR]) | (simp (disch := omega) only [AJ]) | ((with_reducible refine Ad 70 ?_); refine ⟨_, hcall _ (by assumption) _ _, ?_⟩; rintro r9 n' H' hn9 hs9 ⟨rfl, hP9, hle9⟩) | ((with_reducible refine AP 41 ?_); (refine' CallP.sf ?_ (hcut) ?_); (focus first | (with_reducible exact A0 _) | (simp [AC, AA, A1, A0]; done))) | (with_reducible first | refine A8 ?_ ?_ ?_ | exact AG | assumption | refine A3 ?_ | refine KM.of ?_ | refine AI ?_ | refine A5 ?_ | refine A7 ?_ | intro _g _hg | refine AK ?_ ?_ | intro _hc) | omega)
   all_goals first
    | exact o5.2.1
    | exact o6.2.1
    | exact B8 rfl (by omega) hs9 ⟨rfl, hP9, by omega⟩
theorem PS.cell {n0 n gp : Nat} {H0 H : A2} {st : Cz} (h : PS n0 H0 gp st n H) : ∃ vp vs, H gp = some (.cells 74 [vp, vs]) ∧ (vs = .sl 0 [] .nil ∨ ∃ g k, vs = .slg 1 g k) := by
 obtain ⟨gl, gs, ops, hO, _, _⟩ := h
 refine ⟨_, _, hO.fst.1, ?_⟩
 cases gs with
 | none => exact .inl rfl
 | some g => exact .inr ⟨g, _, rfl⟩
theorem WK (pa : List AF) : (Fn 3 [] pa [] = 0) = (BK pa = true) := by
 unfold Fn
 cases BK pa <;> simp [LQ]
theorem Tj (nm : AF) (pa : List AF) : (Fn 4 nm pa [] = 0) = (BK pa = true ∧ Kp nm = true) := by
 unfold Fn
 cases BK pa <;> cases Kp nm <;> simp [LQ]
theorem Uj (c : UInt8) (s : AF) : (Bb c s).1.length ≤ s.length ∧ (Bb c s).2.1.length ≤ s.length := by
 rcases HD c s with ⟨a, b, e1, _, e2⟩ | ⟨_, e2⟩
 ·rw [e2, e1]; simp; omega
 ·rw [e2]; simp
theorem Zu {n0 n gp : Nat} {H0 H : A2} {st : Cz} {s : AF} (h : PS n0 H0 gp st n H) (hb : M6 100000 st) (hs : s.length ≤ 100000) :
  ACalls Tryz.prog 42 [.ptr gp 0, .str s] n H (fun r n' H' => r = .bool (BJ (dirT s) st).isSome ∧ PS n0 H0 gp ((BJ (dirT s) st).getD st) n' H' ∧ n ≤ n') := by
 have hsup := h.own.2.2.2.1
 have hD := dirT.eq_1 s
 by_cases h1 : s = Fz
 ·rw [if_pos h1] at hD
  have hc := RR (t := opS) h hb (by simp [opS])
  rw [hD]
  have e1 : BJ .opn st = some (Ap opS st) := rfl
  rw [e1]
  have hcut := QL [111, 112, 101, 110] 32 (by simp)
  generalize Bb 32 [111, 112, 101, 110] = br at *
  obtain ⟨vp, vs, hP, hvs⟩ := h.cell
  subst h1
  generalize Ap opS st = st2 at *
  rcases hvs with rfl | ⟨g, k, rfl⟩
  all_goals
   refine AO Tryz.func42 Gk rfl fun hs => ?_
   repeat' (first | (simp -implicitDefEqProofs [BQ, BN, BV, BL, BS, BR, BM, BU, BT, Ay, c42, -getElem?_pos, hP, Fz]) | (simp (disch := omega) only [AJ]) | ((with_reducible refine Ad 40 ?_); refine ⟨_, hc, ?_⟩; rintro r9 n' H' hn9 hs9 ⟨rfl, hP9, hle9⟩) | ((with_reducible refine AP 41 ?_); (refine' CallP.sf ?_ (hcut) ?_); (focus first | (with_reducible exact A0 _) | (simp [AC, AA, A1, A0]; done))) | (with_reducible first | refine A8 ?_ ?_ ?_ | exact AG | assumption | refine A3 ?_ | refine KM.of ?_ | refine AI ?_ | refine A5 ?_ | refine A7 ?_ | intro _g _hg | refine AK ?_ ?_ | intro _hc) | omega)
   all_goals exact B8 rfl hle9 hs9 ⟨rfl, hP9, hle9⟩
 rw [if_neg h1] at hD
 by_cases h2 : s = Gu
 ·rw [if_pos h2] at hD
  rw [hD, h2]
  exact To h hb
 rw [if_neg h2] at hD
 by_cases h3 : s = Kt
 ·rw [if_pos h3] at hD
  rw [hD, h3]
  exact T6 h hb
 rw [if_neg h3] at hD
 have n1 : ¬ s = [111, 112, 101, 110] := h1
 have n2 : ¬ s = [101, 108, 115, 101] := h2
 have n3 : ¬ s = [101, 110, 100] := h3
 obtain ⟨hl1, hl2⟩ := Uj 32 s
 have hcut := QL s 32 (by omega)
 obtain ⟨vp, vs, hP, hvs⟩ := h.cell
 have hfc := X0 h hb hs
 generalize Bb 32 s = br at *
 obtain ⟨w, rest, more⟩ := br
 simp only at hD hl1 hl2 hcut
 have hf0 : dirT s = CN s → ∀ d, dirT s = d → (BJ d st).isSome = WB (CN s) ∧ (BJ d st).getD st = V9 (CN s) st := by
  intro e d hd
  rw [← hd, e]
  unfold CN
  (repeat' split) <;> exact ⟨rfl, rfl⟩
 by_cases h4 : more = true ∧ w = SJ
 ·rw [if_pos h4] at hD
  obtain ⟨rfl, rfl⟩ := h4
  have hsp := Fs rest 46 (by omega)
  have hpl := Fr 46 rest
  have hpm := Dp 46 rest
  have hbc := SH (k := 3) (nm := []) (pa := DH 46 rest) (fs := []) h hb (fun x hx => by have := hpm x hx; omega) (by omega) (by simp) (by simp)
  rw [hD]
  have e1 : decide (Fn 3 [] (DH 46 rest) [] = 0) = (BJ (G8 rest) st).isSome ∧ (if Fn 3 [] (DH 46 rest) [] = 0 then WW 3 [] (DH 46 rest) [] st else st) = (BJ (G8 rest) st).getD st := by
   unfold G8
   simp only [WK]
   by_cases hp : BK (DH 46 rest) = true
   ·rw [if_pos hp, if_pos hp, decide_eq_true hp]; exact ⟨rfl, rfl⟩
   ·rw [if_neg hp, if_neg hp, decide_eq_false hp]; exact ⟨rfl, rfl⟩
  rw [e1.1, e1.2] at hbc
  generalize (BJ (G8 rest) st).isSome = bb at *
  generalize (BJ (G8 rest) st).getD st = st2 at *
  generalize DH 46 rest = pa at *
  clear hfc hf0 e1
  rcases hvs with rfl | ⟨g, k, rfl⟩
  all_goals
   refine AO Tryz.func42 Gk rfl fun hs => ?_
   repeat' (first | (simp -implicitDefEqProofs [BQ, BN, BV, BL, BS, BR, BM, BU, BT, Ay, c42, -getElem?_pos, hP, n1, n2, n3, SJ]) | (simp (disch := omega) only [AJ]) | ((with_reducible refine Ad 72 ?_); refine ⟨_, ACalls.sim hbc (A6 (A1 _) (A6 (EL (A6 (A1 _) (A6 (A1 _) (A6 (A1 _) (A6 (A1 _) (A6 (D6 2) (A6 (A1 _) (A6 (A1 _) rfl)))))))) rfl)), ?_⟩; rintro r9 n' H' hn9 hs9 ⟨rfl, hP9, hle9⟩) | ((with_reducible refine AP 41 ?_); (refine' CallP.sf ?_ (hcut) ?_); (focus first | (with_reducible exact A0 _) | (simp [AC, AA, A1, A0]; done))) | ((with_reducible refine AP 73 ?_); (refine' CallP.sf ?_ (hsp) ?_); (focus first | (with_reducible exact A0 _) | (simp [AC, AA, A1, A0]; done))) | (with_reducible first | refine A8 ?_ ?_ ?_ | exact AG | assumption | refine A3 ?_ | refine KM.of ?_ | refine AI ?_ | refine A5 ?_ | refine A7 ?_ | intro _g _hg | refine AK ?_ ?_ | intro _hc) | omega)
   all_goals exact B8 rfl hle9 hs9 ⟨rfl, hP9, hle9⟩
 rw [if_neg h4] at hD
 have hnif : ¬ (more = true ∧ w = [105, 102]) := h4
 by_cases h5 : more = true ∧ w = EI
 ·rw [if_pos h5] at hD
  obtain ⟨rfl, rfl⟩ := h5
  have hc2 := G0 rest Sl (by omega)
  rw [PU (by decide)] at hc2
  rw [hD]
  unfold Fm
  clear hfc hf0
  cases hcu : As Sl rest with
  | none =>
   rw [hcu] at hc2
   simp only at hc2
   change APure _ _ [.str rest, .str [32, 105, 110, 32]] _ at hc2
   have e1 : BJ .bad st = none := rfl
   simp only [e1]
   rcases hvs with rfl | ⟨g, k, rfl⟩
   all_goals
    refine AO Tryz.func42 Gk rfl fun hs => ?_
    repeat' (first | (simp -implicitDefEqProofs [BQ, BN, BV, BL, BS, BR, BM, BU, BT, Ay, c42, -getElem?_pos, hP, n1, n2, n3, EI]) | (simp (disch := omega) only [AJ]) | ((with_reducible refine AP 41 ?_); (refine' CallP.sf ?_ (hcut) ?_); (focus first | (with_reducible exact A0 _) | (simp [AC, AA, A1, A0]; done))) | ((with_reducible refine AP 41 ?_); (refine' CallP.sf ?_ (hc2) ?_); (focus first | (with_reducible exact A0 _) | (simp [AC, AA, A1, A0]; done))) | (with_reducible first | refine A8 ?_ ?_ ?_ | exact AG | assumption | refine A3 ?_ | refine KM.of ?_ | refine AI ?_ | refine A5 ?_ | refine A7 ?_ | intro _g _hg | refine AK ?_ ?_ | intro _hc) | omega)
    all_goals exact B8 rfl (Nat.le_refl _) hsup ⟨rfl, h, Nat.le_refl _⟩
  | some ab =>
   obtain ⟨nm, wh⟩ := ab
   rw [hcu] at hc2
   simp only at hc2
   change APure _ _ [.str rest, .str [32, 105, 110, 32]] _ at hc2
   have hll := Co hcu
   have hsp := Fs wh 46 (by omega)
   have hpl := Fr 46 wh
   have hpm := Dp 46 wh
   have hbc := SH (k := 4) (nm := nm) (pa := DH 46 wh) (fs := []) h hb (fun x hx => by have := hpm x hx; omega) (by omega) (by omega) (by simp)
   obtain ⟨dd, hdd⟩ : ∃ dd, (if Kp nm = true ∧ BK (DH 46 wh) = true then Dir.bgn (Pt.mk 4 [] nm (DH 46 wh) [] [] []) else Dir.bad) = dd := ⟨_, rfl⟩
   simp only [hdd]
   have e1 : decide (Fn 4 nm (DH 46 wh) [] = 0) = (BJ dd st).isSome ∧ (if Fn 4 nm (DH 46 wh) [] = 0 then WW 4 nm (DH 46 wh) [] st else st) = (BJ dd st).getD st := by
    rw [← hdd]
    simp only [Tj]
    by_cases hp : BK (DH 46 wh) = true ∧ Kp nm = true
    ·rw [if_pos hp, if_pos hp.symm, decide_eq_true hp]; exact ⟨rfl, rfl⟩
    ·rw [if_neg hp, if_neg (fun h => hp h.symm), decide_eq_false hp]; exact ⟨rfl, rfl⟩
   rw [e1.1, e1.2] at hbc
   generalize (BJ dd st).isSome = bb at *
   generalize (BJ dd st).getD st = st2 at *
   clear e1 hdd
   generalize DH 46 wh = pa at *
   rcases hvs with rfl | ⟨g, k, rfl⟩
   all_goals
    refine AO Tryz.func42 Gk rfl fun hs => ?_
    repeat' (first | (simp -implicitDefEqProofs [BQ, BN, BV, BL, BS, BR, BM, BU, BT, Ay, c42, -getElem?_pos, hP, n1, n2, n3, EI]) | (simp (disch := omega) only [AJ]) | ((with_reducible refine Ad 72 ?_); refine ⟨_, ACalls.sim hbc (A6 (A1 _) (A6 (EL (A6 (A1 _) (A6 (A1 _) (A6 (A1 _) (A6 (A1 _) (A6 (D6 2) (A6 (A1 _) (A6 (A1 _) rfl)))))))) rfl)), ?_⟩; rintro r9 n' H' hn9 hs9 ⟨rfl, hP9, hle9⟩) | ((with_reducible refine AP 41 ?_); (refine' CallP.sf ?_ (hcut) ?_); (focus first | (with_reducible exact A0 _) | (simp [AC, AA, A1, A0]; done))) | ((with_reducible refine AP 41 ?_); (refine' CallP.sf ?_ (hc2) ?_); (focus first | (with_reducible exact A0 _) | (simp [AC, AA, A1, A0]; done))) | ((with_reducible refine AP 73 ?_); (refine' CallP.sf ?_ (hsp) ?_); (focus first | (with_reducible exact A0 _) | (simp [AC, AA, A1, A0]; done))) | (with_reducible first | refine A8 ?_ ?_ ?_ | exact AG | assumption | refine A3 ?_ | refine KM.of ?_ | refine AI ?_ | refine A5 ?_ | refine A7 ?_ | intro _g _hg | refine AK ?_ ?_ | intro _hc) | omega)
    all_goals exact B8 rfl hle9 hs9 ⟨rfl, hP9, hle9⟩
 rw [if_neg h5] at hD
 obtain ⟨e1, e2⟩ := hf0 hD _ rfl
 rw [e1, e2]
 generalize WB (CN s) = bb at *
 generalize V9 (CN s) st = st2 at *
 have k1 : more = true → ¬ w = [105, 102] := fun a b => h4 ⟨a, b⟩
 have k2 : more = true → ¬ w = [101, 97, 99, 104] := fun a b => h5 ⟨a, b⟩
 clear h1 h2 h3 h4 h5 hnif hD e1 e2 hf0
 cases more with
 | false =>
  rcases hvs with rfl | ⟨g, k, rfl⟩
  all_goals
   refine AO Tryz.func42 Gk rfl fun hs => ?_
   repeat' (first | (simp -implicitDefEqProofs [BQ, BN, BV, BL, BS, BR, BM, BU, BT, Ay, c42, -getElem?_pos, hP, n1, n2, n3]) | (simp (disch := omega) only [AJ]) | ((with_reducible refine Ad 74 ?_); refine ⟨_, hfc, ?_⟩; rintro r9 n' H' hn9 hs9 ⟨rfl, hP9, hle9⟩) | ((with_reducible refine AP 41 ?_); (refine' CallP.sf ?_ (hcut) ?_); (focus first | (with_reducible exact A0 _) | (simp [AC, AA, A1, A0]; done))) | (with_reducible first | refine A8 ?_ ?_ ?_ | exact AG | assumption | refine A3 ?_ | refine KM.of ?_ | refine AI ?_ | refine A5 ?_ | refine A7 ?_ | intro _g _hg | refine AK ?_ ?_ | intro _hc) | omega)
   all_goals exact B8 rfl hle9 hs9 ⟨rfl, hP9, hle9⟩
 | true =>
  have k1 := k1 rfl
  have k2 := k2 rfl
  rcases hvs with rfl | ⟨g, k, rfl⟩
  all_goals
   refine AO Tryz.func42 Gk rfl fun hs => ?_
   repeat' (first | (simp -implicitDefEqProofs [BQ, BN, BV, BL, BS, BR, BM, BU, BT, Ay, c42, -getElem?_pos, hP, n1, n2, n3, k1, k2]) | (simp (disch := omega) only [AJ]) | ((with_reducible refine Ad 74 ?_); refine ⟨_, hfc, ?_⟩; rintro r9 n' H' hn9 hs9 ⟨rfl, hP9, hle9⟩) | ((with_reducible refine AP 41 ?_); (refine' CallP.sf ?_ (hcut) ?_); (focus first | (with_reducible exact A0 _) | (simp [AC, AA, A1, A0]; done))) | (with_reducible first | refine A8 ?_ ?_ ?_ | exact AG | assumption | refine A3 ?_ | refine KM.of ?_ | refine AI ?_ | refine A5 ?_ | refine A7 ?_ | intro _g _hg | refine AK ?_ ?_ | intro _hc) | omega)
   all_goals exact B8 rfl hle9 hs9 ⟨rfl, hP9, hle9⟩
theorem ACalls.frzIn2 {P : Program} {f : Nat} {args : List AV} {n : Nat} {H : A2} {R : DL} {g e sz : Nat} {l : List AV} (ks : List Nat) (hg : H g = some (.grow e (AD l))) (hz : Aq P e = sz) (h0 : 0 < sz) (hu : ∀ x ∈ l, x.cells.length = sz) (h : ACalls P f (F4 g sz l args) n (Ks ks g sz l H) R) : ACalls P f args n H R := by
 intro hs w0 G w vs hl hr hv
 obtain ⟨us, c, hc, hLe, hrel, hrl, hsl, hcm, hcs, h1⟩ := hr.still hg
 have hlen : l.length ≤ c := by
  have e1 : (AD l).length = l.length * sz := by
   clear hg hrl hcs h1 h
   induction l with
   | nil => simp [AD]
   | cons x l ih =>
    have := ih fun y hy => hu y (List.mem_cons_of_mem _ hy)
    have h2 := hu x List.mem_cons_self
    simp only [AD, List.flatMap_cons, List.length_append] at this ⊢
    rw [this, h2, List.length_cons, Nat.succ_mul]; omega
  rw [e1, hz] at hcs
  exact Nat.le_of_mul_le_mul_right hcs h0
 have hso : SlOk sz l c := ⟨hlen, hcm, h0, hu, h1⟩
 have hv2 := RepL.frz hLe hc hrl hsl hso hv
 refine (h (fun k hk => ?_) w0 (G.still g us) w vs hl (hrel.frzK ks hc hrl hsl hso) hv2).mono ?_
 ·simp only [Ks]
  split
  ·rfl
  ·split
   ·rw [hs k hk]; rfl
   ·exact hs k hk
 ·rintro e' w' ⟨v, r, G', n', H', q1, q2, q3, q4, q5, q6⟩
  exact ⟨v, r, G', n', H', q1, q2, q3, hLe.tr q4, q5, q6⟩
theorem PS.val {n0 n gp : Nat} {H0 H : A2} {l : List Pt} {kk : List (Pt × Bool)} (h : PS n0 H0 gp (l, kk) n H) (hl : l.length ≤ 2000000) (hs : E4 l) : ∃ vp vs, H gp = some (.cells 74 [vp, vs]) ∧ ACalls Tryz.prog 13 [vp] n H (fun r n' H' => r = aF (CO l) ∧ n' = n ∧ (∃ vp', H' gp = some (.cells 74 [vp', vs]) ∧ AA vp' (E1 l)) ∧ (∀ q, q < n0 → H' q = H q)) := by
 have hv := Lr l hl hs
 obtain ⟨gl, gs, ops, hO, he, hgs⟩ := h
 have hP := hO.fst
 refine ⟨_, _, hP.1, ?_⟩
 cases l with
 | nil =>
  refine Gz (ACalls.sim (hv n H) (A6 (D6 7) rfl)) ?_
  rintro r n' H' ⟨rfl, rfl, rfl⟩
  exact ⟨rfl, rfl, ⟨_, hP.1, D6 7⟩, fun q hq => rfl⟩
 | cons x r =>
  have hm : (gl, CT (x :: r)) ∈ M4 gp gl gs (x :: r) ops := by simp [M4, Gm]
  have a := hO.at_ hm
  have hne : gl ≠ gp := by intro e; have := a.1; rw [e, hP.1] at this; cases this
  have hsk : Ca gl 7 (AH (x :: r)) (M5 gs ops.length) = M5 gs ops.length := by
   cases gs with
   | none => rfl
   | some g => simp [M5, Ca]
  refine ACalls.frzIn2 [gp] a.1 Xy (by omega) (Gc _) ?_
  simp only [F4, Og (l := x :: r) (by simp)]
  refine Gz (hv n _) ?_
  rintro r' n' H' ⟨rfl, rfl, rfl⟩
  refine ⟨rfl, rfl, ⟨.sl 7 (AH (x :: r)) .ro, ?_, A1 _⟩, fun q hq => ?_⟩
  ·simp only [Ks, if_neg (Ne.symm hne), List.mem_singleton, if_true, hP.1, Option.map_some, M1, F4, hsk, Og (l := x :: r) (by simp)]
  ·have h1 : q ≠ gl := by omega
   have h2 : q ≠ gp := by omega
   simp only [Ks, if_neg h1, List.mem_singleton, if_neg h2]
theorem PS.start {n : Nat} {H : A2} (hs : ∀ q, n ≤ q → H q = none) {g : Nat} (hg : n ≤ g) : PS n H g ([], []) (g + 1) (upd H g (some (.cells 74 [.sl 0 [] .nil, .sl 0 [] .nil]))) := by
 refine ⟨0, none, [], ?_, rfl, fun _ => rfl⟩
 refine ⟨by omega, fun q hq => by rw [upd_ne (by omega)]; exact hs q (by omega), fun q hq => upd_ne (by omega), fun x hx => ?_, ?_⟩
 ·simp [M4, Gm, Po] at hx
  subst hx
  exact ⟨by rw [AY]; rfl, hg⟩
 ·simp [M4, Gm, Po]
theorem PS.stk {n0 n gp : Nat} {H0 H : A2} {st : Cz} (h : PS n0 H0 gp st n H) : ∃ vp vs, H gp = some (.cells 74 [vp, vs]) ∧ RE vs = some (aI st.2.length) := by
 obtain ⟨gl, gs, ops, hO, he, hgs⟩ := h
 refine ⟨_, _, hO.fst.1, ?_⟩
 cases gs with
 | none => have := hgs rfl; subst this; rw [← he]; rfl
 | some g => rw [← he, List.length_map]; rfl
def Xo (n : Nat) : Except Nat Cz → List Pt × (Int × Int)
 | .error i => ([], (1, (i : Int)))
 | .ok st => if st.2 ≠ [] then ([], (1, (n : Int))) else if (CO st.1).1 ≠ 0 then ([], CO st.1) else (st.1, (0, 0))
theorem Z8 {s : AF} (h : ¬ 4000 < s.length) : Oy s = Xo s.length (CX s 0 ([], [])) := by
 unfold Oy
 rw [if_neg h]
 cases CX s 0 ([], []) with
 | error i => rfl
 | ok x => obtain ⟨l, k⟩ := x; rfl
theorem PS.at3 {g3 n gp : Nat} {H H' : A2} {ob : AObj} {st : Cz} (h : PS (g3 + 1) (upd H g3 (some ob)) gp st n H') : H' g3 = some ob := by
 rw [h.own.2.2.2.2 g3 (by omega), AY]
theorem PS.old {g3 n gp m : Nat} {H H' : A2} {ob : AObj} {st : Cz} (h : PS (g3 + 1) (upd H g3 (some ob)) gp st n H') (hm : m ≤ g3) : ∀ q, q < m → H' q = H q := fun q hq => by
 rw [h.own.2.2.2.2 q (by omega), upd_ne (by omega)]
theorem GU (s : AF) (i : Nat) : List.drop i (List.take s.length s) = s.drop i := by rw [List.take_length]
theorem WV (s : AF) (hs0 : s.length ≤ 1048576) : APure Tryz.prog 16 [.str s] (.tup [E1 (Oy s).1, aF (Oy s).2]) := by
 by_cases hlong : 4000 < s.length
 ·have e : Oy s = ([], (3, -1)) := by unfold Oy; rw [if_pos hlong]
  rw [e]
  have hlong' : (4000 : Int) < (s.length : Int) := by omega
  refine AM Tryz.func16 XT rfl fun n H hH => ?_
  repeat' (first | (simp -implicitDefEqProofs [OA, Ir, IV, O5, Gd, Fi, O9, c16, -getElem?_pos, hlong', splice]) | (simp (disch := omega) only [AJ]) | (with_reducible first | refine A8 ?_ ?_ ?_ | exact AG | assumption | refine A3 ?_ | refine KM.of ?_ | refine AI ?_ | refine A5 ?_ | refine A7 ?_ | intro _g _hg | refine AK ?_ ?_ | intro _hc) | omega)
  all_goals first
   | exact Ff (A6 (D6 7) (A0 _))
   | (intro q hq; simp (disch := omega) only [upd_ne])
 ·have e := Z8 hlong
  have hlong' : ¬ (4000 : Int) < (s.length : Int) := by omega
  obtain ⟨z, hz⟩ : ∃ z, Oy s = z := ⟨_, rfl⟩
  rw [hz] at e
  rw [hz]
  clear hz
  refine AM Tryz.func16 XT rfl fun n H hH => ?_
  repeat' (first | (simp -implicitDefEqProofs [c16, O9, -getElem?_pos, hlong', splice]) | (simp (disch := omega) only [AJ]) | (with_reducible first | refine A8 ?_ ?_ ?_ | exact AG | assumption | refine A3 ?_ | refine KM.of ?_ | refine AI ?_ | refine A5 ?_ | refine A7 ?_ | intro _g _hg | refine AK ?_ ?_ | intro _hc) | omega)
  rename_i g3 hg3
  generalize hgp0 : _g = gp at *
  clear hgp0
  have hPS0 : PS (g3 + 1) (upd H g3 (some (.cells 24 [aI 0, aI 0]))) gp ([], []) (gp + 1) (upd (upd H g3 (some (.cells 24 [aI 0, aI 0]))) gp (some (.cells 74 [.sl 0 [] .nil, .sl 0 [] .nil]))) := PS.start (fun q hq => by rw [upd_ne (by omega)]; exact hH q (by omega)) (by omega)
  have hend : ∀ (i n2 : Nat) (H2 : A2) (st : Cz), i ≤ s.length → z = Xo s.length (.ok (Ap (s.drop i) st)) → PS (g3 + 1) (upd H g3 (some (.cells 24 [aI 0, aI 0]))) gp st n2 H2 → M6 (5000 + 2 * i) st → ∀ en : AL, get en 0 = .str s → get en 3 = .ptr g3 0 → get en 4 = .ptr gp 0 → get en 5 = aI i → aw Tryz.prog c16_k3 (Lo (.tup [E1 z.1, aF z.2]) n H [.tmp 2, .cell 3 (some 2)]) ⟨en, n2, H2⟩ := by
   intro i n2 H2 st hi hz hP hb en e0 e3 e4 e5
   have hdl : (s.drop i).length = s.length - i := List.length_drop
   have htx := RR (t := s.drop i) hP (G7 (by omega) hb) (by omega)
   have hbd := Ly (t := s.drop i) hb (by omega)
   have hi' : (i : Int) ≤ s.length := by omega
   generalize Ap (s.drop i) st = st2 at *
   have hkey : ∀ n3 H3, PS (g3 + 1) (upd H g3 (some (.cells 24 [aI 0, aI 0]))) gp st2 n3 H3 → n2 ≤ n3 → ∀ en : AL, get en 3 = .ptr g3 0 → get en 4 = .ptr gp 0 → st2.2 = [] → aw Tryz.prog c16_k2 (Lo (.tup [E1 z.1, aF z.2]) n H [.tmp 2, .cell 3 (some 2)]) ⟨en, n3, H3⟩ := by
    intro n3 H3 hP3 hn3 en q3 q4 hk
    obtain ⟨l, kk⟩ := st2
    have hz3 : z = if (CO l).1 ≠ 0 then ([], CO l) else (l, (0, 0)) := by
     rw [hz]
     show (if kk ≠ [] then _ else _) = _
     rw [if_neg (by simpa using hk)]
    have hsm : E4 l := SZ (B := 20000) (by omega) l (Dt (by omega) hbd.1).2.1
    have hll : l.length ≤ 20000 := (Dt (B' := 20000) (by omega) hbd.1).1
    obtain ⟨vp, vs, hv1, hv2⟩ := hP3.val (by omega) hsm
    have hg3 := hP3.at3
    have hgpn := hP3.own
    have _hq : True := trivial
    by_cases h0 : (CO l).1 = 0
    ·rw [if_neg (by simpa using h0)] at hz3
     have hf : CO l = (0, (CO l).2) := by rw [← h0]
     rw [hf] at hv2
     generalize (CO l).2 = f2 at *
     repeat' (first | (simp -implicitDefEqProofs [Ir, OA, -getElem?_pos, q3, q4, hv1, _hq, splice]) | (simp (disch := omega) only [AJ]) | ((with_reducible refine Ad 13 ?_); refine ⟨_, hv2, ?_⟩; rintro r9 n' H' hn9 hs9 ⟨rfl, rfl, ⟨vp', hv3, hv4⟩, hv5⟩; (have _hq := And.intro ((hv5 g3 (by omega)).trans hg3) hv3)) | (with_reducible first | refine A8 ?_ ?_ ?_ | exact AG | assumption | refine A3 ?_ | refine KM.of ?_ | refine AI ?_ | refine A5 ?_ | refine A7 ?_ | intro _g _hg | refine AK ?_ ?_ | intro _hc) | omega)
     all_goals first
      | (rw [hz3]; exact Ff (A6 hv4 (A0 _)))
      | (intro q hq; simp (disch := omega) only [upd_ne]; rw [hv5 q (by omega)]; exact hP3.old (by omega) q hq)
      | omega
    ·rw [if_pos h0] at hz3
     have hne : ∃ f1 f2, CO l = (f1, f2) ∧ f1 ≠ 0 := ⟨_, _, rfl, h0⟩
     obtain ⟨f1, f2, hf, hf0⟩ := hne
     rw [hf] at hv2 hz3
     repeat' (first | (simp -implicitDefEqProofs [Ir, -getElem?_pos, q3, q4, hv1, _hq, hf0, splice]) | (simp (disch := omega) only [AJ]) | ((with_reducible refine Ad 13 ?_); refine ⟨_, hv2, ?_⟩; rintro r9 n' H' hn9 hs9 ⟨rfl, rfl, ⟨vp', hv3, hv4⟩, hv5⟩; (have _hq := (hv5 g3 (by omega)).trans hg3)) | (with_reducible first | refine A8 ?_ ?_ ?_ | exact AG | assumption | refine A3 ?_ | refine KM.of ?_ | refine AI ?_ | refine A5 ?_ | refine A7 ?_ | intro _g _hg | refine AK ?_ ?_ | intro _hc) | omega)
     all_goals first
      | (rw [hz3]; exact Ff (A6 (D6 7) (A0 _)))
      | (intro q hq; simp (disch := omega) only [upd_ne]; rw [hv5 q (by omega)]; exact hP3.old (by omega) q hq)
      | omega
   have _hq : True := trivial
   by_cases hk : st2.2 = []
   ·have hkl : st2.2.length = 0 := by rw [hk]; rfl
    repeat' (first | (simp -implicitDefEqProofs [IV, -getElem?_pos, hi', GU, e0, e3, e4, e5, hkl, _hq, splice]) | (simp (disch := omega) only [AJ]) | ((with_reducible refine Ad 40 ?_); refine ⟨_, htx, ?_⟩; rintro r9 n' H' hn9 hs9 ⟨rfl, hP9, hle9⟩; (obtain ⟨vp, vs, hq, hvs⟩ := hP9.stk); (have _hq := And.intro hvs (And.intro hP9.at3 hq)); (have h9 := hP9.own.2.2.1)) | (with_reducible first | refine A8 ?_ ?_ ?_ | exact AG | assumption | refine A3 ?_ | refine KM.of ?_ | refine AI ?_ | refine A5 ?_ | refine A7 ?_ | intro _g _hg | refine AK ?_ ?_ | intro _hc) | omega)
    all_goals (refine hkey _ _ hP9 hle9 _ ?_ ?_ hk <;> rfl)
   ·have hkl : 0 < st2.2.length := List.length_pos_iff.2 hk
    have hz2 : z = ([], (1, (s.length : Int))) := by rw [hz]; show (if st2.2 ≠ [] then _ else _) = _; rw [if_pos hk]
    repeat' (first | (simp -implicitDefEqProofs [IV, -getElem?_pos, hi', GU, e0, e3, e4, e5, hkl, _hq, splice]) | (simp (disch := omega) only [AJ]) | ((with_reducible refine Ad 40 ?_); refine ⟨_, htx, ?_⟩; rintro r9 n' H' hn9 hs9 ⟨rfl, hP9, hle9⟩; (obtain ⟨vp, vs, hq, hvs⟩ := hP9.stk); (have _hq := And.intro hvs (And.intro hP9.at3 hq)); (have h9 := hP9.own.2.2.1)) | (with_reducible first | refine A8 ?_ ?_ ?_ | exact AG | assumption | refine A3 ?_ | refine KM.of ?_ | refine AI ?_ | refine A5 ?_ | refine A7 ?_ | intro _g _hg | refine AK ?_ ?_ | intro _hc) | omega)
    all_goals first
     | (rw [hz2]; exact Ff (A6 (D6 7) (A0 _)))
     | (intro q hq; rw [upd_ne (by omega)]; exact hP9.old (by omega) q hq)
     | (have h9 := hP9.own.2.2.1; omega)
  refine LoopK.go (fun m st' => ∃ (i n2 : Nat) (H2 : A2) (st : Cz), i + m = s.length ∧ st' = ⟨[(0, .str s), (3, .ptr g3 0), (4, .ptr gp 0), (5, aI i)], n2, H2⟩ ∧ PS (g3 + 1) (upd H g3 (some (.cells 24 [aI 0, aI 0]))) gp st n2 H2 ∧ M6 (5000 + 2 * i) st ∧ z = Xo s.length (CX (s.drop i) i st)) s.length ⟨0, _, _, ([], []), by omega, rfl, hPS0, ⟨Od _, by simp, by simp⟩, by rw [List.drop_zero]; exact e⟩ ?_
  rintro m st' ⟨i, n2, H2, st, him, rfl, hP, hb, hz⟩ J hJ
  clear e hPS0
  have hdl : (s.drop i).length = s.length - i := List.length_drop
  have hix := Ha (s.drop i) opS (by omega)
  have hi' : (i : Int) ≤ s.length := by omega
  rcases Gb (p := opS) (by decide) (s.drop i) with ⟨hcu, hil⟩ | ⟨p, r, hcu, hil⟩
  ·rw [hil] at hix
   rw [GY hcu] at hz
   change APure _ _ [.str (s.drop i), .str [60, 37]] _ at hix
   repeat' (first | (simp -implicitDefEqProofs [Fi, -getElem?_pos, hi', GU]) | (simp (disch := omega) only [AJ]) | ((with_reducible refine AP 39 ?_); (refine' CallP.sf ?_ (hix) ?_); (focus first | (with_reducible exact A0 _) | (simp [AC, AA, A1, A0]; done))) | (with_reducible first | refine A8 ?_ ?_ ?_ | exact AG | assumption | refine A3 ?_ | refine KM.of ?_ | refine AI ?_ | refine A5 ?_ | refine A7 ?_ | intro _g _hg | refine AK ?_ ?_ | intro _hc) | omega)
   all_goals exact hend i n2 H2 st (by omega) hz hP hb _ rfl rfl rfl rfl
  ·have _hq := hP.at3
   rw [hil] at hix
   change APure _ _ [.str (s.drop i), .str [60, 37]] _ at hix
   have l1 := Co hcu
   have hop : opS.length = 2 := rfl
   have hpe : List.drop i (List.take (i + p.length) s) = p := by
    have := EX hcu
    rw [List.drop_take, this]
    simp
   have hre := Pc hcu
   rw [List.drop_drop] at hre
   have htx := RR (t := p) hP (G7 (by omega) hb) (by omega)
   have hc2 := G0 r clS (by omega)
   rw [PU (by decide)] at hc2
   have hre2 : List.drop (i + p.length + 2) s = r := by rw [hre, hop]; congr 1
   have hti : ((i : Int) + p.length).toNat = i + p.length := by omega
   have hti2 : ((i : Int) + p.length + 2).toNat = i + p.length + 2 := by omega
   have hpos : ¬ ((p.length : Int) < 0) := by omega
   have hip : (i : Int) + p.length ≤ s.length := by omega
   have hip2 : (i : Int) + p.length + 2 ≤ s.length := by omega
   have hP1 := Up p st
   cases hcl : As clS r with
   | none =>
    rw [hcl] at hc2
    simp only at hc2
    change APure _ _ [.str r, .str [37, 62]] _ at hc2
    rw [Iz hcu hcl] at hz
    repeat' (first | (simp -implicitDefEqProofs [Fi, Gd, -getElem?_pos, hi', GU, hpos, hip, hip2, hpe, hre2, hti, hti2, _hq, splice]) | (simp (disch := omega) only [AJ]) | ((with_reducible refine Ad 40 ?_); refine ⟨_, htx, ?_⟩; rintro r9 n' H' hn9 hs9 ⟨rfl, hP9, hle9⟩; (have _hq := hP9.at3)) | ((with_reducible refine AP 39 ?_); (refine' CallP.sf ?_ (hix) ?_); (focus first | (with_reducible exact A0 _) | (simp [AC, AA, A1, A0]; done))) | ((with_reducible refine AP 41 ?_); (refine' CallP.sf ?_ (hc2) ?_); (focus first | (with_reducible exact A0 _) | (simp [AC, AA, A1, A0]; done))) | (with_reducible first | refine A8 ?_ ?_ ?_ | exact AG | assumption | refine A3 ?_ | refine KM.of ?_ | refine AI ?_ | refine A5 ?_ | refine A7 ?_ | intro _g _hg | refine AK ?_ ?_ | intro _hc) | omega)
    all_goals first
     | (rw [hz]; exact Ff (A6 (D6 7) (A0 _)))
     | (intro q hq; rw [upd_ne (by omega)]; exact hP9.old (by omega) q hq)
     | (have h9 := hP9.own.2.2.1; omega)
   | some dq =>
    obtain ⟨d, q⟩ := dq
    rw [hcl] at hc2
    simp only at hc2
    change APure _ _ [.str r, .str [37, 62]] _ at hc2
    have l2 := QS hcu hcl
    have hqe : q = s.drop (i + p.length + d.length + 4) := by
     have h4 : clS.length = 2 := rfl
     rw [Pc hcl, hre, List.drop_drop]
     congr 1; omega
    have hdir : ∀ n' H', PS (g3 + 1) (upd H g3 (some (.cells 24 [aI 0, aI 0]))) gp (Ap p st) n' H' → _ := fun n' H' hP => Zu (s := d) hP (G7 (B' := 100000) (by omega) (Ly hb (by omega))) (by omega)
    cases hst : BJ (dirT d) (Ap p st) with
    | none =>
     rw [Lz hcu hcl hst] at hz
     rw [hst] at hdir
     repeat' (first | (simp -implicitDefEqProofs [Fi, Gd, -getElem?_pos, hi', GU, hpos, hip, hip2, hpe, hre2, hti, hti2, _hq, splice]) | (simp (disch := omega) only [AJ]) | ((with_reducible refine Ad 40 ?_); refine ⟨_, htx, ?_⟩; rintro r9 n' H' hn9 hs9 ⟨rfl, hP9, hle9⟩; (have _hq := hP9.at3)) | ((with_reducible refine Ad 42 ?_); refine ⟨_, hdir _ _ hP9, ?_⟩; rintro r8 n8 H8 hn8 hs8 ⟨rfl, hP8, hle8⟩; (have _hq := hP8.at3)) | ((with_reducible refine AP 39 ?_); (refine' CallP.sf ?_ (hix) ?_); (focus first | (with_reducible exact A0 _) | (simp [AC, AA, A1, A0]; done))) | ((with_reducible refine AP 41 ?_); (refine' CallP.sf ?_ (hc2) ?_); (focus first | (with_reducible exact A0 _) | (simp [AC, AA, A1, A0]; done))) | (with_reducible first | refine A8 ?_ ?_ ?_ | exact AG | assumption | refine A3 ?_ | refine KM.of ?_ | refine AI ?_ | refine A5 ?_ | refine A7 ?_ | intro _g _hg | refine AK ?_ ?_ | intro _hc) | omega)
     all_goals first
      | (rw [hz]; exact Ff (A6 (D6 7) (A0 _)))
      | (intro q hq; rw [upd_ne (by omega)]; exact hP8.old (by omega) q hq)
      | (have h9 := hP8.own.2.2.1; omega)
    | some st' =>
     rw [Ky hcu hcl hst, hqe] at hz
     rw [hst] at hdir
     repeat' (first | (simp -implicitDefEqProofs [Fi, Gd, O5, -getElem?_pos, hi', GU, hpos, hip, hip2, hpe, hre2, hti, hti2, splice]) | (simp (disch := omega) only [AJ]) | ((with_reducible refine Ad 40 ?_); refine ⟨_, htx, ?_⟩; rintro r9 n' H' hn9 hs9 ⟨rfl, hP9, hle9⟩) | ((with_reducible refine Ad 42 ?_); refine ⟨_, hdir _ _ hP9, ?_⟩; rintro r8 n8 H8 hn8 hs8 ⟨rfl, hP8, hle8⟩) | ((with_reducible refine AP 39 ?_); (refine' CallP.sf ?_ (hix) ?_); (focus first | (with_reducible exact A0 _) | (simp [AC, AA, A1, A0]; done))) | ((with_reducible refine AP 41 ?_); (refine' CallP.sf ?_ (hc2) ?_); (focus first | (with_reducible exact A0 _) | (simp [AC, AA, A1, A0]; done))) | (with_reducible first | refine A8 ?_ ?_ ?_ | exact AG | assumption | refine A3 ?_ | refine KM.of ?_ | refine AI ?_ | refine A5 ?_ | refine A7 ?_ | intro _g _hg | refine AK ?_ ?_ | intro _hc) | omega)
     all_goals exact hJ (m - (p.length + d.length + 4)) _ (by omega) ⟨i + p.length + d.length + 4, _, _, st', by omega, by simp; omega, hP8, G7 (by omega) (Uh (Ly hb (by omega)) (by omega) hst), hz⟩
def MP (l : List Pt) : AF × (Int × Int) := if (CO l).1 ≠ 0 then ([], CO l) else (CJ l, (0, 0))
theorem Wk (l : List Pt) (hl : l.length ≤ 2000000) (hs : E4 l) : APure Tryz.prog 11 [E1 l] (.tup [.str (MP l).1, aF (MP l).2]) := by
 have hv := Lr l hl hs
 by_cases h0 : (CO l).1 = 0
 ·have h1 : (BW 0 0 0 l).2 = 0 := by
   unfold CO at h0
   by_cases h : (BW 0 0 0 l).2 = 0
   ·exact h
   ·rw [if_pos h] at h0; exact absurd h0 h
  have htx := RK l (PI l 0 0 0 hs h1) (by have := Hv l 0 0 0 (by omega) h1; omega)
  have e : MP l = (CJ l, (0, 0)) := by unfold MP; rw [if_neg (by simpa using h0)]
  rw [e]
  generalize CJ l = tl at *
  have h02 : CO l = (0, (CO l).2) := by rw [← h0]
  rw [h02] at hv
  generalize (CO l).2 = f2 at *
  simp only
  refine AM Tryz.func11 XL rfl fun n H hH => ?_
  repeat' (first | (simp -implicitDefEqProofs [O4, c11, -getElem?_pos, splice]) | (simp (disch := omega) only [AJ]) | ((with_reducible refine AP 13 ?_); (refine' CallP.sf ?_ (hv) ?_); (focus first | (with_reducible exact A0 _) | (simp [AC, AA, A1, A0]; done))) | ((with_reducible refine AP 31 ?_); (refine' CallP.sf ?_ (htx) ?_); (focus first | (with_reducible exact A0 _) | (simp [AC, AA, A1, A0]; done))) | (with_reducible first | refine A8 ?_ ?_ ?_ | exact AG | refine SameB.upd ?_ ?_ _ | assumption | refine A3 ?_ | refine KM.of ?_ | refine AI ?_ | refine A5 ?_ | refine A7 ?_ | intro _g _hg | refine AK ?_ ?_ | intro _hc) | omega)
  all_goals exact A1 _
 ·have e : MP l = ([], CO l) := by unfold MP; rw [if_pos h0]
  rw [e]
  generalize hf : CO l = f at *
  obtain ⟨f1, f2⟩ := f
  simp only at h0 ⊢
  refine AM Tryz.func11 XL rfl fun n H hH => ?_
  repeat' (first | (simp -implicitDefEqProofs [O4, c11, -getElem?_pos, splice, h0]) | (simp (disch := omega) only [AJ]) | ((with_reducible refine AP 13 ?_); (refine' CallP.sf ?_ (hv) ?_); (focus first | (with_reducible exact A0 _) | (simp [AC, AA, A1, A0]; done))) | (with_reducible first | refine A8 ?_ ?_ ?_ | exact AG | refine SameB.upd ?_ ?_ _ | assumption | refine A3 ?_ | refine KM.of ?_ | refine AI ?_ | refine A5 ?_ | refine A7 ?_ | intro _g _hg | refine AK ?_ ?_ | intro _hc) | omega)
  all_goals exact A1 _
def Slots (n : Nat) (H : A2) (l : List (Nat × AV)) (s : AS) : Prop := s.n = n ∧ s.H = H ∧ ∀ x ∈ l, get s.e x.1 = x.2
theorem Slots.cut {n : Nat} {H : A2} {l : List (Nat × AV)} {K : AS → Prop} (h : ∀ e, (∀ x ∈ l, get e x.1 = x.2) → K ⟨e, n, H⟩) : ∀ s, Slots n H l s → K s := by
 rintro ⟨e, n', H'⟩ ⟨h1, h2, h3⟩
 simp only at h1 h2 h3
 subst h1; subst h2
 exact h e h3
end Go.Proofs.YtnfjgphfaemjcaaGreatDoor

/- Templates: directives are carried out: else and end; no condition. -/
import Derived.Test.YtnfjgphfaemjcaaGreatDoorMgI
import Derived.Test.YtnfjgphfaemjcaaGreatDoorMdP
import Derived.Test.YtnfjgphfaemjcaaGreatDoorMdM
import Derived.Test.YtnfjgphfaemjcaaGreatDoorAdE
set_option linter.all false
set_option maxHeartbeats 8000000
namespace Go.Proofs.YtnfjgphfaemjcaaGreatDoor
theorem pm5 {α : Type} (A D : α) (L S E G : List α) : (A :: (L ++ (S ++ ((D :: E) ++ G)))).Perm ([D] ++ (A :: (L ++ (S ++ (E ++ G))))) := by
 classical exact List.perm_iff_count.2 fun a => by simp [List.count_append, List.count_cons]; omega
theorem pm6 {α : Type} (A D : α) (L S E G : List α) : (A :: (L ++ (S ++ ((D :: E) ++ G)))).Perm ((A :: (S ++ (D :: E))) ++ (L ++ G)) := by
 classical exact List.perm_iff_count.2 fun a => by simp [List.count_append, List.count_cons]; omega
structure TopF (gp gl gk : Nat) (ps : List Pt) (o : Op) (r : List Op) (n0 n : Nat) (H0 H : A3) : Prop where
 p : H gp = some (.cells 74 [Dc gl ps, .slg 1 gk (r.length + 1)])
 k : H gk = some (.grow 127 (Pk (r.map Op.g) ++ [.ptr o.g 0]))
 w : H o.g = some (.cells 126 (opC o))
 kn : gk < n
 on : o.g < n
 kp : gk ≠ gp
 og : o.g ≠ gp
 ok : o.g ≠ gk
 len : (Pk (r.map Op.g)).length = r.length
variable {n0 n gp g g3 : Nat} {H0 H H' : A3} {st : Fv} {s : AE} {P : Program} {ob : AObj} {K : AS → Prop}
theorem A4p {gp gl gk : Nat} {ps : List Pt} {o : Op} {r : List Op} (hO : Own n0 H0 (QO gp gl (some gk) ps (o :: r)) n H) : TopF gp gl gk ps o r n0 n H0 H := by
 have hP := hO.fst.1
 have hK : (gk, AObj.grow 127 (Pk (o.g :: r.map Op.g))) ∈ QO gp gl (some gk) ps (o :: r) := by simp [QO, Tl]
 have hG : (o.g, AObj.cells 126 (opC o)) ∈ QO gp gl (some gk) ps (o :: r) := by simp [QO, XM]
 have a := hO.at_ hK
 have b := hO.at_ hG
 rw [Pg] at a
 refine ⟨hP, a.1, b.1, a.2.2, b.2.2, ?_, ?_, ?_, by rw [S6, List.length_map]⟩
 ·rintro rfl; have := a.1; rw [hP] at this; cases this
 ·intro e
  have h2 := b.1
  rw [e, hP] at h2
  injection h2 with h2
  injection h2 with h2 _
  exact absurd h2 (by decide)
 ·intro e
  have h1 := a.1; have h2 := b.1
  rw [e, h1] at h2; cases h2
attribute [local simp] KJ EJ EI KX LT Lg L9 EG ED Fy GP LK KU Kz Ji KH J5 J7 J9 LA LF Ki Li Kq KB Qt pe Jv Kn Jl Kx Kb Jz LM K0 KZ KP Jr Jo L0 FN Np Od OB Nv Nq OI ON OA Nt O0 Oj Ns Of O9 Nr Ny O1 OQ OW OK No FX O6 FL OT Og Nj NP NS Nn Nu OF NZ NY NN Oc O4 OM NU NV Ot NX Oe O5 Om OC NQ NW Nx Fr Na OH OP Ok Oi Nk OR O2 On OS Nc OG Ol OU Ob NM Oa NT Nz K8 K2 LL KG Kg Jm Ju Kk K6 L6 LE IS Jc List.mem_cons guardK Dl Ed Er GX Nd Fh FO Fp FY FP FM FJ Fs Fg Nl OV FV Kf Oq OZ OE Nb Nw Fd LX OX Nf Jw La OD I9 Fq FT Fn FZ Ng Ni FQ OJ FW LN Fw Fe KV Fm Ft Nh O8 Oo KF OL Nm KI Jh Sg JD JH H9 JE JI JA Dx G0 Fz L8 G4 G3 E0 Dn UK JM JK G5 JJ JN Ds DY BN BR C0 DZ DI ev get put EW AD D9 KY KN LV Jx JB Kh EO part Ap Gz L1 Gc isNil Cu D4 Da D8 CE Lc LW LO K7 L2 J6 Jq Lf Jf KD L3 LZ Lh Jp LI LQ AV.fits AV.cells ones AV.one E5 Bp E7 DQ EV EN KE FA Fo CH BS Cw G7 E3 AN B6 VJ GL Lj Ke List.getElem?_cons_zero List.getElem?_cons_succ Fa FR Ff KR Kj Ku Gt LH L4 LS LG LD Jt KQ O3 KK Ja KL Ky LY Ko Je LB Ks Kv KO Kp KT L5 K5 Kw LJ Km LU Jy E6
theorem X9 (h : PS n0 H0 gp st n H) (hb : QT 100000 st) :
  ACalls Tryz.prog 42 [.ptr gp 0, .str [101, 108, 115, 101]] n H (fun r n' H' => r = .bool (BL .els st).isSome ∧ PS n0 H0 gp ((BL .els st).getD st) n' H' ∧ n ≤ n') := by
 have hsup := h.own.2.2.2.1
 have hcut := TQ [101, 108, 115, 101] 32 (by simp)
 generalize Cv 32 [101, 108, 115, 101] = br at *
 have h0 := h
 obtain ⟨gl, gs, ops, hO, he, hgs⟩ := h
 obtain ⟨ps, kk⟩ := st
 simp only at he hO
 cases ops with
 | nil =>
  have hkk : kk = [] := by rw [← he]; rfl
  subst hkk
  have e1 : BL .els (ps, []) = none := rfl
  rw [e1]
  have hP : H gp = some (.cells 74 [Dc gl ps, QP gs 0]) := hO.fst.1
  generalize Dc gl ps = vp at *
  refine AK Tryz.func42 JR rfl fun hs => ?_
  cases gs with
  | none =>
   repeat' (first | simp -implicitDefEqProofs [C4, CA, CB, C7, C9, C6, C5, C8, C2, Bf, WD, -getElem?_pos, hP, QP] | simp (disch := omega) only [AA] | ((with_reducible refine A8 41 ?_); (refine' CallP.sf ?_ (hcut) ?_); (focus first | (with_reducible exact A0 _) | (simp [A5, A4, A1, A0]; done))) | (with_reducible first | exact AI | refine AP ?_ | intro _g _hg | refine A9 ?_ ?_ | intro _hc) | omega)
   exact Bi rfl (Nat.le_refl _) hsup ⟨rfl, h0, Nat.le_refl _⟩
  | some g =>
   repeat' (first | simp -implicitDefEqProofs [C4, CA, CB, C7, C9, C6, C5, C8, C2, Bf, WD, -getElem?_pos, hP, QP] | simp (disch := omega) only [AA] | ((with_reducible refine A8 41 ?_); (refine' CallP.sf ?_ (hcut) ?_); (focus first | (with_reducible exact A0 _) | (simp [A5, A4, A1, A0]; done))) | (with_reducible first | exact AI | refine AP ?_ | intro _g _hg | refine A9 ?_ ?_ | intro _hc) | omega)
   exact Bi rfl (Nat.le_refl _) hsup ⟨rfl, h0, Nat.le_refl _⟩
 | cons o r =>
  cases gs with
  | none => exact absurd (hgs rfl) (by simp)
  | some gk =>
   obtain ⟨t1, t2, t3, t4, t5, t6, t7, t8, t9⟩ := A4p hO
   have hrl : r.length ≤ 100000 := by have := hb.2.1; rw [← he] at this; simp at this; omega
   obtain ⟨⟨k', t', nm', pa', fs', b2, e2⟩, f, g, gb, ge⟩ := o
   have hkk : kk = (Pt.mk k' t' nm' pa' fs' b2 e2, f) :: r.map (fun o => (o.p, o.f)) := by rw [← he]; rfl
   subst hkk
   simp only [opC, Pt.k, Pt.t, Pt.n, Pt.pa, Pt.fs, Pt.b, Pt.e] at t3 t2 t5 t7 t8
   have hi : ((r.length : Int) + 1 - 1) = r.length := by omega
   have hne0 : ¬ ((r.length : Int) + 1 = 0) := by omega
   have q0 : ∀ z, (Pk (r.map Op.g) ++ z)[r.length]? = z[0]? := fun z => by rw [← t9, List.getElem?_append_right (Nat.le_refl _)]; simp
   have hfin : f = false → PS n0 H0 gp (ps, (Pt.mk k' t' nm' pa' fs' b2 e2, true) :: r.map (fun o => (o.p, o.f))) n (upd H g (some (.cells 126 [aI k', .str t', .str nm', CG pa', Aq fs', Dc gb b2, Dc ge e2, .bool true]))) := by
    intro hf
    subst hf
    have hO1 := hO.perm (pm5 _ _ _ _ _ _)
    have hO2 := hO1.re (n' := n) (H' := upd H g (some (.cells 126 [aI k', .str t', .str nm', CG pa', Aq fs', Dc gb b2, Dc ge e2, .bool true]))) (ys := [(g, .cells 126 [aI k', .str t', .str nm', CG pa', Aq fs', Dc gb b2, Dc ge e2, .bool true])]) (Nat.le_refl _) (fun q hq => by rw [upd_ne (by omega)]; exact hsup q hq) (fun q hq hm => upd_ne (by simpa using hm)) (fun y hy => by rw [List.mem_singleton.1 hy]; exact ⟨AN _ _ _, .inl (by simp)⟩) (by simp)
    exact ⟨gl, some gk, ⟨Pt.mk k' t' nm' pa' fs' b2 e2, true, g, gb, ge⟩ :: r, hO2.perm (pm5 (gp, .cells 74 [Dc gl ps, QP (some gk) (r.length + 1)]) (g, .cells 126 [aI k', .str t', .str nm', CG pa', Aq fs', Dc gb b2, Dc ge e2, .bool true]) (JZ gl ps) (Tl (some gk) (g :: r.map Op.g)) (JZ gb b2 ++ JZ ge e2) (r.flatMap XM)).symm, rfl, fun h => by cases h⟩
   clear hO he hgs
   have o5 := Oz gb b2
   have o6 := Oz ge e2
   generalize Pk (r.map Op.g) = cs at *
   generalize Dc gb b2 = v5 at *
   generalize Dc ge e2 = v6 at *
   generalize Dc gl ps = vp at *
   refine AK Tryz.func42 JR rfl fun hs => ?_
   cases f with
   | false =>
    have e1 : BL .els (ps, (Pt.mk k' t' nm' pa' fs' b2 e2, false) :: r.map (fun o => (o.p, o.f))) = some (ps, (Pt.mk k' t' nm' pa' fs' b2 e2, true) :: r.map (fun o => (o.p, o.f))) := rfl
    rw [e1]
    repeat' (first | simp -implicitDefEqProofs [C4, CA, CB, C7, C9, C6, C5, C8, C2, Bf, WD, -getElem?_pos, t1, t2, t3, q0, hi, hne0, splice] | simp (disch := omega) only [AA] | ((with_reducible refine A8 41 ?_); (refine' CallP.sf ?_ (hcut) ?_); (focus first | (with_reducible exact A0 _) | (simp [A5, A4, A1, A0]; done))) | (with_reducible first | exact AI | refine AP ?_ | intro _g _hg | refine A9 ?_ ?_ | intro _hc) | omega)
    all_goals exact Bi rfl (Nat.le_refl _) (fun q hq => by rw [upd_ne (by omega)]; exact hsup q hq) ⟨rfl, hfin rfl, Nat.le_refl _⟩
   | true =>
    have e1 : BL .els (ps, (Pt.mk k' t' nm' pa' fs' b2 e2, true) :: r.map (fun o => (o.p, o.f))) = none := rfl
    rw [e1]
    repeat' (first | simp -implicitDefEqProofs [C4, CA, CB, C7, C9, C6, C5, C8, C2, Bf, WD, -getElem?_pos, t1, t2, t3, q0, hi, hne0, splice] | simp (disch := omega) only [AA] | ((with_reducible refine A8 41 ?_); (refine' CallP.sf ?_ (hcut) ?_); (focus first | (with_reducible exact A0 _) | (simp [A5, A4, A1, A0]; done))) | (with_reducible first | exact AI | refine AP ?_ | intro _g _hg | refine A9 ?_ ?_ | intro _hc) | omega)
    all_goals exact Bi rfl (Nat.le_refl _) hsup ⟨rfl, h0, Nat.le_refl _⟩
theorem Wb (h : PS n0 H0 gp st n H) (hb : QT 100000 st) :
  ACalls Tryz.prog 42 [.ptr gp 0, .str [101, 110, 100]] n H (fun r n' H' => r = .bool (BL .fin st).isSome ∧ PS n0 H0 gp ((BL .fin st).getD st) n' H' ∧ n ≤ n') := by
 have hsup := h.own.2.2.2.1
 have hcut := TQ [101, 110, 100] 32 (by simp)
 generalize Cv 32 [101, 110, 100] = br at *
 have h0 := h
 obtain ⟨gl, gs, ops, hO, he, hgs⟩ := h
 obtain ⟨ps, kk⟩ := st
 simp only at he hO
 cases ops with
 | nil =>
  have hkk : kk = [] := by rw [← he]; rfl
  subst hkk
  have e1 : BL .fin (ps, []) = none := rfl
  rw [e1]
  have hP : H gp = some (.cells 74 [Dc gl ps, QP gs 0]) := hO.fst.1
  generalize Dc gl ps = vp at *
  refine AK Tryz.func42 JR rfl fun hs => ?_
  cases gs with
  | none =>
   repeat' (first | simp -implicitDefEqProofs [C4, CA, CB, C7, C9, C6, C5, C8, C2, Bf, WD, -getElem?_pos, hP, QP] | simp (disch := omega) only [AA] | ((with_reducible refine A8 41 ?_); (refine' CallP.sf ?_ (hcut) ?_); (focus first | (with_reducible exact A0 _) | (simp [A5, A4, A1, A0]; done))) | (with_reducible first | exact AI | refine AP ?_ | intro _g _hg | refine A9 ?_ ?_ | intro _hc) | omega)
   exact Bi rfl (Nat.le_refl _) hsup ⟨rfl, h0, Nat.le_refl _⟩
  | some g =>
   repeat' (first | simp -implicitDefEqProofs [C4, CA, CB, C7, C9, C6, C5, C8, C2, Bf, WD, -getElem?_pos, hP, QP] | simp (disch := omega) only [AA] | ((with_reducible refine A8 41 ?_); (refine' CallP.sf ?_ (hcut) ?_); (focus first | (with_reducible exact A0 _) | (simp [A5, A4, A1, A0]; done))) | (with_reducible first | exact AI | refine AP ?_ | intro _g _hg | refine A9 ?_ ?_ | intro _hc) | omega)
   exact Bi rfl (Nat.le_refl _) hsup ⟨rfl, h0, Nat.le_refl _⟩
 | cons o r =>
  cases gs with
  | none => exact absurd (hgs rfl) (by simp)
  | some gk =>
   obtain ⟨t1, t2, t3, t4, t5, t6, t7, t8, t9⟩ := A4p hO
   have hrl : r.length ≤ 100000 := by have := hb.2.1; rw [← he] at this; simp at this; omega
   obtain ⟨⟨k', t', nm', pa', fs', b2, e2⟩, f, g, gb, ge⟩ := o
   have hkk : kk = (Pt.mk k' t' nm' pa' fs' b2 e2, f) :: r.map (fun o => (o.p, o.f)) := by rw [← he]; rfl
   subst hkk
   simp only [opC, Pt.k, Pt.t, Pt.n, Pt.pa, Pt.fs, Pt.b, Pt.e] at t3 t2 t5 t7 t8
   have hi : ((r.length : Int) + 1 - 1) = r.length := by omega
   have hne0 : ¬ ((r.length : Int) + 1 = 0) := by omega
   have q0 : ∀ z, (Pk (r.map Op.g) ++ z)[r.length]? = z[0]? := fun z => by rw [← t9, List.getElem?_append_right (Nat.le_refl _)]; simp
   have hil : (r.length : Int) ≤ (r.length : Int) + 1 := by omega
   obtain ⟨hbp, hbl, hbo⟩ := hb
   obtain ⟨ob1, ob2, ob3, ob4⟩ := hbo (Pt.mk k' t' nm' pa' fs' b2 e2, f) List.mem_cons_self
   have hcall : ∀ g9, n ≤ g9 → ∀ o2 o1 : Option AObj, ACalls Tryz.prog 70 [.ptr gp 0, .agg [aI k', .str t', .str nm', CG pa', Aq fs', Dc gb b2, Dc ge e2]] (g9 + 1) (upd (upd (upd H g9 o2) g9 o1) gp (some (.cells 74 [Dc gl ps, .slg 1 gk r.length]))) (fun r' n' H' => r' = .tup [] ∧ PS n0 H0 gp (Ee (.mk k' t' nm' pa' fs' b2 e2) (ps, r.map (fun o => (o.p, o.f)))) n' H' ∧ g9 + 1 ≤ n') := by
    intro g9 hg9 o2 o1
    have hgpn := h0.own.2.1
    have fb : b2 ≠ [] → H gb = some (Db b2) ∧ gb < n ∧ gb ≠ gp ∧ gb ≠ gk := fun hne => by
     have hm : (gb, Db b2) ∈ QO gp gl (some gk) ps (⟨Pt.mk k' t' nm' pa' fs' b2 e2, f, g, gb, ge⟩ :: r) := by simp [QO, XM, Pt.b, GR hne]
     have a := hO.at_ hm
     refine ⟨a.1, a.2.2, fun e => ?_, fun e => ?_⟩
     ·have := a.1; rw [e, t1] at this; cases this
     ·have h1 := a.1; rw [e, t2] at h1; injection h1 with h1; injection h1 with h1 _; exact absurd h1 (by decide)
    have fe : e2 ≠ [] → H ge = some (Db e2) ∧ ge < n ∧ ge ≠ gp ∧ ge ≠ gk := fun hne => by
     have hm : (ge, Db e2) ∈ QO gp gl (some gk) ps (⟨Pt.mk k' t' nm' pa' fs' b2 e2, f, g, gb, ge⟩ :: r) := by simp [QO, XM, Pt.e, GR hne]
     have a := hO.at_ hm
     refine ⟨a.1, a.2.2, fun e => ?_, fun e => ?_⟩
     ·have := a.1; rw [e, t1] at this; cases this
     ·have h1 := a.1; rw [e, t2] at h1; injection h1 with h1; injection h1 with h1 _; exact absurd h1 (by decide)
    have fbe : b2 ≠ [] → e2 ≠ [] → gb ≠ ge := fun h1 h2 e => by
     have := hO.nd
     have hs : ([(gb, Db b2)] ++ [(ge, Db e2)] : List (Nat × AObj)).Sublist (QO gp gl (some gk) ps (⟨Pt.mk k' t' nm' pa' fs' b2 e2, f, g, gb, ge⟩ :: r)) := by
      have e1 : JZ gb b2 ++ JZ ge e2 = [(gb, Db b2)] ++ [(ge, Db e2)] := by rw [GR h1, GR h2]
      rw [← e1]
      exact ((((List.sublist_append_left _ _).trans (List.sublist_cons_self _ _ |>.trans (List.Sublist.refl _))).trans (List.sublist_append_right _ _)).trans (List.sublist_append_right _ _)).trans (List.sublist_cons_self _ _)
     have := (hs.map Prod.fst).nodup this
     simp [e] at this
    have ht' : t'.length ≤ 100000 := Qp ob3
    refine ACalls.shrIn (g := gk) (a := Pk (r.map Op.g)) (b := [.ptr g 0]) (by simp (disch := omega) only [upd_ne]; exact t2) ?_
    refine Xc (fun hne => ?_) (fun hne => ?_) fbe ?_
    ·obtain ⟨a1, a2, a3, a4⟩ := fb hne
     simp (disch := omega) only [upd_ne]; exact a1
    ·obtain ⟨a1, a2, a3, a4⟩ := fe hne
     simp (disch := omega) only [upd_ne]; exact a1
    ·refine YD ⟨gl, some gk, r, ?_, rfl, fun h => by cases h⟩ ⟨hbp, by simp only [List.length_map]; exact hrl, fun o ho => hbo o (List.mem_cons_of_mem _ ho)⟩ ht' (fun hk => absurd hk ob4)
     generalize hH3 : (if e2 = [] then (if b2 = [] then _ else _) else _ : A3) = H3
     have hq : ∀ q, q ≠ g9 → q ≠ gp → q ≠ gk → (b2 ≠ [] → q ≠ gb) → (e2 ≠ [] → q ≠ ge) → H3 q = H q := by
      intro q c1 c2 c3 c4 c5
      rw [← hH3]
      by_cases hb0 : b2 = [] <;> by_cases he0 : e2 = []
      ·simp (disch := assumption) only [hb0, he0, if_true, upd_ne]
      ·have := c5 he0
       simp (disch := assumption) only [hb0, he0, if_true, if_false, upd_ne]
      ·have := c4 hb0
       simp (disch := assumption) only [hb0, he0, if_true, if_false, upd_ne]
      ·have := c4 hb0
       have := c5 he0
       simp (disch := assumption) only [hb0, he0, if_true, if_false, upd_ne]
     have hgp3 : H3 gp = some (.cells 74 [Dc gl ps, .slg 1 gk r.length]) ∧ H3 gk = some (.grow 127 (Pk (r.map Op.g))) := by
      rw [← hH3]
      by_cases hb0 : b2 = [] <;> by_cases he0 : e2 = []
      ·simp (disch := omega) only [hb0, he0, if_true, upd_ne, AN]; exact ⟨trivial, trivial⟩
      ·obtain ⟨_, _, a3, a4⟩ := fe he0
       simp (disch := omega) only [hb0, he0, if_true, if_false, upd_ne, AN]; exact ⟨trivial, trivial⟩
      ·obtain ⟨_, _, b3, b4⟩ := fb hb0
       simp (disch := omega) only [hb0, he0, if_true, if_false, upd_ne, AN]; exact ⟨trivial, trivial⟩
      ·obtain ⟨_, _, a3, a4⟩ := fe he0
       obtain ⟨_, _, b3, b4⟩ := fb hb0
       simp (disch := omega) only [hb0, he0, if_false, upd_ne, AN]; exact ⟨trivial, trivial⟩
     have hO1 := hO.perm (pm6 _ _ _ _ _ _)
     have hO2 := hO1.re (n' := g9 + 1) (H' := H3) (ys := (gp, .cells 74 [Dc gl ps, .slg 1 gk r.length]) :: [(gk, .grow 127 (Pk (r.map Op.g)))]) (by omega) (fun q hq2 => ?_) (fun q hq2 hm => ?_) (fun y hy => ?_) ?_
     ·exact hO2.perm (pm3 _ (JZ gl ps) [_] (r.flatMap XM)).symm
     ·rw [hq q (by omega) (by omega) (by omega) (fun h => by have := fb h; omega) (fun h => by have := fe h; omega)]
      exact hsup q (by omega)
     ·simp only [List.map_cons, List.map_append, List.mem_cons, List.mem_append, not_or] at hm
      obtain ⟨m1, m2, m3, m4, m5⟩ := hm
      refine hq q (by omega) m1 (fun e => m2 (by rw [e]; simp [Tl])) (fun h e => m4 ?_) (fun h e => m5 ?_)
      ·rw [e]; simp [Pt.b, GR h]
      ·rw [e]; simp [Pt.e, GR h]
     ·simp only [List.mem_cons, List.not_mem_nil, or_false] at hy
      rcases hy with rfl | rfl
      ·exact ⟨hgp3.1, .inl (by simp)⟩
      ·exact ⟨hgp3.2, .inl (by simp [Tl])⟩
     ·simp [Ne.symm t6]
   clear hO he hgs
   have hgpn := h0.own.2.1
   have o5 := Oz gb b2
   have o6 := Oz ge e2
   have o51 := o5.1
   have o61 := o6.1
   unfold AV.one at o51 o61
   generalize Pk (r.map Op.g) = cs at *
   have e1 : BL .fin (ps, (Pt.mk k' t' nm' pa' fs' b2 e2, f) :: r.map (fun o => (o.p, o.f))) = some (Ee (.mk k' t' nm' pa' fs' b2 e2) (ps, r.map (fun o => (o.p, o.f)))) := rfl
   rw [e1]
   generalize Ee (.mk k' t' nm' pa' fs' b2 e2) (ps, r.map (fun o => (o.p, o.f))) = st2 at *
   generalize Dc gb b2 = v5 at *
   generalize Dc ge e2 = v6 at *
   generalize Dc gl ps = vp at *
   refine AK Tryz.func42 JR rfl fun hs => ?_
   repeat' (first | simp -implicitDefEqProofs [C4, CA, CB, C7, C9, C6, C5, C8, C2, Bf, WD, -getElem?_pos, t1, t2, t3, q0, hi, hne0, hil, splice, o51, o61, F3] | simp (disch := omega) only [AA] | ((with_reducible refine Al 70 ?_); refine ⟨_, hcall _ (by assumption) _ _, ?_⟩; rintro r9 n' H' hn9 hs9 ⟨rfl, hP9, hle9⟩) | ((with_reducible refine A8 41 ?_); (refine' CallP.sf ?_ (hcut) ?_); (focus first | (with_reducible exact A0 _) | (simp [A5, A4, A1, A0]; done))) | (with_reducible first | exact AI | refine AP ?_ | intro _g _hg | refine A9 ?_ ?_ | intro _hc) | omega)
   all_goals first
    | exact o5.2.1
    | exact o6.2.1
    | exact Bi rfl (by omega) hs9 ⟨rfl, hP9, by omega⟩
theorem PS.cell (h : PS n0 H0 gp st n H) : ∃ vp vs, H gp = some (.cells 74 [vp, vs]) ∧ (vs = .sl 0 [] .nil ∨ ∃ g k, vs = .slg 1 g k) := by
 obtain ⟨gl, gs, ops, hO, _, _⟩ := h
 refine ⟨_, _, hO.fst.1, ?_⟩
 cases gs with
 | none => exact .inl rfl
 | some g => exact .inr ⟨g, _, rfl⟩
theorem A02 (pa : List AE) : (Gu 3 [] pa [] = 0) = (B5 pa = true) := by
 unfold Gu
 cases B5 pa <;> simp [ID]
theorem X5 (nm : AE) (pa : List AE) : (Gu 4 nm pa [] = 0) = (B5 pa = true ∧ Ho nm = true) := by
 unfold Gu
 cases B5 pa <;> cases Ho nm <;> simp [ID]
theorem Xg (c : UInt8) (s : AE) : (Cv c s).1.length ≤ s.length ∧ (Cv c s).2.1.length ≤ s.length := by
 rcases I0 c s with ⟨a, b, e1, _, e2⟩ | ⟨_, e2⟩
 ·rw [e2, e1]; simp; omega
 ·rw [e2]; simp
theorem A4m (h : PS n0 H0 gp st n H) (hb : QT 100000 st) (hs : s.length ≤ 100000) :
  ACalls Tryz.prog 42 [.ptr gp 0, .str s] n H (fun r n' H' => r = .bool (BL (dirT s) st).isSome ∧ PS n0 H0 gp ((BL (dirT s) st).getD st) n' H' ∧ n ≤ n') := by
 have hsup := h.own.2.2.2.1
 have hD := dirT.eq_1 s
 by_cases h1 : s = Lr
 ·rw [if_pos h1] at hD
  have hc := Ur (t := opS) h hb (by simp [opS])
  rw [hD]
  have e1 : BL .opn st = some (CF opS st) := rfl
  rw [e1]
  have hcut := TQ [111, 112, 101, 110] 32 (by simp)
  generalize Cv 32 [111, 112, 101, 110] = br at *
  obtain ⟨vp, vs, hP, hvs⟩ := h.cell
  subst h1
  generalize CF opS st = st2 at *
  rcases hvs with rfl | ⟨g, k, rfl⟩
  all_goals
   refine AK Tryz.func42 JR rfl fun hs => ?_
   repeat' (first | simp -implicitDefEqProofs [C4, CA, CB, C7, C9, C6, C5, C8, C2, Bf, WD, -getElem?_pos, hP, Lr] | simp (disch := omega) only [AA] | ((with_reducible refine Al 40 ?_); refine ⟨_, hc, ?_⟩; rintro r9 n' H' hn9 hs9 ⟨rfl, hP9, hle9⟩) | ((with_reducible refine A8 41 ?_); (refine' CallP.sf ?_ (hcut) ?_); (focus first | (with_reducible exact A0 _) | (simp [A5, A4, A1, A0]; done))) | (with_reducible first | exact AI | refine AP ?_ | intro _g _hg | refine A9 ?_ ?_ | intro _hc) | omega)
   all_goals exact Bi rfl hle9 hs9 ⟨rfl, hP9, hle9⟩
 rw [if_neg h1] at hD
 by_cases h2 : s = N4
 ·rw [if_pos h2] at hD
  rw [hD, h2]
  exact X9 h hb
 rw [if_neg h2] at hD
 by_cases h3 : s = UA
 ·rw [if_pos h3] at hD
  rw [hD, h3]
  exact Wb h hb
 rw [if_neg h3] at hD
 have n1 : ¬ s = [111, 112, 101, 110] := h1
 have n2 : ¬ s = [101, 108, 115, 101] := h2
 have n3 : ¬ s = [101, 110, 100] := h3
 obtain ⟨hl1, hl2⟩ := Xg 32 s
 have hcut := TQ s 32 (by omega)
 obtain ⟨vp, vs, hP, hvs⟩ := h.cell
 have hfc := A05 h hb hs
 generalize Cv 32 s = br at *
 obtain ⟨w, rest, more⟩ := br
 simp only at hD hl1 hl2 hcut
 have hf0 : dirT s = Bj s → ∀ d, dirT s = d → (BL d st).isSome = A1b (Bj s) ∧ (BL d st).getD st = YG (Bj s) st := by
  intro e d hd
  rw [← hd, e]
  unfold Bj
  (repeat' split) <;> exact ⟨rfl, rfl⟩
 by_cases h4 : more = true ∧ w = Y5
 ·rw [if_pos h4] at hD
  obtain ⟨rfl, rfl⟩ := h4
  have hsp := I1 rest 46 (by omega)
  have hpl := EY 46 rest
  have hpm := Bn 46 rest
  have hbc := WH (k := 3) (nm := []) (pa := Ct 46 rest) (fs := []) h hb (fun x hx => by have := hpm x hx; omega) (by omega) (by simp) (by simp)
  rw [hD]
  have e1 : decide (Gu 3 [] (Ct 46 rest) [] = 0) = (BL (FI rest) st).isSome ∧ (if Gu 3 [] (Ct 46 rest) [] = 0 then A0v 3 [] (Ct 46 rest) [] st else st) = (BL (FI rest) st).getD st := by
   unfold FI
   simp only [A02]
   by_cases hp : B5 (Ct 46 rest) = true
   ·rw [if_pos hp, if_pos hp, decide_eq_true hp]; exact ⟨rfl, rfl⟩
   ·rw [if_neg hp, if_neg hp, decide_eq_false hp]; exact ⟨rfl, rfl⟩
  rw [e1.1, e1.2] at hbc
  generalize (BL (FI rest) st).isSome = bb at *
  generalize (BL (FI rest) st).getD st = st2 at *
  generalize Ct 46 rest = pa at *
  clear hfc hf0 e1
  rcases hvs with rfl | ⟨g, k, rfl⟩
  all_goals
   refine AK Tryz.func42 JR rfl fun hs => ?_
   repeat' (first | simp -implicitDefEqProofs [C4, CA, CB, C7, C9, C6, C5, C8, C2, Bf, WD, -getElem?_pos, hP, n1, n2, n3, Y5] | simp (disch := omega) only [AA] | ((with_reducible refine Al 72 ?_); refine ⟨_, ACalls.sim hbc (A2 (A1 _) (A2 (Cp (A2 (A1 _) (A2 (A1 _) (A2 (A1 _) (A2 (A1 _) (A2 (Aa 2) (A2 (A1 _) (A2 (A1 _) rfl)))))))) rfl)), ?_⟩; rintro r9 n' H' hn9 hs9 ⟨rfl, hP9, hle9⟩) | ((with_reducible refine A8 41 ?_); (refine' CallP.sf ?_ (hcut) ?_); (focus first | (with_reducible exact A0 _) | (simp [A5, A4, A1, A0]; done))) | ((with_reducible refine A8 73 ?_); (refine' CallP.sf ?_ (hsp) ?_); (focus first | (with_reducible exact A0 _) | (simp [A5, A4, A1, A0]; done))) | (with_reducible first | exact AI | refine AP ?_ | intro _g _hg | refine A9 ?_ ?_ | intro _hc) | omega)
   all_goals exact Bi rfl hle9 hs9 ⟨rfl, hP9, hle9⟩
 rw [if_neg h4] at hD
 have hnif : ¬ (more = true ∧ w = [105, 102]) := h4
 by_cases h5 : more = true ∧ w = Ge
 ·rw [if_pos h5] at hD
  obtain ⟨rfl, rfl⟩ := h5
  have hc2 := I7 rest Wn (by omega)
  rw [UF (by decide)] at hc2
  rw [hD]
  unfold E8
  clear hfc hf0
  cases hcu : Ar Wn rest with
  | none =>
   rw [hcu] at hc2
   simp only at hc2
   change APure _ _ [.str rest, .str [32, 105, 110, 32]] _ at hc2
   have e1 : BL .bad st = none := rfl
   simp only [e1]
   rcases hvs with rfl | ⟨g, k, rfl⟩
   all_goals
    refine AK Tryz.func42 JR rfl fun hs => ?_
    repeat' (first | simp -implicitDefEqProofs [C4, CA, CB, C7, C9, C6, C5, C8, C2, Bf, WD, -getElem?_pos, hP, n1, n2, n3, Ge] | simp (disch := omega) only [AA] | ((with_reducible refine A8 41 ?_); (refine' CallP.sf ?_ (hcut) ?_); (focus first | (with_reducible exact A0 _) | (simp [A5, A4, A1, A0]; done))) | ((with_reducible refine A8 41 ?_); (refine' CallP.sf ?_ (hc2) ?_); (focus first | (with_reducible exact A0 _) | (simp [A5, A4, A1, A0]; done))) | (with_reducible first | exact AI | refine AP ?_ | intro _g _hg | refine A9 ?_ ?_ | intro _hc) | omega)
    all_goals exact Bi rfl (Nat.le_refl _) hsup ⟨rfl, h, Nat.le_refl _⟩
  | some ab =>
   obtain ⟨nm, wh⟩ := ab
   rw [hcu] at hc2
   simp only at hc2
   change APure _ _ [.str rest, .str [32, 105, 110, 32]] _ at hc2
   have hll := Bk hcu
   have hsp := I1 wh 46 (by omega)
   have hpl := EY 46 wh
   have hpm := Bn 46 wh
   have hbc := WH (k := 4) (nm := nm) (pa := Ct 46 wh) (fs := []) h hb (fun x hx => by have := hpm x hx; omega) (by omega) (by omega) (by simp)
   obtain ⟨dd, hdd⟩ : ∃ dd, (if Ho nm = true ∧ B5 (Ct 46 wh) = true then Dir.bgn (Pt.mk 4 [] nm (Ct 46 wh) [] [] []) else Dir.bad) = dd := ⟨_, rfl⟩
   simp only [hdd]
   have e1 : decide (Gu 4 nm (Ct 46 wh) [] = 0) = (BL dd st).isSome ∧ (if Gu 4 nm (Ct 46 wh) [] = 0 then A0v 4 nm (Ct 46 wh) [] st else st) = (BL dd st).getD st := by
    rw [← hdd]
    simp only [X5]
    by_cases hp : B5 (Ct 46 wh) = true ∧ Ho nm = true
    ·rw [if_pos hp, if_pos hp.symm, decide_eq_true hp]; exact ⟨rfl, rfl⟩
    ·rw [if_neg hp, if_neg (fun h => hp h.symm), decide_eq_false hp]; exact ⟨rfl, rfl⟩
   rw [e1.1, e1.2] at hbc
   generalize (BL dd st).isSome = bb at *
   generalize (BL dd st).getD st = st2 at *
   clear e1 hdd
   generalize Ct 46 wh = pa at *
   rcases hvs with rfl | ⟨g, k, rfl⟩
   all_goals
    refine AK Tryz.func42 JR rfl fun hs => ?_
    repeat' (first | simp -implicitDefEqProofs [C4, CA, CB, C7, C9, C6, C5, C8, C2, Bf, WD, -getElem?_pos, hP, n1, n2, n3, Ge] | simp (disch := omega) only [AA] | ((with_reducible refine Al 72 ?_); refine ⟨_, ACalls.sim hbc (A2 (A1 _) (A2 (Cp (A2 (A1 _) (A2 (A1 _) (A2 (A1 _) (A2 (A1 _) (A2 (Aa 2) (A2 (A1 _) (A2 (A1 _) rfl)))))))) rfl)), ?_⟩; rintro r9 n' H' hn9 hs9 ⟨rfl, hP9, hle9⟩) | ((with_reducible refine A8 41 ?_); (refine' CallP.sf ?_ (hcut) ?_); (focus first | (with_reducible exact A0 _) | (simp [A5, A4, A1, A0]; done))) | ((with_reducible refine A8 41 ?_); (refine' CallP.sf ?_ (hc2) ?_); (focus first | (with_reducible exact A0 _) | (simp [A5, A4, A1, A0]; done))) | ((with_reducible refine A8 73 ?_); (refine' CallP.sf ?_ (hsp) ?_); (focus first | (with_reducible exact A0 _) | (simp [A5, A4, A1, A0]; done))) | (with_reducible first | exact AI | refine AP ?_ | intro _g _hg | refine A9 ?_ ?_ | intro _hc) | omega)
    all_goals exact Bi rfl hle9 hs9 ⟨rfl, hP9, hle9⟩
 rw [if_neg h5] at hD
 obtain ⟨e1, e2⟩ := hf0 hD _ rfl
 rw [e1, e2]
 generalize A1b (Bj s) = bb at *
 generalize YG (Bj s) st = st2 at *
 have k1 : more = true → ¬ w = [105, 102] := fun a b => h4 ⟨a, b⟩
 have k2 : more = true → ¬ w = [101, 97, 99, 104] := fun a b => h5 ⟨a, b⟩
 clear h1 h2 h3 h4 h5 hnif hD e1 e2 hf0
 cases more with
 | false =>
  rcases hvs with rfl | ⟨g, k, rfl⟩
  all_goals
   refine AK Tryz.func42 JR rfl fun hs => ?_
   repeat' (first | simp -implicitDefEqProofs [C4, CA, CB, C7, C9, C6, C5, C8, C2, Bf, WD, -getElem?_pos, hP, n1, n2, n3] | simp (disch := omega) only [AA] | ((with_reducible refine Al 74 ?_); refine ⟨_, hfc, ?_⟩; rintro r9 n' H' hn9 hs9 ⟨rfl, hP9, hle9⟩) | ((with_reducible refine A8 41 ?_); (refine' CallP.sf ?_ (hcut) ?_); (focus first | (with_reducible exact A0 _) | (simp [A5, A4, A1, A0]; done))) | (with_reducible first | exact AI | refine AP ?_ | intro _g _hg | refine A9 ?_ ?_ | intro _hc) | omega)
   all_goals exact Bi rfl hle9 hs9 ⟨rfl, hP9, hle9⟩
 | true =>
  have k1 := k1 rfl
  have k2 := k2 rfl
  rcases hvs with rfl | ⟨g, k, rfl⟩
  all_goals
   refine AK Tryz.func42 JR rfl fun hs => ?_
   repeat' (first | simp -implicitDefEqProofs [C4, CA, CB, C7, C9, C6, C5, C8, C2, Bf, WD, -getElem?_pos, hP, n1, n2, n3, k1, k2] | simp (disch := omega) only [AA] | ((with_reducible refine Al 74 ?_); refine ⟨_, hfc, ?_⟩; rintro r9 n' H' hn9 hs9 ⟨rfl, hP9, hle9⟩) | ((with_reducible refine A8 41 ?_); (refine' CallP.sf ?_ (hcut) ?_); (focus first | (with_reducible exact A0 _) | (simp [A5, A4, A1, A0]; done))) | (with_reducible first | exact AI | refine AP ?_ | intro _g _hg | refine A9 ?_ ?_ | intro _hc) | omega)
   all_goals exact Bi rfl hle9 hs9 ⟨rfl, hP9, hle9⟩
theorem ACalls.frzIn2 {f : Nat} {args : List AV} {R : Gk} {g e sz : Nat} {l : List AV} (ks : List Nat) (hg : H g = some (.grow e (AG l))) (hz : BJ P e = sz) (h0 : 0 < sz) (hu : ∀ x ∈ l, x.cells.length = sz) (h : ACalls P f (Gv g sz l args) n (NR ks g sz l H) R) : ACalls P f args n H R := by
 intro hs w0 G w vs hl hr hv
 obtain ⟨us, c, hc, hLe, hrel, hrl, hsl, hcm, hcs, h1⟩ := hr.still hg
 have hlen : l.length ≤ c := by
  have e1 : (AG l).length = l.length * sz := by
   clear hg hrl hcs h1 h
   induction l with
   | nil => simp [AG]
   | cons x l ih =>
    have := ih fun y hy => hu y (List.mem_cons_of_mem _ hy)
    have h2 := hu x List.mem_cons_self
    simp only [AG, List.flatMap_cons, List.length_append] at this ⊢
    rw [this, h2, List.length_cons, Nat.succ_mul]; omega
  rw [e1, hz] at hcs
  exact Nat.le_of_mul_le_mul_right hcs h0
 have hso : SlOk sz l c := ⟨hlen, hcm, h0, hu, h1⟩
 have hv2 := RepL.frz hLe hc hrl hsl hso hv
 refine (h (fun k hk => ?_) w0 (G.still g us) w vs hl (hrel.frzK ks hc hrl hsl hso) hv2).mono ?_
 ·simp only [NR]
  split
  ·rfl
  ·split
   ·rw [hs k hk]; rfl
   ·exact hs k hk
 ·rintro e' w' ⟨v, r, G', n', H', q1, q2, q3, q4, q5, q6⟩
  exact ⟨v, r, G', n', H', q1, q2, q3, hLe.tr q4, q5, q6⟩
theorem PS.val {l : List Pt} {kk : List (Pt × Bool)} (h : PS n0 H0 gp (l, kk) n H) (hl : l.length ≤ 2000000) (hs : FU l) : ∃ vp vs, H gp = some (.cells 74 [vp, vs]) ∧ ACalls Tryz.prog 13 [vp] n H (fun r n' H' => r = aF (EK l) ∧ n' = n ∧ (∃ vp', H' gp = some (.cells 74 [vp', vs]) ∧ A4 vp' (Cr l)) ∧ (∀ q, q < n0 → H' q = H q)) := by
 have hv := UT l hl hs
 obtain ⟨gl, gs, ops, hO, he, hgs⟩ := h
 have hP := hO.fst
 refine ⟨_, _, hP.1, ?_⟩
 cases l with
 | nil =>
  refine Ld (ACalls.sim (hv n H) (A2 (Aa 7) rfl)) ?_
  rintro r n' H' ⟨rfl, rfl, rfl⟩
  exact ⟨rfl, rfl, ⟨_, hP.1, Aa 7⟩, fun q hq => rfl⟩
 | cons x r =>
  have hm : (gl, Db (x :: r)) ∈ QO gp gl gs (x :: r) ops := by simp [QO, JZ]
  have a := hO.at_ hm
  have hne : gl ≠ gp := by intro e; have := a.1; rw [e, hP.1] at this; cases this
  have hsk : Dg gl 7 (AB (x :: r)) (QP gs ops.length) = QP gs ops.length := by
   cases gs with
   | none => rfl
   | some g => simp [QP, Dg]
  refine ACalls.frzIn2 [gp] a.1 A3u (by omega) (Ih _) ?_
  simp only [Gv, Rh (l := x :: r) (by simp)]
  refine Ld (hv n _) ?_
  rintro r' n' H' ⟨rfl, rfl, rfl⟩
  refine ⟨rfl, rfl, ⟨.sl 7 (AB (x :: r)) .ro, ?_, A1 _⟩, fun q hq => ?_⟩
  ·simp only [NR, if_neg (Ne.symm hne), List.mem_singleton, if_true, hP.1, Option.map_some, PG, Gv, hsk, Rh (l := x :: r) (by simp)]
  ·have h1 : q ≠ gl := by omega
   have h2 : q ≠ gp := by omega
   simp only [NR, if_neg h1, List.mem_singleton, if_neg h2]
theorem PS.start (hs : ∀ q, n ≤ q → H q = none) (hg : n ≤ g) : PS n H g ([], []) (g + 1) (upd H g (some (.cells 74 [.sl 0 [] .nil, .sl 0 [] .nil]))) := by
 refine ⟨0, none, [], ?_, rfl, fun _ => rfl⟩
 refine ⟨by omega, fun q hq => by rw [upd_ne (by omega)]; exact hs q (by omega), fun q hq => upd_ne (by omega), fun x hx => ?_, ?_⟩
 ·simp [QO, JZ, Tl] at hx
  subst hx
  exact ⟨by rw [AN]; rfl, hg⟩
 ·simp [QO, JZ, Tl]
theorem PS.stk (h : PS n0 H0 gp st n H) : ∃ vp vs, H gp = some (.cells 74 [vp, vs]) ∧ Rs vs = some (aI st.2.length) := by
 obtain ⟨gl, gs, ops, hO, he, hgs⟩ := h
 refine ⟨_, _, hO.fst.1, ?_⟩
 cases gs with
 | none => have := hgs rfl; subst this; rw [← he]; rfl
 | some g => rw [← he, List.length_map]; rfl
def A3j (n : Nat) : Except Nat Fv → List Pt × (Int × Int)
 | .error i => ([], (1, (i : Int)))
 | .ok st => if st.2 ≠ [] then ([], (1, (n : Int))) else if (EK st.1).1 ≠ 0 then ([], EK st.1) else (st.1, (0, 0))
theorem A4z (h : ¬ 4000 < s.length) : JL s = A3j s.length (Fx s 0 ([], [])) := by
 unfold JL
 rw [if_neg h]
 cases Fx s 0 ([], []) with
 | error i => rfl
 | ok x => obtain ⟨l, k⟩ := x; rfl
theorem PS.at3 (h : PS (g3 + 1) (upd H g3 (some ob)) gp st n H') : H' g3 = some ob := by
 rw [h.own.2.2.2.2 g3 (by omega), AN]
theorem PS.old {g3 n gp m : Nat} (h : PS (g3 + 1) (upd H g3 (some ob)) gp st n H') (hm : m ≤ g3) : ∀ q, q < m → H' q = H q := fun q hq => by
 rw [h.own.2.2.2.2 q (by omega), upd_ne (by omega)]
theorem Il (s : AE) (i : Nat) : List.drop i (List.take s.length s) = s.drop i := by rw [List.take_length]
theorem Ze (s : AE) : APure Tryz.prog 16 [.str s] (.tup [Cr (JL s).1, aF (JL s).2]) := by
 by_cases hlong : 4000 < s.length
 ·have e : JL s = ([], (3, -1)) := by unfold JL; rw [if_pos hlong]
  rw [e]
  have hlong' : (4000 : Int) < (s.length : Int) := by omega
  refine A6 Tryz.func16 A1n rfl fun n H hH => ?_
  repeat' (first | simp -implicitDefEqProofs [R3, Mk, Ma, RS, IX, HA, Qr, c16, -getElem?_pos, hlong', splice] | simp (disch := omega) only [AA] | (with_reducible first | exact AI | refine AP ?_ | intro _g _hg | refine A9 ?_ ?_ | intro _hc) | omega)
  all_goals first
   | exact DO (A2 (Aa 7) (A0 _))
   | (intro q hq; simp (disch := omega) only [upd_ne])
 ·have e := A4z hlong
  have hlong' : ¬ (4000 : Int) < (s.length : Int) := by omega
  obtain ⟨z, hz⟩ : ∃ z, JL s = z := ⟨_, rfl⟩
  rw [hz] at e
  rw [hz]
  clear hz
  refine A6 Tryz.func16 A1n rfl fun n H hH => ?_
  repeat' (first | simp -implicitDefEqProofs [c16, Qr, -getElem?_pos, hlong', splice] | simp (disch := omega) only [AA] | (with_reducible first | exact AI | refine AP ?_ | intro _g _hg | refine A9 ?_ ?_ | intro _hc) | omega)
  rename_i g3 hg3
  generalize hgp0 : _g = gp at *
  clear hgp0
  have hPS0 : PS (g3 + 1) (upd H g3 (some (.cells 24 [aI 0, aI 0]))) gp ([], []) (gp + 1) (upd (upd H g3 (some (.cells 24 [aI 0, aI 0]))) gp (some (.cells 74 [.sl 0 [] .nil, .sl 0 [] .nil]))) := PS.start (fun q hq => by rw [upd_ne (by omega)]; exact hH q (by omega)) (by omega)
  have hend : ∀ (i n2 : Nat) (H2 : A3) (st : Fv), i ≤ s.length → z = A3j s.length (.ok (CF (s.drop i) st)) → PS (g3 + 1) (upd H g3 (some (.cells 24 [aI 0, aI 0]))) gp st n2 H2 → QT (5000 + 2 * i) st → ∀ en : AH, get en 0 = .str s → get en 3 = .ptr g3 0 → get en 4 = .ptr gp 0 → get en 5 = aI i → aw Tryz.prog c16_k3 (Ga (.tup [Cr z.1, aF z.2]) n H [.tmp 2, .cell 3 (some 2)]) ⟨en, n2, H2⟩ := by
   intro i n2 H2 st hi hz hP hb en e0 e3 e4 e5
   have hdl : (s.drop i).length = s.length - i := List.length_drop
   have htx := Ur (t := s.drop i) hP (IM (by omega) hb) (by omega)
   have hbd := PU (t := s.drop i) hb (by omega)
   have hi' : (i : Int) ≤ s.length := by omega
   generalize CF (s.drop i) st = st2 at *
   have hkey : ∀ n3 H3, PS (g3 + 1) (upd H g3 (some (.cells 24 [aI 0, aI 0]))) gp st2 n3 H3 → n2 ≤ n3 → ∀ en : AH, get en 3 = .ptr g3 0 → get en 4 = .ptr gp 0 → st2.2 = [] → aw Tryz.prog c16_k2 (Ga (.tup [Cr z.1, aF z.2]) n H [.tmp 2, .cell 3 (some 2)]) ⟨en, n3, H3⟩ := by
    intro n3 H3 hP3 hn3 en q3 q4 hk
    obtain ⟨l, kk⟩ := st2
    have hz3 : z = if (EK l).1 ≠ 0 then ([], EK l) else (l, (0, 0)) := by
     rw [hz]
     show (if kk ≠ [] then _ else _) = _
     rw [if_neg (by simpa using hk)]
    have hsm : FU l := P0 (B := 20000) (by omega) l (AR (by omega) hbd.1).2.1
    have hll : l.length ≤ 20000 := (AR (B' := 20000) (by omega) hbd.1).1
    obtain ⟨vp, vs, hv1, hv2⟩ := hP3.val (by omega) hsm
    have hg3 := hP3.at3
    have hgpn := hP3.own
    have _hq : True := trivial
    by_cases h0 : (EK l).1 = 0
    ·rw [if_neg (by simpa using h0)] at hz3
     have hf : EK l = (0, (EK l).2) := by rw [← h0]
     rw [hf] at hv2
     generalize (EK l).2 = f2 at *
     repeat' (first | simp -implicitDefEqProofs [Mk, R3, -getElem?_pos, q3, q4, hv1, _hq, splice] | simp (disch := omega) only [AA] | ((with_reducible refine Al 13 ?_); refine ⟨_, hv2, ?_⟩; rintro r9 n' H' hn9 hs9 ⟨rfl, rfl, ⟨vp', hv3, hv4⟩, hv5⟩; (have _hq := And.intro ((hv5 g3 (by omega)).trans hg3) hv3)) | (with_reducible first | exact AI | refine AP ?_ | intro _g _hg | refine A9 ?_ ?_ | intro _hc) | omega)
     all_goals first
      | (rw [hz3]; exact DO (A2 hv4 (A0 _)))
      | (intro q hq; simp (disch := omega) only [upd_ne]; rw [hv5 q (by omega)]; exact hP3.old (by omega) q hq)
      | omega
    ·rw [if_pos h0] at hz3
     have hne : ∃ f1 f2, EK l = (f1, f2) ∧ f1 ≠ 0 := ⟨_, _, rfl, h0⟩
     obtain ⟨f1, f2, hf, hf0⟩ := hne
     rw [hf] at hv2 hz3
     repeat' (first | simp -implicitDefEqProofs [Mk, -getElem?_pos, q3, q4, hv1, _hq, hf0, splice] | simp (disch := omega) only [AA] | ((with_reducible refine Al 13 ?_); refine ⟨_, hv2, ?_⟩; rintro r9 n' H' hn9 hs9 ⟨rfl, rfl, ⟨vp', hv3, hv4⟩, hv5⟩; (have _hq := (hv5 g3 (by omega)).trans hg3)) | (with_reducible first | exact AI | refine AP ?_ | intro _g _hg | refine A9 ?_ ?_ | intro _hc) | omega)
     all_goals first
      | (rw [hz3]; exact DO (A2 (Aa 7) (A0 _)))
      | (intro q hq; simp (disch := omega) only [upd_ne]; rw [hv5 q (by omega)]; exact hP3.old (by omega) q hq)
      | omega
   have _hq : True := trivial
   by_cases hk : st2.2 = []
   ·have hkl : st2.2.length = 0 := by rw [hk]; rfl
    repeat' (first | simp -implicitDefEqProofs [Ma, -getElem?_pos, hi', Il, e0, e3, e4, e5, hkl, _hq, splice] | simp (disch := omega) only [AA] | ((with_reducible refine Al 40 ?_); refine ⟨_, htx, ?_⟩; rintro r9 n' H' hn9 hs9 ⟨rfl, hP9, hle9⟩; (obtain ⟨vp, vs, hq, hvs⟩ := hP9.stk); (have _hq := And.intro hvs (And.intro hP9.at3 hq)); (have h9 := hP9.own.2.2.1)) | (with_reducible first | exact AI | refine AP ?_ | intro _g _hg | refine A9 ?_ ?_ | intro _hc) | omega)
    all_goals (refine hkey _ _ hP9 hle9 _ ?_ ?_ hk <;> rfl)
   ·have hkl : 0 < st2.2.length := List.length_pos_iff.2 hk
    have hz2 : z = ([], (1, (s.length : Int))) := by rw [hz]; show (if st2.2 ≠ [] then _ else _) = _; rw [if_pos hk]
    repeat' (first | simp -implicitDefEqProofs [Ma, -getElem?_pos, hi', Il, e0, e3, e4, e5, hkl, _hq, splice] | simp (disch := omega) only [AA] | ((with_reducible refine Al 40 ?_); refine ⟨_, htx, ?_⟩; rintro r9 n' H' hn9 hs9 ⟨rfl, hP9, hle9⟩; (obtain ⟨vp, vs, hq, hvs⟩ := hP9.stk); (have _hq := And.intro hvs (And.intro hP9.at3 hq)); (have h9 := hP9.own.2.2.1)) | (with_reducible first | exact AI | refine AP ?_ | intro _g _hg | refine A9 ?_ ?_ | intro _hc) | omega)
    all_goals first
     | (rw [hz2]; exact DO (A2 (Aa 7) (A0 _)))
     | (intro q hq; rw [upd_ne (by omega)]; exact hP9.old (by omega) q hq)
     | (have h9 := hP9.own.2.2.1; omega)
  refine LoopK.go (fun m st' => ∃ (i n2 : Nat) (H2 : A3) (st : Fv), i + m = s.length ∧ st' = ⟨[(0, .str s), (3, .ptr g3 0), (4, .ptr gp 0), (5, aI i)], n2, H2⟩ ∧ PS (g3 + 1) (upd H g3 (some (.cells 24 [aI 0, aI 0]))) gp st n2 H2 ∧ QT (5000 + 2 * i) st ∧ z = A3j s.length (Fx (s.drop i) i st)) s.length ⟨0, _, _, ([], []), by omega, rfl, hPS0, ⟨E9 _, by simp, by simp⟩, by rw [List.drop_zero]; exact e⟩ ?_
  rintro m st' ⟨i, n2, H2, st, him, rfl, hP, hb, hz⟩ J hJ
  clear e hPS0
  have hdl : (s.drop i).length = s.length - i := List.length_drop
  have hix := MF (s.drop i) opS (by omega)
  have hi' : (i : Int) ≤ s.length := by omega
  rcases Id (p := opS) (by decide) (s.drop i) with ⟨hcu, hil⟩ | ⟨p, r, hcu, hil⟩
  ·rw [hil] at hix
   rw [RR hcu] at hz
   change APure _ _ [.str (s.drop i), .str [60, 37]] _ at hix
   repeat' (first | simp -implicitDefEqProofs [HA, -getElem?_pos, hi', Il] | simp (disch := omega) only [AA] | ((with_reducible refine A8 39 ?_); (refine' CallP.sf ?_ (hix) ?_); (focus first | (with_reducible exact A0 _) | (simp [A5, A4, A1, A0]; done))) | (with_reducible first | exact AI | refine AP ?_ | intro _g _hg | refine A9 ?_ ?_ | intro _hc) | omega)
   all_goals exact hend i n2 H2 st (by omega) hz hP hb _ rfl rfl rfl rfl
  ·have _hq := hP.at3
   rw [hil] at hix
   change APure _ _ [.str (s.drop i), .str [60, 37]] _ at hix
   have l1 := Bk hcu
   have hop : opS.length = 2 := rfl
   have hpe : List.drop i (List.take (i + p.length) s) = p := by
    have := F8 hcu
    rw [List.drop_take, this]
    simp
   have hre := FH hcu
   rw [List.drop_drop] at hre
   have htx := Ur (t := p) hP (IM (by omega) hb) (by omega)
   have hc2 := I7 r clS (by omega)
   rw [UF (by decide)] at hc2
   have hre2 : List.drop (i + p.length + 2) s = r := by rw [hre, hop]; congr 1
   have hti : ((i : Int) + p.length).toNat = i + p.length := by omega
   have hti2 : ((i : Int) + p.length + 2).toNat = i + p.length + 2 := by omega
   have hpos : ¬ ((p.length : Int) < 0) := by omega
   have hip : (i : Int) + p.length ≤ s.length := by omega
   have hip2 : (i : Int) + p.length + 2 ≤ s.length := by omega
   have hP1 := P7 p st
   cases hcl : Ar clS r with
   | none =>
    rw [hcl] at hc2
    simp only at hc2
    change APure _ _ [.str r, .str [37, 62]] _ at hc2
    rw [R9 hcu hcl] at hz
    repeat' (first | simp -implicitDefEqProofs [HA, IX, -getElem?_pos, hi', Il, hpos, hip, hip2, hpe, hre2, hti, hti2, _hq, splice] | simp (disch := omega) only [AA] | ((with_reducible refine Al 40 ?_); refine ⟨_, htx, ?_⟩; rintro r9 n' H' hn9 hs9 ⟨rfl, hP9, hle9⟩; (have _hq := hP9.at3)) | ((with_reducible refine A8 39 ?_); (refine' CallP.sf ?_ (hix) ?_); (focus first | (with_reducible exact A0 _) | (simp [A5, A4, A1, A0]; done))) | ((with_reducible refine A8 41 ?_); (refine' CallP.sf ?_ (hc2) ?_); (focus first | (with_reducible exact A0 _) | (simp [A5, A4, A1, A0]; done))) | (with_reducible first | exact AI | refine AP ?_ | intro _g _hg | refine A9 ?_ ?_ | intro _hc) | omega)
    all_goals first
     | (rw [hz]; exact DO (A2 (Aa 7) (A0 _)))
     | (intro q hq; rw [upd_ne (by omega)]; exact hP9.old (by omega) q hq)
     | (have h9 := hP9.own.2.2.1; omega)
   | some dq =>
    obtain ⟨d, q⟩ := dq
    rw [hcl] at hc2
    simp only at hc2
    change APure _ _ [.str r, .str [37, 62]] _ at hc2
    have l2 := Dk hcu hcl
    have hqe : q = s.drop (i + p.length + d.length + 4) := by
     have h4 : clS.length = 2 := rfl
     rw [FH hcl, hre, List.drop_drop]
     congr 1; omega
    have hdir : ∀ n' H', PS (g3 + 1) (upd H g3 (some (.cells 24 [aI 0, aI 0]))) gp (CF p st) n' H' → _ := fun n' H' hP => A4m (s := d) hP (IM (B' := 100000) (by omega) (PU hb (by omega))) (by omega)
    cases hst : BL (dirT d) (CF p st) with
    | none =>
     rw [MG hcu hcl hst] at hz
     rw [hst] at hdir
     repeat' (first | simp -implicitDefEqProofs [HA, IX, -getElem?_pos, hi', Il, hpos, hip, hip2, hpe, hre2, hti, hti2, _hq, splice] | simp (disch := omega) only [AA] | ((with_reducible refine Al 40 ?_); refine ⟨_, htx, ?_⟩; rintro r9 n' H' hn9 hs9 ⟨rfl, hP9, hle9⟩; (have _hq := hP9.at3)) | ((with_reducible refine Al 42 ?_); refine ⟨_, hdir _ _ hP9, ?_⟩; rintro r8 n8 H8 hn8 hs8 ⟨rfl, hP8, hle8⟩; (have _hq := hP8.at3)) | ((with_reducible refine A8 39 ?_); (refine' CallP.sf ?_ (hix) ?_); (focus first | (with_reducible exact A0 _) | (simp [A5, A4, A1, A0]; done))) | ((with_reducible refine A8 41 ?_); (refine' CallP.sf ?_ (hc2) ?_); (focus first | (with_reducible exact A0 _) | (simp [A5, A4, A1, A0]; done))) | (with_reducible first | exact AI | refine AP ?_ | intro _g _hg | refine A9 ?_ ?_ | intro _hc) | omega)
     all_goals first
      | (rw [hz]; exact DO (A2 (Aa 7) (A0 _)))
      | (intro q hq; rw [upd_ne (by omega)]; exact hP8.old (by omega) q hq)
      | (have h9 := hP8.own.2.2.1; omega)
    | some st' =>
     rw [Ip hcu hcl hst, hqe] at hz
     rw [hst] at hdir
     repeat' (first | simp -implicitDefEqProofs [HA, IX, RS, -getElem?_pos, hi', Il, hpos, hip, hip2, hpe, hre2, hti, hti2, splice] | simp (disch := omega) only [AA] | ((with_reducible refine Al 40 ?_); refine ⟨_, htx, ?_⟩; rintro r9 n' H' hn9 hs9 ⟨rfl, hP9, hle9⟩) | ((with_reducible refine Al 42 ?_); refine ⟨_, hdir _ _ hP9, ?_⟩; rintro r8 n8 H8 hn8 hs8 ⟨rfl, hP8, hle8⟩) | ((with_reducible refine A8 39 ?_); (refine' CallP.sf ?_ (hix) ?_); (focus first | (with_reducible exact A0 _) | (simp [A5, A4, A1, A0]; done))) | ((with_reducible refine A8 41 ?_); (refine' CallP.sf ?_ (hc2) ?_); (focus first | (with_reducible exact A0 _) | (simp [A5, A4, A1, A0]; done))) | (with_reducible first | exact AI | refine AP ?_ | intro _g _hg | refine A9 ?_ ?_ | intro _hc) | omega)
     all_goals exact hJ (m - (p.length + d.length + 4)) _ (by omega) ⟨i + p.length + d.length + 4, _, _, st', by omega, by simp; omega, hP8, IM (by omega) (ZD (PU hb (by omega)) (by omega) hst), hz⟩
theorem Uz {l2 : List Seg} : ∀ (l1 : List Seg) {s : AS}, AT P (l1 ++ l2) K s = AT P l1 (AT P l2 K) s := by
 intro l1
 induction l1 with
 | nil => intro s; rfl
 | cons o os ih =>
  intro s
  have e : AT P (os ++ l2) K = AT P os (AT P l2 K) := funext fun s => ih
  obtain ⟨g, ops, pk⟩ := o
  cases g with
  | none => show awOps P ops (AT P (os ++ l2) K) s = awOps P ops (AT P os (AT P l2 K)) s; rw [e]
  | some gw =>
   obtain ⟨t, want⟩ := gw
   cases pk with
   | none =>
    show guardK want (awOps P ops (AT P (os ++ l2) K) s) (AT P (os ++ l2) K ⟨Er s.e ops, s.n, s.H⟩) (get s.e t) = guardK want (awOps P ops (AT P os (AT P l2 K)) s) (AT P os (AT P l2 K) ⟨Er s.e ops, s.n, s.H⟩) (get s.e t)
    rw [e]
   | some dx =>
    obtain ⟨d, x⟩ := dx
    show K1 (Qt want x (get s.e t) (DF ops s.e s.H)) (fun v => AT P (os ++ l2) K ⟨put (Ed s.e ops) d v, s.n, s.H⟩) = K1 (Qt want x (get s.e t) (DF ops s.e s.H)) fun v => AT P os (AT P l2 K) ⟨put (Ed s.e ops) d v, s.n, s.H⟩
    rw [e]
theorem MM {l : List Seg} {s : AS} (k : Nat) (Inv : AS → Prop) (h1 : AT P (l.take k) Inv s) (h2 : ∀ s', Inv s' → AT P (l.drop k) K s') : AT P l K s := by
 rw [← List.take_append_drop k l, Uz]
 exact NI h1 h2
def Slots (n : Nat) (H : A3) (l : List (Nat × AV)) (s : AS) : Prop := s.n = n ∧ s.H = H ∧ ∀ x ∈ l, get s.e x.1 = x.2
theorem Slots.cut {l : List (Nat × AV)} (h : ∀ e, (∀ x ∈ l, get e x.1 = x.2) → K ⟨e, n, H⟩) : ∀ s, Slots n H l s → K s := by
 rintro ⟨e, n', H'⟩ ⟨h1, h2, h3⟩
 simp only at h1 h2 h3
 subst h1; subst h2
 exact h e h3
theorem AY (v : AV) (t k : Nat) : ∀ e : AH, get (EW e t v) k = if t = k then v else get e k
 | [] => by simp only [EW, get]
 | (a, u) :: r => by
  unfold EW
  by_cases h : a = t
  ·subst h
   simp only [if_true, get]
   split <;> rfl
  ·simp only [if_neg h, get, AY v t k r]
   by_cases h2 : a = k
   ·subst h2; simp only [if_true]; rw [if_neg (fun e => h e.symm)]
   ·simp only [if_neg h2]
set_option maxRecDepth 20000 in
theorem A0a (k pv : Int) (t nm : AE) (pa : List AE) (fs : List (AE × Int)) (eb ee : List AV) (g n : Nat) (Hc : A3) (hgc : Hc g = some (.cells 55 [aI k, .str t, .str nm, CG pa, Aq fs, .sl 7 eb .ro, .sl 7 ee .ro])) (en : AH) (e1 : get en 1 = aI pv) (h4 : get en 4 = .ptr g 0) (h9 : get en 9 = aI k) (Q : AExit → AS → Prop) (b : Bool)
  (hb : b = (((((decide (k = 1) == decide (t = [])) || (decide (k = 1) && Bl pa)) || (decide (k ≠ 4) && decide (nm ≠ []))) || (decide (k ≠ 2) && Bl fs)) || (decide (k < 3) && (Bl eb || Bl ee)) || (decide (k = 1) && decide (pv = k))))
  (hT : b = true → ∀ e, Q .ret ⟨(8, aI 6) :: e, n, Hc⟩) (hF : b = false → ∀ e, get e 4 = .ptr g 0 → get e 9 = aI k → get e 10 = .bool (k == 1) → aw Tryz.prog c66_k9 Q ⟨e, n, Hc⟩) : aw Tryz.prog c66_k10 Q ⟨en, n, Hc⟩ := by
 
 have hk10 : ∀ {b : Bool}, (k == 1) = b → decide (k = 1) = b := fun h => h
 obtain ⟨b10, hb10⟩ : ∃ b10, (k == 1) = b10 := ⟨_, rfl⟩
 rw [hb10] at hF
 simp -implicitDefEqProofs [c66, Bc, -getElem?_pos, -J5, -J7, -J9, e1, h4, h9, hb10]
 obtain ⟨b1, hb1⟩ : ∃ b1, ((decide (k = 1) == decide (t = [])) || (decide (k = 1) && Bl pa)) = b1 := ⟨_, rfl⟩
 rw [hb1] at hb
 obtain ⟨b2, hb2⟩ : ∃ b2, (b1 || (decide (k ≠ 4) && decide (nm ≠ []))) = b2 := ⟨_, rfl⟩
 rw [hb2] at hb
 obtain ⟨b3, hb3⟩ : ∃ b3, (b2 || (decide (k ≠ 2) && Bl fs)) = b3 := ⟨_, rfl⟩
 rw [hb3] at hb
 obtain ⟨b4, hb4⟩ : ∃ b4, (b3 || (decide (k < 3) && (Bl eb || Bl ee))) = b4 := ⟨_, rfl⟩
 rw [hb4] at hb
 have hd : decide (k = 1) = b10 := by rw [← hb10]; rfl
 rw [hd] at hb hb1
 have pz : Bl ([] : List AE) = false := rfl
 have pz2 : Bl ([] : List (AE × Int)) = false := rfl
 have pz3 : Bl ([] : List AV) = false := rfl
 have pq : ∀ {α : Type} {l : List α}, l ≠ [] → Bl l = true ∧ (0 : Int) < l.length ∧ 0 < l.length := fun h => by
  have := List.length_pos_iff.2 h
  exact ⟨by unfold Bl; exact decide_eq_true (by omega), by omega, this⟩
 refine MM 5 (Slots n Hc [(1, aI pv), (4, .ptr g 0), (9, aI k), (10, .bool b10), (38, .bool b1)]) ?_ (Slots.cut fun e he => ?_)
 ·simp only [List.take_succ_cons, List.take_zero]
  clear hT hF hb hb2 hb3 hb4
  cases b10
  ·by_cases ht : t = []
   ·simp [ht] at hb1; subst hb1; subst ht
    simp -implicitDefEqProofs [-getElem?_pos, hgc, Slots]
   ·simp [ht] at hb1; subst hb1
    simp -implicitDefEqProofs [-getElem?_pos, hgc, Slots, ht]
  ·by_cases ht : t = []
   ·simp [ht] at hb1; subst hb1; subst ht
    simp -implicitDefEqProofs [-getElem?_pos, hgc, Slots]
   ·by_cases hp : pa = []
    ·subst hp; rw [pz] at hb1; simp [ht] at hb1; subst hb1
     simp -implicitDefEqProofs [-getElem?_pos, hgc, Slots, ht]
    ·obtain ⟨p1, p2, p3⟩ := pq hp
     rw [p1] at hb1; simp [ht] at hb1; subst hb1
     simp -implicitDefEqProofs [-getElem?_pos, hgc, Slots, ht, p2, p3]
 clear e1 h4 h9 hb1
 have e1 : get e 1 = aI pv := he (1, _) (by simp)
 have h4 : get e 4 = .ptr g 0 := he (4, _) (by simp)
 have h9 : get e 9 = aI k := he (9, _) (by simp)
 have h10 : get e 10 = .bool b10 := he (10, _) (by simp)
 have hs : get e 38 = .bool b1 := he (38, _) (by simp)
 clear he
 simp only [List.drop_succ_cons, List.drop_zero]
 refine MM 4 (Slots n Hc [(1, aI pv), (4, .ptr g 0), (9, aI k), (10, .bool b10), (47, .bool b2)]) ?_ (Slots.cut fun e he => ?_)
 ·simp only [List.take_succ_cons, List.take_zero]
  clear hT hF hb hb3 hb4
  cases b1
  ·by_cases k4 : k = 4
   ·subst k4; simp at hb2; subst hb2
    simp -implicitDefEqProofs [-getElem?_pos, hgc, Slots, e1, h4, h9, h10, hs, AY]
   ·by_cases hn : nm = []
    ·subst hn; simp at hb2; subst hb2
     simp -implicitDefEqProofs [-getElem?_pos, hgc, Slots, e1, h4, h9, h10, hs, AY, k4]
    ·simp [k4, hn] at hb2; subst hb2
     simp -implicitDefEqProofs [-getElem?_pos, hgc, Slots, e1, h4, h9, h10, hs, AY, k4, hn]
  ·simp at hb2; subst hb2
   simp -implicitDefEqProofs [-getElem?_pos, hgc, Slots, e1, h4, h9, h10, hs, AY]
 clear e1 h4 h9 h10 hs hb2
 have e1 : get e 1 = aI pv := he (1, _) (by simp)
 have h4 : get e 4 = .ptr g 0 := he (4, _) (by simp)
 have h9 : get e 9 = aI k := he (9, _) (by simp)
 have h10 : get e 10 = .bool b10 := he (10, _) (by simp)
 have hs : get e 47 = .bool b2 := he (47, _) (by simp)
 clear he
 simp only [List.drop_succ_cons, List.drop_zero]
 refine MM 4 (Slots n Hc [(1, aI pv), (4, .ptr g 0), (9, aI k), (10, .bool b10), (57, .bool b3)]) ?_ (Slots.cut fun e he => ?_)
 ·simp only [List.take_succ_cons, List.take_zero]
  clear hT hF hb hb4
  cases b2
  ·by_cases k2 : k = 2
   ·subst k2; simp at hb3; subst hb3
    simp -implicitDefEqProofs [-getElem?_pos, hgc, Slots, e1, h4, h9, h10, hs, AY]
   ·by_cases hf : fs = []
    ·subst hf; rw [pz2] at hb3; simp at hb3; subst hb3
     simp -implicitDefEqProofs [-getElem?_pos, hgc, Slots, e1, h4, h9, h10, hs, AY, k2]
    ·obtain ⟨p1, p2, p3⟩ := pq hf
     rw [p1] at hb3; simp [k2] at hb3; subst hb3
     simp -implicitDefEqProofs [-getElem?_pos, hgc, Slots, e1, h4, h9, h10, hs, AY, k2, p2, p3]
  ·simp at hb3; subst hb3
   simp -implicitDefEqProofs [-getElem?_pos, hgc, Slots, e1, h4, h9, h10, hs, AY]
 clear e1 h4 h9 h10 hs hb3
 have e1 : get e 1 = aI pv := he (1, _) (by simp)
 have h4 : get e 4 = .ptr g 0 := he (4, _) (by simp)
 have h9 : get e 9 = aI k := he (9, _) (by simp)
 have h10 : get e 10 = .bool b10 := he (10, _) (by simp)
 have hs : get e 57 = .bool b3 := he (57, _) (by simp)
 clear he
 simp only [List.drop_succ_cons, List.drop_zero]
 refine MM 6 (Slots n Hc [(1, aI pv), (4, .ptr g 0), (9, aI k), (10, .bool b10), (73, .bool b4)]) ?_ (Slots.cut fun e he => ?_)
 ·simp only [List.take_succ_cons, List.take_zero]
  clear hT hF hb
  cases b3
  ·by_cases k3 : k < 3
   ·by_cases he1 : eb = []
    ·subst he1; rw [pz3] at hb4
     by_cases he2 : ee = []
     ·subst he2; rw [pz3] at hb4; simp at hb4; subst hb4
      simp -implicitDefEqProofs [-getElem?_pos, hgc, Slots, e1, h4, h9, h10, hs, AY, k3]
     ·obtain ⟨p1, p2, p3⟩ := pq he2
      rw [p1] at hb4; simp [k3] at hb4; subst hb4
      simp -implicitDefEqProofs [-getElem?_pos, hgc, Slots, e1, h4, h9, h10, hs, AY, k3, p2, p3]
    ·obtain ⟨p1, p2, p3⟩ := pq he1
     rw [p1] at hb4; simp [k3] at hb4; subst hb4
     simp -implicitDefEqProofs [-getElem?_pos, hgc, Slots, e1, h4, h9, h10, hs, AY, k3, p2, p3]
   ·simp [k3] at hb4; subst hb4
    simp -implicitDefEqProofs [-getElem?_pos, hgc, Slots, e1, h4, h9, h10, hs, AY, k3]
  ·simp at hb4; subst hb4
   simp -implicitDefEqProofs [-getElem?_pos, hgc, Slots, e1, h4, h9, h10, hs, AY]
 clear e1 h4 h9 h10 hs hb4
 have e1 : get e 1 = aI pv := he (1, _) (by simp)
 have h4 : get e 4 = .ptr g 0 := he (4, _) (by simp)
 have h9 : get e 9 = aI k := he (9, _) (by simp)
 have h10 : get e 10 = .bool b10 := he (10, _) (by simp)
 have hs : get e 73 = .bool b4 := he (73, _) (by simp)
 clear he
 simp only [List.drop_succ_cons, List.drop_zero]
 cases b4
 ·cases b10
  ·simp at hb
   subst hb
   simp -implicitDefEqProofs [-getElem?_pos, hgc, Slots, e1, h4, h9, h10, hs, AY]
   exact hF rfl _ (by simp [get, h4, AY]) (by simp [get, h9, AY]) (by simp [get, h10, AY])
  ·by_cases hp : pv = k
   ·simp [hp] at hb
    subst hb
    simp -implicitDefEqProofs [-getElem?_pos, hgc, Slots, e1, h4, h9, h10, hs, AY, hp]
    exact hT rfl _
   ·simp [hp] at hb
    subst hb
    simp -implicitDefEqProofs [-getElem?_pos, hgc, Slots, e1, h4, h9, h10, hs, AY, hp]
    exact hF rfl _ (by simp [get, h4, AY]) (by simp [get, h9, AY]) (by simp [get, h10, AY])
 ·simp at hb
  subst hb
  simp -implicitDefEqProofs [-getElem?_pos, hgc, Slots, e1, h4, h9, h10, hs, AY]
  exact hT rfl _
set_option maxRecDepth 20000 in
theorem A24 (pv : Int) (i d : Nat) (k : Int) (t nm : AE) (pa : List AE) (fs : List (AE × Int)) (b e : List Pt) (hpa : ∀ s ∈ pa, s.length ≤ 2000000) (hpl : pa.length ≤ 2000000) (hn : nm.length ≤ 2000000) (hf : fs.length ≤ 2000000) (hb : b.length ≤ 2000000) (he : e.length ≤ 2000000) :
  APure Tryz.prog 66 [Hq (.mk k t nm pa fs b e), aI pv, aI i, aI d] (aI (Gw pv i d k t nm pa fs b e)) := by
 have h1 := Lt nm hn
 have h2 := Ow pa hpa (by omega)
 have hlb := B3 b
 have hle := B3 e
 have hF := TP pv k t nm pa fs b e
 have hM : Gu k nm pa fs = if (k = 4 ∧ Ho nm = false) ∨ (k ≠ 1 ∧ B5 pa = false) then 7 else if 8 < fs.length then 2 else ID 0 fs := rfl
 rw [B7]
 unfold Gw
 rw [← M2 hlb, ← M2 hle] at hF
 generalize AB b = eb at *
 generalize AB e = ee at *
 obtain ⟨z8, hz8⟩ : ∃ z, (if 8 < fs.length then 2 else ID 0 fs) = z := ⟨_, rfl⟩
 rw [hz8] at hM
 generalize Ho nm = b1 at *
 generalize B5 pa = b2 at *
 generalize Gu k nm pa fs = M at *
 generalize RC pv k t nm pa fs b e = ff at *
 obtain ⟨z, hz⟩ : ∃ z, (if 200 ≤ i then 2 else if 16 < d then 25 else if k < 1 ∨ 4 < k then 5 else if ff = true then 6 else M) = z := ⟨_, rfl⟩
 rw [hz]
 refine A6 Tryz.func66 A5d rfl fun n H hH => ?_
 have fin8 : ∀ g en, n ≤ g → get en 4 = .ptr g 0 → aw Tryz.prog c66_k8 (Ga (aI z8) n H c66.res) ⟨en, g + 1, upd H g (some (.cells 55 [aI k, .str t, .str nm, CG pa, Aq fs, .sl 7 eb .ro, .sl 7 ee .ro]))⟩ := by
  clear h1 h2 hF hM hz
  intro g en hg hen
  by_cases h8 : (8 : Int) < fs.length
  ·rw [if_pos (by omega)] at hz8
   subst hz8
   
   repeat' (first | simp -implicitDefEqProofs [Cj, Cc, Ch, Ck, CM, CL, CS, CN, B4, Bc, BO, B1, c66, -getElem?_pos, hen, h8] | simp (disch := omega) only [AA] | (with_reducible first | exact AI | refine BT ?_ | intro _g _hg | refine A9 ?_ ?_ | intro _hc) | omega)
   all_goals exact A1 _
  ·rw [if_neg (by omega)] at hz8
   
   repeat' (first | simp -implicitDefEqProofs [Cj, Cc, Ch, Ck, CM, CL, CS, CN, B4, Bc, BO, B1, c66, -getElem?_pos, hen, h8] | simp (disch := omega) only [AA] | (with_reducible first | exact AI | refine BT ?_ | intro _g _hg | refine A9 ?_ ?_ | intro _hc) | omega)
   refine LoopK.go (fun m st => ∃ (j : Nat), j + m = fs.length ∧ st = ⟨[(4, .ptr g 0), (11, aI j)], g + 1, upd H g (some (.cells 55 [aI k, .str t, .str nm, CG pa, Aq fs, .sl 7 eb .ro, .sl 7 ee .ro]))⟩ ∧ z8 = ID j (fs.drop j)) fs.length ⟨0, by omega, rfl, hz8.symm⟩ ?_
   rintro m st ⟨j, hjm, rfl, hE⟩ J hJ
   clear hz8 hen
   by_cases hj : j < fs.length
   ·obtain ⟨x, hx⟩ : ∃ x, fs[j]? = some x := ⟨_, List.getElem?_eq_getElem hj⟩
    have hx2 := Px hx
    have hj' : (j : Int) < fs.length := by omega
    rw [drop_at hx, ID] at hE
    have hk3 := HO x.1
    have hfk := Ro x.1
    have hin := A5r x.2 0 200
    obtain ⟨a, v⟩ := x
    simp only at hk3 hfk hin
    change z8 = if IA a = 0 then 5 else if (v < 0 ∨ 200 < v) ∨ IA a = 1 ∧ v ≠ 0 then 4 else if 0 < j ∧ a = [106, 115, 111, 110] then 11 else ID (j + 1) (fs.drop (j + 1)) at hE
    generalize IA a = c at *
    by_cases hc0 : c = 0
    ·subst hc0
     simp only [if_true] at hE
     
     repeat' (first | simp -implicitDefEqProofs [Cj, Cc, Ch, Ck, CM, CL, CS, CN, B4, Bc, BO, B1, c66, -getElem?_pos, hx2, hj'] | simp (disch := omega) only [AA] | ((with_reducible refine A8 37 ?_); (refine' CallP.sf ?_ (hfk) ?_); (focus first | (with_reducible exact A0 _) | (simp [A5, A4, A1, A0]; done))) | ((with_reducible refine A8 104 ?_); (refine' CallP.sf ?_ (hin) ?_); (focus first | (with_reducible exact A0 _) | (simp [A5, A4, A1, A0]; done))) | (with_reducible first | exact AI | refine BT ?_ | intro _g _hg | refine A9 ?_ ?_ | intro _hc) | omega)
     all_goals (refine Ab ?_; rw [hE])
    ·rw [if_neg hc0] at hE
     by_cases hv : 0 ≤ v ∧ v ≤ 200
     ·have hvb : (decide (0 ≤ v) && decide (v ≤ 200)) = true := by simp [hv]
      rw [hvb] at hin
      by_cases hc1 : c = 1
      ·subst hc1
       by_cases v0 : v = 0
       ·subst v0
        rw [if_neg (by omega)] at hE
        by_cases hjn : 0 < j ∧ a = [106, 115, 111, 110]
        ·obtain ⟨j1, j2⟩ := hjn
         have j1' : (0 : Int) < j := by omega
         subst j2
         have hE : z8 = 11 := by rw [hE, if_pos ⟨j1, rfl⟩]
         
         repeat' (first | simp -implicitDefEqProofs [Cj, Cc, Ch, Ck, CM, CL, CS, CN, B4, Bc, BO, B1, c66, -getElem?_pos, hx2, hj', j1, j1'] | simp (disch := omega) only [AA] | ((with_reducible refine A8 37 ?_); (refine' CallP.sf ?_ (hfk) ?_); (focus first | (with_reducible exact A0 _) | (simp [A5, A4, A1, A0]; done))) | ((with_reducible refine A8 104 ?_); (refine' CallP.sf ?_ (hin) ?_); (focus first | (with_reducible exact A0 _) | (simp [A5, A4, A1, A0]; done))) | (with_reducible first | exact AI | refine BT ?_ | intro _g _hg | refine A9 ?_ ?_ | intro _hc) | omega)
         all_goals (refine Ab ?_; rw [hE])
        ·rw [if_neg hjn] at hE
         by_cases j2 : a = [106, 115, 111, 110]
         ·have j1 : ¬ 0 < j := fun h => hjn ⟨h, j2⟩
          have j1' : ¬ (0 : Int) < j := by omega
          have j0 : j = 0 := by omega
          subst j2
          subst j0
          have hz1 : (0 : Int) < fs.length := hj'
          have hz2 : ¬ fs = [] := fun e => by rw [e] at hj; simp at hj
          
          repeat' (first | simp -implicitDefEqProofs [Cj, Cc, Ch, Ck, CM, CL, CS, CN, B4, Bc, BO, B1, c66, -getElem?_pos, hx2, hj', hz1, hz2] | simp (disch := omega) only [AA] | ((with_reducible refine A8 37 ?_); (refine' CallP.sf ?_ (hfk) ?_); (focus first | (with_reducible exact A0 _) | (simp [A5, A4, A1, A0]; done))) | ((with_reducible refine A8 104 ?_); (refine' CallP.sf ?_ (hin) ?_); (focus first | (with_reducible exact A0 _) | (simp [A5, A4, A1, A0]; done))) | (with_reducible first | exact AI | refine BT ?_ | intro _g _hg | refine A9 ?_ ?_ | intro _hc) | omega)
          exact hJ (m - 1) _ (by omega) ⟨1, by omega, rfl, hE⟩
         ·
          repeat' (first | simp -implicitDefEqProofs [Cj, Cc, Ch, Ck, CM, CL, CS, CN, B4, Bc, BO, B1, c66, -getElem?_pos, hx2, hj', j2] | simp (disch := omega) only [AA] | ((with_reducible refine A8 37 ?_); (refine' CallP.sf ?_ (hfk) ?_); (focus first | (with_reducible exact A0 _) | (simp [A5, A4, A1, A0]; done))) | ((with_reducible refine A8 104 ?_); (refine' CallP.sf ?_ (hin) ?_); (focus first | (with_reducible exact A0 _) | (simp [A5, A4, A1, A0]; done))) | (with_reducible first | exact AI | refine BT ?_ | intro _g _hg | refine A9 ?_ ?_ | intro _hc) | omega)
          all_goals exact hJ (m - 1) _ (by omega) ⟨j + 1, by omega, rfl, hE⟩
       ·rw [if_pos (by omega)] at hE
        
        repeat' (first | simp -implicitDefEqProofs [Cj, Cc, Ch, Ck, CM, CL, CS, CN, B4, Bc, BO, B1, c66, -getElem?_pos, hx2, hj', v0] | simp (disch := omega) only [AA] | ((with_reducible refine A8 37 ?_); (refine' CallP.sf ?_ (hfk) ?_); (focus first | (with_reducible exact A0 _) | (simp [A5, A4, A1, A0]; done))) | ((with_reducible refine A8 104 ?_); (refine' CallP.sf ?_ (hin) ?_); (focus first | (with_reducible exact A0 _) | (simp [A5, A4, A1, A0]; done))) | (with_reducible first | exact AI | refine BT ?_ | intro _g _hg | refine A9 ?_ ?_ | intro _hc) | omega)
        all_goals (refine Ab ?_; rw [hE])
      ·have hc2 : c = 2 := by omega
       subst hc2
       rw [if_neg (by omega)] at hE
       by_cases hjn : 0 < j ∧ a = [106, 115, 111, 110]
       ·obtain ⟨j1, j2⟩ := hjn
        have j1' : (0 : Int) < j := by omega
        subst j2
        have hE : z8 = 11 := by rw [hE, if_pos ⟨j1, rfl⟩]
        
        repeat' (first | simp -implicitDefEqProofs [Cj, Cc, Ch, Ck, CM, CL, CS, CN, B4, Bc, BO, B1, c66, -getElem?_pos, hx2, hj', j1, j1'] | simp (disch := omega) only [AA] | ((with_reducible refine A8 37 ?_); (refine' CallP.sf ?_ (hfk) ?_); (focus first | (with_reducible exact A0 _) | (simp [A5, A4, A1, A0]; done))) | ((with_reducible refine A8 104 ?_); (refine' CallP.sf ?_ (hin) ?_); (focus first | (with_reducible exact A0 _) | (simp [A5, A4, A1, A0]; done))) | (with_reducible first | exact AI | refine BT ?_ | intro _g _hg | refine A9 ?_ ?_ | intro _hc) | omega)
        all_goals (refine Ab ?_; rw [hE])
       ·rw [if_neg hjn] at hE
        by_cases j2 : a = [106, 115, 111, 110]
        ·have j1 : ¬ 0 < j := fun h => hjn ⟨h, j2⟩
         have j1' : ¬ (0 : Int) < j := by omega
         have j0 : j = 0 := by omega
         subst j2
         subst j0
         have hz1 : (0 : Int) < fs.length := hj'
         have hz2 : ¬ fs = [] := fun e => by rw [e] at hj; simp at hj
         
         repeat' (first | simp -implicitDefEqProofs [Cj, Cc, Ch, Ck, CM, CL, CS, CN, B4, Bc, BO, B1, c66, -getElem?_pos, hx2, hj', hz1, hz2] | simp (disch := omega) only [AA] | ((with_reducible refine A8 37 ?_); (refine' CallP.sf ?_ (hfk) ?_); (focus first | (with_reducible exact A0 _) | (simp [A5, A4, A1, A0]; done))) | ((with_reducible refine A8 104 ?_); (refine' CallP.sf ?_ (hin) ?_); (focus first | (with_reducible exact A0 _) | (simp [A5, A4, A1, A0]; done))) | (with_reducible first | exact AI | refine BT ?_ | intro _g _hg | refine A9 ?_ ?_ | intro _hc) | omega)
         exact hJ (m - 1) _ (by omega) ⟨1, by omega, rfl, hE⟩
        ·
         repeat' (first | simp -implicitDefEqProofs [Cj, Cc, Ch, Ck, CM, CL, CS, CN, B4, Bc, BO, B1, c66, -getElem?_pos, hx2, hj', j2] | simp (disch := omega) only [AA] | ((with_reducible refine A8 37 ?_); (refine' CallP.sf ?_ (hfk) ?_); (focus first | (with_reducible exact A0 _) | (simp [A5, A4, A1, A0]; done))) | ((with_reducible refine A8 104 ?_); (refine' CallP.sf ?_ (hin) ?_); (focus first | (with_reducible exact A0 _) | (simp [A5, A4, A1, A0]; done))) | (with_reducible first | exact AI | refine BT ?_ | intro _g _hg | refine A9 ?_ ?_ | intro _hc) | omega)
         all_goals exact hJ (m - 1) _ (by omega) ⟨j + 1, by omega, rfl, hE⟩
     ·have hvb : (decide (0 ≤ v) && decide (v ≤ 200)) = false := by
       simp only [Bool.and_eq_false_iff, decide_eq_false_iff_not]; omega
      rw [hvb] at hin
      rw [if_pos (by omega)] at hE
      have hcb : ((c : Int) == 0) = false := by simpa using hc0
      
      repeat' (first | simp -implicitDefEqProofs [Cj, Cc, Ch, Ck, CM, CL, CS, CN, B4, Bc, BO, B1, c66, -getElem?_pos, hx2, hj', hc0, hcb] | simp (disch := omega) only [AA] | ((with_reducible refine A8 37 ?_); (refine' CallP.sf ?_ (hfk) ?_); (focus first | (with_reducible exact A0 _) | (simp [A5, A4, A1, A0]; done))) | ((with_reducible refine A8 104 ?_); (refine' CallP.sf ?_ (hin) ?_); (focus first | (with_reducible exact A0 _) | (simp [A5, A4, A1, A0]; done))) | (with_reducible first | exact AI | refine BT ?_ | intro _g _hg | refine A9 ?_ ?_ | intro _hc) | omega)
      all_goals (refine Ab ?_; rw [hE])
   ·have hj0 : j = fs.length := by omega
    subst hj0
    have hj' : ¬ (fs.length : Int) < fs.length := by omega
    rw [List.drop_length] at hE
    rw [hE]
    
    repeat' (first | simp -implicitDefEqProofs [Cj, Cc, Ch, Ck, CM, CL, CS, CN, B4, Bc, BO, B1, c66, -getElem?_pos, hj', ID] | simp (disch := omega) only [AA] | (with_reducible first | exact AI | refine BT ?_ | intro _g _hg | refine A9 ?_ ?_ | intro _hc) | omega)
    all_goals exact A1 _
 have fin9 : ∀ g en, n ≤ g → get en 4 = .ptr g 0 → get en 9 = aI k → get en 10 = .bool (k == 1) → aw Tryz.prog c66_k9 (Ga (aI M) n H c66.res) ⟨en, g + 1, upd H g (some (.cells 55 [aI k, .str t, .str nm, CG pa, Aq fs, .sl 7 eb .ro, .sl 7 ee .ro]))⟩ := by
  clear hF hz
  intro g en hg h4 h9 h10
  by_cases k4 : k = 4
  ·subst k4
   have e10 : get en 10 = .bool false := h10
   cases b1
   ·rw [if_pos (.inl ⟨rfl, rfl⟩)] at hM
    subst hM
    
    repeat' (first | simp -implicitDefEqProofs [c66, B4, -getElem?_pos, h4, h9, e10] | simp (disch := omega) only [AA] | ((with_reducible refine A8 105 ?_); (refine' CallP.sf ?_ (h1) ?_); (focus first | (with_reducible exact A0 _) | (simp [A5, A4, A1, A0]; done))) | ((with_reducible refine A8 106 ?_); (refine' CallP.sf ?_ (h2) ?_); (focus first | (with_reducible exact A0 _) | (simp [A5, A4, A1, A0]; done))) | (with_reducible first | exact AI | refine BT ?_ | intro _g _hg | refine A9 ?_ ?_ | intro _hc) | omega)
    all_goals exact A1 _
   ·cases b2
    ·rw [if_pos (.inr ⟨by decide, rfl⟩)] at hM
     subst hM
     
     repeat' (first | simp -implicitDefEqProofs [c66, B4, -getElem?_pos, h4, h9, e10] | simp (disch := omega) only [AA] | ((with_reducible refine A8 105 ?_); (refine' CallP.sf ?_ (h1) ?_); (focus first | (with_reducible exact A0 _) | (simp [A5, A4, A1, A0]; done))) | ((with_reducible refine A8 106 ?_); (refine' CallP.sf ?_ (h2) ?_); (focus first | (with_reducible exact A0 _) | (simp [A5, A4, A1, A0]; done))) | (with_reducible first | exact AI | refine BT ?_ | intro _g _hg | refine A9 ?_ ?_ | intro _hc) | omega)
     all_goals exact A1 _
    ·rw [if_neg (by simp)] at hM
     subst hM
     
     repeat' (first | simp -implicitDefEqProofs [c66, B4, -getElem?_pos, h4, h9, e10] | simp (disch := omega) only [AA] | ((with_reducible refine A8 105 ?_); (refine' CallP.sf ?_ (h1) ?_); (focus first | (with_reducible exact A0 _) | (simp [A5, A4, A1, A0]; done))) | ((with_reducible refine A8 106 ?_); (refine' CallP.sf ?_ (h2) ?_); (focus first | (with_reducible exact A0 _) | (simp [A5, A4, A1, A0]; done))) | (with_reducible first | exact AI | refine BT ?_ | intro _g _hg | refine A9 ?_ ?_ | intro _hc) | omega)
     exact fin8 _ _ hg (by simp [get, h4])
  ·by_cases k1 : k = 1
   ·subst k1
    have e10 : get en 10 = .bool true := h10
    rw [if_neg (by simp)] at hM
    subst hM
    
    repeat' (first | simp -implicitDefEqProofs [c66, B4, -getElem?_pos, h4, h9, e10] | simp (disch := omega) only [AA] | ((with_reducible refine A8 105 ?_); (refine' CallP.sf ?_ (h1) ?_); (focus first | (with_reducible exact A0 _) | (simp [A5, A4, A1, A0]; done))) | ((with_reducible refine A8 106 ?_); (refine' CallP.sf ?_ (h2) ?_); (focus first | (with_reducible exact A0 _) | (simp [A5, A4, A1, A0]; done))) | (with_reducible first | exact AI | refine BT ?_ | intro _g _hg | refine A9 ?_ ?_ | intro _hc) | omega)
    exact fin8 _ _ hg (by simp [get, h4])
   ·have hkb : (k == 1) = false := by simpa using k1
    have e10 : get en 10 = .bool false := by rw [h10, hkb]
    cases b2
    ·rw [if_pos (.inr ⟨k1, rfl⟩)] at hM
     subst hM
     
     repeat' (first | simp -implicitDefEqProofs [c66, B4, -getElem?_pos, h4, h9, e10, k4] | simp (disch := omega) only [AA] | ((with_reducible refine A8 105 ?_); (refine' CallP.sf ?_ (h1) ?_); (focus first | (with_reducible exact A0 _) | (simp [A5, A4, A1, A0]; done))) | ((with_reducible refine A8 106 ?_); (refine' CallP.sf ?_ (h2) ?_); (focus first | (with_reducible exact A0 _) | (simp [A5, A4, A1, A0]; done))) | (with_reducible first | exact AI | refine BT ?_ | intro _g _hg | refine A9 ?_ ?_ | intro _hc) | omega)
     all_goals exact A1 _
    ·rw [if_neg (by simp [k4])] at hM
     subst hM
     
     repeat' (first | simp -implicitDefEqProofs [c66, B4, -getElem?_pos, h4, h9, e10, k4] | simp (disch := omega) only [AA] | ((with_reducible refine A8 105 ?_); (refine' CallP.sf ?_ (h1) ?_); (focus first | (with_reducible exact A0 _) | (simp [A5, A4, A1, A0]; done))) | ((with_reducible refine A8 106 ?_); (refine' CallP.sf ?_ (h2) ?_); (focus first | (with_reducible exact A0 _) | (simp [A5, A4, A1, A0]; done))) | (with_reducible first | exact AI | refine BT ?_ | intro _g _hg | refine A9 ?_ ?_ | intro _hc) | omega)
     exact fin8 _ _ hg (by simp [get, h4])
 clear fin8
 have fin10 : 1 ≤ k ∧ k ≤ 4 → ∀ g en, n ≤ g → get en 1 = aI pv → get en 4 = .ptr g 0 → get en 9 = aI k → aw Tryz.prog c66_k10 (Ga (aI (if ff = true then 6 else M)) n H c66.res) ⟨en, g + 1, upd H g (some (.cells 55 [aI k, .str t, .str nm, CG pa, Aq fs, .sl 7 eb .ro, .sl 7 ee .ro]))⟩ := by
  clear hz h1 h2 hM
  intro hk14 g en hg e1 h4 h9
  have hb : ff = (((((decide (k = 1) == decide (t = [])) || (decide (k = 1) && Bl pa)) || (decide (k ≠ 4) && decide (nm ≠ []))) || (decide (k ≠ 2) && Bl fs)) || (decide (k < 3) && (Bl eb || Bl ee)) || (decide (k = 1) && decide (pv = k))) := by
   rw [hF]
   unfold Ss
   by_cases k1 : k = 1
   ·subst k1
    generalize decide (t = []) = x1
    generalize decide (nm ≠ []) = x2
    generalize Bl pa = x3
    generalize Bl fs = x4
    generalize Bl eb = x5
    generalize Bl ee = x6
    generalize decide (pv = 1) = x7
    revert x1 x2 x3 x4 x5 x6 x7
    decide
   ·simp only [k1, decide_false, Bool.false_and, Bool.or_false]
  refine A0a k pv t nm pa fs eb ee g (g + 1) _ (AN _ _ _) en e1 h4 h9 _ ff hb (fun h e => ?_) (fun h e q1 q2 q3 => ?_)
  ·rw [if_pos h]
   exact ⟨⟨_, rfl, A1 _⟩, by simp only; omega, (SameB.rfl_ n H).upd hg _⟩
  ·rw [if_neg (by rw [h]; simp)]
   exact fin9 _ _ hg q1 q2 q3
 clear fin9
 have hin := A5r k 1 4
 by_cases g1 : (200 : Int) ≤ i
 ·rw [if_pos (by omega)] at hz
  subst hz
  repeat' (first | simp -implicitDefEqProofs [c66, B1, -getElem?_pos, g1] | simp (disch := omega) only [AA] | ((with_reducible refine A8 104 ?_); (refine' CallP.sf ?_ (hin) ?_); (focus first | (with_reducible exact A0 _) | (simp [A5, A4, A1, A0]; done))) | (with_reducible first | exact AI | refine BT ?_ | intro _g _hg | refine A9 ?_ ?_ | intro _hc) | omega)
  all_goals exact A1 _
 ·rw [if_neg (by omega)] at hz
  by_cases g2 : (16 : Int) < d
  ·rw [if_pos (by omega)] at hz
   subst hz
   repeat' (first | simp -implicitDefEqProofs [c66, B1, -getElem?_pos, g1, g2] | simp (disch := omega) only [AA] | ((with_reducible refine A8 104 ?_); (refine' CallP.sf ?_ (hin) ?_); (focus first | (with_reducible exact A0 _) | (simp [A5, A4, A1, A0]; done))) | (with_reducible first | exact AI | refine BT ?_ | intro _g _hg | refine A9 ?_ ?_ | intro _hc) | omega)
   all_goals exact A1 _
  ·rw [if_neg (by omega)] at hz
   by_cases g3 : k < 1 ∨ 4 < k
   ·rw [if_pos g3] at hz
    subst hz
    have hib : (decide (1 ≤ k) && decide (k ≤ 4)) = false := by
     simp only [Bool.and_eq_false_iff, decide_eq_false_iff_not]; omega
    rw [hib] at hin
    repeat' (first | simp -implicitDefEqProofs [c66, B1, BO, -getElem?_pos, g1, g2] | simp (disch := omega) only [AA] | ((with_reducible refine A8 104 ?_); (refine' CallP.sf ?_ (hin) ?_); (focus first | (with_reducible exact A0 _) | (simp [A5, A4, A1, A0]; done))) | (with_reducible first | exact AI | refine BT ?_ | intro _g _hg | refine A9 ?_ ?_ | intro _hc) | omega)
    all_goals exact A1 _
   ·rw [if_neg g3] at hz
    have hib : (decide (1 ≤ k) && decide (k ≤ 4)) = true := by
     simp only [Bool.and_eq_true, decide_eq_true_eq]; omega
    rw [hib] at hin
    subst hz
    repeat' (first | simp -implicitDefEqProofs [c66, B1, BO, -getElem?_pos, g1, g2] | simp (disch := omega) only [AA] | ((with_reducible refine A8 104 ?_); (refine' CallP.sf ?_ (hin) ?_); (focus first | (with_reducible exact A0 _) | (simp [A5, A4, A1, A0]; done))) | (with_reducible first | exact AI | refine BT ?_ | intro _g _hg | refine A9 ?_ ?_ | intro _hc) | omega)
    exact fin10 (by omega) _ _ (by assumption) rfl rfl rfl
def ZO (l : List Pt) (el : List AV) : Prop := ∀ (i d : Nat), i ≤ 200 → d ≤ 100 → APure Tryz.prog 32 [.sl 7 el .ro, aI i, aI d] (.tup [aI ((BU 0 i d l).1 : Nat), aI (BU 0 i d l).2])
theorem Ut (l : List Pt) (hl : l.length ≤ 2000000) (hs : FU l) (hp : ∀ x ∈ l, ZO x.b (AB x.b) ∧ ZO x.e (AB x.e)) : ZO l (AB l) := by
 intro i0 d hi0 hd
 have hel := B3 l
 obtain ⟨R, hR⟩ : ∃ R, BU 0 i0 d l = R := ⟨_, rfl⟩
 rw [hR]
 refine A6 Tryz.func32 A57 rfl fun n H hH => ?_
 repeat' (first | simp -implicitDefEqProofs [c32, -getElem?_pos, hel] | simp (disch := omega) only [AA] | (with_reducible first | exact AI | refine AQ ?_ | intro _g _hg | refine A9 ?_ ?_ | intro _hc) | omega)
 refine LoopK.go (fun m st => ∃ (i c : Nat), i + m = l.length ∧ st = ⟨[(0, Cr l), (1, aI c), (2, aI d), (8, aI (UL l i)), (9, aI i)], n, H⟩ ∧ c ≤ 200 ∧ BU (UL l i) c d (l.drop i) = R) l.length ⟨0, i0, by omega, rfl, hi0, hR⟩ ?_
 rintro m st ⟨i, c, him, rfl, hc, hE⟩ J hJ
 clear hR
 by_cases hi : i < l.length
 ·obtain ⟨x, hx⟩ : ∃ x, l[i]? = some x := ⟨_, List.getElem?_eq_getElem hi⟩
  have hx2 := GW hx
  have hi' : (i : Int) < l.length := by omega
  have hks := Sw hx
  rw [drop_at hx] at hE
  have hsx := D6 hs (List.mem_of_getElem? hx)
  obtain ⟨cb, ce⟩ := hp x (List.mem_of_getElem? hx)
  obtain ⟨k, t, nm, pa, fs, b, e⟩ := x
  simp only [Ph] at hsx
  obtain ⟨s1, s2, s3, s4, s5, s6, s7, s8, s9⟩ := hsx
  change ZO b (AB b) at cb
  change ZO e (AB e) at ce
  change UL l (i + 1) = k at hks
  have hpf := A24 (UL l i) c d k t nm pa fs b e s4 s3 s2 s5 s6 s7
  rw [B7] at hx2 hpf
  clear hx hp
  rw [BU, Gb] at hE
  generalize AB b = eb at *
  generalize AB e = ee at *
  generalize UL l i = pv at *
  by_cases hP : Gw pv c d k t nm pa fs b e = 0
  ·have hcd : c < 200 ∧ d ≤ 16 := by
    unfold Gw at hP
    by_cases h1 : 200 ≤ c
    ·rw [if_pos h1] at hP; cases hP
    ·by_cases h2 : 16 < d
     ·rw [if_neg h1, if_pos h2] at hP; cases hP
     ·omega
   obtain ⟨hc2, hd2⟩ := hcd
   simp only [hP, ne_eq, not_true, if_false] at hE
   rw [hP] at hpf
   have hB2 := Hr b 0 (c + 1) (d + 1) (by omega)
   have cb1 := cb (c + 1) (d + 1) (by omega) (by omega)
   generalize BU 0 (c + 1) (d + 1) b = B at *
   have hcc : ((c + 1 : Nat) : Int) = (c : Int) + 1 := by omega
   have hdd : ((d + 1 : Nat) : Int) = (d : Int) + 1 := by omega
   rw [hcc, hdd] at cb1
   by_cases hB0 : B.2 = 0
   ·have hB3 := hB2 hB0
    have hE2 := Hr e 0 B.1 (d + 1) (by omega)
    have ce1 := ce B.1 (d + 1) (by omega) (by omega)
    rw [hdd] at ce1
    rw [hB0] at cb1
    simp only [hB0, ne_eq, not_true, if_false] at hE
    generalize BU 0 B.1 (d + 1) e = E at *
    by_cases hE0 : E.2 = 0
    ·have hE3 := hE2 hE0
     simp only [hE0, ne_eq, not_true, if_false] at hE
     rw [hE0] at ce1
     
     repeat' (first | simp -implicitDefEqProofs [H7, HD, HL, HX, Hb, HB, HR, c32, -getElem?_pos, splice, hel, hx2, hi'] | simp (disch := omega) only [AA] | ((with_reducible refine A8 66 ?_); (refine' CallP.sf ?_ (hpf) ?_); (focus first | (with_reducible exact A0 _) | (simp [A5, A4, A1, A0]; done))) | ((with_reducible refine A8 32 ?_); (refine' CallP.sf ?_ (cb1) ?_); (focus first | (with_reducible exact A0 _) | (simp [A5, A4, A1, A0]; done))) | ((with_reducible refine A8 32 ?_); (refine' CallP.sf ?_ (ce1) ?_); (focus first | (with_reducible exact A0 _) | (simp [A5, A4, A1, A0]; done))) | (with_reducible first | exact AI | refine AQ ?_ | intro _g _hg | refine A9 ?_ ?_ | intro _hc) | omega)
     all_goals exact hJ (m - 1) _ (by omega) ⟨i + 1, E.1, by omega, by rw [hks]; rfl, by omega, by rw [hks]; exact hE⟩
    ·have eR : R = E := by rw [← hE, if_pos hE0]
     rw [eR]
     generalize E.2 = E2 at *
     clear hE eR hJ
     
     repeat' (first | simp -implicitDefEqProofs [H7, HD, HL, HX, Hb, HB, HR, c32, -getElem?_pos, splice, hel, hx2, hi', hE0] | simp (disch := omega) only [AA] | ((with_reducible refine A8 66 ?_); (refine' CallP.sf ?_ (hpf) ?_); (focus first | (with_reducible exact A0 _) | (simp [A5, A4, A1, A0]; done))) | ((with_reducible refine A8 32 ?_); (refine' CallP.sf ?_ (cb1) ?_); (focus first | (with_reducible exact A0 _) | (simp [A5, A4, A1, A0]; done))) | ((with_reducible refine A8 32 ?_); (refine' CallP.sf ?_ (ce1) ?_); (focus first | (with_reducible exact A0 _) | (simp [A5, A4, A1, A0]; done))) | (with_reducible first | exact AI | refine AQ ?_ | intro _g _hg | refine A9 ?_ ?_ | intro _hc) | omega)
     all_goals exact A1 _
   ·have eR : R = B := by rw [← hE]; simp only [hB0, ne_eq, not_false_eq_true, if_true]
    rw [eR]
    clear hE eR hJ hB2 ce
    generalize B.2 = B2 at *
    
    repeat' (first | simp -implicitDefEqProofs [H7, HD, HL, HX, Hb, HB, HR, c32, -getElem?_pos, splice, hel, hx2, hi', hB0] | simp (disch := omega) only [AA] | ((with_reducible refine A8 66 ?_); (refine' CallP.sf ?_ (hpf) ?_); (focus first | (with_reducible exact A0 _) | (simp [A5, A4, A1, A0]; done))) | ((with_reducible refine A8 32 ?_); (refine' CallP.sf ?_ (cb1) ?_); (focus first | (with_reducible exact A0 _) | (simp [A5, A4, A1, A0]; done))) | (with_reducible first | exact AI | refine AQ ?_ | intro _g _hg | refine A9 ?_ ?_ | intro _hc) | omega)
    all_goals exact A1 _
  ·have eR : R = (c, Gw pv c d k t nm pa fs b e) := by
    rw [← hE, if_pos hP, if_pos (by exact hP)]
   rw [eR]
   clear hE eR hJ cb ce
   generalize Gw pv c d k t nm pa fs b e = P at *
   
   repeat' (first | simp -implicitDefEqProofs [H7, HD, HL, HX, Hb, HB, HR, c32, -getElem?_pos, splice, hel, hx2, hi', hP] | simp (disch := omega) only [AA] | ((with_reducible refine A8 66 ?_); (refine' CallP.sf ?_ (hpf) ?_); (focus first | (with_reducible exact A0 _) | (simp [A5, A4, A1, A0]; done))) | (with_reducible first | exact AI | refine AQ ?_ | intro _g _hg | refine A9 ?_ ?_ | intro _hc) | omega)
   all_goals exact A1 _
 ·have hi0 : i = l.length := by omega
  subst hi0
  have hi' : ¬ (l.length : Int) < l.length := by omega
  rw [List.drop_length, BU] at hE
  subst hE
  clear hJ hp
  
  repeat' (first | simp -implicitDefEqProofs [H7, HD, HL, HX, Hb, HB, HR, c32, -getElem?_pos, splice, hel, hi'] | simp (disch := omega) only [AA] | (with_reducible first | exact AI | refine AQ ?_ | intro _g _hg | refine A9 ?_ ?_ | intro _hc) | omega)
  all_goals exact A1 _
theorem A5i (p : Pt) : Ph p → ZO p.b (AB p.b) ∧ ZO p.e (AB p.e) := by
 refine Pt.ind (Q := fun p => Ph p → ZO p.b (AB p.b) ∧ ZO p.e (AB p.e)) ?_ p
 intro k t nm pa fs b e hb he h
 simp only [Ph] at h
 obtain ⟨_, _, _, _, _, h6, h7, h8, h9⟩ := h
 exact ⟨Ut b h6 h8 fun x hx => hb x hx (D6 h8 hx), Ut e h7 h9 fun x hx => he x hx (D6 h9 hx)⟩
theorem A4o (l : List Pt) (hl : l.length ≤ 2000000) (hs : FU l) : ZO l (AB l) := Ut l hl hs fun x hx => A5i x (D6 hs hx)
end Go.Proofs.YtnfjgphfaemjcaaGreatDoor

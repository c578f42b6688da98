/- Streams: parts of streams are simplified where they lie; no condition. -/
import Derived.Test.YtjdccdelcnmocaaGreatDoorMgJ
import Derived.Test.YtjdccdelcnmocaaGreatDoorMdP
import Derived.Test.YtjdccdelcnmocaaGreatDoorMdO
set_option linter.all false
set_option linter.unusedSimpArgs false
set_option linter.unusedVariables false
set_option maxHeartbeats 8000000
namespace Go.Proofs.YtjdccdelcnmocaaGreatDoor
theorem Nv : ∀ {ys : List AV} {j : Nat} {y : AV}, (∀ y ∈ ys, y.cells.length = 5) → ys[j]? = some y → (Ae ys).take (j * 5) = Ae (ys.take j) ∧ (Ae ys).drop (j * 5) = y.cells ++ Ae (ys.drop (j + 1)) ∧ (Ae ys).length = ys.length * 5
 | [], _, _, _, h => by simp at h
 | z :: ys, 0, y, hu, h => by
  simp at h; subst h
  refine ⟨by simp [Ae], by simp [Ae], ?_⟩
  exact Fr hu
 | z :: ys, j + 1, y, hu, h => by
  obtain ⟨h1, h2, h3⟩ := Nv (ys := ys) (j := j) (fun y hy => hu y (List.mem_cons_of_mem _ hy)) (by simpa using h)
  have hz := hu z List.mem_cons_self
  have e : Ae (z :: ys) = z.cells ++ Ae ys := rfl
  have e2 : (j + 1) * 5 = z.cells.length + j * 5 := by rw [hz]; omega
  refine ⟨?_, ?_, Fr hu⟩
  ·rw [e, e2, List.take_length_add_append, h1]; rfl
  ·rw [e, e2, List.drop_length_add_append, h2]; rfl
theorem SE {ys : List AV} {j : Nat} {y : AV} (hu : ∀ y ∈ ys, y.cells.length = 5) (h : ys[j]? = some y) : part (Ae ys) (j * 5) (some 5) = some (.agg y.cells) := by
 obtain ⟨h1, h2, h3⟩ := Nv hu h
 have hj := (List.getElem?_eq_some_iff.1 h).1
 have hy := hu y (List.mem_of_getElem? h)
 simp only [part]
 rw [if_pos (by omega), h2, List.take_append_of_le_length (by omega), List.take_of_length_le (by omega)]
theorem P6 {ys : List AV} {j : Nat} {y z : AV} (hu : ∀ y ∈ ys, y.cells.length = 5) (h : ys[j]? = some y) (hz : z.cells.length = 5) : splice (Ae ys) (j * 5) z.cells = Ae (ys.set j z) := by
 obtain ⟨h1, h2, h3⟩ := Nv hu h
 have hj := (List.getElem?_eq_some_iff.1 h).1
 have hy := hu y (List.mem_of_getElem? h)
 unfold splice
 have e : (Ae ys).drop (j * 5 + z.cells.length) = Ae (ys.drop (j + 1)) := by
  rw [hz, ← List.drop_drop, h2, ← hy, List.drop_append_of_le_length (by omega), List.drop_of_length_le (by omega)]; rfl
 rw [h1, e, List.set_eq_take_append_cons_drop, if_pos hj]
 simp [Ae]
theorem H5 (s : St) : (encS s).cells.length = 5 := by obtain ⟨k, o, n, v, p⟩ := s; rw [A7]; rfl
theorem MtP.cells {H : A6} : ∀ {p : List St} {xs : List AV} {b : List Nat}, MtP H p xs b → ∀ x ∈ xs, x.cells.length = 5
 | [], _, _, h, x, hx => by simp only [MtP] at h; rw [h.1] at hx; simp at hx
 | s :: r, _, _, h, x, hx => by
  simp only [MtP] at h
  obtain ⟨y, xs', b, c, rfl, rfl, h1, h2⟩ := h
  rcases List.mem_cons.1 hx with rfl | hx
  ·obtain ⟨a1, a2, a3, a4, a5, rfl, _⟩ := h1.cells; rfl
  ·exact MtP.cells h2 x hx
theorem HX {m : Nat} {s t : St} (hm : An s ≤ m) (h : CG s = some t) (hlt : An t < An s) : ∃ m', An t ≤ m' ∧ Ie m s = Ie m' t := by
 obtain ⟨m', rfl⟩ : ∃ m', m = m' + 1 := ⟨m - 1, by have := Jb s; omega⟩
 exact ⟨m', by omega, by simp only [Ie, h]⟩
theorem PA {m : Nat} {s : St} (h : CG s = none) : Ie m s = s := by cases m with | zero => rfl | succ m => simp only [Ie, h]
theorem T9 {bs : List Nat} {H : A6} {a : Nat} {ob : AObj} (e : BM bs H a = some ob) : a ∉ bs ∧ H a = some ob := by
 induction bs with
 | nil => exact ⟨by simp, e⟩
 | cons b bs ih =>
  rw [Hv] at e
  split at e
  ·cases e
  ·rename_i hne
   obtain ⟨h1, h2⟩ := ih e
   exact ⟨by simp [hne, h1], h2⟩
theorem Pn {bs : List Nat} {H : A6} {a : Nat} (h : a ∉ bs) : BM bs H a = H a := by
 induction bs with
 | nil => rfl
 | cons g gs ih =>
  simp only [List.mem_cons, not_or] at h
  rw [Hv, if_neg h.1, ih h.2]
theorem Uq {bs : List Nat} {H H' : A6} {n : Nat} (hz : ∀ a, n ≤ a → H a = none) (h : ∀ g, g < n → g ∉ bs → H' g = H g) : KeepM bs H H' := by
 intro a ob _ e
 obtain ⟨h1, h2⟩ := T9 e
 rw [Pn h1]
 by_cases ha : a < n
 ·rw [h a ha h1]; exact h2
 ·rw [hz a (by omega)] at h2; cases h2
def QC : St → Prop
 | .mk k o m v p => APure Tryz.prog 89 [encS (.mk k o m v p)] (.tup [encS ((Ea k o m p).getD (.mk k o m v p)), .bool (Ea k o m p).isSome]) ∧
  APure Tryz.prog 90 [encS (.mk k o m v p)] (.tup [encS ((Fm k o m p).getD (.mk k o m v p)), .bool (Fm k o m p).isSome]) ∧
  APure Tryz.prog 91 [encS (.mk k o m v p)] (.tup [encS ((HN k o m v p).getD (.mk k o m v p)), .bool (HN k o m v p).isSome])
theorem TJ : CV Tryz.prog 89 = true := by kernel_rfl
theorem Ts : CV Tryz.prog 90 = true := by kernel_rfl
theorem Uo : CV Tryz.prog 91 = true := by kernel_rfl
abbrev QU (s : St) (n : Nat) (H : A6) (bs : List Nat) : DP := fun r n' H' => r = encS (Fj s) ∧ ∀ g, g < n → g ∉ bs → H' g = H g
attribute [local simp] Nj Fe FS L6 N3 NE LZ Fg F3 Fq HO MF Nf MS MH NT O6 Md Of L5 Me M5 Nc LI M0 TE pe Nt OB NM MM M1 Nw LN Mb Lh Lc NY Mk Lx FX MB MD Nd Lg MO N1 ME MK NN Mf LY LR Ma Ol Mm MC N7 Lm M6 Mr Ly FH ND Fh NJ Mz NC NU Ms Oa NO OS Mx Ld Lw LL LQ L7 OM Ot ON Mg Mn N2 OA O5 Ln O8 MU F9 Oi OY Nu LF Mw Ng Nm Mt Nr Np Nb Oh On OO OK Mo Ny LK Nz Lk LD MJ NK NF M9 L9 Nn LH NW LJ Hv M3 List.mem_cons guardK E5 Er FR HV LU FT Fd FO Fi FD FC F5 FW Fc Lb O9 FZ NH LB Mu Mp ML OW FG OR No OF O4 Lt M2 Hj FY FP F6 Fb Oo N5 FI OJ FF NX F4 FB M7 Fa F8 Ll N0 Ml LW NZ La MZ Lp TF Ju K2 HG KF Jz KD EN Ge Gb Od Ga GX EM E3 Us Jt Jx Gd Jp Jv Dl DQ Bz Bk CH DL BL ev get put EV Ad Cw L8 MP LM Lo K7 OV EF part BO Gn OD GV isNil Ct DJ Dm DN DM Nq Lu MV Mh NV KE NS OQ Og LO Lj M4 N4 Lq OH Mj AV.fits AV.cells ones AV.one E7 CI E1 DI EQ EI MY Es FU CK CB CQ Ew FV Ax Bn VW HB Nx LT List.getElem?_cons_zero List.getElem?_cons_succ FJ FM F7 OI Mc MX Gk Oc OG MI Lv Mi Ok MW Lr Ls MA LX
theorem Sm {G : St → Prop} (hG : ∀ t t', G t → CG t = some t' → G t' ∧ An t' < An t) (hR : ∀ t, G t → QC t) (T s : St) (g1 g2 n n1 : Nat) (H Hb : A6) (bs : List Nat) (hs : G s) (hT : T = Ie (An s) s) (hg1 : n ≤ g1) (hg2 : g1 < g2) (hg3 : g2 < n1)
  (q1 : Hb g1 = some (.cells 25 (encS s).cells)) (q2 : Hb g2 = some (.cells 25 [.int .i64 0, .int .i64 0, .int .i64 0, .sl 0 [] .nil, .sl 0 [] .nil])) (hfr : ∀ g, g < n → g ∉ bs → Hb g = H g) (hz : ∀ a, n1 ≤ a → Hb a = none) :
  ∀ c, OP = .gh c → aw Tryz.prog c (fin (fun r n' H' => r = encS T ∧ ∀ g, g < n → g ∉ bs → H' g = H g) n [.cell 2 (some 5)]) ⟨[(1, .ptr g1 0), (2, .ptr g2 0)], n1, Hb⟩ := by
 intro c hc
 unfold OP at hc
 injection hc with hc
 subst hc
 generalize hQ : (fun (r : AV) (n' : Nat) (H' : A6) => r = encS T ∧ ∀ g, g < n → g ∉ bs → H' g = H g) = R
 
 repeat' (first | (simp -implicitDefEqProofs [-getElem?_pos]) | (simp (disch := omega) only [AH]) | (with_reducible first | refine A8 ?_ ?_ ?_ | exact AF | assumption | refine A4 ?_ | refine KM.of ?_ | refine AG ?_ | refine A2 ?_ | refine AA ?_ | refine A5 ?_ | refine AJ ?_ | refine AB ?_ | intro _g _hg | refine AE ?_ ?_ | intro _hc) | omega)
 refine LoopK.go (fun q st => ∃ (t : St) (b : Bool) (n' : Nat) (H' : A6), q = 2 * An t + (if b = true then 1 else 0) ∧ G t ∧ (b = true → ∃ m, An t ≤ m ∧ T = Ie m t) ∧ (b = false → T = t) ∧ st = ⟨[(1, .ptr g1 0), (2, .ptr g2 0), (5, .bool b)], n', H'⟩ ∧ n1 ≤ n' ∧
  H' g1 = some (.cells 25 (encS t).cells) ∧ (∀ a, a < n1 → a ≠ g1 → H' a = Hb a) ∧ ∀ a, n' ≤ a → H' a = none) (2 * An s + 1) ⟨s, true, n1, Hb, rfl, hs, fun _ => ⟨_, Nat.le_refl _, hT⟩, (fun h => by cases h), rfl, Nat.le_refl _, q1, fun _ _ _ => rfl, hz⟩ ?_
 rintro q st ⟨t, b, n2, H2, hq, hGt, hb1, hb0, rfl, hn2, u1, hfr2, hz2⟩ J hJ
 have u2 : H2 g2 = _ := (hfr2 g2 (by omega) (by omega)).trans q2
 cases b with
 | false =>
  have hTt := hb0 rfl
  subst hTt
  have htc := hR T hGt
  obtain ⟨k, o, m, v, p⟩ := T
  rw [A7] at *
  simp only [AV.cells] at u1
  subst hQ
  repeat' (first | (simp -implicitDefEqProofs [IA, -getElem?_pos, u1, u2, splice]) | (simp (disch := omega) only [AH]) | (with_reducible first | refine A8 ?_ ?_ ?_ | exact AF | assumption | refine A4 ?_ | refine KM.of ?_ | refine AG ?_ | refine A2 ?_ | refine AA ?_ | refine A5 ?_ | refine AJ ?_ | refine AB ?_ | intro _g _hg | refine AE ?_ ?_ | intro _hc) | omega)
  rw [Sz]
  refine .inl ?_
  have hng : g2 ≠ g1 := by omega
  repeat' (first | (simp -implicitDefEqProofs [-getElem?_pos, u1, u2, hng, splice]) | (simp (disch := omega) only [AH]) | (with_reducible first | refine A8 ?_ ?_ ?_ | exact AF | assumption | refine A4 ?_ | refine KM.of ?_ | refine AG ?_ | refine A2 ?_ | refine AA ?_ | refine A5 ?_ | refine AJ ?_ | refine AB ?_ | intro _g _hg | refine AE ?_ ?_ | intro _hc) | omega)
  refine ⟨.agg [aI k, aI o, aI m, .sl 1 (v.map aI) .ro, .sl 5 (AD p) .ro], n2, _, ⟨.agg [aI k, aI o, aI m, .sl 1 (v.map aI) .ro, .sl 5 (AD p) .ro], by simp [CB, CQ, Ew, BO, get, Ax, part], A1 _⟩, by omega, Nat.le_refl _, fun a ha => by simp (disch := omega) only [upd_ne]; exact hz2 a ha, SameB.rfl_ _ _, rfl, fun a ha hab => ?_⟩
  simp (disch := omega) only [upd_ne]
  exact (hfr2 a (by omega) (by omega)).trans (hfr a ha hab)
 | true =>
  obtain ⟨m0, hm0, hT0⟩ := hb1 rfl
  have htc := hR t hGt
  have hGn := hG t
  obtain ⟨k, o, m, v, p⟩ := t
  obtain ⟨c1, c2, c3⟩ := htc
  have hf : CG (.mk k o m v p) = match Ea k o m p with | some t => some t | none => match Fm k o m p with | some t => some t | none => HN k o m v p := rfl
  clear hR hG hb1 hb0
  generalize Ea k o m p = U at *
  generalize Fm k o m p = W at *
  generalize HN k o m v p = Z at *
  rw [A7] at u1 c1 c2 c3
  simp only [AV.cells] at u1
  cases U with
  | some t' =>
   obtain ⟨h1, h2⟩ := hGn t' hGt hf
   obtain ⟨m', h3, h4⟩ := HX hm0 hf h2
   simp only [Option.getD_some, Option.isSome_some] at c1
   obtain ⟨k', o', n', v', p'⟩ := t'
   rw [A7] at c1
   generalize hvp : v'.map aI = vp at *
   generalize hep : AD p' = ep at *
   repeat' (first | (simp -implicitDefEqProofs [IA, KU, -getElem?_pos, u1, u2, splice]) | (simp (disch := omega) only [AH]) | (with_reducible first | refine A8 ?_ ?_ ?_ | exact AF | assumption | refine A4 ?_ | refine KM.of ?_ | refine AG ?_ | refine A2 ?_ | refine AA ?_ | refine A5 ?_ | refine AJ ?_ | refine AB ?_ | intro _g _hg | refine AE ?_ ?_ | intro _hc) | omega)
   rename Nat => g26
   refine LoopK.round ?_
   repeat' (first | (simp -implicitDefEqProofs [DS, Dy, -getElem?_pos, u1, u2, C9 TJ, -BL, splice]) | (simp (disch := omega) only [AH]) | ((with_reducible refine ER 89 ?_); (refine' CallK.sfAt ?_ (c1.at_ _ _) ?_); (focus first | (with_reducible exact A0 _) | (simp [AK, AI, A1, A0]; done))) | (with_reducible first | refine A8 ?_ ?_ ?_ | exact AF | assumption | refine A4 ?_ | refine KM.of ?_ | refine AG ?_ | refine A2 ?_ | refine AA ?_ | refine A5 ?_ | refine AJ ?_ | refine AB ?_ | intro _g _hg | refine AE ?_ ?_ | intro _hc) | omega)
   exact hJ (2 * An (.mk k' o' n' v' p') + 1) _ (by omega) ⟨.mk k' o' n' v' p', true, _, _, rfl, h1, fun _ => ⟨m', h3, hT0.trans h4⟩, (fun h => by cases h), rfl, by omega, by rw [Ax, A7, hvp, hep]; rfl, fun a ha hne => by simp (disch := omega) only [upd_ne]; exact hfr2 a ha hne, fun a ha => by simp (disch := omega) only [upd_ne]; exact hz2 a (by omega)⟩
  | none =>
   simp only [Option.getD_none, Option.isSome_none] at c1
   rw [A7] at c1
   repeat' (first | (simp -implicitDefEqProofs [IA, KU, -getElem?_pos, u1, u2, splice]) | (simp (disch := omega) only [AH]) | (with_reducible first | refine A8 ?_ ?_ ?_ | exact AF | assumption | refine A4 ?_ | refine KM.of ?_ | refine AG ?_ | refine A2 ?_ | refine AA ?_ | refine A5 ?_ | refine AJ ?_ | refine AB ?_ | intro _g _hg | refine AE ?_ ?_ | intro _hc) | omega)
   rename Nat => g26
   refine LoopK.round ?_
   repeat' (first | (simp -implicitDefEqProofs [DS, Dy, IR, -getElem?_pos, u1, u2, C9 TJ, -BL, splice]) | (simp (disch := omega) only [AH]) | ((with_reducible refine ER 89 ?_); (refine' CallK.sfAt ?_ (c1.at_ _ _) ?_); (focus first | (with_reducible exact A0 _) | (simp [AK, AI, A1, A0]; done))) | (with_reducible first | refine A8 ?_ ?_ ?_ | exact AF | assumption | refine A4 ?_ | refine KM.of ?_ | refine AG ?_ | refine A2 ?_ | refine AA ?_ | refine A5 ?_ | refine AJ ?_ | refine AB ?_ | intro _g _hg | refine AE ?_ ?_ | intro _hc) | omega)
   rename Nat => g8
   cases W with
   | some t' =>
    obtain ⟨h1, h2⟩ := hGn t' hGt hf
    obtain ⟨m', h3, h4⟩ := HX hm0 hf h2
    simp only [Option.getD_some, Option.isSome_some] at c2
    obtain ⟨k', o', n', v', p'⟩ := t'
    rw [A7] at c2
    generalize hvp : v'.map aI = vp at *
    generalize hep : AD p' = ep at *
    refine LoopK.round ?_
    repeat' (first | (simp -implicitDefEqProofs [DS, Dy, -getElem?_pos, u1, u2, C9 Ts, -BL, splice]) | (simp (disch := omega) only [AH]) | ((with_reducible refine ER 90 ?_); (refine' CallK.sfAt ?_ (c2.at_ _ _) ?_); (focus first | (with_reducible exact A0 _) | (simp [AK, AI, A1, A0]; done))) | (with_reducible first | refine A8 ?_ ?_ ?_ | exact AF | assumption | refine A4 ?_ | refine KM.of ?_ | refine AG ?_ | refine A2 ?_ | refine AA ?_ | refine A5 ?_ | refine AJ ?_ | refine AB ?_ | intro _g _hg | refine AE ?_ ?_ | intro _hc) | omega)
    exact hJ (2 * An (.mk k' o' n' v' p') + 1) _ (by omega) ⟨.mk k' o' n' v' p', true, _, _, rfl, h1, fun _ => ⟨m', h3, hT0.trans h4⟩, (fun h => by cases h), rfl, by omega, by rw [Ax, A7, hvp, hep]; rfl, fun a ha hne => by simp (disch := omega) only [upd_ne]; exact hfr2 a ha hne, fun a ha => by simp (disch := omega) only [upd_ne]; exact hz2 a (by omega)⟩
   | none =>
    simp only [Option.getD_none, Option.isSome_none] at c2
    rw [A7] at c2
    refine LoopK.round ?_
    repeat' (first | (simp -implicitDefEqProofs [DS, Dy, IR, -getElem?_pos, u1, u2, C9 Ts, -BL, splice]) | (simp (disch := omega) only [AH]) | ((with_reducible refine ER 90 ?_); (refine' CallK.sfAt ?_ (c2.at_ _ _) ?_); (focus first | (with_reducible exact A0 _) | (simp [AK, AI, A1, A0]; done))) | (with_reducible first | refine A8 ?_ ?_ ?_ | exact AF | assumption | refine A4 ?_ | refine KM.of ?_ | refine AG ?_ | refine A2 ?_ | refine AA ?_ | refine A5 ?_ | refine AJ ?_ | refine AB ?_ | intro _g _hg | refine AE ?_ ?_ | intro _hc) | omega)
    rename Nat => g9
    cases Z with
    | some t' =>
     obtain ⟨h1, h2⟩ := hGn t' hGt hf
     obtain ⟨m', h3, h4⟩ := HX hm0 hf h2
     simp only [Option.getD_some, Option.isSome_some] at c3
     obtain ⟨k', o', n', v', p'⟩ := t'
     rw [A7] at c3
     generalize hvp : v'.map aI = vp at *
     generalize hep : AD p' = ep at *
     refine LoopK.round ?_
     repeat' (first | (simp -implicitDefEqProofs [DS, Dy, -getElem?_pos, u1, u2, C9 Uo, -BL, splice]) | (simp (disch := omega) only [AH]) | ((with_reducible refine ER 91 ?_); (refine' CallK.sfAt ?_ (c3.at_ _ _) ?_); (focus first | (with_reducible exact A0 _) | (simp [AK, AI, A1, A0]; done))) | (with_reducible first | refine A8 ?_ ?_ ?_ | exact AF | assumption | refine A4 ?_ | refine KM.of ?_ | refine AG ?_ | refine A2 ?_ | refine AA ?_ | refine A5 ?_ | refine AJ ?_ | refine AB ?_ | intro _g _hg | refine AE ?_ ?_ | intro _hc) | omega)
     exact hJ (2 * An (.mk k' o' n' v' p') + 1) _ (by omega) ⟨.mk k' o' n' v' p', true, _, _, rfl, h1, fun _ => ⟨m', h3, hT0.trans h4⟩, (fun h => by cases h), rfl, by omega, by rw [Ax, A7, hvp, hep]; rfl, fun a ha hne => by simp (disch := omega) only [upd_ne]; exact hfr2 a ha hne, fun a ha => by simp (disch := omega) only [upd_ne]; exact hz2 a (by omega)⟩
    | none =>
     have hTt := hT0.trans (PA hf)
     simp only [Option.getD_none, Option.isSome_none] at c3
     rw [A7] at c3
     refine LoopK.round ?_
     repeat' (first | (simp -implicitDefEqProofs [DS, Dy, IR, -getElem?_pos, u1, u2, C9 Uo, -BL, splice]) | (simp (disch := omega) only [AH]) | ((with_reducible refine ER 91 ?_); (refine' CallK.sfAt ?_ (c3.at_ _ _) ?_); (focus first | (with_reducible exact A0 _) | (simp [AK, AI, A1, A0]; done))) | (with_reducible first | refine A8 ?_ ?_ ?_ | exact AF | assumption | refine A4 ?_ | refine KM.of ?_ | refine AG ?_ | refine A2 ?_ | refine AA ?_ | refine A5 ?_ | refine AJ ?_ | refine AB ?_ | intro _g _hg | refine AE ?_ ?_ | intro _hc) | omega)
     rename Nat => g10
     refine LoopK.round ?_
     repeat' (first | (simp -implicitDefEqProofs [DS, -getElem?_pos, u1, u2, splice]) | (simp (disch := omega) only [AH]) | (with_reducible first | refine A8 ?_ ?_ ?_ | exact AF | assumption | refine A4 ?_ | refine KM.of ?_ | refine AG ?_ | refine A2 ?_ | refine AA ?_ | refine A5 ?_ | refine AJ ?_ | refine AB ?_ | intro _g _hg | refine AE ?_ ?_ | intro _hc) | omega)
     exact hJ (2 * An (.mk k o m v p)) _ (by rw [if_pos rfl] at hq; omega) ⟨.mk k o m v p, false, _, _, rfl, hGt, (fun h => by cases h), fun _ => hTt, rfl, by omega, by simp (disch := omega) only [upd_ne]; rw [u1, A7]; rfl, fun a ha hne => by simp (disch := omega) only [upd_ne]; exact hfr2 a ha hne, fun a ha => by simp (disch := omega) only [upd_ne]; exact hz2 a (by omega)⟩
theorem Xc : ∃ c, OP = .gh (.kp [1, 2] c) := ⟨_, rfl⟩
theorem Tb {P : Program} {c : ACode} {Q : AExit → AS → Prop} {e e0 : Ai} {n : Nat} {H : A6} (he : Cw e [1, 2] = Cw e0 [1, 2]) (h : aw P (.kp [1, 2] c) Q ⟨e0, n, H⟩) : aw P (.kp [1, 2] c) Q ⟨e, n, H⟩ := by
 rw [Fq] at h ⊢; rw [he]; exact h
theorem WR : Bj Tryz.prog 25 = 5 := by kernel_rfl
theorem U3 {p : List St} {xs : List AV} {j : Nat} {x : St} (hx : p[j]? = some x) (hl : xs.length = p.length) : (AD (CZ (p.take j)) ++ xs.drop j).set j (encS (Fj x)) = AD (CZ (p.take (j + 1))) ++ xs.drop (j + 1) := by
 have hj := (List.getElem?_eq_some_iff.1 hx).1
 have e1 : (AD (CZ (p.take j))).length = j := by rw [Ao, Cn]; simp; omega
 have e2 : p.take (j + 1) = p.take j ++ [x] := by rw [List.take_add_one, hx]; rfl
 rw [List.set_append_right _ _ (by omega), e1, Nat.sub_self, e2, Cn, Cn, List.map_append, JX, List.append_assoc]
 congr 1
 rw [List.drop_eq_getElem_cons (by omega), List.set_cons_zero]; rfl
theorem VD {G : St → Prop} (hG : ∀ t t', G t → CG t = some t' → G t' ∧ An t' < An t) (hR : ∀ t, G t → QC t) (hPp : ∀ k o n v p, G (.mk k o n v p) → ∀ x ∈ p, G x) (hPf : ∀ k o n v p, G (.mk k o n v p) → G (.mk k o n v (CZ p))) (hPl : ∀ k o n v p, G (.mk k o n v p) → p.length ≤ 1000) (s : St) :
  G s → ∀ (n : Nat) (H : A6) (x : AV) (bs : List Nat), MtS H s x bs → bs.Nodup → (∀ g ∈ bs, g < n) → ACalls Tryz.prog 65 [x] n H (QU s n H bs) := by
 refine St.ind (Q := fun s => G s → ∀ (n : Nat) (H : A6) (x : AV) (bs : List Nat), MtS H s x bs → bs.Nodup → (∀ g ∈ bs, g < n) → ACalls Tryz.prog 65 [x] n H (QU s n H bs)) ?_ s
 intro k o m v p ih hs n H x bs hM hnd hlt
 have hsf := hPf _ _ _ _ _ hs
 have hT : Fj (.mk k o m v p) = Ie (An (.mk k o m v (CZ p))) (.mk k o m v (CZ p)) := rfl
 obtain ⟨ck, hck⟩ := Xc
 have hrg := fun g1 g2 n1 Hb a b c d e f g => Sm hG hR (Fj (.mk k o m v p)) (.mk k o m v (CZ p)) g1 g2 n n1 H Hb bs hsf hT a b c d e f g _ hck
 have hpl := hPl _ _ _ _ _ hs
 unfold QU
 generalize hRR : (fun (r : AV) (n' : Nat) (H' : A6) => r = encS (Fj (.mk k o m v p)) ∧ ∀ g, g < n → g ∉ bs → H' g = H g) = R at *
 rw [A7] at hrg
 simp only [AV.cells] at hrg
 simp only [MtS] at hM
 rcases hM with ⟨rfl, rfl, rfl⟩ | ⟨g, xs, bs', hp0, rfl, rfl, hHg, hP⟩
 ·unfold N6 at *
  generalize v.map aI = va at *
  refine Bi Tryz.func65 Vt rfl fun hs => ?_
  repeat' (first | (simp -implicitDefEqProofs [c65, -getElem?_pos, splice]) | (simp (disch := omega) only [AH]) | (with_reducible first | refine A8 ?_ ?_ ?_ | exact AF | assumption | refine A4 ?_ | refine KM.of ?_ | refine AG ?_ | refine A2 ?_ | refine AA ?_ | refine A5 ?_ | refine AJ ?_ | refine AB ?_ | intro _g _hg | refine AE ?_ ?_ | intro _hc) | omega)
  rename_i g1 hg1
  rename Nat => g2
  refine LoopK.round ?_
  repeat' (first | (simp -implicitDefEqProofs [Gw, -getElem?_pos]) | (simp (disch := omega) only [AH]) | (with_reducible first | refine A8 ?_ ?_ ?_ | exact AF | assumption | refine A4 ?_ | refine KM.of ?_ | refine AG ?_ | refine A2 ?_ | refine AA ?_ | refine A5 ?_ | refine AJ ?_ | refine AB ?_ | intro _g _hg | refine AE ?_ ?_ | intro _hc) | omega)
  rw [hck]
  refine .inl (Tb rfl (hrg g1 g2 _ _ (by omega) (by omega) (by omega) ?_ ?_ ?_ ?_))
  ·simp (disch := omega) only [upd_ne, Ax]; rfl
  ·simp (disch := omega) only [upd_ne, Ax]
  ·intro a ha _; simp (disch := omega) only [upd_ne]
  ·intro a ha; simp (disch := omega) only [upd_ne]; exact hs a (by omega)
 ·have hxl := hP.len
  have hg0 := hlt g List.mem_cons_self
  have hnd' := List.nodup_cons.1 hnd
  have hPc := hP.cells
  have ihp := fun x hx => ih x hx (hPp _ _ _ _ _ hs x hx)
  unfold N6 at *
  generalize v.map aI = va at *
  clear ih
  refine Bi Tryz.func65 Vt rfl fun hs => ?_
  repeat' (first | (simp -implicitDefEqProofs [c65, -getElem?_pos, splice]) | (simp (disch := omega) only [AH]) | (with_reducible first | refine A8 ?_ ?_ ?_ | exact AF | assumption | refine A4 ?_ | refine KM.of ?_ | refine AG ?_ | refine A2 ?_ | refine AA ?_ | refine A5 ?_ | refine AJ ?_ | refine AB ?_ | intro _g _hg | refine AE ?_ ?_ | intro _hc) | omega)
  rename_i g1 hg1
  rename Nat => g2
  refine LoopK.go (fun q st => ∃ (j n' : Nat) (H' : A6) (b c : List Nat), j + q = p.length ∧ st = ⟨[(1, .ptr g1 0), (2, .ptr g2 0), (11, .slg 5 g p.length), (12, aI p.length), (13, aI j)], n', H'⟩ ∧ bs' = b ++ c ∧
   H' g = some (.grow 25 (Ae (AD (CZ (p.take j)) ++ xs.drop j))) ∧ MtP H' (p.drop j) (xs.drop j) c ∧
   H' g1 = some (.cells 25 [aI k, aI o, aI m, .sl 1 va .ro, .slg 5 g p.length]) ∧ H' g2 = some (.cells 25 [.int .i64 0, .int .i64 0, .int .i64 0, .sl 0 [] .nil, .sl 0 [] .nil]) ∧
   (∀ a, a < n → a ∉ g :: bs' → H' a = H a) ∧ g2 + 1 ≤ n' ∧ ∀ a, n' ≤ a → H' a = none) p.length ⟨0, g2 + 1, _, [], bs', by omega, rfl, rfl, by simp (disch := omega) only [upd_ne]; rw [hHg]; rfl, hP.keep (fun a ha => by have := hlt a (List.mem_cons_of_mem _ ha); simp (disch := omega) only [upd_ne]), by simp (disch := omega) only [upd_ne, Ax], by simp (disch := omega) only [Ax], fun a ha _ => by simp (disch := omega) only [upd_ne], Nat.le_refl _, fun a ha => by simp (disch := omega) only [upd_ne]; exact hs a (by omega)⟩ ?_
  rintro q st ⟨j, n', H', b, c, hj, rfl, rfl, u0, hPj, u1, u2, hfr, hn', hv'⟩ J hJ
  by_cases hjl : j < p.length
  ·obtain ⟨x, hx⟩ : ∃ x, p[j]? = some x := ⟨_, List.getElem?_eq_getElem hjl⟩
   obtain ⟨y, hy⟩ : ∃ y, xs[j]? = some y := ⟨_, List.getElem?_eq_getElem (by omega)⟩
   have hjl' : (j : Int) < p.length := by omega
   rw [drop_at hx, drop_at hy] at hPj
   simp only [MtP] at hPj
   obtain ⟨y', xs', b1, c1, e1, rfl, hM1, hM2⟩ := hPj
   injection e1 with e1 e2; subst e1; subst e2
   have hyc := hPc y (List.mem_of_getElem? hy)
   have hlj : (AD (CZ (p.take j))).length = j := by rw [Ao, Cn]; simp; omega
   have hys : (AD (CZ (p.take j)) ++ xs.drop j)[j]? = some y := by rw [List.getElem?_append_right (by omega), hlj, Nat.sub_self, drop_at hy]; rfl
   have hyu : ∀ z ∈ AD (CZ (p.take j)) ++ xs.drop j, z.cells.length = 5 := fun z hz => by
    rcases List.mem_append.1 hz with hz | hz
    ·rw [E2] at hz; obtain ⟨w, _, rfl⟩ := List.mem_map.1 hz; exact H5 w
    ·exact hPc z (List.mem_of_mem_drop hz)
   have hpt := SE hyu hys
   have hsp := P6 hyu hys (H5 (Fj x))
   rw [U3 hx hxl] at hsp
   have ihx := ihp x (List.mem_of_getElem? hx)
   obtain ⟨k', o', m', v', p'⟩ := x
   obtain ⟨a5, rfl, ha5⟩ := hM1.form
   simp only [AV.cells] at hpt
   have hb1 : ∀ a ∈ b1, a < n ∧ a ≠ g := fun a ha => ⟨hlt a (by simp [ha]), fun e => by subst e; exact hnd'.1 (by simp [ha])⟩
   generalize hfl : Ae (AD (CZ (p.take j)) ++ xs.drop j) = fl at *
   have hfll : fl.length = p.length * 5 := by rw [← hfl, Fr hyu]; simp [hlj]; omega
   have hle5 : j * 5 + 5 ≤ fl.length := by omega
   have ht5 : List.take 5 (List.drop (j * 5) fl) = [aI k', aI o', aI m', N6 v', a5] := by
    simp only [part, if_pos hle5] at hpt; injection hpt with hpt; injection hpt
   have mk : ∀ (a : Nat) (K : A6), n ≤ a → BM (b1 ++ []) K a = K a := fun a K ha => Pn fun h => by have := hb1 a (by simpa using h); omega
   
   repeat' (first | (simp -implicitDefEqProofs [Gw, Ss, -getElem?_pos, u0, u1, u2, hjl', hle5, ht5, -List.append_nil, splice]) | (simp (disch := omega) only [AH]) | (with_reducible first | refine W3 b1 ?_ | refine A8 ?_ ?_ ?_ | exact AF | assumption | refine A4 ?_ | refine KM.of ?_ | refine AG ?_ | refine A2 ?_ | refine AA ?_ | refine A5 ?_ | refine AJ ?_ | refine AB ?_ | intro _g _hg | refine AE ?_ ?_ | intro _hc) | omega)
   ·exact ha5
   rename Nat => g4
   have mk1 := fun K => mk g1 K (by omega)
   have mk4 := fun K => mk g4 K (by omega)
   repeat' (first | (simp -implicitDefEqProofs [-getElem?_pos, u0, u1, u2, mk1, mk4, -List.append_nil, splice]) | (simp (disch := omega) only [AH]) | (with_reducible first | refine A8 ?_ ?_ ?_ | exact AF | assumption | refine A4 ?_ | refine KM.of ?_ | refine AG ?_ | refine A2 ?_ | refine AA ?_ | refine A5 ?_ | refine AJ ?_ | refine AB ?_ | intro _g _hg | refine AE ?_ ?_ | intro _hc) | omega)
   have hnb := List.nodup_append.1 (List.nodup_append.1 hnd'.2).2.1
   refine ⟨_, ihx _ _ _ b1 (hM1.keep fun a ha => by have := hb1 a ha; simp (disch := omega) only [upd_ne]) hnb.1 (fun a ha => by have := hb1 a ha; dsimp only; omega), ?_⟩
   rintro r n3 H3 hle3 hsup3 ⟨rfl, hfr3⟩
   dsimp only at hfr3 hle3
   refine KC.of (by rw [List.append_nil]; exact Uq (n := g4 + 1) (fun a ha => by simp (disch := omega) only [upd_ne]; exact hv' a (by omega)) hfr3) ?_
   have hfr4 : ∀ a, a < n' → a ∉ b1 → H3 a = H' a := fun a ha hab => by rw [hfr3 a (by omega) hab]; simp (disch := omega) only [upd_ne]
   have hout : ∀ a, n ≤ a → a ∉ b1 := fun a ha h => by have := hb1 a h; omega
   have w0 := (hfr4 g (by omega) (fun h => (hb1 g h).2 rfl)).trans u0
   have w1 := (hfr4 g1 (by omega) (hout g1 (by omega))).trans u1
   have w2 := (hfr4 g2 (by omega) (hout g2 (by omega))).trans u2
   obtain ⟨kx, ox, mx, vx, px, hfx⟩ : ∃ kx ox mx vx px, Fj (.mk k' o' m' v' p') = .mk kx ox mx vx px := by
    cases Fj (.mk k' o' m' v' p') with | mk a b c d e => exact ⟨_, _, _, _, _, rfl⟩
   rw [hfx, A7] at hsp
   rw [hfx, A7]
   simp only [AV.cells] at hsp
   clear hfr3 mk1 mk4 mk u0 u1 u2
   repeat' (first | (simp -implicitDefEqProofs [SY, -getElem?_pos, w0, w1, w2, hjl', hsp]) | (simp (disch := omega) only [AH]) | (with_reducible first | refine A8 ?_ ?_ ?_ | exact AF | assumption | refine A4 ?_ | refine KM.of ?_ | refine AG ?_ | refine A2 ?_ | refine AA ?_ | refine A5 ?_ | refine AJ ?_ | refine AB ?_ | intro _g _hg | refine AE ?_ ?_ | intro _hc) | omega)
   have hcc : ∀ a ∈ c1, a < n ∧ a ≠ g ∧ a ∉ b1 := fun a ha => ⟨hlt a (by simp [ha]), fun e => by subst e; exact hnd'.1 (by simp [ha]), fun h => hnb.2.2 a h a ha rfl⟩
   refine hJ (q - 1) _ (by omega) ⟨j + 1, _, _, b ++ b1, c1, by omega, rfl, by rw [List.append_assoc], Ax _ _ _, hM2.keep fun a ha => ?_, ?_, ?_, fun a ha hab => ?_, by omega, fun a ha => ?_⟩
   ·have h1 := hcc a ha
    rw [upd_ne h1.2.1]; exact hfr4 a (by omega) h1.2.2
   ·rw [upd_ne (by omega)]; exact w1
   ·rw [upd_ne (by omega)]; exact w2
   ·simp only [List.mem_cons, List.mem_append, not_or] at hab
    rw [upd_ne hab.1, hfr4 a (by omega) hab.2.2.1]
    exact hfr a ha (by simp [hab])
   ·rw [upd_ne (by omega)]; exact hsup3 a ha
  ·have hjl' : ¬ (j : Int) < p.length := by omega
   have hlp : (AD (CZ p)).length = p.length := by rw [Ao, Cn]; simp
   have e1 : p.take j = p := List.take_of_length_le (by omega)
   have e2 : xs.drop j = [] := List.drop_eq_nil_of_le (by omega)
   rw [e1, e2, List.append_nil] at u0
   
   repeat' (first | (simp -implicitDefEqProofs [Gw, -getElem?_pos, hjl']) | (simp (disch := omega) only [AH]) | (with_reducible first | refine A8 ?_ ?_ ?_ | exact AF | assumption | refine A4 ?_ | refine KM.of ?_ | refine AG ?_ | refine A2 ?_ | refine AA ?_ | refine A5 ?_ | refine AJ ?_ | refine AB ?_ | intro _g _hg | refine AE ?_ ?_ | intro _hc) | omega)
   rw [hck]
   refine .inr ⟨[g1], g, 25, 5, AD (CZ p), u0, WR, by decide, fun z hz => by rw [E2] at hz; obtain ⟨w, _, rfl⟩ := List.mem_map.1 hz; exact H5 w, Tb rfl (hrg g1 g2 n' (Py [g1] g 5 (AD (CZ p)) H') (by omega) (by omega) (by omega) ?_ ?_ ?_ ?_)⟩
   ·have : g1 ≠ g := by omega
    simp [Py, this, u1, WT, HK, FE, hlp]
   ·have h1 : g2 ≠ g := by omega
    have h2 : g2 ≠ g1 := by omega
    simp [Py, h1, h2, u2]
   ·intro a ha hab
    have h1 : a ≠ g := fun e => hab (by simp [e])
    have h2 : a ≠ g1 := by omega
    simp only [Py, h1, List.mem_singleton, h2, if_false]
    exact hfr a ha hab
   ·intro a ha
    have h1 : a ≠ g := by omega
    have h2 : a ≠ g1 := by omega
    simp only [Py, h1, List.mem_singleton, h2, if_false]
    exact hv' a ha
theorem P5 (k o m : Int) (v : List Int) (h : k = 1 ∨ k = 2) : APure Tryz.prog 89 [encS (.mk k o m v [])] (.tup [encS (.mk k o m v []), .bool false]) := by
 rw [A7]
 generalize v.map aI = va at *
 rcases h with rfl | rfl
 ·
  refine A3 Tryz.func89 DR rfl fun n H hH => ?_
  repeat' (first | (simp -implicitDefEqProofs [Az, B7, B4, B6, B0, B3, B5, c89, -getElem?_pos, splice, AD]) | (simp (disch := omega) only [AH]) | (with_reducible first | refine A8 ?_ ?_ ?_ | exact AF | refine SameB.upd ?_ ?_ _ | assumption | refine A4 ?_ | refine KM.of ?_ | refine AG ?_ | refine A2 ?_ | refine A5 ?_ | intro _g _hg | refine AE ?_ ?_ | intro _hc) | omega)
  all_goals exact A1 _
 ·
  refine A3 Tryz.func89 DR rfl fun n H hH => ?_
  repeat' (first | (simp -implicitDefEqProofs [Az, B7, B4, B6, B0, B3, B5, c89, -getElem?_pos, splice, AD]) | (simp (disch := omega) only [AH]) | (with_reducible first | refine A8 ?_ ?_ ?_ | exact AF | refine SameB.upd ?_ ?_ _ | assumption | refine A4 ?_ | refine KM.of ?_ | refine AG ?_ | refine A2 ?_ | refine A5 ?_ | intro _g _hg | refine AE ?_ ?_ | intro _hc) | omega)
  all_goals exact A1 _
theorem Tm {k o n : Int} {v : List Int} {p : List St} (h : NodeOk k o n v p) : 0 ≤ n ∧ n ≤ 9999 := by
 cases hn : EP k with
 | false => rw [h.non hn]; omega
 | true =>
  have h1 := h.num hn
  have h2 : 0 ≤ Jn k o := by unfold Jn; split <;> (try split) <;> omega
  have h3 : Jq k ≤ 9999 := by unfold Jq; split <;> (try split) <;> (try split) <;> omega
  omega
theorem Kl : ∀ (p : List St) (j : Nat), Bm (p.take j) ≤ Bm p
 | [], j => by simp
 | x :: r, 0 => by simp [Bm]
 | x :: r, j + 1 => by simp only [List.take_succ_cons, Bm]; have := Kl r j; omega
theorem VR (t : St) (hf : Cg t) (hok : Gz t) (hm : KR t) (hz : An t ≤ 60) : QC t := by
 obtain ⟨k, o, m, v, p⟩ := t
 have hN := Bl hok.1
 have hmr := Tm hN
 have hpl := Bq p
 simp only [An] at hz
 refine ⟨?_, ?_, ?_⟩
 ·cases p with
  | nil =>
   have hk : k = 1 ∨ k = 2 := by
    have h1 := hN.many; have h2 := hN.two; have h3 := hN.one
    simp at h1 h2 h3
    have := hN.k1; have := hN.k2
    omega
   exact P5 k o m v hk
  | cons x r => exact T5 k o m v x r fun hk => Uy x (CT hf.2.2 x List.mem_cons_self) (Cm hok.2 x List.mem_cons_self) (GB hm.2 x List.mem_cons_self) (by simp only [Bm] at hz; omega)
 ·match p, hok, hN, hpl with
  | [], _, _, _ => exact Id k o m v [] (by simp)
  | [.mk k' o' m' v' pp], hok, hN, _ =>
   exact Q3 k o m v k' o' m' v' pp (fun h => by subst h; have := hN.fn (by decide); omega) hmr (Tm (Bl hok.2.1.1))
  | x :: y :: r, _, _, _ =>
   have e : Fm k o m (x :: y :: r) = none := by cases x; rfl
   rw [e]; exact Id k o m v _ (by simp)
 ·unfold HN
  split
  ·rename_i hc
   obtain ⟨rfl, hc⟩ := hc
   simp only [Option.getD_some, Option.isSome_some]
   refine UU o m v p (by omega) (fun j => ?_) (fun x hx => ?_) hc
   ·rw [Ao]
    have h1 := (HT (p.take j)).1
    have h2 := Kl p j
    have h3 := Bq (Ay (p.take j))
    omega
   ·have h1 := Dn x hx
    obtain ⟨a, b, c, d, e⟩ := x
    have h2 := Bq e
    simp only [An] at h1
    show e.length ≤ 1000
    omega
  ·rename_i hc
   simp only [Option.getD_none, Option.isSome_none]
   exact Tr k o m v p (by omega) hc
theorem Jg : ∀ {a b : List St}, JM a → JM b → JM (a ++ b)
 | [], _, _, h => h
 | _ :: _, _, h, k => ⟨h.1, Jg h.2 k⟩
theorem L4 : ∀ {p : List St}, JM p → JM (Ay p)
 | [], _ => trivial
 | q :: r, h => by
  have e : Ay (q :: r) = (if q.k = 13 then q.p else [q]) ++ Ay r := rfl
  rw [e]
  split
  ·obtain ⟨k, o, n, v, p⟩ := q; exact Jg h.1.2.2 (L4 h.2)
  ·exact Jg (a := [q]) ⟨h.1, trivial⟩ (L4 h.2)
theorem TS {s t : St} (hs : Cg s) (hz : An s ≤ 60) (h : CG s = some t) : Cg t := by
 obtain ⟨k, o, n, v, p⟩ := s
 simp only [CG] at h
 split at h
 ·rename_i t' hu
  injection h with h; subst h
  unfold Ea at hu
  split at hu
  ·split at hu
   ·injection hu with hu; subst hu; exact hs.2.2.1
   ·cases hu
  ·cases hu
 ·split at h
  ·rename_i t' hu
   injection h with h; subst h
   unfold Fm at hu
   split at hu
   ·split at hu
    ·obtain ⟨j, hj, rfl⟩ := Option.map_eq_some_iff.1 hu
     exact hs.2.2.1
    ·cases hu
   ·cases hu
  ·unfold HN at h
   split at h
   ·injection h with h; subst h
    have h1 := (HT p).1
    have h2 := Bq (Ay p)
    simp only [An] at hz
    exact ⟨hs.1, by omega, L4 hs.2.2⟩
   ·cases h
def GoodS (s : St) : Prop := Cg s ∧ Gz s ∧ KR s ∧ An s ≤ 60
theorem GQ (t t' : St) (h : GoodS t) (e : CG t = some t') : GoodS t' ∧ An t' < An t := by
 obtain ⟨h1, h2, h3, h4⟩ := h
 obtain ⟨a, b, c⟩ := R5 h2 h3 e
 have := J8 e
 exact ⟨⟨TS h1 h4 e, a, b, by omega⟩, this⟩
theorem F0 (k o n : Int) (v : List Int) (p : List St) (h : GoodS (.mk k o n v p)) (x : St) (hx : x ∈ p) : GoodS x := by
 obtain ⟨h1, h2, h3, h4⟩ := h
 have := Dn x hx
 simp only [An] at h4
 exact ⟨CT h1.2.2 x hx, Cm h2.2 x hx, GB h3.2 x hx, by omega⟩
theorem R6 : ∀ (n : Nat) {s : St}, GoodS s → GoodS (Ie n s)
 | 0, _, h => h
 | n + 1, s, h => by
  simp only [Ie]
  split
  ·rename_i t e; exact R6 n (GQ s t h e).1
  ·exact h
theorem J3 (k o n : Int) (v : List Int) (p : List St) (h : GoodS (.mk k o n v p)) (ih : ∀ x ∈ p, GoodS x → GoodS (Fj x)) : GoodS (.mk k o n v (CZ p)) := by
 have hp := F0 k o n v p h
 obtain ⟨h1, h2, h3, h4⟩ := h
 obtain ⟨a, b, c⟩ := WB h2 h3
 have hl : (CZ p).length = p.length := by simp [Cn]
 have hf : ∀ r : List St, (∀ x ∈ r, x ∈ p) → JM (CZ r) := by
  intro r
  induction r with
  | nil => intro _; exact trivial
  | cons x r ihr => intro hs; exact ⟨(ih x (hs x List.mem_cons_self) (hp x (hs x List.mem_cons_self))).1, ihr fun y hy => hs y (List.mem_cons_of_mem _ hy)⟩
 exact ⟨⟨h1.1, by rw [hl]; exact h1.2.1, hf p fun x hx => hx⟩, a, b, by omega⟩
theorem JA (s : St) : GoodS s → GoodS (Fj s) := by
 refine St.ind (Q := fun s => GoodS s → GoodS (Fj s)) ?_ s
 intro k o n v p ih h
 exact R6 _ (J3 k o n v p h ih)
theorem Tj (s : St) : GoodS s → TA s := by
 refine St.ind (Q := fun s => GoodS s → TA s) ?_ s
 intro k o n v p ih h
 have hp := F0 k o n v p h
 obtain ⟨h1, h2, h3, h4⟩ := h
 have hN := Bl h2.1
 have hl := Bq p
 simp only [An] at h4
 have hv : v.length ≤ 1000000 := by
  by_cases k1 : k = 1
  ·subst k1
   have := h3.1
   simp only [Ah, C2, if_true] at this; omega
  ·by_cases k2 : k = 2
   ·rw [hN.rng k2]; omega
   ·rw [hN.nov k1 k2]; simp
 have hf : ∀ r : List St, (∀ x ∈ r, x ∈ p) → Vc r := by
  intro r
  induction r with
  | nil => intro _; exact trivial
  | cons x r ihr => intro hs; exact ⟨ih x (hs x List.mem_cons_self) (hp x (hs x List.mem_cons_self)), ihr fun y hy => hs y (List.mem_cons_of_mem _ hy)⟩
 exact ⟨hv, by omega, hf p fun x hx => hx⟩
def Vj (s : St) : St := if (GT s).1 = 0 then Fj s else .mk 0 0 0 [] []
theorem W8 (s : St) (hf : Cg s) : APure Tryz.prog 34 [encS s] (.tup [encS (Vj s), aF (GT s)]) := by
 have hv := Qe s hf
 have hok : (GT s).1 = 0 → GT s = (0, 0) ∧ GoodS s := fun h => by obtain ⟨a, b, c, d⟩ := RJ h; exact ⟨a, hf, b, c, d⟩
 have hcl := fun hs => Ux s (Tj s hs)
 have hfu := fun hs => VD GQ (fun t h => VR t h.1 h.2.1 h.2.2.1 h.2.2.2) F0 (fun k o n v p h => J3 k o n v p h fun x _ hx => JA x hx) (fun k o n v p h => by have := Bq p; have h4 := h.2.2.2; simp only [An] at h4; omega) s hs
 unfold Vj
 by_cases h0 : (GT s).1 = 0
 ·rw [if_pos h0]
  obtain ⟨h1, hg⟩ := hok h0
  have hfu := hfu hg
  have hcl := hcl hg
  rw [h1] at hv ⊢
  obtain ⟨k, o, m, v, p⟩ := s
  obtain ⟨k', o', m', v', p', hfx⟩ : ∃ k' o' m' v' p', Fj (.mk k o m v p) = .mk k' o' m' v' p' := by
   cases Fj (.mk k o m v p) with | mk a b c d e => exact ⟨_, _, _, _, _, rfl⟩
  rw [hfx, A7, A7]
  rw [A7] at hv hcl
  
  refine A3 Tryz.func34 Vx rfl fun n H hH => ?_
  repeat' (first | (simp -implicitDefEqProofs [KK, c34, -getElem?_pos, splice]) | (simp (disch := omega) only [AH]) | ((with_reducible refine Al 15 ?_); (refine' CallP.sf ?_ (hv) ?_); (focus first | (with_reducible exact A0 _) | (simp [AK, AI, A1, A0]; done))) | (with_reducible first | refine A8 ?_ ?_ ?_ | exact AF | assumption | refine A4 ?_ | refine KM.of ?_ | refine AG ?_ | refine A2 ?_ | refine A5 ?_ | intro _g _hg | refine AE ?_ ?_ | intro _hc) | omega)
  rename_i g1 hg1 g2 hg2 g3 hg3
  rename Nat => g4
  refine ⟨_, hcl _ _, ?_⟩
  rintro r n1 H1 hle hsup ⟨hs1, bs, m1, nd, rg⟩
  dsimp only at hle hs1 rg
  repeat' (first | (simp -implicitDefEqProofs [-getElem?_pos]) | (simp (disch := omega) only [AH]) | (with_reducible first | refine A8 ?_ ?_ ?_ | exact AF | assumption | refine A4 ?_ | refine KM.of ?_ | refine AG ?_ | refine A2 ?_ | refine A5 ?_ | intro _g _hg | refine AE ?_ ?_ | intro _hc) | omega)
  refine ⟨_, hfu _ _ r bs m1 nd (fun g hg => (rg g hg).2), ?_⟩
  rintro r2 n2 H2 hle2 hsup2 ⟨rfl, hfr⟩
  dsimp only at hle2 hfr
  rw [hfx, A7]
  have hb : ∀ a, a < g4 + 1 → H2 a = _ := fun a ha => (hfr a (by omega) (fun h => by have := rg a h; omega)).trans (hs1 a ha)
  have w2 := hb g2 (by omega)
  have w3 := hb g3 (by omega)
  simp (disch := omega) only [upd_ne, Ax] at w2 w3
  have hng : g2 ≠ g3 := by omega
  repeat' (first | (simp -implicitDefEqProofs [-getElem?_pos, w2, w3, hng, splice]) | (simp (disch := omega) only [AH]) | (with_reducible first | refine A8 ?_ ?_ ?_ | exact AF | assumption | refine A4 ?_ | refine KM.of ?_ | refine AG ?_ | refine A2 ?_ | refine A5 ?_ | intro _g _hg | refine AE ?_ ?_ | intro _hc) | omega)
  all_goals first | exact A1 _ | (intro a ha; simp (disch := omega) only [upd_ne]; rw [hb a (by omega)]; simp (disch := omega) only [upd_ne])
 ·rw [if_neg h0]
  clear hfu hcl hok
  generalize GT s = f at *
  obtain ⟨k, o, m, v, p⟩ := s
  rw [A7] at hv ⊢
  rw [A7]
  
  refine A3 Tryz.func34 Vx rfl fun n H hH => ?_
  repeat' (first | (simp -implicitDefEqProofs [KK, c34, -getElem?_pos, h0, splice]) | (simp (disch := omega) only [AH]) | ((with_reducible refine Al 15 ?_); (refine' CallP.sf ?_ (hv) ?_); (focus first | (with_reducible exact A0 _) | (simp [AK, AI, A1, A0]; done))) | (with_reducible first | refine A8 ?_ ?_ ?_ | exact AF | assumption | refine A4 ?_ | refine KM.of ?_ | refine AG ?_ | refine A2 ?_ | refine A5 ?_ | intro _g _hg | refine AE ?_ ?_ | intro _hc) | omega)
  all_goals first | (intro a ha; simp (disch := omega) only [upd_ne]; done) | exact DO (AC (CA (AC (A1 _) (AC (A1 _) (AC (A1 _) (AC CD (AC CD (A0 _))))))) (A0 _))
def NG (s : St) : Prop := GoodS s ∧ H6 s.p
theorem Uz (t t' : St) (h : NG t) (e : CG t = some t') : NG t' ∧ An t' < An t := ⟨⟨(GQ t t' h.1 e).1, Pw h.2 e⟩, (GQ t t' h.1 e).2⟩
theorem RS : ∀ r : List St, H6 (CZ r)
 | [] => trivial
 | q :: r => ⟨Vh q, RS r⟩
theorem Qp (hO : ∀ t, NG t → APure Tryz.prog 67 [encS t] (.tup [encS ((CG t).getD t), .bool (CG t).isSome])) (T s : St) (g2 g3 n n1 : Nat) (H Hb : A6) (hs : NG s) (hT : T = Ie (An s) s) (hg2 : n ≤ g2) (hg3 : g2 < g3) (hg4 : g3 < n1) (z : Nat) (t0 : Tok) (va : List AV)
  (k o m : Int) (v : List Int) (p : List St) (hsk : s = .mk k o m v p) (hva : v.map aI = va) (hsim : AI (.sl z (AD p) t0) (.sl 5 (AD p) .ro))
  (q3 : Hb g3 = some (.cells 25 [aI k, aI o, aI m, .sl 1 va .ro, .sl z (AD p) t0])) (q2 : Hb g2 = some (.cells 25 [.int .i64 0, .int .i64 0, .int .i64 0, .sl 0 [] .nil, .sl 0 [] .nil])) (hfr : SameB n H Hb) :
  aw Tryz.prog c35_k4 (K0 (encS T) n H [.cell 2 (some 5)]) ⟨[(2, .ptr g2 0), (3, .ptr g3 0)], n1, Hb⟩ := by
 
 repeat' (first | (simp -implicitDefEqProofs [S9, -getElem?_pos]) | (simp (disch := omega) only [AH]) | (with_reducible first | refine A8 ?_ ?_ ?_ | exact AF | assumption | refine A4 ?_ | refine KM.of ?_ | refine AG ?_ | refine A2 ?_ | refine AA ?_ | refine A5 ?_ | refine AJ ?_ | refine AB ?_ | intro _g _hg | refine AE ?_ ?_ | intro _hc) | omega)
 refine LoopK.go (fun q st => ∃ (t : St) (b : Bool) (n' : Nat) (H' : A6) (c : AV), q = 2 * An t + (if b = true then 1 else 0) ∧ NG t ∧ (b = true → ∃ m, An t ≤ m ∧ T = Ie m t) ∧ (b = false → T = t) ∧ st = ⟨[(2, .ptr g2 0), (3, .ptr g3 0), (5, .bool b)], n', H'⟩ ∧ n1 ≤ n' ∧
  (∃ a b c d e, H' g3 = some (.cells 25 [a, b, c, d, e]) ∧ AI (.agg [a, b, c, d, e]) (encS t)) ∧ (∀ a, a < n1 → a ≠ g3 → H' a = Hb a)) (2 * An s + 1) ⟨s, true, n1, Hb, .np, rfl, hs, fun _ => ⟨_, Nat.le_refl _, hT⟩, (fun h => by cases h), rfl, Nat.le_refl _, ⟨_, _, _, _, _, q3, by subst hsk; rw [A7, hva]; exact CA (AC (A1 _) (AC (A1 _) (AC (A1 _) (AC (A1 _) (AC hsim (A0 _))))))⟩, fun _ _ _ => rfl⟩ ?_
 rintro q st ⟨t, b, n2, H2, _, hq, hGt, hb1, hb0, rfl, hn2, ⟨a1, a2, a3, a4, a5, u3, hst⟩, hfr2⟩ J hJ
 have u2 : H2 g2 = _ := (hfr2 g2 (by omega) (by omega)).trans q2
 obtain ⟨o1, o2, o3, o4, o5⟩ : AV.one a1 = true ∧ AV.one a2 = true ∧ AV.one a3 = true ∧ AV.one a4 = true ∧ AV.one a5 = true := by
  obtain ⟨k, o, m, v, p⟩ := t
  rw [A7] at hst
  simp only [AI] at hst
  obtain ⟨l, e, hl⟩ := hst
  injection e with e
  subst e
  simp only [AK] at hl
  obtain ⟨x1, r1, e1, h1, x2, r2, rfl, h2, x3, r3, rfl, h3, x4, r4, rfl, h4, x5, r5, rfl, h5, rfl⟩ := hl
  simp only [List.cons.injEq, and_true] at e1
  obtain ⟨rfl, rfl, rfl, rfl, rfl⟩ := e1
  have e1 := GG h1; have e2 := GG h2; have e3 := GG h3; have e4 := GG h4; have e5 := GG h5
  simp only [AV.one] at e1 e2 e3 e4 e5
  exact ⟨e1.symm, e2.symm, e3.symm, e4.symm, e5.symm⟩
 cases b with
 | false =>
  have hTt := hb0 rfl
  subst hTt
  have hng : g2 ≠ g3 := by omega
  repeat' (first | (simp -implicitDefEqProofs [Kt, SL, -getElem?_pos, u2, u3, o1, o2, o3, o4, o5, hng, splice]) | (simp (disch := omega) only [AH]) | (with_reducible first | refine A8 ?_ ?_ ?_ | exact AF | assumption | refine A4 ?_ | refine KM.of ?_ | refine AG ?_ | refine A2 ?_ | refine AA ?_ | refine A5 ?_ | refine AJ ?_ | refine AB ?_ | intro _g _hg | refine AE ?_ ?_ | intro _hc) | omega)
  all_goals try first | exact o1 | exact o2 | exact o3 | exact o4 | exact o5 | exact hst
  all_goals (intro q hq; simp (disch := omega) only [upd_ne]; rw [hfr2 _ (by omega) (by omega)]; exact hfr _ (by omega))
 | true =>
  obtain ⟨m0, hm0, hT0⟩ := hb1 rfl
  have hc := hO t hGt
  obtain ⟨r, hr⟩ : ∃ r, r = (CG t).getD t := ⟨_, rfl⟩
  obtain ⟨b', hb'⟩ : ∃ b', b' = (CG t).isSome := ⟨_, rfl⟩
  rw [← hr, ← hb'] at hc
  obtain ⟨rk, ro, rm, rv, rp⟩ := r
  rw [A7] at hc
  repeat' (first | (simp -implicitDefEqProofs [Kt, Se, -getElem?_pos, u2, u3, o1, o2, o3, o4, o5, splice]) | (simp (disch := omega) only [AH]) | ((with_reducible refine Al 67 ?_); refine CallP.of hc (AC hst (A0 _)) ?_) | (with_reducible first | refine A8 ?_ ?_ ?_ | exact AF | assumption | refine A4 ?_ | refine KM.of ?_ | refine AG ?_ | refine A2 ?_ | refine AA ?_ | refine A5 ?_ | refine AJ ?_ | refine AB ?_ | intro _g _hg | refine AE ?_ ?_ | intro _hc) | omega)
  cases hf : CG t with
  | none =>
   rw [hf] at hr hb'
   simp only [Option.getD_none, Option.isSome_none] at hr hb'
   subst hr; subst hb'
   refine hJ (2 * An (.mk rk ro rm rv rp)) _ (by subst hq; simp) ⟨.mk rk ro rm rv rp, false, n2, _, .np, by simp, hGt, (fun h => by cases h), (fun _ => ?_), rfl, hn2, ⟨_, _, _, _, _, Ax _ _ _, by rw [A7]; exact A1 _⟩, fun a ha hne => by rw [upd_ne hne]; exact hfr2 a ha hne⟩
   rw [hT0, PA hf]
  | some t' =>
   rw [hf] at hr hb'
   simp only [Option.getD_some, Option.isSome_some] at hr hb'
   obtain ⟨hg', hz'⟩ := Uz t t' hGt hf
   subst hr; subst hb'
   refine hJ (2 * An (.mk rk ro rm rv rp) + 1) _ (by subst hq; simp; omega) ⟨.mk rk ro rm rv rp, true, n2, _, .np, by simp, hg', (fun _ => ?_), (fun h => by cases h), rfl, hn2, ⟨_, _, _, _, _, Ax _ _ _, by rw [A7]; exact A1 _⟩, fun a ha hne => by rw [upd_ne hne]; exact hfr2 a ha hne⟩
   obtain ⟨m', h1, h2⟩ := HX hm0 hf hz'
   exact ⟨m', h1, hT0.trans h2⟩
theorem Tv {p : List St} {j : Nat} {x : St} (h : p[j]? = some x) : AD (CZ (p.take (j + 1))) = AD (CZ (p.take j)) ++ [encS (Fj x)] := by
 have e : p.take (j + 1) = p.take j ++ [x] := by rw [List.take_add_one, h]; rfl
 rw [e, Cn, Cn, List.map_append, JX]; rfl
theorem WH {P : Program} {c : ACode} {Q : AExit → AS → Prop} {e e0 : Ai} {n : Nat} {H : A6} {l : List Nat} (he : Cw e l = Cw e0 l) (h : aw P (.kp l c) Q ⟨e0, n, H⟩) : aw P (.kp l c) Q ⟨e, n, H⟩ := by
 rw [Fq] at h ⊢; rw [he]; exact h
theorem U4 (hO : ∀ t, NG t → APure Tryz.prog 67 [encS t] (.tup [encS ((CG t).getD t), .bool (CG t).isSome])) (s : St) : GoodS s → APure Tryz.prog 35 [encS s] (encS (Fj s)) := by
 refine St.ind (Q := fun s => GoodS s → APure Tryz.prog 35 [encS s] (encS (Fj s))) ?_ s
 intro k o m v p ih hs
 have hsf : NG (.mk k o m v (CZ p)) := ⟨J3 k o m v p hs fun x _ hx => JA x hx, RS p⟩
 have hT : Fj (.mk k o m v p) = Ie (An (.mk k o m v (CZ p))) (.mk k o m v (CZ p)) := rfl
 have ihp := fun x hx => ih x hx (F0 _ _ _ _ _ hs x hx)
 have hpl : p.length ≤ 1000 := by have := Bq p; have h4 := hs.2.2.2; simp only [An] at h4; omega
 have hrr := fun g2 g3 n n1 H Hb z t0 va a b c d e f => Qp hO (Fj (.mk k o m v p)) (.mk k o m v (CZ p)) g2 g3 n n1 H Hb hsf hT a b c z t0 va k o m v (CZ p) rfl d e f
 clear ih
 have hpe := Ao p
 generalize encS (Fj (.mk k o m v p)) = R at *
 rw [A7]
 refine A3 Tryz.func35 XK rfl fun n H hH => ?_
 have _hb : True := trivial
 have _hO : Owns n H [] [⟨25, 5, .sl 0 [] .nil, []⟩] n H := (Owns.start hH).addNil _ _ _
 repeat' (first | (simp -implicitDefEqProofs [c35, -getElem?_pos, hpe, splice, _hb]) | (simp (disch := omega) only [AH]) | (with_reducible first | refine A8 ?_ ?_ ?_ | exact AF | refine SameB.upd ?_ ?_ _ | assumption | refine A2 ?_ | refine AA ?_) | ((with_reducible refine Ci (by assumption) (fun _g _hg _hO => ?_)); (have _hb := And.intro _hb _hO.boxF); dsimp only [Cr, C0, Co] at _hb) | ((with_reducible refine Cj (by assumption) (fun _g _hg _hO => ?_))) | ((with_reducible refine appKS.chk ?_); first | ((refine Owns.app (by assumption) (.inl rfl) (by first | (exact Owns.simL0 (by assumption)) | (exact Owns.simL1 (by assumption)) | (with_reducible exact A0 _) | assumption | (simp [AK, AI, A1, A0]; done)) ?_ ?_ (fun _x _n _H _hle _hO _hb => ?_)); rotate_left 2; dsimp only [Cr, C0, Co] at _hb) | ((refine Owns.app1 (by assumption) (.inl rfl) (by first | (exact Owns.simL0 (by assumption)) | (exact Owns.simL1 (by assumption)) | (with_reducible exact A0 _) | assumption | (simp [AK, AI, A1, A0]; done)) ?_ ?_ (fun _x _n _H _hle _hO _hb => ?_)); rotate_left 2; dsimp only [Cr, C0, Co] at _hb)) | (first | (with_reducible exact Owns.fit0 (by assumption)) | (with_reducible exact Owns.fit1 (by assumption))) | (with_reducible first | exact Owns.le (by assumption) | exact Owns.same (by assumption) | refine A4 ?_ | refine KM.of ?_ | refine AG ?_ | refine A2 ?_ | refine AA ?_ | refine A5 ?_ | refine AJ ?_ | refine AB ?_ | intro _g _hg | refine AE ?_ ?_ | intro _hc) | omega)
 rename_i g1 hg1 hO1 hb1 g2 hg2 hO2 hb2
 clear hb1 hb2
 obtain ⟨g3, hg3⟩ : ∃ g, g = _g := ⟨_, rfl⟩
 subst hg3
 have hgg : ∀ b ∈ [(g2, AObj.cells 25 [.int .i64 0, .int .i64 0, .int .i64 0, .sl 0 [] .nil, .sl 0 [] .nil]), (g1, AObj.cells 25 [aI k, aI o, aI m, .sl 1 (v.map aI) .ro, .sl 5 (AD p) .ro])], b.1 ≠ g3 := by
  intro b hb; simp only [List.mem_cons, List.not_mem_nil, or_false] at hb; rcases hb with rfl | rfl <;> dsimp only <;> omega
 have hg23 : n ≤ g2 ∧ g2 < g3 := by omega
 have _hO := Owns.set0 _hO hgg 25 [aI k, aI o, aI m, .sl 1 (v.map aI) .ro, .sl 0 [] .nil]
 refine LoopK.go (fun q st => ∃ (j z n' : Nat) (t : Tok) (H' : A6), j + q = p.length ∧ st = ⟨[(1, .ptr g1 0), (2, .ptr g2 0), (3, .ptr g3 0), (4, aI j)], n', H'⟩ ∧
  Owns n H [(g3, .cells 25 [aI k, aI o, aI m, .sl 1 (v.map aI) .ro, .sl z (AD (CZ (p.take j))) t]), (g2, .cells 25 [.int .i64 0, .int .i64 0, .int .i64 0, .sl 0 [] .nil, .sl 0 [] .nil]), (g1, .cells 25 [aI k, aI o, aI m, .sl 1 (v.map aI) .ro, .sl 5 (AD p) .ro])] [⟨25, 5, .sl z (AD (CZ (p.take j))) t, AD (CZ (p.take j))⟩] n' H') p.length ⟨0, 0, _, .nil, _, by omega, rfl, _hO⟩ ?_
 clear _hO _hb hO1 hO2
 rintro q st ⟨j, z, n1, t, H1, hj, rfl, _hO⟩ J hJ
 have _hb := Owns.boxF _hO
 dsimp only [Cr, C0, Co] at _hb
 have hle := _hO.le
 by_cases hjl : j < p.length
 ·obtain ⟨x, hx⟩ : ∃ x, p[j]? = some x := ⟨_, List.getElem?_eq_getElem hjl⟩
  have hxe := CP hx
  have hjl' : (j : Int) < p.length := by omega
  have hstep := Tv hx
  have hcx := ihp x (List.mem_of_getElem? hx)
  have hfl : (AD (CZ (p.take j))).length ≤ 999 := by rw [Ao, Cn]; simp; omega
  obtain ⟨k', o', m', v', p'⟩ := x
  obtain ⟨y, hy⟩ : ∃ y, y = Fj (.mk k' o' m' v' p') := ⟨_, rfl⟩
  rw [← hy] at hcx hstep
  obtain ⟨yk, yo, ym, yv, yp⟩ := y
  simp only [A7] at hcx hstep hxe
  generalize AD (CZ (p.take j)) = fj at *
  generalize v'.map aI = vb at *
  generalize AD p' = ep' at *
  generalize AD yp = eyp at *
  generalize yv.map aI = yvb at *
  
  repeat' (first | (simp -implicitDefEqProofs [Kw, Su, Sn, -getElem?_pos, hxe, hjl', hpe, splice, _hb]) | (simp (disch := omega) only [AH]) | ((with_reducible refine appKS.chk ?_); refine Owns.appV (by assumption) (A0 _) (by simp; omega) (by decide) (fun _z _t _n _H _hle _hO => ?_); have _hb := Owns.boxF _hO; dsimp only [Cr, C0, Co] at _hb) | ((with_reducible refine Al 35 ?_); (refine' CallP.sf ?_ (hcx) ?_); (focus first | (with_reducible exact A0 _) | (exact Owns.simC0 (by assumption)) | (exact Owns.simC1 (by assumption)) | (simp [AK, AI, A1, A0]; done))) | (with_reducible first | refine A8 ?_ ?_ ?_ | exact AF | refine SameB.upd ?_ ?_ _ | assumption | refine A2 ?_ | refine AA ?_) | ((with_reducible refine Ci (by first | assumption | (exact Owns.set0 (by assumption) (by simp <;> omega) _ _) | (exact Owns.set1 (by assumption) (by simp <;> omega) (by simp <;> omega) _ _)) (fun _g _hg _hO => ?_)); (have _hb := And.intro _hb _hO.boxF); dsimp only [Cr, C0, Co] at _hb) | ((with_reducible refine Cj (by first | assumption | (exact Owns.set0 (by assumption) (by simp <;> omega) _ _) | (exact Owns.set1 (by assumption) (by simp <;> omega) (by simp <;> omega) _ _)) (fun _g _hg _hO => ?_))) | (first | (with_reducible exact Owns.fit0 (by assumption)) | (with_reducible exact Owns.fit1 (by assumption))) | (with_reducible first | exact Owns.le (by assumption) | exact Owns.same (by assumption) | refine A4 ?_ | refine KM.of ?_ | refine AG ?_ | refine A2 ?_ | refine AA ?_ | refine A5 ?_ | refine AJ ?_ | refine AB ?_ | intro _g _hg | refine AE ?_ ?_ | intro _hc) | omega)
  all_goals exact hJ (q - 1) _ (by omega) ⟨j + 1, _, _, _, _, by omega, rfl, by rw [hstep]; exact Owns.set0 _hO hgg _ _⟩
 ·have hjl' : ¬ (j : Int) < p.length := by omega
  rw [List.take_of_length_le (by omega)] at *
  have hsim := _hO.sim0 (A0 _)
  have hfin := hrr g2 g3 n n1 H H1 z t _ hg23.1 hg23.2 _hb.1.2.1 rfl hsim (_hO.box _ List.mem_cons_self).1 (_hO.box _ (List.mem_cons_of_mem _ List.mem_cons_self)).1 _hO.same
  clear hrr; generalize AD (CZ p) = fp at *
  
  repeat' (first | (simp -implicitDefEqProofs [Kw, -getElem?_pos, hjl', hpe, splice, _hb]) | (simp (disch := omega) only [AH]) | (with_reducible first | refine A8 ?_ ?_ ?_ | exact AF | refine SameB.upd ?_ ?_ _ | assumption | refine A2 ?_ | refine AA ?_) | ((with_reducible refine Ci (by assumption) (fun _g _hg _hO => ?_)); (have _hb := And.intro _hb _hO.boxF); dsimp only [Cr, C0, Co] at _hb) | ((with_reducible refine Cj (by assumption) (fun _g _hg _hO => ?_))) | ((with_reducible refine appKS.chk ?_); first | ((refine Owns.app (by assumption) (.inl rfl) (by first | (exact Owns.simL0 (by assumption)) | (exact Owns.simL1 (by assumption)) | (with_reducible exact A0 _) | assumption | (simp [AK, AI, A1, A0]; done)) ?_ ?_ (fun _x _n _H _hle _hO _hb => ?_)); rotate_left 2; dsimp only [Cr, C0, Co] at _hb) | ((refine Owns.app1 (by assumption) (.inl rfl) (by first | (exact Owns.simL0 (by assumption)) | (exact Owns.simL1 (by assumption)) | (with_reducible exact A0 _) | assumption | (simp [AK, AI, A1, A0]; done)) ?_ ?_ (fun _x _n _H _hle _hO _hb => ?_)); rotate_left 2; dsimp only [Cr, C0, Co] at _hb)) | (first | (with_reducible exact Owns.fit0 (by assumption)) | (with_reducible exact Owns.fit1 (by assumption))) | (with_reducible first | exact Owns.le (by assumption) | exact Owns.same (by assumption) | refine A4 ?_ | refine KM.of ?_ | refine AG ?_ | refine A2 ?_ | refine AA ?_ | refine A5 ?_ | refine AJ ?_ | refine AB ?_ | intro _g _hg | refine AE ?_ ?_ | intro _hc) | omega)
  exact WH rfl hfin
theorem Uh (k o m : Int) (v : List Int) (x : St) (r : List St) (hb : k = 5 → APure Tryz.prog 17 [encS x] (aI (Ah x : Nat))) (hc : (k = 3 ∧ (o = 1 ∧ m = 0 ∨ o = 3 ∧ m = 1)) ∨ (k = 6 ∧ m = 0) ∨ (k = 12 ∧ m = 1) ∨ ((k = 13 ∨ k = 14) ∧ r = []) ∨ (k = 5 ∧ (Ah x : Int) < m)) : APure Tryz.prog 67 [encS (.mk k o m v (x :: r))] (.tup [encS x, .bool true]) := by
 have hel := Ao r
 have hr0 : r = [] → AD r = [] := fun h => by rw [h]; rfl
 generalize Ah x = b at *
 obtain ⟨k', o', m', v', p'⟩ := x
 rw [A7, AD]
 rw [A7] at *
 generalize AD r = er at *
 generalize AD p' = ep at *
 generalize v.map aI = va at *
 generalize v'.map aI = vb at *
 rcases hc with ⟨rfl, ⟨rfl, rfl⟩ | ⟨rfl, rfl⟩⟩ | ⟨rfl, rfl⟩ | ⟨rfl, rfl⟩ | ⟨rfl | rfl, hr⟩ | ⟨rfl, hm⟩
 ·
  refine A3 Tryz.func67 Ar rfl fun n H hH => ?_
  repeat' (first | (simp -implicitDefEqProofs [Ab, AY, AU, AW, AT, AX, AZ, Aa, Ac, AO, AP, AR, AQ, AN, AL, c67, -getElem?_pos, splice]) | (simp (disch := omega) only [AH]) | (with_reducible first | refine A8 ?_ ?_ ?_ | exact AF | refine SameB.upd ?_ ?_ _ | assumption | refine A4 ?_ | refine KM.of ?_ | refine AG ?_ | refine A2 ?_ | refine AA ?_ | refine A5 ?_ | refine AJ ?_ | refine AB ?_ | intro _g _hg | refine AE ?_ ?_ | intro _hc) | omega)
  all_goals exact A1 _
 ·
  refine A3 Tryz.func67 Ar rfl fun n H hH => ?_
  repeat' (first | (simp -implicitDefEqProofs [Ab, AY, AU, AW, AT, AX, AZ, Aa, Ac, AO, AP, AR, AQ, AN, AL, c67, -getElem?_pos, splice]) | (simp (disch := omega) only [AH]) | (with_reducible first | refine A8 ?_ ?_ ?_ | exact AF | refine SameB.upd ?_ ?_ _ | assumption | refine A4 ?_ | refine KM.of ?_ | refine AG ?_ | refine A2 ?_ | refine AA ?_ | refine A5 ?_ | refine AJ ?_ | refine AB ?_ | intro _g _hg | refine AE ?_ ?_ | intro _hc) | omega)
  all_goals exact A1 _
 ·
  refine A3 Tryz.func67 Ar rfl fun n H hH => ?_
  repeat' (first | (simp -implicitDefEqProofs [Ab, AY, AU, AW, AT, AX, AZ, Aa, Ac, AO, AP, AR, AQ, AN, AL, c67, -getElem?_pos, splice]) | (simp (disch := omega) only [AH]) | (with_reducible first | refine A8 ?_ ?_ ?_ | exact AF | refine SameB.upd ?_ ?_ _ | assumption | refine A4 ?_ | refine KM.of ?_ | refine AG ?_ | refine A2 ?_ | refine AA ?_ | refine A5 ?_ | refine AJ ?_ | refine AB ?_ | intro _g _hg | refine AE ?_ ?_ | intro _hc) | omega)
  all_goals exact A1 _
 ·
  refine A3 Tryz.func67 Ar rfl fun n H hH => ?_
  repeat' (first | (simp -implicitDefEqProofs [Ab, AY, AU, AW, AT, AX, AZ, Aa, Ac, AO, AP, AR, AQ, AN, AL, c67, -getElem?_pos, splice]) | (simp (disch := omega) only [AH]) | (with_reducible first | refine A8 ?_ ?_ ?_ | exact AF | refine SameB.upd ?_ ?_ _ | assumption | refine A4 ?_ | refine KM.of ?_ | refine AG ?_ | refine A2 ?_ | refine AA ?_ | refine A5 ?_ | refine AJ ?_ | refine AB ?_ | intro _g _hg | refine AE ?_ ?_ | intro _hc) | omega)
  all_goals exact A1 _
 ·have := hr0 hr; subst this
  
  refine A3 Tryz.func67 Ar rfl fun n H hH => ?_
  repeat' (first | (simp -implicitDefEqProofs [Ab, AY, AU, AW, AT, AX, AZ, Aa, Ac, AO, AP, AR, AQ, AN, AL, c67, -getElem?_pos, splice]) | (simp (disch := omega) only [AH]) | (with_reducible first | refine A8 ?_ ?_ ?_ | exact AF | refine SameB.upd ?_ ?_ _ | assumption | refine A4 ?_ | refine KM.of ?_ | refine AG ?_ | refine A2 ?_ | refine AA ?_ | refine A5 ?_ | refine AJ ?_ | refine AB ?_ | intro _g _hg | refine AE ?_ ?_ | intro _hc) | omega)
  all_goals exact A1 _
 ·have := hr0 hr; subst this
  
  refine A3 Tryz.func67 Ar rfl fun n H hH => ?_
  repeat' (first | (simp -implicitDefEqProofs [Ab, AY, AU, AW, AT, AX, AZ, Aa, Ac, AO, AP, AR, AQ, AN, AL, c67, -getElem?_pos, splice]) | (simp (disch := omega) only [AH]) | (with_reducible first | refine A8 ?_ ?_ ?_ | exact AF | refine SameB.upd ?_ ?_ _ | assumption | refine A4 ?_ | refine KM.of ?_ | refine AG ?_ | refine A2 ?_ | refine AA ?_ | refine A5 ?_ | refine AJ ?_ | refine AB ?_ | intro _g _hg | refine AE ?_ ?_ | intro _hc) | omega)
  all_goals exact A1 _
 ·have hb := hb rfl
  
  refine A3 Tryz.func67 Ar rfl fun n H hH => ?_
  repeat' (first | (simp -implicitDefEqProofs [Ab, AY, AU, AW, AT, AX, AZ, Aa, Ac, AO, AP, AR, AQ, AN, AL, c67, -getElem?_pos, hm, splice]) | (simp (disch := omega) only [AH]) | ((with_reducible refine Al 17 ?_); (refine' CallP.sf ?_ (hb) ?_); (focus first | (with_reducible exact A0 _) | (simp [AK, AI, A1, A0]; done))) | (with_reducible first | refine A8 ?_ ?_ ?_ | exact AF | refine SameB.upd ?_ ?_ _ | assumption | refine A4 ?_ | refine KM.of ?_ | refine AG ?_ | refine A2 ?_ | refine AA ?_ | refine A5 ?_ | refine AJ ?_ | refine AB ?_ | intro _g _hg | refine AE ?_ ?_ | intro _hc) | omega)
  all_goals exact A1 _
set_option maxRecDepth 20000 in
theorem QX (p : List St) (h2 : 2 ≤ p.length) (hl : p.length ≤ 1000) (hsz : ∀ j, (AD (Ay (p.take j))).length ≤ 1000) (hpp : ∀ x ∈ p, x.p.length ≤ 1000) : APure Tryz.prog 67 [encS (.mk 13 0 0 [] p)] (.tup [encS (.mk 13 0 0 [] (Ay p)), .bool (decide ((Ay p).length ≠ p.length))]) := by
 have hpe := Ao p
 have h2' : ¬ (p.length : Int) = 1 := by omega
 obtain ⟨x0, hx0⟩ : ∃ x, p[0]? = some x := ⟨_, List.getElem?_eq_getElem (by omega)⟩
 have hx1 := CP hx0
 obtain ⟨ka, oa, ma, va, pa⟩ := x0
 simp only [A7] at hx1
 clear hx0
 have h2'' : ((p.length : Int) == 1) = false := by simp; omega
 rw [A7, A7]
 simp only [List.map_nil]
 
 refine A3 Tryz.func67 Ar rfl fun n H hH => ?_
 have hO0 : Owns n H [] [⟨25, 5, .sl 0 [] .nil, []⟩] n H := (Owns.start hH).addNil _ _ _
 repeat' (first | (simp -implicitDefEqProofs [c67, AL, AZ, AX, -getElem?_pos, hpe, h2'', hx1, splice]) | (simp (disch := omega) only [AH]) | (with_reducible first | refine A8 ?_ ?_ ?_ | exact AF | assumption | refine A4 ?_ | refine KM.of ?_ | refine AG ?_ | refine A2 ?_ | refine AA ?_ | refine A5 ?_ | refine AJ ?_ | refine AB ?_ | intro _g _hg | refine AE ?_ ?_ | intro _hc) | omega)
 rename_i g1 hg1 g2 hg2
 obtain ⟨g3, hg3⟩ : ∃ g, g = _g := ⟨_, rfl⟩
 subst hg3
 have hO1 := Owns.addBox (Owns.addBox (Owns.addBox hO0 (g := g1) (by omega) 25 [aI 13, aI 0, aI 0, .sl 1 [] .ro, .sl 5 (AD p) .ro]) (g := g2) (by omega) 25 [.int .i64 0, .int .i64 0, .int .i64 0, .sl 0 [] .nil, .sl 0 [] .nil]) (g := g3) (by omega) 25 [.int .i64 0, .int .i64 0, .int .i64 0, .sl 0 [] .nil, .sl 0 [] .nil]
 have hgg : ∀ b ∈ [(g2, AObj.cells 25 [.int .i64 0, .int .i64 0, .int .i64 0, .sl 0 [] .nil, .sl 0 [] .nil]), (g1, AObj.cells 25 [aI 13, aI 0, aI 0, .sl 1 [] .ro, .sl 5 (AD p) .ro])], b.1 ≠ g3 := by
  intro b hb; simp only [List.mem_cons, List.not_mem_nil, or_false] at hb; rcases hb with rfl | rfl <;> dsimp only <;> omega
 have _hO := Owns.set0 hO1 hgg 25 [aI 13, aI 0, aI 0, .sl 0 [] .nil, .sl 0 [] .nil]
 refine LoopK.go (fun q st => ∃ (j z n' : Nat) (t : Tok) (H' : A6), j + q = p.length ∧ st = ⟨[(1, .ptr g1 0), (2, .ptr g2 0), (4, aI 13), (8, .ptr g3 0), (9, aI j)], n', H'⟩ ∧
  Owns n H [(g3, .cells 25 [aI 13, aI 0, aI 0, .sl 0 [] .nil, .sl z (AD (Ay (p.take j))) t]), (g2, .cells 25 [.int .i64 0, .int .i64 0, .int .i64 0, .sl 0 [] .nil, .sl 0 [] .nil]), (g1, .cells 25 [aI 13, aI 0, aI 0, .sl 1 [] .ro, .sl 5 (AD p) .ro])] [⟨25, 5, .sl z (AD (Ay (p.take j))) t, AD (Ay (p.take j))⟩] n' H') p.length ⟨0, 0, _, .nil, _, by omega, rfl, _hO⟩ ?_
 clear _hO hO1 hx1
 rintro q st ⟨j, z, n1, t, H1, hj, rfl, _hO⟩ J hJ
 have _hb := Owns.boxF _hO
 dsimp only [Cr, C0, Co] at _hb
 have hle := _hO.le
 by_cases hjl : j < p.length
 ·obtain ⟨x, hx⟩ : ∃ x, p[j]? = some x := ⟨_, List.getElem?_eq_getElem hjl⟩
  have hxe := CP hx
  have hjl' : (j : Int) < p.length := by omega
  have hxm := hpp x (List.mem_of_getElem? hx)
  have hstep := Ka hx
  have hs1 := hsz (j + 1)
  obtain ⟨k', o', m', v', p'⟩ := x
  have hxpl := Ao p'
  simp only [St.p] at hxm
  by_cases hk : k' = 13
  ·subst hk
   have hst : AD (Ay (p.take (j + 1))) = AD (Ay (p.take j)) ++ AD p' := hstep
   clear hstep
   rename AD (Ay (p.take (j + 1))) = AD (Ay (p.take j)) ++ AD p' => hstep
   rw [hstep] at hs1
   simp only [A7] at hxe
   generalize AD (Ay (p.take j)) = fj at *
   generalize AD p' = ep' at *
   generalize v'.map aI = vb at *
   repeat' (first | (simp -implicitDefEqProofs [AT, AW, AU, -getElem?_pos, hxe, hjl', hpe, splice, _hb]) | (simp (disch := omega) only [AH]) | ((with_reducible refine appKS.chk ?_); refine Owns.appV (by assumption) (A0 _) (by rw [List.length_append] at hs1; omega) (by decide) (fun _z _t _n _H _hle _hO => ?_); have _hb := Owns.boxF _hO; dsimp only [Cr, C0, Co] at _hb) | (with_reducible first | refine A8 ?_ ?_ ?_ | exact AF | refine SameB.upd ?_ ?_ _ | assumption | refine A2 ?_ | refine AA ?_) | ((with_reducible refine Ci (by assumption) (fun _g _hg _hO => ?_)); (have _hb := And.intro _hb _hO.boxF); dsimp only [Cr, C0, Co] at _hb) | ((with_reducible refine Cj (by assumption) (fun _g _hg _hO => ?_))) | (first | (with_reducible exact Owns.fit0 (by assumption)) | (with_reducible exact Owns.fit1 (by assumption))) | (with_reducible first | exact Owns.le (by assumption) | exact Owns.same (by assumption) | refine A4 ?_ | refine KM.of ?_ | refine AG ?_ | refine A2 ?_ | refine AA ?_ | refine A5 ?_ | refine AJ ?_ | refine AB ?_ | intro _g _hg | refine AE ?_ ?_ | intro _hc) | omega)
   all_goals exact hJ (q - 1) _ (by omega) ⟨j + 1, _, _, _, _, by omega, rfl, by rw [hstep]; exact Owns.set0 _hO hgg _ _⟩
  ·rw [if_neg (by exact hk)] at hstep
   rw [hstep] at hs1
   simp only [A7] at hxe hstep hs1
   generalize AD (Ay (p.take j)) = fj at *
   generalize AD p' = ep' at *
   generalize v'.map aI = vb at *
   repeat' (first | (simp -implicitDefEqProofs [AT, AW, AU, -getElem?_pos, hxe, hjl', hpe, hk, splice, _hb]) | (simp (disch := omega) only [AH]) | ((with_reducible refine appKS.chk ?_); refine Owns.appV (by assumption) (A0 _) (by simp at hs1 ⊢; omega) (by decide) (fun _z _t _n _H _hle _hO => ?_); have _hb := Owns.boxF _hO; dsimp only [Cr, C0, Co] at _hb) | (with_reducible first | refine A8 ?_ ?_ ?_ | exact AF | refine SameB.upd ?_ ?_ _ | assumption | refine A2 ?_ | refine AA ?_) | ((with_reducible refine Ci (by first | assumption | (exact Owns.set0 (by assumption) (by simp <;> omega) _ _) | (exact Owns.set1 (by assumption) (by simp <;> omega) (by simp <;> omega) _ _)) (fun _g _hg _hO => ?_)); (have _hb := And.intro _hb _hO.boxF); dsimp only [Cr, C0, Co] at _hb) | ((with_reducible refine Cj (by first | assumption | (exact Owns.set0 (by assumption) (by simp <;> omega) _ _) | (exact Owns.set1 (by assumption) (by simp <;> omega) (by simp <;> omega) _ _)) (fun _g _hg _hO => ?_))) | (first | (with_reducible exact Owns.fit0 (by assumption)) | (with_reducible exact Owns.fit1 (by assumption))) | (with_reducible first | exact Owns.le (by assumption) | exact Owns.same (by assumption) | refine A4 ?_ | refine KM.of ?_ | refine AG ?_ | refine A2 ?_ | refine AA ?_ | refine A5 ?_ | refine AJ ?_ | refine AB ?_ | intro _g _hg | refine AE ?_ ?_ | intro _hc) | omega)
   all_goals exact hJ (q - 1) _ (by omega) ⟨j + 1, _, _, _, _, by omega, rfl, by rw [hstep]; exact Owns.set0 _hO hgg _ _⟩
 ·have hjl' : ¬ (j : Int) < p.length := by omega
  rw [List.take_of_length_le (by omega)] at *
  have hsim := _hO.sim0 (A0 _)
  have hfp := Ao (Ay p)
  have hdec : (((Ay p).length : Int) != p.length) = !decide ((Ay p).length = p.length) := by by_cases h : (Ay p).length = p.length <;> simp [h] <;> omega
  generalize AD (Ay p) = fp at *
  repeat' (first | (simp -implicitDefEqProofs [AT, AY, -getElem?_pos, hjl', hpe, hfp, splice, _hb]) | (simp (disch := omega) only [AH]) | (with_reducible first | refine A8 ?_ ?_ ?_ | exact AF | refine SameB.upd ?_ ?_ _ | assumption | refine A2 ?_ | refine AA ?_) | ((with_reducible refine Ci (by assumption) (fun _g _hg _hO => ?_)); (have _hb := And.intro _hb _hO.boxF); dsimp only [Cr, C0, Co] at _hb) | ((with_reducible refine Cj (by assumption) (fun _g _hg _hO => ?_))) | ((with_reducible refine appKS.chk ?_); first | ((refine Owns.app (by assumption) (.inl rfl) (by first | (exact Owns.simL0 (by assumption)) | (exact Owns.simL1 (by assumption)) | (with_reducible exact A0 _) | assumption | (simp [AK, AI, A1, A0]; done)) ?_ ?_ (fun _x _n _H _hle _hO _hb => ?_)); rotate_left 2; dsimp only [Cr, C0, Co] at _hb) | ((refine Owns.app1 (by assumption) (.inl rfl) (by first | (exact Owns.simL0 (by assumption)) | (exact Owns.simL1 (by assumption)) | (with_reducible exact A0 _) | assumption | (simp [AK, AI, A1, A0]; done)) ?_ ?_ (fun _x _n _H _hle _hO _hb => ?_)); rotate_left 2; dsimp only [Cr, C0, Co] at _hb)) | (first | (with_reducible exact Owns.fit0 (by assumption)) | (with_reducible exact Owns.fit1 (by assumption))) | (with_reducible first | exact Owns.le (by assumption) | exact Owns.same (by assumption) | refine A4 ?_ | refine KM.of ?_ | refine AG ?_ | refine A2 ?_ | refine AA ?_ | refine A5 ?_ | refine AJ ?_ | refine AB ?_ | intro _g _hg | refine AE ?_ ?_ | intro _hc) | omega)
  rw [hdec]
  exact DO (AC (CA (AC (A1 _) (AC (A1 _) (AC (A1 _) (AC CD (AC hsim (A0 _))))))) (AC (A1 _) (A0 _)))
set_option maxRecDepth 20000 in
theorem So (k o m : Int) (v : List Int) (hk : k = 1 ∨ k = 2) : APure Tryz.prog 67 [encS (.mk k o m v [])] (.tup [encS (.mk k o m v []), .bool false]) := by
 rw [A7, AD]
 generalize v.map aI = va at *
 rcases hk with rfl | rfl
 ·
  refine A3 Tryz.func67 Ar rfl fun n H hH => ?_
  repeat' (first | (simp -implicitDefEqProofs [Ab, AY, AU, AW, AT, AX, AZ, Aa, Ac, AO, AP, AR, AQ, AN, AL, c67, -getElem?_pos, splice]) | (simp (disch := omega) only [AH]) | (with_reducible first | refine A8 ?_ ?_ ?_ | exact AF | refine SameB.upd ?_ ?_ _ | assumption | refine A4 ?_ | refine KM.of ?_ | refine AG ?_ | refine A2 ?_ | refine AA ?_ | refine A5 ?_ | refine AJ ?_ | refine AB ?_ | intro _g _hg | refine AE ?_ ?_ | intro _hc) | omega)
  all_goals exact A1 _
 ·
  refine A3 Tryz.func67 Ar rfl fun n H hH => ?_
  repeat' (first | (simp -implicitDefEqProofs [Ab, AY, AU, AW, AT, AX, AZ, Aa, Ac, AO, AP, AR, AQ, AN, AL, c67, -getElem?_pos, splice]) | (simp (disch := omega) only [AH]) | (with_reducible first | refine A8 ?_ ?_ ?_ | exact AF | refine SameB.upd ?_ ?_ _ | assumption | refine A4 ?_ | refine KM.of ?_ | refine AG ?_ | refine A2 ?_ | refine AA ?_ | refine A5 ?_ | refine AJ ?_ | refine AB ?_ | intro _g _hg | refine AE ?_ ?_ | intro _hc) | omega)
  all_goals exact A1 _
set_option maxRecDepth 20000 in
theorem Tc (k o m : Int) (v : List Int) (x y : St) (r : List St) (hk : k = 14 ∨ k = 15 ∨ k = 16) : APure Tryz.prog 67 [encS (.mk k o m v (x :: y :: r))] (.tup [encS (.mk k o m v (x :: y :: r)), .bool false]) := by
 obtain ⟨ka, oa, ma, va, pa⟩ := x
 have h2'' : (((AD r).length : Int) + 1 + 1 == 1) = false := by simp; omega
 rw [A7, AD, AD, A7]
 generalize AD r = er at *
 generalize encS y = ey at *
 generalize AD pa = epa at *
 generalize v.map aI = vb at *
 generalize va.map aI = vc at *
 rcases hk with rfl | rfl | rfl
 ·
  refine A3 Tryz.func67 Ar rfl fun n H hH => ?_
  repeat' (first | (simp -implicitDefEqProofs [Ab, AY, AU, AW, AT, AX, AZ, Aa, Ac, AO, AP, AR, AQ, AN, AL, c67, -getElem?_pos, h2'', splice]) | (simp (disch := omega) only [AH]) | (with_reducible first | refine A8 ?_ ?_ ?_ | exact AF | refine SameB.upd ?_ ?_ _ | assumption | refine A4 ?_ | refine KM.of ?_ | refine AG ?_ | refine A2 ?_ | refine AA ?_ | refine A5 ?_ | refine AJ ?_ | refine AB ?_ | intro _g _hg | refine AE ?_ ?_ | intro _hc) | omega)
  all_goals exact A1 _
 ·
  refine A3 Tryz.func67 Ar rfl fun n H hH => ?_
  repeat' (first | (simp -implicitDefEqProofs [Ab, AY, AU, AW, AT, AX, AZ, Aa, Ac, AO, AP, AR, AQ, AN, AL, c67, -getElem?_pos, h2'', splice]) | (simp (disch := omega) only [AH]) | (with_reducible first | refine A8 ?_ ?_ ?_ | exact AF | refine SameB.upd ?_ ?_ _ | assumption | refine A4 ?_ | refine KM.of ?_ | refine AG ?_ | refine A2 ?_ | refine AA ?_ | refine A5 ?_ | refine AJ ?_ | refine AB ?_ | intro _g _hg | refine AE ?_ ?_ | intro _hc) | omega)
  all_goals exact A1 _
 ·
  refine A3 Tryz.func67 Ar rfl fun n H hH => ?_
  repeat' (first | (simp -implicitDefEqProofs [Ab, AY, AU, AW, AT, AX, AZ, Aa, Ac, AO, AP, AR, AQ, AN, AL, c67, -getElem?_pos, h2'', splice]) | (simp (disch := omega) only [AH]) | (with_reducible first | refine A8 ?_ ?_ ?_ | exact AF | refine SameB.upd ?_ ?_ _ | assumption | refine A4 ?_ | refine KM.of ?_ | refine AG ?_ | refine A2 ?_ | refine AA ?_ | refine A5 ?_ | refine AJ ?_ | refine AB ?_ | intro _g _hg | refine AE ?_ ?_ | intro _hc) | omega)
  all_goals exact A1 _
set_option maxRecDepth 20000 in
theorem Sq (o n m : Int) (v : List Int) (pp : List St) : APure Tryz.prog 67 [encS (.mk 11 o n v [.mk 11 o m [] pp])] (.tup [encS (.mk 11 o 0 [] pp), .bool true]) := by
 rw [A7, A7, AD, AD, A7]
 simp only [List.map_nil]
 generalize AD pp = ep at *
 generalize v.map aI = vb at *
 
 refine A3 Tryz.func67 Ar rfl fun n H hH => ?_
 repeat' (first | (simp -implicitDefEqProofs [Ab, AY, AU, AW, AT, AX, AZ, Aa, Ac, AO, AP, AR, AQ, AN, AL, c67, -getElem?_pos, splice]) | (simp (disch := omega) only [AH]) | (with_reducible first | refine A8 ?_ ?_ ?_ | exact AF | refine SameB.upd ?_ ?_ _ | assumption | refine A4 ?_ | refine KM.of ?_ | refine AG ?_ | refine A2 ?_ | refine AA ?_ | refine A5 ?_ | refine AJ ?_ | refine AB ?_ | intro _g _hg | refine AE ?_ ?_ | intro _hc) | omega)
 all_goals first | exact A1 _ | exact DO (AC (CA (AC (A1 _) (AC (A1 _) (AC (A1 _) (AC CD (AC (A1 _) (A0 _))))))) (AC (A1 _) (A0 _)))
set_option maxRecDepth 20000 in
theorem SK (n m : Int) (v : List Int) (pp : List St) (hn : 0 ≤ n) (hm : 0 ≤ m) : APure Tryz.prog 67 [encS (.mk 4 1 n v [.mk 4 1 m [] pp])] (.tup [encS (.mk 4 1 (min n m) [] pp), .bool true]) := by
 by_cases h : m < n
 ·rw [Int.min_eq_right (by omega)]
  rw [A7, A7, AD, AD, A7]
  simp only [List.map_nil]
  generalize AD pp = ep at *
  generalize v.map aI = vb at *
  
  refine A3 Tryz.func67 Ar rfl fun n H hH => ?_
  repeat' (first | (simp -implicitDefEqProofs [Ab, AY, AU, AW, AT, AX, AZ, Aa, Ac, AO, AP, AR, AQ, AN, AL, c67, -getElem?_pos, h, hn, hm, splice]) | (simp (disch := omega) only [AH]) | (with_reducible first | refine A8 ?_ ?_ ?_ | exact AF | refine SameB.upd ?_ ?_ _ | assumption | refine A4 ?_ | refine KM.of ?_ | refine AG ?_ | refine A2 ?_ | refine AA ?_ | refine A5 ?_ | refine AJ ?_ | refine AB ?_ | intro _g _hg | refine AE ?_ ?_ | intro _hc) | omega)
  all_goals first | exact A1 _ | exact DO (AC (CA (AC (A1 _) (AC (A1 _) (AC (A1 _) (AC CD (AC (A1 _) (A0 _))))))) (AC (A1 _) (A0 _)))
 ·rw [Int.min_eq_left (by omega)]
  rw [A7, A7, AD, AD, A7]
  simp only [List.map_nil]
  generalize AD pp = ep at *
  generalize v.map aI = vb at *
  
  refine A3 Tryz.func67 Ar rfl fun n H hH => ?_
  repeat' (first | (simp -implicitDefEqProofs [Ab, AY, AU, AW, AT, AX, AZ, Aa, Ac, AO, AP, AR, AQ, AN, AL, c67, -getElem?_pos, h, hn, hm, splice]) | (simp (disch := omega) only [AH]) | (with_reducible first | refine A8 ?_ ?_ ?_ | exact AF | refine SameB.upd ?_ ?_ _ | assumption | refine A4 ?_ | refine KM.of ?_ | refine AG ?_ | refine A2 ?_ | refine AA ?_ | refine A5 ?_ | refine AJ ?_ | refine AB ?_ | intro _g _hg | refine AE ?_ ?_ | intro _hc) | omega)
  all_goals first | exact A1 _ | exact DO (AC (CA (AC (A1 _) (AC (A1 _) (AC (A1 _) (AC CD (AC (A1 _) (A0 _))))))) (AC (A1 _) (A0 _)))
set_option maxRecDepth 20000 in
theorem SV (n m : Int) (v : List Int) (pp : List St) (hn : 0 ≤ n) (hm : 0 ≤ m) : APure Tryz.prog 67 [encS (.mk 4 2 n v [.mk 4 2 m [] pp])] (.tup [encS (.mk 4 2 (max n m) [] pp), .bool true]) := by
 by_cases h : m < n
 ·rw [Int.max_eq_left (by omega)]
  rw [A7, A7, AD, AD, A7]
  simp only [List.map_nil]
  generalize AD pp = ep at *
  generalize v.map aI = vb at *
  
  refine A3 Tryz.func67 Ar rfl fun n H hH => ?_
  repeat' (first | (simp -implicitDefEqProofs [Ab, AY, AU, AW, AT, AX, AZ, Aa, Ac, AO, AP, AR, AQ, AN, AL, c67, -getElem?_pos, h, hn, hm, splice]) | (simp (disch := omega) only [AH]) | (with_reducible first | refine A8 ?_ ?_ ?_ | exact AF | refine SameB.upd ?_ ?_ _ | assumption | refine A4 ?_ | refine KM.of ?_ | refine AG ?_ | refine A2 ?_ | refine AA ?_ | refine A5 ?_ | refine AJ ?_ | refine AB ?_ | intro _g _hg | refine AE ?_ ?_ | intro _hc) | omega)
  all_goals first | exact A1 _ | exact DO (AC (CA (AC (A1 _) (AC (A1 _) (AC (A1 _) (AC CD (AC (A1 _) (A0 _))))))) (AC (A1 _) (A0 _)))
 ·rw [Int.max_eq_right (by omega)]
  rw [A7, A7, AD, AD, A7]
  simp only [List.map_nil]
  generalize AD pp = ep at *
  generalize v.map aI = vb at *
  
  refine A3 Tryz.func67 Ar rfl fun n H hH => ?_
  repeat' (first | (simp -implicitDefEqProofs [Ab, AY, AU, AW, AT, AX, AZ, Aa, Ac, AO, AP, AR, AQ, AN, AL, c67, -getElem?_pos, h, hn, hm, splice]) | (simp (disch := omega) only [AH]) | (with_reducible first | refine A8 ?_ ?_ ?_ | exact AF | refine SameB.upd ?_ ?_ _ | assumption | refine A4 ?_ | refine KM.of ?_ | refine AG ?_ | refine A2 ?_ | refine AA ?_ | refine A5 ?_ | refine AJ ?_ | refine AB ?_ | intro _g _hg | refine AE ?_ ?_ | intro _hc) | omega)
  all_goals first | exact A1 _ | exact DO (AC (CA (AC (A1 _) (AC (A1 _) (AC (A1 _) (AC CD (AC (A1 _) (A0 _))))))) (AC (A1 _) (A0 _)))
theorem Aj {k o m : AV} {z : Nat} {p : List AV} : AI (.tup [.agg [k, o, m, .sl 0 [] .nil, .sl z p .ro], .bool true]) (.tup [.agg [k, o, m, .sl 1 [] .ro, .sl z p .ro], .bool true]) :=
 DO (AC (CA (AC (A1 _) (AC (A1 _) (AC (A1 _) (AC CD (AC (A1 _) (A0 _))))))) (AC (A1 _) (A0 _)))
set_option maxRecDepth 20000 in
theorem Ti (o n m : Int) (v : List Int) (pp : List St) (ho : o = 1 ∧ n ≠ 0 ∨ o = 3 ∧ n ≠ 1 ∨ o = 4 ∨ o = 5) (hn : IX n) (hm : IX m) (h0 : 0 ≤ FL o n m) : APure Tryz.prog 67 [encS (.mk 3 o n v [.mk 3 o m [] pp])] (.tup [encS (.mk 3 o (FL o n m) [] pp), .bool true]) := by
 have hap := TP o n m (by omega) hn hm (by omega)
 generalize FL o n m = z at *
 simp only [A7, AD, List.map_nil]
 generalize AD pp = ep at *
 generalize v.map aI = vb at *
 have hz : (0 ≤ z) = True := eq_true h0
 clear hn hm
 rcases ho with ⟨rfl, ho⟩ | ⟨rfl, ho⟩ | rfl | rfl
 ·
  refine A3 Tryz.func67 Ar rfl fun n H hH => ?_
  repeat' (first | (simp -implicitDefEqProofs [Ab, AY, AU, AW, AT, AX, AZ, Aa, Ac, AO, AP, AR, AQ, AN, AL, c67, -getElem?_pos, ho, h0, hz, splice]) | (simp (disch := omega) only [AH]) | ((with_reducible refine Al 80 ?_); (refine' CallP.sf ?_ (hap) ?_); (focus first | (with_reducible exact A0 _) | (simp [AK, AI, A1, A0]; done))) | (with_reducible first | refine A8 ?_ ?_ ?_ | exact AF | refine SameB.upd ?_ ?_ _ | assumption | refine A4 ?_ | refine KM.of ?_ | refine AG ?_ | refine A2 ?_ | refine AA ?_ | refine A5 ?_ | refine AJ ?_ | refine AB ?_ | intro _g _hg | refine AE ?_ ?_ | intro _hc) | omega)
  all_goals first | exact A1 _ | exact Aj
 ·
  refine A3 Tryz.func67 Ar rfl fun n H hH => ?_
  repeat' (first | (simp -implicitDefEqProofs [Ab, AY, AU, AW, AT, AX, AZ, Aa, Ac, AO, AP, AR, AQ, AN, AL, c67, -getElem?_pos, ho, h0, hz, splice]) | (simp (disch := omega) only [AH]) | ((with_reducible refine Al 80 ?_); (refine' CallP.sf ?_ (hap) ?_); (focus first | (with_reducible exact A0 _) | (simp [AK, AI, A1, A0]; done))) | (with_reducible first | refine A8 ?_ ?_ ?_ | exact AF | refine SameB.upd ?_ ?_ _ | assumption | refine A4 ?_ | refine KM.of ?_ | refine AG ?_ | refine A2 ?_ | refine AA ?_ | refine A5 ?_ | refine AJ ?_ | refine AB ?_ | intro _g _hg | refine AE ?_ ?_ | intro _hc) | omega)
  all_goals first | exact A1 _ | exact Aj
 ·
  refine A3 Tryz.func67 Ar rfl fun n H hH => ?_
  repeat' (first | (simp -implicitDefEqProofs [Ab, AY, AU, AW, AT, AX, AZ, Aa, Ac, AO, AP, AR, AQ, AN, AL, c67, -getElem?_pos, h0, hz, splice]) | (simp (disch := omega) only [AH]) | ((with_reducible refine Al 80 ?_); (refine' CallP.sf ?_ (hap) ?_); (focus first | (with_reducible exact A0 _) | (simp [AK, AI, A1, A0]; done))) | (with_reducible first | refine A8 ?_ ?_ ?_ | exact AF | refine SameB.upd ?_ ?_ _ | assumption | refine A4 ?_ | refine KM.of ?_ | refine AG ?_ | refine A2 ?_ | refine AA ?_ | refine A5 ?_ | refine AJ ?_ | refine AB ?_ | intro _g _hg | refine AE ?_ ?_ | intro _hc) | omega)
  all_goals first | exact A1 _ | exact Aj
 ·
  refine A3 Tryz.func67 Ar rfl fun n H hH => ?_
  repeat' (first | (simp -implicitDefEqProofs [Ab, AY, AU, AW, AT, AX, AZ, Aa, Ac, AO, AP, AR, AQ, AN, AL, c67, -getElem?_pos, h0, hz, splice]) | (simp (disch := omega) only [AH]) | ((with_reducible refine Al 80 ?_); (refine' CallP.sf ?_ (hap) ?_); (focus first | (with_reducible exact A0 _) | (simp [AK, AI, A1, A0]; done))) | (with_reducible first | refine A8 ?_ ?_ ?_ | exact AF | refine SameB.upd ?_ ?_ _ | assumption | refine A4 ?_ | refine KM.of ?_ | refine AG ?_ | refine A2 ?_ | refine AA ?_ | refine A5 ?_ | refine AJ ?_ | refine AB ?_ | intro _g _hg | refine AE ?_ ?_ | intro _hc) | omega)
  all_goals first | exact A1 _ | exact Aj
set_option maxRecDepth 20000 in
theorem Ui (n m : Int) (v : List Int) (pp : List St) (b : Nat) (hb : APure Tryz.prog 17 [encS (.mk 5 0 m [] pp)] (aI b)) (hbn : ¬ (b : Int) < n) (hn : 0 ≤ n) (hm : 0 ≤ m) : APure Tryz.prog 67 [encS (.mk 5 0 n v [.mk 5 0 m [] pp])] (.tup [encS (.mk 5 0 (min n m) [] pp), .bool true]) := by
 simp only [A7, List.map_nil] at hb
 simp only [A7, AD, List.map_nil]
 generalize AD pp = ep at *
 generalize v.map aI = vb at *
 by_cases h : m < n
 ·rw [Int.min_eq_right (by omega)]
  
  refine A3 Tryz.func67 Ar rfl fun n H hH => ?_
  repeat' (first | (simp -implicitDefEqProofs [Ab, AY, AU, AW, AT, AX, AZ, Aa, Ac, AO, AP, AR, AQ, AN, AL, c67, -getElem?_pos, h, hn, hm, hbn, splice]) | (simp (disch := omega) only [AH]) | ((with_reducible refine Al 17 ?_); (refine' CallP.sf ?_ (hb) ?_); (focus first | (with_reducible exact A0 _) | (simp [AK, AI, A1, A0]; done))) | (with_reducible first | refine A8 ?_ ?_ ?_ | exact AF | refine SameB.upd ?_ ?_ _ | assumption | refine A4 ?_ | refine KM.of ?_ | refine AG ?_ | refine A2 ?_ | refine AA ?_ | refine A5 ?_ | refine AJ ?_ | refine AB ?_ | intro _g _hg | refine AE ?_ ?_ | intro _hc) | omega)
  all_goals first | exact A1 _ | exact Aj
 ·rw [Int.min_eq_left (by omega)]
  
  refine A3 Tryz.func67 Ar rfl fun n H hH => ?_
  repeat' (first | (simp -implicitDefEqProofs [Ab, AY, AU, AW, AT, AX, AZ, Aa, Ac, AO, AP, AR, AQ, AN, AL, c67, -getElem?_pos, h, hn, hm, hbn, splice]) | (simp (disch := omega) only [AH]) | ((with_reducible refine Al 17 ?_); (refine' CallP.sf ?_ (hb) ?_); (focus first | (with_reducible exact A0 _) | (simp [AK, AI, A1, A0]; done))) | (with_reducible first | refine A8 ?_ ?_ ?_ | exact AF | refine SameB.upd ?_ ?_ _ | assumption | refine A4 ?_ | refine KM.of ?_ | refine AG ?_ | refine A2 ?_ | refine AA ?_ | refine A5 ?_ | refine AJ ?_ | refine AB ?_ | intro _g _hg | refine AE ?_ ?_ | intro _hc) | omega)
  all_goals first | exact A1 _ | exact Aj
set_option maxRecDepth 20000 in
theorem TG (n m : Int) (v : List Int) (pp : List St) (hn : 1 ≤ n) (hm : 0 ≤ m) (hn1 : n ≤ 5000) (hm1 : m ≤ 5000) : APure Tryz.prog 67 [encS (.mk 6 0 n v [.mk 6 0 m [] pp])] (.tup [encS (.mk 6 0 (min (n + m) 5000) [] pp), .bool true]) := by
 have hn0 : (n == 0) = false := by simp; omega
 simp only [A7, AD, List.map_nil]
 generalize AD pp = ep at *
 generalize v.map aI = vb at *
 by_cases h : 5000 < n + m
 ·rw [Int.min_eq_right (by omega)]
  
  refine A3 Tryz.func67 Ar rfl fun n H hH => ?_
  repeat' (first | (simp -implicitDefEqProofs [Ab, AY, AU, AW, AT, AX, AZ, Aa, Ac, AO, AP, AR, AQ, AN, AL, c67, -getElem?_pos, h, hn0, splice]) | (simp (disch := omega) only [AH]) | (with_reducible first | refine A8 ?_ ?_ ?_ | exact AF | refine SameB.upd ?_ ?_ _ | assumption | refine A4 ?_ | refine KM.of ?_ | refine AG ?_ | refine A2 ?_ | refine AA ?_ | refine A5 ?_ | refine AJ ?_ | refine AB ?_ | intro _g _hg | refine AE ?_ ?_ | intro _hc) | omega)
  all_goals first | exact A1 _ | exact Aj
 ·rw [Int.min_eq_left (by omega)]
  have h2 : 0 ≤ n + m := by omega
  
  refine A3 Tryz.func67 Ar rfl fun n H hH => ?_
  repeat' (first | (simp -implicitDefEqProofs [Ab, AY, AU, AW, AT, AX, AZ, Aa, Ac, AO, AP, AR, AQ, AN, AL, c67, -getElem?_pos, h, h2, hn0, splice]) | (simp (disch := omega) only [AH]) | (with_reducible first | refine A8 ?_ ?_ ?_ | exact AF | refine SameB.upd ?_ ?_ _ | assumption | refine A4 ?_ | refine KM.of ?_ | refine AG ?_ | refine A2 ?_ | refine AA ?_ | refine A5 ?_ | refine AJ ?_ | refine AB ?_ | intro _g _hg | refine AE ?_ ?_ | intro _hc) | omega)
  all_goals first | exact A1 _ | exact Aj
end Go.Proofs.YtjdccdelcnmocaaGreatDoor

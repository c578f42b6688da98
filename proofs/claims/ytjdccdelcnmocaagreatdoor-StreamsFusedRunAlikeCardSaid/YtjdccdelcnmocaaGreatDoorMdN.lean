/- Streams: sources that repeat elements: the first round; no condition. -/
import Derived.Test.YtjdccdelcnmocaaGreatDoorMgJ
import Derived.Test.YtjdccdelcnmocaaGreatDoorMdM
set_option linter.all false
set_option linter.unusedSimpArgs false
set_option linter.unusedVariables false
set_option maxHeartbeats 2000000
namespace Go.Proofs.YtjdccdelcnmocaaGreatDoor
theorem A1q (xs : List Int) (fin : AZ) (m : Nat) : Eo xs fin m = HC xs fin m 0 := by
 cases m with
 | zero => simp [Eo, HC]
 | succ m => simp [Eo, HC]
attribute [local simp] Nt GX Gy PR NX Pd OR GG Gx I1 JS Qp Q2 PM RE QS Qq P7 RI Nb No Qt Np Qo QJ WK pe PO Pu Pe R3 QU RG Qh PB Oj Nj NF Nm Qz Gv Pp NY PV Ox NJ Pn OY QT Qy QR R9 PJ Ow Q9 Ot Pg PH O7 Pz NO RA GQ OV H7 OS Nd PG PT Ou Nk Og Qx RD Pf NZ RF PL PX R4 OZ Nc Qs NT Oh Pw P6 R6 Q5 NK Gr PA Q4 Qb OP NM P4 Qn P3 Oq OC PI OG Q8 Ni Nh Q3 Nr ON Qr P1 P5 Ov Nw QQ QO Pc NV PC Px R2 K6 OM List.mem_cons guardK FJ Fz Gu J5 O5 Gk Ge Gz Gj H8 GY GO GV H5 PD QM Gg PZ Oy OB O4 Nv QK GU P2 OQ Ql QP O9 R8 J0 Gq Gn Gm Gs RC Pr H6 Ns Gl Nq GS Gd NQ GL Gp Ok O6 Pa Na PK QD Q7 PU WJ MC MV JD MF MB MU Fe I3 I6 O0 Hz I4 Fd FD YP ME M8 I8 M9 MW El EL C6 Bo Cu EA AH ev get put Fa AN EK QA OI OA QC MH Od FW part BS IH RB Hx isNil Df EC Ep EG EE OW Oc NH OL Ng ML Pk PY Q6 Nf Qc Qv Of Ps OD Pi AV.fits AV.cells ones AV.one FF DC FI EF Fg FS Po Fk GZ Cz Br CH Er Gw AX Bq ZY J8 Oz PP List.getElem?_cons_zero List.getElem?_cons_succ Gc GJ Ga OE OX QB IB Qd Pj Qm Qf Pb QI QL Pq Nz Oa Nu
theorem RP {gO lo : Nat} {g1 g2 g3 g4 : Nat} {a b c : AObj} (cur : AZ) (O : Nat → Prop) (H0 : A3) (n0 : Nat) (noO : ¬ O gO) (hbel : ∀ g, O g → g < n0) (B1 : Bx O gO g1 H0 n0 (Bm 0)) (B2 : Bx O gO g2 H0 n0 a) (B3 : Bx O gO g3 H0 n0 b) (B4 : Bx O gO g4 H0 n0 c) :
  Raw false gO lo cur (.fn 138 [] [.ptr g1 0, .ptr g2 0, .ptr g3 0, .ptr g4 0]) [] cur (fun g => O g ∨ g = g1 ∨ g = g2 ∨ g = g3 ∨ g = g4) H0 n0 := by
 refine Raw.of fun n H gg cs hn hag hgg hgO hgv => ?_
 replace B1 := B1.to hn (hag g1 (.inr (.inl rfl)))
 have q1 := B1.at_
 have ng1 : gg ≠ g1 := fun h => hgg (.inr (.inl h))
 replace B2 := B2.to hn (hag g2 (.inr (.inr (.inl rfl))))
 have q2 := B2.at_
 have ng2 : gg ≠ g2 := fun h => hgg (.inr (.inr (.inl h)))
 replace B3 := B3.to hn (hag g3 (.inr (.inr (.inr (.inl rfl)))))
 have q3 := B3.at_
 have ng3 : gg ≠ g3 := fun h => hgg (.inr (.inr (.inr (.inl h))))
 replace B4 := B4.to hn (hag g4 (.inr (.inr (.inr (.inr rfl)))))
 have q4 := B4.at_
 have ng4 : gg ≠ g4 := fun h => hgg (.inr (.inr (.inr (.inr h))))
 have nog : ¬ O gg := fun h => hgg (.inl h)
 replace hbel : ∀ g, O g → g < n := fun g h => Nat.lt_of_lt_of_le (hbel g h) hn
 refine ⟨Gb, ?_⟩
 generalize hR : Cv _ _ _ _ _ _ _ _ _ _ _ = R
 refine A8 Tryz.func138 JW rfl fun hs => ?_
 repeat' (first | (simp -implicitDefEqProofs [CU, CP, CR, CQ, CX, CY, Ca, CL, c138, -getElem?_pos, q1, splice, -AH]) | (simp (disch := omega) only [AA]) | (with_reducible first | refine A6 ?_ ?_ ?_ | exact AC | assumption | refine A0 ?_ | refine KM.of ?_ | refine AB ?_ | refine AE ?_ | refine AJ ?_ | refine AG ?_ | intro _g _hg | refine AD ?_ ?_ | intro _hc) | omega)
 subst hR
 exact AI (r := .tup [_, _]) rfl (by omega) hs ⟨0, _, rfl, (((Aft.same hgv hbel)).ext (B := fun g => g = g1 ∨ g = g2 ∨ g = g3 ∨ g = g4) (fun g h => by have := B1.lt; have := B2.lt; have := B3.lt; have := B4.lt; rcases h with rfl | rfl | rfl | rfl <;> omega) (fun _ _ => rfl) (fun _ _ => rfl) (fun h => h.elim ng1 (fun h => h.elim ng2 (fun h => h.elim ng3 ng4)))), fun h => by cases h⟩
theorem T0 {gO lo : Nat} {fin : AZ} {px : AV} {g1 g2 g3 g4 : Nat} {m : Nat} (hxf : Ct px) (n12 : g1 ≠ g2) (n13 : g1 ≠ g3) (n14 : g1 ≠ g4) (n23 : g2 ≠ g3) (n24 : g2 ≠ g4) (n34 : g3 ≠ g4) (hm : 1 ≤ m ∧ m ≤ 20) : ∀ (l : Aq) (ks : List Int) (cur : AZ) (z : Nat) (t : Tok) (O1 O : Nat → Prop) (H0 : A3) (n0 : Nat), ks.length + l.length ≤ 5000 → Pts gO lo [⟨px, some l, cur, fin, O1⟩] H0 n0 → (fun g => OU [⟨px, some l, cur, fin, O1⟩] g ∨ CI t g) = O → (∀ g, CI t g → ¬ OU [⟨px, some l, cur, fin, O1⟩] g) → TokOk t ks.length H0 n0 → z = 1 ∨ (ks = [] ∧ t = .nil) → ¬ O gO →
  Bx O gO g1 H0 n0 (Bm m) → Bx O gO g2 H0 n0 (Bm (-1)) → Bx O gO g3 H0 n0 (Bt px) → Bx O gO g4 H0 n0 (.cells 22 [.sl z (ks.map aI) t]) →
  Raw false gO lo fin (.fn 138 [] [.ptr g1 0, .ptr g2 0, .ptr g3 0, .ptr g4 0]) (l ++ Eo (ks ++ l.map (·.1)) fin (m - 1)) (AL [⟨px, some l, cur, fin, O1⟩]) (fun g => O g ∨ g = g1 ∨ g = g2 ∨ g = g3 ∨ g = g4) H0 n0 := by
 have hw : (m : Int) - 1 = ((m - 1 : Nat) : Int) := by omega
 have m0' : ¬ (m : Int) = 0 := by omega
 have m0 : ¬ m = 0 := by omega
 obtain ⟨ff, fa, fb, rfl⟩ := hxf
 intro l
 induction l with
 | cons e l ih =>
  obtain ⟨y, c⟩ := e
  intro ks cur z t O1 O H0 n0 hkl hP hO hdj hT hz noO B1 B2 B3 B4
  have hbel : ∀ g, O g → g < n0 := fun g hg => by
   subst hO
   exact hg.elim (hP.bel g) (hT.lt g)
  refine Raw.of fun n H gg cs hn hag hgg hgO hgv => ?_
  replace B1 := B1.to hn (hag g1 (.inr (.inl rfl)))
  have q1 := B1.at_
  have ng1 : gg ≠ g1 := fun h => hgg (.inr (.inl h))
  replace B2 := B2.to hn (hag g2 (.inr (.inr (.inl rfl))))
  have q2 := B2.at_
  have ng2 : gg ≠ g2 := fun h => hgg (.inr (.inr (.inl h)))
  replace B3 := B3.to hn (hag g3 (.inr (.inr (.inr (.inl rfl)))))
  have q3 := B3.at_
  have ng3 : gg ≠ g3 := fun h => hgg (.inr (.inr (.inr (.inl h))))
  replace B4 := B4.to hn (hag g4 (.inr (.inr (.inr (.inr rfl)))))
  have q4 := B4.at_
  have ng4 : gg ≠ g4 := fun h => hgg (.inr (.inr (.inr (.inr h))))
  have nog : ¬ O gg := fun h => hgg (.inl h)
  replace hbel : ∀ g, O g → g < n := fun g h => Nat.lt_of_lt_of_le (hbel g h) hn
  refine ⟨Gb, ?_⟩
  subst hO
  have hS := fun hs => Sit.start hP hn (fun g hg => hag g (.inl (.inl hg))) (fun h => nog (.inl h)) (fun h => noO (.inl h)) hgv hs
  replace hT := hT.at_ (fun g hg => hag g (.inl (.inr hg))) hn
  have hlt := hgv.lt (n := n)
  have hml : (ks.map aI).length = ks.length := by simp
  have hk1 : (ks ++ [y]).map aI = ks.map aI ++ [aI y] := by simp
  have hz1 : t ≠ .nil → z = 1 := fun h => hz.elim id fun h2 => absurd h2.2 h
  generalize hR : Cv _ _ _ _ _ _ _ _ _ _ _ = R
  refine A8 Tryz.func138 JW rfl fun hs => ?_
  have hS := hS hs
  repeat' (first | (simp -implicitDefEqProofs [CU, CP, CR, CQ, CX, CY, Ca, CL, c138, -getElem?_pos, q1, q2, q3, q4, m0', m0, n12, n13, n14, n23, n24, n34, Ne.symm n34, splice, -AH]) | (simp (disch := omega) only [AA]) | (refine hS.hd (fun r n' H' p' hle hr hl hS2 ha => ?_); obtain ⟨x', l', cur', fin', O3⟩ := p'; dsimp only [PtR] at hr; obtain ⟨rfl, rfl, rfl, rfl, rfl⟩ := hr; have hfr : ∀ k, k < n → ¬ OU [⟨.fn ff fa fb, some ((y, cur') :: l), cur, fin', O1⟩] k → k ≠ gg → H' k = H k := ha.fr; have q4 := (hfr g4 B4.lt (fun h => B4.no (.inl h)) (Ne.symm ng4)).trans B4.at_; have hT2 : TokOk t ks.length H' n' := hT.at_ (fun k hk => hfr k (hT.lt k hk) (hdj k hk) (fun e => nog (.inr (e ▸ hk)))) hle) | (refine Iy (by rw [hml]; exact hT2.at_ (fun k hk => by have := hT2.lt k hk; rw [upd_ne (by omega)]) (by omega)) hz1 (by rw [hml]; simp at hkl; omega) (fun k hk => by rw [upd_ne (by omega)]; exact hS2.sup k (by omega)) (fun g' n2 H2 k1 k2 k3 k4 k5 k6 k7 => ?_); have q4 := (k4 g4 (by have := B4.lt; omega) (fun h => B4.no (.inr h))).trans ((upd_ne (by have := B4.lt; omega)).trans q4)) | (with_reducible first | refine A6 ?_ ?_ ?_ | exact AC | assumption | refine A0 ?_ | refine KM.of ?_ | refine AB ?_ | refine AE ?_ | refine AJ ?_ | refine AG ?_ | intro _g _hg | refine AD ?_ ?_ | intro _hc) | omega)
  subst hR
  have hH2 : ∀ k, k < n' → ¬ CI t k → H2 k = H' k := fun k h1 h2 => (k4 k (by omega) h2).trans (upd_ne (by omega))
  have hle' : n ≤ n' := hle
  have hin : ∀ k, OU [⟨.fn ff fa fb, some l, cur', fin', O3⟩] k → OU [⟨.fn ff fa fb, some ((y, cur') :: l), cur, fin', O1⟩] k ∨ n ≤ k := ha.sub
  have hpb : ∀ k, OU [⟨.fn ff fa fb, some l, cur', fin', O3⟩] k → k < n' := hS2.pts.bel
  have htn : ∀ k, CI t k → k < n := hT.lt
  have hnt : ∀ k, OU [⟨.fn ff fa fb, some l, cur', fin', O3⟩] k → ¬ CI t k := fun k h1 h2 => (hin k h1).elim (hdj k h2) (fun h => by have := htn k h2; omega)
  have hng : ¬ OU [⟨.fn ff fa fb, some l, cur', fin', O3⟩] g' := fun h => k1.elim (hnt g' h) (fun h2 => by have := hpb g' h; omega)
  have mkb : ∀ (g : Nat) (ob : AObj), Bx (fun g => OU [⟨.fn ff fa fb, some ((y, cur') :: l), cur, fin', O1⟩] g ∨ CI t g) gO g H n ob → gg ≠ g → Bx (fun g => OU [⟨.fn ff fa fb, some l, cur', fin', O3⟩] g ∨ CI (.own g') g) gO g H2 n2 ob := by
   intro g ob hb hg
   have hgl := hb.lt
   refine ⟨fun h => h.elim (fun h => (hin g h).elim (fun h => hb.no (.inl h)) (fun h => by omega)) (fun h => ?_), hb.nO, by omega, ?_⟩
   ·have e : g = g' := h
    exact k1.elim (fun h => hb.no (.inr (e ▸ h))) (fun h => by omega)
   ·rw [hH2 g (by omega) (fun h => hb.no (.inr h)), hfr g hgl (fun h => hb.no (.inl h)) (Ne.symm hg)]; exact hb.at_
  have C1 := mkb g1 _ B1 ng1
  have C2 := mkb g2 _ B2 ng2
  have C3 := mkb g3 _ B3 ng3
  have C4 := mkb g4 _ B4 ng4
  have hgl := hlt hs
  have hg4 : g' ≠ g4 := fun e => C4.no (.inr e.symm)
  have hP2 : Pts gO lo [⟨.fn ff fa fb, some l, cur', fin', O3⟩] (upd H2 g4 (some (.cells 22 [.sl 1 (ks.map aI ++ [aI y]) (.own g')]))) n2 :=
   hS2.pts.at_ (fun k hk => by rw [upd_ne (fun e : k = g4 => C4.no (.inl (e ▸ hk)))]; exact hH2 k (hpb k hk) (hnt k hk)) (by omega)
  have hrec := ih (ks ++ [y]) cur' 1 (.own g') O3 _ _ n2 (by simp at hkl ⊢; omega) hP2 rfl (fun g hg h => hng (by have e : g = g' := hg; exact e ▸ h)) ⟨by rw [upd_ne hg4, k5]; simp, k3⟩ (.inl rfl)
   (fun h => h.elim hS2.ngO (fun h => k1.elim (fun h2 => noO (.inr (by have e : gO = g' := h; exact e ▸ h2))) (fun h2 => by have e : gO = g' := h; omega)))
   (C1.keep n14) (C2.keep n24) (C3.keep n34) (by rw [hk1]; exact C4.set _)
  simp only [AL, List.append_nil, List.append_assoc, List.singleton_append] at hrec
  refine AI (r := .tup [_, _]) rfl (by omega) (fun k hk => by have := C4.lt; rw [upd_ne (by omega)]; exact k6 k hk) ⟨_, rfl, ⟨by omega, fun k hk => ?_, fun k hk => ?_, fun k h1 h2 h3 => ?_, ?_⟩, hrec⟩
  ·rcases hk with (hk | hk) | hk
   ·exact (hin k hk).elim (fun h => .inl (.inl (.inl h))) .inr
   ·have e : k = g' := hk
    exact k1.elim (fun h => .inl (.inl (.inr (e ▸ h)))) (fun h => .inr (by omega))
   ·exact .inl (.inr hk)
  ·rcases hk with (hk | hk) | hk
   ·have := hpb k hk; omega
   ·have e : k = g' := hk; omega
   ·have := C1.lt; have := C2.lt; have := C3.lt; have := C4.lt
    rcases hk with rfl | rfl | rfl | rfl <;> omega
  ·rw [upd_ne (fun e => h2 (.inr (.inr (.inr (.inr e))))), hH2 k (by omega) (fun h => h2 (.inl (.inr h))), hfr k h1 (fun h => h2 (.inl (.inl h))) h3]
  ·rw [upd_ne ng4, hH2 gg (by omega) (fun h => nog (.inr h)), ha.giv]; simp [AL]
 | nil =>
  intro ks cur z t O1 O H0 n0 hkl hP hO hdj hT hz noO B1 B2 B3 B4
  have hbel : ∀ g, O g → g < n0 := fun g hg => by
   subst hO
   exact hg.elim (hP.bel g) (hT.lt g)
  refine Raw.of fun n H gg cs hn hag hgg hgO hgv => ?_
  replace B1 := B1.to hn (hag g1 (.inr (.inl rfl)))
  have q1 := B1.at_
  have ng1 : gg ≠ g1 := fun h => hgg (.inr (.inl h))
  replace B2 := B2.to hn (hag g2 (.inr (.inr (.inl rfl))))
  have q2 := B2.at_
  have ng2 : gg ≠ g2 := fun h => hgg (.inr (.inr (.inl h)))
  replace B3 := B3.to hn (hag g3 (.inr (.inr (.inr (.inl rfl)))))
  have q3 := B3.at_
  have ng3 : gg ≠ g3 := fun h => hgg (.inr (.inr (.inr (.inl h))))
  replace B4 := B4.to hn (hag g4 (.inr (.inr (.inr (.inr rfl)))))
  have q4 := B4.at_
  have ng4 : gg ≠ g4 := fun h => hgg (.inr (.inr (.inr (.inr h))))
  have nog : ¬ O gg := fun h => hgg (.inl h)
  replace hbel : ∀ g, O g → g < n := fun g h => Nat.lt_of_lt_of_le (hbel g h) hn
  refine ⟨Gb, ?_⟩
  subst hO
  have hS := fun hs => Sit.start hP hn (fun g hg => hag g (.inl (.inl hg))) (fun h => nog (.inl h)) (fun h => noO (.inl h)) hgv hs
  replace hT := hT.at_ (fun g hg => hag g (.inl (.inr hg))) hn
  have htn : ∀ k, CI t k → k < n := hT.lt
  have e0 : ([] : Aq) ++ Eo (ks ++ ([] : Aq).map (·.1)) fin (m - 1) = Eo ks fin (m - 1) := by simp
  rw [e0]
  cases ks with
  | nil =>
   rw [M7]
   generalize hR : Cv _ _ _ _ _ _ _ _ _ _ _ = R
   refine A8 Tryz.func138 JW rfl fun hs => ?_
   have hS := hS hs
   have hm2 : (m : Int) - 1 = ((m - 1 : Nat) : Int) := by omega
   repeat' (first | (simp -implicitDefEqProofs [CU, CP, CR, CQ, CX, CY, Ca, CL, c138, -getElem?_pos, q1, q2, q3, q4, m0', m0, hw, n12, n13, n14, n23, n24, n34, Ne.symm n12, splice, -AH]) | (simp (disch := omega) only [AA]) | (refine hS.hd (fun r n' H' p' hle hr hl hS2 ha => ?_); obtain ⟨x', l', cur', fin', O3⟩ := p'; dsimp only [PtR] at hr; obtain ⟨rfl, rfl, ⟨v, rfl⟩, rfl, rfl⟩ := hr; have hw4 : ∀ (g : Nat) (ob : AObj), Bx (fun g => OU [⟨.fn ff fa fb, some [], cur, cur', O1⟩] g ∨ CI t g) gO g H n ob → gg ≠ g → H' g = some ob := fun g ob hb hg => (ha.fr g hb.lt (fun h => hb.no (.inl h)) (Ne.symm hg)).trans hb.at_; have q1 := hw4 g1 _ B1 ng1; have q2 := hw4 g2 _ B2 ng2; have q3 := hw4 g3 _ B3 ng3; have q4 := hw4 g4 _ B4 ng4) | (with_reducible first | refine A6 ?_ ?_ ?_ | exact AC | assumption | refine A0 ?_ | refine KM.of ?_ | refine AB ?_ | refine AE ?_ | refine AJ ?_ | refine AG ?_ | intro _g _hg | refine AD ?_ ?_ | intro _hc) | omega)
   subst hR
   have hat := (ha.eqc (c' := cur') (by simp [AL])).ext (B := CI t) (fun g h => htn g h) (fun _ _ => rfl) (fun _ _ => rfl) (fun h => nog (.inr h))
   have hle' : n ≤ n' := hle
   have b1 := B1.lt
   have b2 := B2.lt
   exact AI (r := .tup [_, _]) rfl (by omega) (fun k hk => by rw [upd_ne (by omega), upd_ne (by omega), upd_ne (by omega), upd_ne (by omega)]; exact hS2.sup k hk) ⟨0, _, rfl, ((hat).ext (B := fun g => g = g1 ∨ g = g2 ∨ g = g3 ∨ g = g4) (fun g h => by have := B1.lt; have := B2.lt; have := B3.lt; have := B4.lt; rcases h with rfl | rfl | rfl | rfl <;> omega) (fun _ _ => rfl) (fun g h => by rw [upd_ne (fun e => h (.inl e))]; rw [upd_ne (fun e => h (.inr (.inl e)))]; rw [upd_ne (fun e => h (.inl e))]; rw [upd_ne (fun e => h (.inr (.inl e)))]) (fun h => h.elim ng1 (fun h => h.elim ng2 (fun h => h.elim ng3 ng4)))), fun h => by cases h⟩
  | cons y ys =>
   have hkm : (y :: ys).map aI = aI y :: ys.map aI := rfl
   have hz1 : z = 1 := hz.elim id (fun h => by cases h.1)
   subst hz1
   have hysl : ys.length + 1 ≤ 5000 := by simpa using hkl
   have hyl : (ys.map aI).length = ys.length := by simp
   have hml : ¬ ((ys.map aI).length : Int) + 1 = 0 := by omega
   have hml2 : ¬ (0 : Int) = ((ys.map aI).length : Int) + 1 := by omega
   have hpos : (0 : Int) < (ys.map aI).length + 1 := by omega
   by_cases m1 : m = 1
   ·subst m1
    have e1 : Eo (y :: ys) fin (1 - 1) = [] := rfl
    rw [e1]
    generalize hR : Cv _ _ _ _ _ _ _ _ _ _ _ = R
    refine A8 Tryz.func138 JW rfl fun hs => ?_
    have hS := hS hs
    simp only [hkm] at B4 q4
    generalize hys : ys.map aI = ysa at *
    repeat' (first | (simp -implicitDefEqProofs [CU, CP, CR, CQ, CX, CY, Ca, CL, c138, -getElem?_pos, q1, q2, q3, q4, m0', m0, hml, hml2, n12, n13, n14, n23, n24, n34, Ne.symm n12, splice, -AH]) | (simp (disch := omega) only [AA]) | (refine hS.hd (fun r n' H' p' hle hr hl hS2 ha => ?_); obtain ⟨x', l', cur', fin', O3⟩ := p'; dsimp only [PtR] at hr; obtain ⟨rfl, rfl, ⟨v, rfl⟩, rfl, rfl⟩ := hr; have hw4 : ∀ (g : Nat) (ob : AObj), Bx (fun g => OU [⟨.fn ff fa fb, some [], cur, cur', O1⟩] g ∨ CI t g) gO g H n ob → gg ≠ g → H' g = some ob := fun g ob hb hg => (ha.fr g hb.lt (fun h => hb.no (.inl h)) (Ne.symm hg)).trans hb.at_; have q1 := hw4 g1 _ B1 ng1; have q2 := hw4 g2 _ B2 ng2; have q3 := hw4 g3 _ B3 ng3; have q4 := hw4 g4 _ B4 ng4) | (with_reducible first | refine A6 ?_ ?_ ?_ | exact AC | assumption | refine A0 ?_ | refine KM.of ?_ | refine AB ?_ | refine AE ?_ | refine AJ ?_ | refine AG ?_ | intro _g _hg | refine AD ?_ ?_ | intro _hc) | omega)
    subst hR
    have hat := (ha.eqc (c' := cur') (by simp [AL])).ext (B := CI t) (fun g h => htn g h) (fun _ _ => rfl) (fun _ _ => rfl) (fun h => nog (.inr h))
    have hle' : n ≤ n' := hle
    have b1 := B1.lt
    have b2 := B2.lt
    exact AI (r := .tup [_, _]) rfl (by omega) (fun k hk => by rw [upd_ne (by omega), upd_ne (by omega)]; exact hS2.sup k hk) ⟨0, _, rfl, ((hat).ext (B := fun g => g = g1 ∨ g = g2 ∨ g = g3 ∨ g = g4) (fun g h => by have := B1.lt; have := B2.lt; have := B3.lt; have := B4.lt; rcases h with rfl | rfl | rfl | rfl <;> omega) (fun _ _ => rfl) (fun g h => by rw [upd_ne (fun e => h (.inl e))]; rw [upd_ne (fun e => h (.inr (.inl e)))]) (fun h => h.elim ng1 (fun h => h.elim ng2 (fun h => h.elim ng3 ng4)))), fun h => by cases h⟩
   ·have e1 : Eo (y :: ys) fin (m - 1) = (y, fin) :: HC (y :: ys) fin (m - 1) 1 := by rw [A1q, Jl (y := y) (by omega) rfl]
    have hm1 : (0 : Int) < ((m - 1 : Nat) : Int) := by omega
    rw [e1]
    generalize hR : Cv _ _ _ _ _ _ _ _ _ _ _ = R
    refine A8 Tryz.func138 JW rfl fun hs => ?_
    have hS := hS hs
    simp only [hkm] at B4 q4
    generalize hys : ys.map aI = ysa at *
    repeat' (first | (simp -implicitDefEqProofs [CU, CP, CR, CQ, CX, CY, Ca, CL, c138, -getElem?_pos, q1, q2, q3, q4, m0', m0, hw, hm1, hml, hml2, hpos, n12, n13, n14, n23, n24, n34, Ne.symm n12, splice, -AH]) | (simp (disch := omega) only [AA]) | (refine hS.hd (fun r n' H' p' hle hr hl hS2 ha => ?_); obtain ⟨x', l', cur', fin', O3⟩ := p'; dsimp only [PtR] at hr; obtain ⟨rfl, rfl, ⟨v, rfl⟩, rfl, rfl⟩ := hr; have hw4 : ∀ (g : Nat) (ob : AObj), Bx (fun g => OU [⟨.fn ff fa fb, some [], cur, cur', O1⟩] g ∨ CI t g) gO g H n ob → gg ≠ g → H' g = some ob := fun g ob hb hg => (ha.fr g hb.lt (fun h => hb.no (.inl h)) (Ne.symm hg)).trans hb.at_; have q1 := hw4 g1 _ B1 ng1; have q2 := hw4 g2 _ B2 ng2; have q3 := hw4 g3 _ B3 ng3; have q4 := hw4 g4 _ B4 ng4) | (with_reducible first | refine A6 ?_ ?_ ?_ | exact AC | assumption | refine A0 ?_ | refine KM.of ?_ | refine AB ?_ | refine AE ?_ | refine AJ ?_ | refine AG ?_ | intro _g _hg | refine AD ?_ ?_ | intro _hc) | omega)
    subst hR
    have hat := (ha.eqc (c' := cur') (by simp [AL])).ext (B := CI t) (fun g h => htn g h) (fun _ _ => rfl) (fun _ _ => rfl) (fun h => nog (.inr h))
    have hle' : n ≤ n' := hle
    have b1 := B1.lt
    have b2 := B2.lt
    have hin : ∀ k, OU [⟨.fn ff fa fb, none, cur', cur', O3⟩] k → OU [⟨.fn ff fa fb, some [], cur, cur', O1⟩] k ∨ n ≤ k := ha.sub
    have mkb : ∀ (g : Nat) (ob : AObj), Bx (fun g => OU [⟨.fn ff fa fb, some [], cur, cur', O1⟩] g ∨ CI t g) gO g H n ob → gg ≠ g → Bx (fun g => OU [⟨.fn ff fa fb, none, cur', cur', O3⟩] g ∨ CI t g) gO g H' n' ob := fun g ob hb hg =>
     ⟨fun h => h.elim (fun h => (hin g h).elim (fun h => hb.no (.inl h)) (fun h => by have := hb.lt; omega)) (fun h => hb.no (.inr h)), hb.nO, by have := hb.lt; omega, hw4 g ob hb hg⟩
    have C1 := mkb g1 _ B1 ng1
    have C2 := mkb g2 _ B2 ng2
    have C3 := mkb g3 _ B3 ng3
    have C4 := mkb g4 _ B4 ng4
    refine AI (r := .tup [_, _]) rfl (by omega) (fun k hk => by rw [upd_ne (by omega), upd_ne (by omega), upd_ne (by omega)]; exact hS2.sup k hk) ⟨_, rfl, ((hat).ext (B := fun g => g = g1 ∨ g = g2 ∨ g = g3 ∨ g = g4) (fun g h => by have := B1.lt; have := B2.lt; have := B3.lt; have := B4.lt; rcases h with rfl | rfl | rfl | rfl <;> omega) (fun _ _ => rfl) (fun g h => by rw [upd_ne (fun e => h (.inr (.inl e)))]; rw [upd_ne (fun e => h (.inl e))]; rw [upd_ne (fun e => h (.inr (.inl e)))]) (fun h => h.elim ng1 (fun h => h.elim ng2 (fun h => h.elim ng3 ng4)))), ?_⟩
    refine Sr n12 n13 n14 n23 n24 n34 (xs := y :: ys) (px := .fn ff fa fb) (z := 1) (t := t) (by simpa using hysl) _ (m - 1) 1 _ _ n' (Nat.le_refl _) (by omega) (by simp) (fun h => h.elim hS2.ngO (fun h => noO (.inr h))) (fun g h => h.elim (hS2.pts.bel g) (fun h => by have := htn g h; omega)) ?_ ?_ ?_ ?_ (.inl rfl)
    ·exact ((C1.keep n12).set _).keep n12
    ·exact ((C2.set _).keep (Ne.symm n12)).set _
    ·exact ((C3.keep (Ne.symm n23)).keep (Ne.symm n13)).keep (Ne.symm n23)
    ·rw [hkm]; exact ((C4.keep (Ne.symm n24)).keep (Ne.symm n14)).keep (Ne.symm n24)
abbrev OT (p : Pt) (t : Tok) : Nat → Prop := fun g => OU [p] g ∨ CI t g
structure SitT (gO lo : Nat) (p : Pt) (t : Tok) (k : Nat) (H : A3) (n gg : Nat) (cs : AZ) : Prop where
 sit : Sit gO lo [p] H n gg cs
 tok : TokOk t k H n
 dj : ∀ g, CI t g → ¬ OU [p] g
 ngt : ¬ CI t gg
 nOt : ¬ CI t gO
theorem SitT.bel {gO lo k n gg : Nat} {p : Pt} {t : Tok} {H : A3} {cs : AZ} (h : SitT gO lo p t k H n gg cs) : ∀ g, OT p t g → g < n := fun g hg => hg.elim (h.sit.pts.bel g) (h.tok.lt g)
theorem SitT.call {gO lo k n gg : Nat} {p : Pt} {t : Tok} {H : A3} {cs : AZ} {d : Option Nat} {K : AS → Prop} {en : AT} (h : SitT gO lo p t k H n gg cs)
  (hk : ∀ r n' H' p', n ≤ n' → PtR p r p' → (AL [p']).length = (AL [p]).length → SitT gO lo p' t k H' n' gg (Cd cs lo (AL [p'])) → Aft lo gg cs (AL [p']) (OT p t) n H n' H' (OT p' t) → K ⟨AN en d r, n', H'⟩) :
  AH Tryz.prog d K en n H [] p.x := by
 refine h.sit.hd (fun r n' H' p' hle hr hl hS ha => ?_)
 have hfr : ∀ g, CI t g → H' g = H g := fun g hg => ha.fr g (h.tok.lt g hg) (h.dj g hg) (fun e => h.ngt (e ▸ hg))
 refine hk r n' H' p' hle hr hl ⟨hS, h.tok.at_ hfr hle, fun g hg hp => (ha.sub g hp).elim (h.dj g hg) (fun h2 => by have := h.tok.lt g hg; omega), h.ngt, h.nOt⟩ ?_
 exact ha.ext (B := CI t) (fun g hg => h.tok.lt g hg) (fun _ _ => rfl) (fun _ _ => rfl) h.ngt
theorem SitT.keep {gO lo k n gg g : Nat} {p : Pt} {t : Tok} {H : A3} {cs : AZ} {x : Option AObj} (h : SitT gO lo p t k H n gg cs) (h1 : ¬ OT p t g) (h2 : gO ≠ g) (h3 : gg ≠ g) (h4 : g < n) : SitT gO lo p t k (upd H g x) n gg cs :=
 ⟨h.sit.keep (fun k => h1 (.inl k)) h2 h3 h4, h.tok.at_ (fun k hk => upd_ne (fun e => h1 (.inr (e ▸ hk)))) (Nat.le_refl _), h.dj, h.ngt, h.nOt⟩
structure Rep' (t : Tok) (k' : Nat) (n : Nat) (H : A3) (g' n' : Nat) (H' : A3) : Prop where
 wh : CI t g' ∨ n ≤ g'
 le : n ≤ n'
 lt : g' < n'
 fr : ∀ k, k < n → ¬ CI t k → H' k = H k
 at_ : H' g' = some (.row 3 k')
 sup : ∀ k, n' ≤ k → H' k = none
theorem SitT.app {gO lo k k' n gg n' g' : Nat} {p : Pt} {t : Tok} {H H' : A3} {cs : AZ} (h : SitT gO lo p t k H n gg cs) (r : Rep' t k' n H g' n' H') : SitT gO lo p (.own g') k' H' n' gg cs := by
 have hlt := h.sit.giv.lt h.sit.sup
 refine ⟨⟨h.sit.pts.at_ (fun g hg => r.fr g (h.sit.pts.bel g hg) (fun k => h.dj g k hg)) r.le, ⟨(r.fr gO hlt.1 h.nOt).trans h.sit.giv.opn, (r.fr gg hlt.2 h.ngt).trans h.sit.giv.giv, h.sit.giv.fit, h.sit.giv.at_⟩, h.sit.ngg, h.sit.ngO, r.sup⟩, ⟨r.at_, r.lt⟩, fun g hg hp => ?_, fun hg => ?_, fun hg => ?_⟩
 ·have e : g = g' := hg
  subst e
  exact r.wh.elim (fun k => h.dj g k hp) (fun k => by have := h.sit.pts.bel g hp; omega)
 ·have e : gg = g' := hg
  subst e
  exact r.wh.elim h.ngt (fun k => by omega)
 ·have e : gO = g' := hg
  subst e
  exact r.wh.elim h.nOt (fun k => by omega)
theorem Bx.app {gO k' n g n' g' : Nat} {p : Pt} {t : Tok} {H H' : A3} {ob : AObj} (b : Bx (OT p t) gO g H n ob) (r : Rep' t k' n H g' n' H') : Bx (OT p (.own g')) gO g H' n' ob := by
 have h1 := b.lt
 have h2 := r.le
 refine ⟨fun hg => hg.elim (fun h => b.no (.inl h)) (fun h => ?_), b.nO, by omega, (r.fr g h1 (fun h => b.no (.inr h))).trans b.at_⟩
 have e : g = g' := h
 subst e
 exact r.wh.elim (fun k => b.no (.inr k)) (fun k => by omega)
theorem Aft.app {lo gg k' n n1 n' g' : Nat} {p p1 : Pt} {t t1 : Tok} {B : Nat → Prop} {cs c : AZ} {H H1 H' : A3} (ha : Aft lo gg cs c (fun g => OT p t g ∨ B g) n H n1 H1 (fun g => OT p1 t1 g ∨ B g)) (r : Rep' t1 k' n1 H1 g' n' H') (hb : ∀ g, OT p1 t1 g → g < n1) (hg : gg < n1) (hgt : ¬ CI t1 gg) : Aft lo gg cs c (fun g => OT p t g ∨ B g) n H n' H' (fun g => OT p1 (.own g') g ∨ B g) := by
 have h2 := r.le
 have h3 := ha.le
 refine ⟨by omega, fun g hg => ?_, fun g hg => ?_, fun g k1 k2 k3 => ?_, (r.fr gg hg hgt).trans ha.giv⟩
 ·rcases hg with (hg | hg) | hg
  ·exact ha.sub g (.inl (.inl hg))
  ·have e : g = g' := hg
   subst e
   exact r.wh.elim (fun k => ha.sub g (.inl (.inr k))) (fun k => .inr (by omega))
  ·exact ha.sub g (.inr hg)
 ·rcases hg with (hg | hg) | hg
  ·have := hb g (.inl hg); omega
  ·have e : g = g' := hg
   have := r.lt; omega
  ·have := ha.bel g (.inr hg); omega
 ·have h4 : ¬ CI t1 g := fun k => (ha.sub g (.inl (.inr k))).elim k2 (fun h => by omega)
  rw [r.fr g (by omega) h4]; exact ha.fr g k1 k2 k3
theorem TK : Ae Tryz.prog 137 = true := by kernel_rfl
theorem VE (f : Int → Int → Int) (N : Nat) (last : List Int) (y : Int) (c : AZ) (r : Aq) : FP f N last ((y, c) :: r) = if last.length + 1 < N then FP f N (last ++ [y]) r else (Lc f ((last ++ [y]).drop (last.length + 1 - N)), c) :: FP f N ((last ++ [y]).drop (last.length + 1 - N)) r := by rw [FP]
abbrev HS (l : List Int) (z : Nat) (t : Tok) : AObj := .cells 22 [.sl z (l.map aI) t]
def rgL (l : List Int) : Prop := ∀ x ∈ l, 0 ≤ x ∧ x ≤ 9999
theorem TU {gO lo : Nat} {fin : AZ} {px a b : AV} {g1 g2 g3 : Nat} {k op : Int} {m : Nat} (hxf : Ct px) (hop : 1 ≤ op ∧ op ≤ 5) (hm : 1 ≤ m ∧ m ≤ 8) (n12 : g1 ≠ g2) (n13 : g1 ≠ g3) : ∀ (N : Nat) (l : Aq) (last : List Int) (cur : AZ) (z : Nat) (t : Tok) (O1 O : Nat → Prop) (H0 : A3) (n0 : Nat), l.length ≤ N → Pts gO lo [⟨px, some l, cur, fin, O1⟩] H0 n0 → OT ⟨px, some l, cur, fin, O1⟩ t = O → (∀ g, CI t g → ¬ OU [⟨px, some l, cur, fin, O1⟩] g) → TokOk t last.length H0 n0 → (t ≠ .nil → z = 1) → ¬ O gO → last.length ≤ m → rgL last → rgE l →
  Bx O gO g1 H0 n0 (HS last z t) → Bx O gO g2 H0 n0 (BH k op m a b) → Bx O gO g3 H0 n0 (Bt px) →
  Raw false gO lo fin (.fn 137 [] [.ptr g1 0, .ptr g2 0, .ptr g3 0]) (FP (DZ op) m last l) (AL [⟨px, some l, cur, fin, O1⟩]) (fun g => O g ∨ g = g1 ∨ g = g2 ∨ g = g3) H0 n0 := by
 intro N
 induction N using Nat.strongRecOn with
 | _ N ih =>
  intro l last cur z t O1 O H0 n0 hN hP hO hdj hT hz noO hlm hrl hrg B1 B2 B3
  have hbel : ∀ g, O g → g < n0 := fun g hg => by
   subst hO
   exact hg.elim (hP.bel g) (hT.lt g)
  refine Raw.of fun n H gg cs hn hag hgg hgO hgv => ?_
  replace B1 := B1.to hn (hag g1 (.inr (.inl rfl)))
  have q1 := B1.at_
  have ng1 : gg ≠ g1 := fun h => hgg (.inr (.inl h))
  replace B2 := B2.to hn (hag g2 (.inr (.inr (.inl rfl))))
  have q2 := B2.at_
  have ng2 : gg ≠ g2 := fun h => hgg (.inr (.inr (.inl h)))
  replace B3 := B3.to hn (hag g3 (.inr (.inr (.inr rfl))))
  have q3 := B3.at_
  have ng3 : gg ≠ g3 := fun h => hgg (.inr (.inr (.inr h)))
  have nog : ¬ O gg := fun h => hgg (.inl h)
  replace hbel : ∀ g, O g → g < n := fun g h => Nat.lt_of_lt_of_le (hbel g h) hn
  refine ⟨TK, ?_⟩
  subst hO
  have hS := fun hs => SitT.mk (Sit.start hP hn (fun g hg => hag g (.inl (.inl hg))) (fun h => nog (.inl h)) (fun h => noO (.inl h)) hgv hs) (hT.at_ (fun g hg => hag g (.inl (.inr hg))) hn) hdj (fun h => nog (.inr h)) (fun h => noO (.inr h))
  generalize hW : FP (DZ op) m last l = W
  generalize hR : Cv _ _ _ _ _ _ _ _ _ _ _ = R
  refine A8 Tryz.func137 A1p rfl fun hs => ?_
  have hS := hS hs
  repeat' (first | (simp -implicitDefEqProofs [c137, D8, D9, DB, DA, Cx, D5, Cw, D4, DD, c137, -getElem?_pos, -AH]) | (simp (disch := omega) only [AA]) | (with_reducible first | refine A6 ?_ ?_ ?_ | exact AC | assumption | refine A0 ?_ | refine KM.of ?_ | refine AB ?_ | refine AE ?_ | refine AJ ?_ | refine AG ?_ | intro _g _hg | refine AD ?_ ?_ | intro _hc) | omega)
  refine LoopK.go (fun r st => ∃ (l1 : Aq) (last1 : List Int) (cur1 : AZ) (z1 : Nat) (t1 : Tok) (O2 : Nat → Prop) (n1 : Nat) (H1 : A3) (fl : Bool), r = l1.length ∧ st = ⟨[(0, .ptr g1 0), (1, .ptr g2 0), (2, .ptr g3 0), (5, .bool fl)], n1, H1⟩ ∧ n ≤ n1 ∧ SitT gO lo ⟨px, some l1, cur1, fin, O2⟩ t1 last1.length H1 n1 gg (Cd cs lo (AL [⟨px, some l1, cur1, fin, O2⟩])) ∧ (AL [⟨px, some l1, cur1, fin, O2⟩]).length = (AL [⟨px, some l, cur, fin, O1⟩]).length ∧
   Aft lo gg cs (AL [⟨px, some l1, cur1, fin, O2⟩]) (fun g => OT ⟨px, some l, cur, fin, O1⟩ t g ∨ (g = g1 ∨ g = g2 ∨ g = g3)) n H n1 H1 (fun g => OT ⟨px, some l1, cur1, fin, O2⟩ t1 g ∨ (g = g1 ∨ g = g2 ∨ g = g3)) ∧
   Bx (OT ⟨px, some l1, cur1, fin, O2⟩ t1) gO g1 H1 n1 (HS last1 z1 t1) ∧ Bx (OT ⟨px, some l1, cur1, fin, O2⟩ t1) gO g2 H1 n1 (BH k op m a b) ∧ Bx (OT ⟨px, some l1, cur1, fin, O2⟩ t1) gO g3 H1 n1 (Bt px) ∧ (t1 ≠ .nil → z1 = 1) ∧ rgL last1 ∧ rgE l1 ∧ l1.length ≤ N ∧
   ((fl = false → last1.length < m) ∧ last1.length ≤ m ∧ FP (DZ op) m last1 l1 = W ∨ fl = false ∧ m ≤ last1.length ∧ last1.length ≤ m + 1 ∧ l1.length < N ∧ W = (Lc (DZ op) (last1.drop (last1.length - m)), cur1) :: FP (DZ op) m (last1.drop (last1.length - m)) l1)) l.length ?_ ?_
  ·refine ⟨l, last, cur, z, t, O1, n, H, true, rfl, rfl, Nat.le_refl _, ?_, rfl, ?_, B1, B2, B3, hz, hrl, hrg, hN, .inl ⟨(fun h => by cases h), hlm, hW⟩⟩
   ·rw [E8 hgv]; exact hS
   ·exact (((Aft.same hgv hbel)).ext (B := fun g => g = g1 ∨ g = g2 ∨ g = g3) (fun g h => by have := B1.lt; have := B2.lt; have := B3.lt; rcases h with rfl | rfl | rfl <;> omega) (fun _ _ => rfl) (fun _ _ => rfl) (fun h => h.elim ng1 (fun h => h.elim ng2 ng3)))
  rintro r st ⟨l1, last1, cur1, z1, t1, O2, n1, H1, fl, rfl, rfl, hn1, hS1, hl1, ha1, B1', B2', B3', hz1, hrl1, hrg1, hN1, hcase⟩ J hJ
  have q1 := B1'.at_
  have q2 := B2'.at_
  have q3 := B3'.at_
  have hxf' := hxf
  obtain ⟨ff, fa, fb, rfl⟩ := hxf
  have hml : (last1.map aI).length = last1.length := by simp
  have hgn := hS1.sit.giv.lt hS1.sit.sup
  rcases hcase with ⟨hfl, hlm1, hWk⟩ | ⟨rfl, hm1, hm2, hlN, hWk⟩
  ·have hask : fl = true ∨ (fl = false ∧ ((last1.length : Int) < m)) := by
    cases fl with
    | true => exact .inl rfl
    | false => exact .inr ⟨rfl, by have := hfl rfl; omega⟩
   cases l1 with
   | nil =>
    rcases hask with rfl | ⟨rfl, hlt⟩
    ·skip
     repeat' (first | (simp -implicitDefEqProofs [D8, D9, DB, DA, Cx, D5, Cw, D4, DD, c137, -getElem?_pos, q1, q2, q3, splice, -AH]) | (simp (disch := omega) only [AA]) | (refine hS1.call (fun r n' H' p' hle hr hl hS2 ha => ?_); obtain ⟨x', l', cur', fin', O3⟩ := p'; dsimp only [PtR] at hr; obtain ⟨rfl, rfl, ⟨v, rfl⟩, rfl, rfl⟩ := hr) | (with_reducible first | refine A6 ?_ ?_ ?_ | exact AC | assumption | refine A0 ?_ | refine KM.of ?_ | refine AB ?_ | refine AE ?_ | refine AJ ?_ | refine AG ?_ | intro _g _hg | refine AD ?_ ?_ | intro _hc) | omega)
     subst hR
     have hat := (Aft.tr hgv ha1 ((ha).ext (B := fun g => g = g1 ∨ g = g2 ∨ g = g3) (fun g h => by have := B1.lt; have := B2.lt; have := B3.lt; rcases h with rfl | rfl | rfl <;> omega) (fun _ _ => rfl) (fun _ _ => rfl) (fun h => h.elim ng1 (fun h => h.elim ng2 ng3))) hl1 (hl.trans hl1)).eqc (c' := cur') (by simp [AL])
     rw [← hWk]
     exact AI (r := .tup [_, _]) rfl (by have : n1 ≤ n' := hle; omega) hS2.sit.sup ⟨0, _, rfl, hat, fun h => by cases h⟩
    ·skip
     repeat' (first | (simp -implicitDefEqProofs [D8, D9, DB, DA, Cx, D5, Cw, D4, DD, c137, -getElem?_pos, q1, q2, q3, hlt, hml, splice, -AH]) | (simp (disch := omega) only [AA]) | (refine hS1.call (fun r n' H' p' hle hr hl hS2 ha => ?_); obtain ⟨x', l', cur', fin', O3⟩ := p'; dsimp only [PtR] at hr; obtain ⟨rfl, rfl, ⟨v, rfl⟩, rfl, rfl⟩ := hr) | (with_reducible first | refine A6 ?_ ?_ ?_ | exact AC | assumption | refine A0 ?_ | refine KM.of ?_ | refine AB ?_ | refine AE ?_ | refine AJ ?_ | refine AG ?_ | intro _g _hg | refine AD ?_ ?_ | intro _hc) | omega)
     subst hR
     have hat := (Aft.tr hgv ha1 ((ha).ext (B := fun g => g = g1 ∨ g = g2 ∨ g = g3) (fun g h => by have := B1.lt; have := B2.lt; have := B3.lt; rcases h with rfl | rfl | rfl <;> omega) (fun _ _ => rfl) (fun _ _ => rfl) (fun h => h.elim ng1 (fun h => h.elim ng2 ng3))) hl1 (hl.trans hl1)).eqc (c' := cur') (by simp [AL])
     rw [← hWk]
     exact AI (r := .tup [_, _]) rfl (by have : n1 ≤ n' := hle; omega) hS2.sit.sup ⟨0, _, rfl, hat, fun h => by cases h⟩
   | cons e l1 =>
    obtain ⟨y, c⟩ := e
    have nxt : ∀ (cur' : AZ) (O3 : Nat → Prop) (n2 g' : Nat) (H2 : A3), n1 ≤ n2 → SitT gO lo ⟨.fn ff fa fb, some l1, cur', fin, O3⟩ (.own g') (last1 ++ [y]).length H2 n2 gg (Cd cs lo (AL [⟨.fn ff fa fb, some l1, cur', fin, O3⟩])) → (AL [⟨.fn ff fa fb, some l1, cur', fin, O3⟩]).length = (AL [⟨.fn ff fa fb, some l, cur, fin, O1⟩]).length →
      Aft lo gg cs (AL [⟨.fn ff fa fb, some l1, cur', fin, O3⟩]) (fun g => OT ⟨.fn ff fa fb, some l, cur, fin, O1⟩ t g ∨ (g = g1 ∨ g = g2 ∨ g = g3)) n H n2 H2 (fun g => OT ⟨.fn ff fa fb, some l1, cur', fin, O3⟩ (.own g') g ∨ (g = g1 ∨ g = g2 ∨ g = g3)) →
      Bx (OT ⟨.fn ff fa fb, some l1, cur', fin, O3⟩ (.own g')) gO g1 H2 n2 (HS (last1 ++ [y]) 1 (.own g')) → Bx (OT ⟨.fn ff fa fb, some l1, cur', fin, O3⟩ (.own g')) gO g2 H2 n2 (BH k op m a b) → Bx (OT ⟨.fn ff fa fb, some l1, cur', fin, O3⟩ (.own g')) gO g3 H2 n2 (Bt (.fn ff fa fb)) → c = cur' →
      J ⟨[(0, .ptr g1 0), (1, .ptr g2 0), (2, .ptr g3 0), (5, .bool false)], n2, H2⟩ := by
     intro cur' O3 n2 g' H2 h1 h2 h3 h4 h5 h6 h7 h8
     subst h8
     refine hJ l1.length _ (by simp) ⟨l1, last1 ++ [y], c, 1, .own g', O3, n2, H2, false, rfl, rfl, by omega, h2, h3, h4, h5, h6, h7, fun _ => rfl, ?_, hrg1.tl, by simp at hN1; omega, ?_⟩
     ·intro x hx
      rcases List.mem_append.1 hx with hx | hx
      ·exact hrl1 x hx
      ·simp at hx; subst hx; exact hrg1.hd
     ·rw [VE] at hWk
      have e9 : (last1 ++ [y]).length = last1.length + 1 := by simp
      rw [e9]
      split at hWk
      ·rename_i h; exact .inl ⟨fun _ => h, by omega, hWk⟩
      ·exact .inr ⟨rfl, by omega, by omega, by simp at hN1; omega, hWk.symm⟩
    rcases hask with rfl | ⟨rfl, hlt⟩
    ·skip
     repeat' (first | (simp -implicitDefEqProofs [D8, D9, DB, DA, Cx, D5, Cw, D4, DD, c137, -getElem?_pos, q1, q2, q3,  splice, -AH]) | (simp (disch := omega) only [AA]) | (refine hS1.call (fun r n' H' p' hle hr hl hS2 ha => ?_); obtain ⟨x', l', cur', fin', O3⟩ := p'; dsimp only [PtR] at hr; obtain ⟨rfl, rfl, rfl, rfl, rfl⟩ := hr; have hle' : n1 ≤ n' := hle; have C1 := (⟨fun h => (ha.sub g1 h).elim B1'.no (fun h => by have := B1'.lt; omega), B1'.nO, by have := B1'.lt; omega, (ha.fr g1 B1'.lt B1'.no (Ne.symm ng1)).trans B1'.at_⟩ : Bx _ gO g1 H' n' _); have C2 := (⟨fun h => (ha.sub g2 h).elim B2'.no (fun h => by have := B2'.lt; omega), B2'.nO, by have := B2'.lt; omega, (ha.fr g2 B2'.lt B2'.no (Ne.symm ng2)).trans B2'.at_⟩ : Bx _ gO g2 H' n' _); have C3 := (⟨fun h => (ha.sub g3 h).elim B3'.no (fun h => by have := B3'.lt; omega), B3'.nO, by have := B3'.lt; omega, (ha.fr g3 B3'.lt B3'.no (Ne.symm ng3)).trans B3'.at_⟩ : Bx _ gO g3 H' n' _); have q1 := C1.at_) | (refine Iy (by rw [hml]; exact hS2.tok.at_ (fun k hk => by have := hS2.tok.lt k hk; rw [upd_ne (by omega)]) (by omega)) hz1 (by rw [hml]; omega) (fun k hk => by rw [upd_ne (by omega)]; exact hS2.sit.sup k (by omega)) (fun g' n2 H2 k1 k2 k3 k4 k5 k6 k7 => ?_); have q1 := (k4 g1 (by have := C1.lt; omega) (fun h => C1.no (.inr h))).trans ((upd_ne (by have := C1.lt; omega)).trans q1)) | (with_reducible first | refine A6 ?_ ?_ ?_ | exact AC | assumption | refine A0 ?_ | refine KM.of ?_ | refine AB ?_ | refine AE ?_ | refine AJ ?_ | refine AG ?_ | intro _g _hg | refine AD ?_ ?_ | intro _hc) | omega)
     have rep : Rep' t1 (last1 ++ [y]).length n' H' g' n2 H2 := ⟨k1.elim .inl (fun h => .inr (by omega)), by omega, k3, fun k h1 h2 => (k4 k (by omega) h2).trans (upd_ne (by omega)), by rw [k5]; simp, k6⟩
     have hS3 := hS2.app rep
     have D1 := C1.app rep
     have D2 := C2.app rep
     have D3 := C3.app rep
     have hat := ((Aft.tr hgv ha1 ((ha).ext (B := fun g => g = g1 ∨ g = g2 ∨ g = g3) (fun g h => by have := B1.lt; have := B2.lt; have := B3.lt; rcases h with rfl | rfl | rfl <;> omega) (fun _ _ => rfl) (fun _ _ => rfl) (fun h => h.elim ng1 (fun h => h.elim ng2 ng3))) hl1 (hl.trans hl1)).app rep hS2.bel (by omega) hS2.ngt).box (x := some (HS (last1 ++ [y]) 1 (.own g'))) (.inr (.inl rfl)) ng1
     have hS4 := hS3.keep (x := some (HS (last1 ++ [y]) 1 (.own g'))) D1.no D1.nO ng1 D1.lt
     rw [CE (by have := hgv.fit; omega) hl] at hS4
     have e1 : last1.map aI ++ [aI y] = (last1 ++ [y]).map aI := by simp
     rw [e1]
     exact nxt _ _ n2 g' _ (by omega) hS4 (hl.trans hl1) hat (D1.set _) (D2.keep (Ne.symm n12)) (D3.keep (Ne.symm n13)) rfl
    ·skip
     repeat' (first | (simp -implicitDefEqProofs [D8, D9, DB, DA, Cx, D5, Cw, D4, DD, c137, -getElem?_pos, q1, q2, q3, hlt, hml, splice, -AH]) | (simp (disch := omega) only [AA]) | (refine hS1.call (fun r n' H' p' hle hr hl hS2 ha => ?_); obtain ⟨x', l', cur', fin', O3⟩ := p'; dsimp only [PtR] at hr; obtain ⟨rfl, rfl, rfl, rfl, rfl⟩ := hr; have hle' : n1 ≤ n' := hle; have C1 := (⟨fun h => (ha.sub g1 h).elim B1'.no (fun h => by have := B1'.lt; omega), B1'.nO, by have := B1'.lt; omega, (ha.fr g1 B1'.lt B1'.no (Ne.symm ng1)).trans B1'.at_⟩ : Bx _ gO g1 H' n' _); have C2 := (⟨fun h => (ha.sub g2 h).elim B2'.no (fun h => by have := B2'.lt; omega), B2'.nO, by have := B2'.lt; omega, (ha.fr g2 B2'.lt B2'.no (Ne.symm ng2)).trans B2'.at_⟩ : Bx _ gO g2 H' n' _); have C3 := (⟨fun h => (ha.sub g3 h).elim B3'.no (fun h => by have := B3'.lt; omega), B3'.nO, by have := B3'.lt; omega, (ha.fr g3 B3'.lt B3'.no (Ne.symm ng3)).trans B3'.at_⟩ : Bx _ gO g3 H' n' _); have q1 := C1.at_) | (refine Iy (by rw [hml]; exact hS2.tok.at_ (fun k hk => by have := hS2.tok.lt k hk; rw [upd_ne (by omega)]) (by omega)) hz1 (by rw [hml]; omega) (fun k hk => by rw [upd_ne (by omega)]; exact hS2.sit.sup k (by omega)) (fun g' n2 H2 k1 k2 k3 k4 k5 k6 k7 => ?_); have q1 := (k4 g1 (by have := C1.lt; omega) (fun h => C1.no (.inr h))).trans ((upd_ne (by have := C1.lt; omega)).trans q1)) | (with_reducible first | refine A6 ?_ ?_ ?_ | exact AC | assumption | refine A0 ?_ | refine KM.of ?_ | refine AB ?_ | refine AE ?_ | refine AJ ?_ | refine AG ?_ | intro _g _hg | refine AD ?_ ?_ | intro _hc) | omega)
     have rep : Rep' t1 (last1 ++ [y]).length n' H' g' n2 H2 := ⟨k1.elim .inl (fun h => .inr (by omega)), by omega, k3, fun k h1 h2 => (k4 k (by omega) h2).trans (upd_ne (by omega)), by rw [k5]; simp, k6⟩
     have hS3 := hS2.app rep
     have D1 := C1.app rep
     have D2 := C2.app rep
     have D3 := C3.app rep
     have hat := ((Aft.tr hgv ha1 ((ha).ext (B := fun g => g = g1 ∨ g = g2 ∨ g = g3) (fun g h => by have := B1.lt; have := B2.lt; have := B3.lt; rcases h with rfl | rfl | rfl <;> omega) (fun _ _ => rfl) (fun _ _ => rfl) (fun h => h.elim ng1 (fun h => h.elim ng2 ng3))) hl1 (hl.trans hl1)).app rep hS2.bel (by omega) hS2.ngt).box (x := some (HS (last1 ++ [y]) 1 (.own g'))) (.inr (.inl rfl)) ng1
     have hS4 := hS3.keep (x := some (HS (last1 ++ [y]) 1 (.own g'))) D1.no D1.nO ng1 D1.lt
     rw [CE (by have := hgv.fit; omega) hl] at hS4
     have e1 : last1.map aI ++ [aI y] = (last1 ++ [y]).map aI := by simp
     rw [e1]
     exact nxt _ _ n2 g' _ (by omega) hS4 (hl.trans hl1) hat (D1.set _) (D2.keep (Ne.symm n12)) (D3.keep (Ne.symm n13)) rfl
  ·have hlt : ¬ (last1.length : Int) < m := by omega
   have hz1' : z1 = 1 := hz1 (fun h => by
    have := hS1.tok
    rw [h] at this
    have e : last1.length = 0 := this
    omega)
   subst hz1'
   have hsub : (last1.length : Int) - m = ((last1.length - m : Nat) : Int) := by omega
   have hle1 : ((last1.length - m : Nat) : Int) ≤ last1.length := by omega
   have hcl : ((last1.map aI).drop (last1.length - m)).length ≤ 1000000 := by simp; omega
   have hdr : (last1.map aI).drop (last1.length - m) = (last1.drop (last1.length - m)).map aI := by rw [List.map_drop]
   have hdl : (last1.drop (last1.length - m)).length = m := by simp; omega
   have hrd : rgL (last1.drop (last1.length - m)) := fun x hx => hrl1 x (List.mem_of_mem_drop hx)
   repeat' (first | (simp -implicitDefEqProofs [D8, D9, DB, DA, Cx, D5, Cw, D4, DD, c137, -getElem?_pos, q1, q2, hlt, hml, hsub, hle1, splice, -AH]) | (simp (disch := omega) only [AA]) | (with_reducible first | refine A6 ?_ ?_ ?_ | exact AC | assumption | refine A0 ?_ | refine KM.of ?_ | refine AB ?_ | refine AE ?_ | refine AJ ?_ | refine AG ?_ | intro _g _hg | refine AD ?_ ?_ | intro _hc) | omega)
   have e4 : List.take last1.length (last1.map aI) = last1.map aI := List.take_of_length_le (by simp)
   rw [e4, hdr]
   rw [hdr] at hcl
   generalize last1.drop (last1.length - m) = nl at *
   refine CallK.chk ⟨_, Rc (nl.map aI) n1 H1 hcl, ?_⟩
   rintro r n3 H3 (hle3 : n1 ≤ n3) hsup3 ⟨hsb, hcl2⟩
   obtain ⟨w, ws, rfl⟩ : ∃ w ws, nl = w :: ws := by
    cases nl with
    | nil => simp at hdl; omega
    | cons w ws => exact ⟨w, ws, rfl⟩
   rcases hcl2 with ⟨h, _⟩ | ⟨g4, h41, h42, rfl, h43⟩
   ·simp at h
   have rep : Rep' t1 (w :: ws).length n1 H1 g4 n3 H3 := ⟨.inr h41, hle3, h42, fun k h1 _ => hsb k h1, by rw [h43]; simp, hsup3⟩
   have hS3 := hS1.app rep
   have D1 := B1'.app rep
   have D2 := B2'.app rep
   have D3 := B3'.app rep
   have hat := (ha1.app rep hS1.bel hgn.2 hS1.ngt).box (x := some (HS (w :: ws) 1 (.own g4))) (.inr (.inl rfl)) ng1
   have hS4 := hS3.keep (x := some (HS (w :: ws) 1 (.own g4))) D1.no D1.nO ng1 D1.lt
   have E1 := D1.set (HS (w :: ws) 1 (.own g4))
   have E2 := D2.keep (x := some (HS (w :: ws) 1 (.own g4))) (Ne.symm n12)
   have E3 := D3.keep (x := some (HS (w :: ws) 1 (.own g4))) (Ne.symm n13)
   have q1 := D1.at_
   have q2 := E2.at_
   have hwl : (ws.map aI).length = ws.length := by simp
   have hwm : ws.length + 1 = m := by simpa using hdl
   have hw8 : ((ws.length + 1 : Nat) : Int) = ws.length + 1 := by omega
   have hpos : (1 : Int) ≤ ws.length + 1 := by omega
   have hpos0 : (0 : Int) < ws.length + 1 := by omega
   repeat' (first | (simp -implicitDefEqProofs [D8, D9, DB, DA, Cx, D5, Cw, D4, DD, c137, -getElem?_pos, q1, hwl, hw8, hpos, hpos0, splice, -AH]) | (simp (disch := omega) only [AA]) | (with_reducible first | refine A6 ?_ ?_ ?_ | exact AC | assumption | refine A0 ?_ | refine KM.of ?_ | refine AB ?_ | refine AE ?_ | refine AJ ?_ | refine AG ?_ | intro _g _hg | refine AD ?_ ?_ | intro _hc) | omega)
   have e5 : List.take ws.length (ws.map aI) = ws.map aI := List.take_of_length_le (by simp)
   rw [e5]
   have hfr : ∀ j, B5 ((ws.take j).foldl (DZ op) w) := fun j => NN (SR hop) _ _ (hrd w List.mem_cons_self) fun x hx => hrd x (List.mem_cons_of_mem _ (List.mem_of_mem_take hx))
   refine LoopK.go (fun r st => ∃ j : Nat, j + r = ws.length ∧ st = ⟨[(1, .ptr g2 0), (8, aI ((ws.take j).foldl (DZ op) w)), (42, .sl 1 (ws.map aI) .ro), (43, aI ws.length), (44, aI j)], n3, upd H3 g1 (some (HS (w :: ws) 1 (.own g4)))⟩) ws.length ⟨0, by omega, rfl⟩ ?_
   rintro r st ⟨j, hj, rfl⟩ J2 hJ2
   by_cases hjl : j < ws.length
   ·obtain ⟨x, hx⟩ : ∃ x, ws[j]? = some x := ⟨_, List.getElem?_eq_getElem hjl⟩
    have hxa := IF (f := aI) hx
    have hjl' : (j : Int) < ws.length := by omega
    have hxr : B5 x := hrd x (List.mem_cons_of_mem _ (List.mem_of_getElem? hx))
    have hap := Ir op _ x (by omega) (hfr j) hxr (by omega)
    have e6 : (ws.take (j + 1)).foldl (DZ op) w = DZ op ((ws.take j).foldl (DZ op) w) x := by rw [List.take_succ, hx]; simp
    generalize (ws.take j).foldl (DZ op) w = acc at *
    generalize ws.map aI = wsa at *
    repeat' (first | (simp -implicitDefEqProofs [D8, D9, DB, DA, Cx, D5, Cw, D4, DD, c137, -getElem?_pos, q2, hxa, hjl', splice, -AH]) | (simp (disch := omega) only [AA]) | ((with_reducible refine Aa 102 ?_); refine' Am (hap) ?_) | (with_reducible first | refine A6 ?_ ?_ ?_ | exact AC | assumption | refine A0 ?_ | refine KM.of ?_ | refine AB ?_ | refine AE ?_ | refine AJ ?_ | refine AG ?_ | intro _g _hg | refine AD ?_ ?_ | intro _hc) | omega)
    exact hJ2 (r - 1) _ (by omega) ⟨j + 1, by omega, by rw [e6]; rfl⟩
   ·have hjl' : ¬ (j : Int) < ws.length := by omega
    have e6 : (ws.take j).foldl (DZ op) w = Lc (DZ op) (w :: ws) := by rw [List.take_of_length_le (by omega)]; rfl
    rw [e6]
    repeat' (first | (simp -implicitDefEqProofs [D8, D9, DB, DA, Cx, D5, Cw, D4, DD, c137, -getElem?_pos, hjl', splice, -AH]) | (simp (disch := omega) only [AA]) | (with_reducible first | refine A6 ?_ ?_ ?_ | exact AC | assumption | refine A0 ?_ | refine KM.of ?_ | refine AB ?_ | refine AE ?_ | refine AJ ?_ | refine AG ?_ | intro _g _hg | refine AD ?_ ?_ | intro _hc) | omega)
    subst hR
    rw [hWk]
    have hrec := ih l1.length hlN l1 (w :: ws) cur1 1 (.own g4) O2 _ _ n3 (Nat.le_refl _) hS4.sit.pts rfl hS4.dj hS4.tok (fun _ => rfl) (fun h => h.elim hS4.sit.ngO hS4.nOt) (by simp; omega) hrd hrg1 E1 E2 E3
    simp only [AL, List.append_nil] at hrec
    have hat := hat.eqc (c' := cur1) (by simp [AL])
    exact AI (r := .tup [_, _]) rfl (by omega) hS4.sit.sup ⟨_, rfl, hat, hrec⟩
def NewS (e : Bool) (gO lo : Nat) (F : Fut) (O : Nat → Prop) (n : Nat) (H : A3) : CJ := fun r n' H' => Ct r ∧ n ≤ n' ∧ SameB n H H' ∧ (∀ k, n' ≤ k → H' k = none) ∧ ∃ O' : Nat → Prop, (∀ g, O' g → O g ∨ n ≤ g) ∧ (∀ g, O' g → g < n') ∧ Raw e gO lo F.fin r F.l F.cur O' H' n'
section
variable {gO lo n : Nat} {fin cur : AZ} {px : AV} {l : Aq} {O1 : Nat → Prop} {H : A3}
theorem Bx.new {O : Nat → Prop} {g m : Nat} {H2 : A3} {ob : AObj} (hb : ∀ g, O g → g < n) (hO : gO < n) (h1 : n ≤ g) (h2 : g < m) (h3 : H2 g = some ob) : Bx O gO g H2 m ob := ⟨fun h => by have := hb g h; omega, by omega, h2, h3⟩
theorem Pts.newB {ps : List Pt} {n' : Nat} {H' : A3} (h : Pts gO lo ps H n) (hn : n ≤ n') (hs : SameB n H H') : Pts gO lo ps H' n' := h.at_ (fun g hg => hs g (h.bel g hg)) hn
theorem Cl (h : Pts gO lo [⟨px, some l, cur, fin, O1⟩] H n) : Raw true gO lo fin px l cur O1 H n ∧ monL cur l fin ∧ ∀ g, O1 g → g < n := ⟨h.1.1, h.1.2, h.2.1⟩
theorem Xx {F : Fut} {O : Nat → Prop} (hr : Raw false gO lo F.fin px F.l F.cur O H n) (hx : Ct px) (hb : ∀ g, O g → g < n) (hnO : ¬ O gO) (hO : gO < n) : ACalls Tryz.prog 71 [px] n H (NewS true gO lo F O n H) := by
 generalize hR : NewS _ _ _ _ _ _ _ = R
 obtain ⟨ff, fa, fb, rfl⟩ := hx
 refine A8 Tryz.func71 A21 rfl fun hs => ?_
 repeat' (first | (simp -implicitDefEqProofs [c71, -getElem?_pos, splice, -AH]) | (simp (disch := omega) only [AA]) | (with_reducible first | refine A6 ?_ ?_ ?_ | exact AC | assumption | refine A0 ?_ | refine KM.of ?_ | refine AB ?_ | refine A1 ?_ | refine A4 ?_ | intro _g _hg | refine AD ?_ ?_ | intro _hc) | omega)
 rename_i g2 hg2
 subst hR
 refine AI (r := .fn _ [] [.ptr _g 0, .ptr g2 0]) rfl (by omega) (fun k hk => by simp (disch := omega) only [upd_ne]; exact hs k (by omega)) ⟨⟨_, _, _, rfl⟩, by omega, (fun k hk => by simp (disch := omega) only [upd_ne]), (fun k hk => by simp (disch := omega) only [upd_ne]; exact hs k (by omega)), _, ?_, ?_, XC (by omega) F.l F.cur O _ _ (hr.at_ (fun g hg => by have := hb g hg; simp (disch := omega) only [upd_ne]) (by omega)) hnO (fun g hg => by have := hb g hg; omega) (Bx.new hb hO (by omega) (by omega) (by simp (disch := omega) only [upd_ne, AX] <;> rfl)) (Bx.new hb hO (by omega) (by omega) (by simp (disch := omega) only [upd_ne, AX] <;> rfl))⟩
 ·rintro g (h | h | h)
  ·exact .inl h
  ·exact .inr (by omega)
  ·exact .inr (by omega)
 ·rintro g (h | h | h)
  ·have := hb g h; omega
  ·omega
  ·omega
end
section
variable {gO lo n : Nat} {fin cur : AZ} {px : AV} {l : Aq} {O1 : Nat → Prop} {H : A3}
theorem A1g {m : Nat} (hm : m ≤ 5000) (h : Pts gO lo [⟨px, some l, cur, fin, O1⟩] H n) (hx : Ct px) (hnO : ¬ OU [⟨px, some l, cur, fin, O1⟩] gO) (hO : gO < n) : ACalls Tryz.prog 109 [aI m, px] n H (NewS false gO lo ⟨cur, (DE m cur l fin).1, (DE m cur l fin).2⟩ (OU [⟨px, some l, cur, fin, O1⟩]) n H) := by
 generalize hR : NewS _ _ _ _ _ _ _ = R
 obtain ⟨hraw0, hmon, hb1⟩ := Cl h
 have hxf := hx
 have hb := h.bel
 have hc1 : AL [⟨px, some l, cur, fin, O1⟩] = cur := by simp [AL]
 have hOU : O1 = OU [⟨px, some l, cur, fin, O1⟩] := funext fun g => propext ⟨fun h => .inl h, fun h => h.elim id fun h => h.elim⟩
 have hraw : Raw true gO lo fin px l cur (OU [⟨px, some l, cur, fin, O1⟩]) H n := by rw [← hOU]; exact hraw0
 obtain ⟨ff, fa, fb, rfl⟩ := hx
 refine A8 Tryz.func109 A11 rfl fun hs => ?_
 repeat' (first | (simp -implicitDefEqProofs [c109, -getElem?_pos, splice, -AH]) | (simp (disch := omega) only [AA]) | (with_reducible first | refine A6 ?_ ?_ ?_ | exact AC | assumption | refine A0 ?_ | refine KM.of ?_ | refine AB ?_ | refine A1 ?_ | refine A4 ?_ | intro _g _hg | refine AD ?_ ?_ | intro _hc) | omega)
 rename_i ga hga
 subst hR
 have hrec := Xu (show ga ≠ _g by omega) l cur m _ (upd (upd H ga (some (Bm m))) _g (some (Bt (.fn ff fa fb)))) (_g + 1) (hraw.at_ (fun g hg => by have := hb g hg; simp (disch := omega) only [upd_ne]) (by omega)) hm hnO (fun g hg => by have := hb g hg; omega) (Bx.new hb hO (by omega) (by omega) (by simp (disch := omega) only [upd_ne, AX] <;> rfl)) (Bx.new hb hO (by omega) (by omega) (by simp (disch := omega) only [upd_ne, AX] <;> rfl))
 refine AI (r := .fn _ [] [.ptr ga 0, .ptr _g 0]) rfl (by omega) (fun k hk => by simp (disch := omega) only [upd_ne]; exact hs k (by omega)) ⟨⟨_, _, _, rfl⟩, by omega, (fun k hk => by simp (disch := omega) only [upd_ne]), (fun k hk => by simp (disch := omega) only [upd_ne]; exact hs k (by omega)), fun g => OU [⟨.fn ff fa fb, some l, cur, fin, O1⟩] g ∨ (g = ga ∨ g = _g), ?_, ?_, hrec⟩
 ·rintro g (h | h | h)
  ·exact .inl h
  ·exact .inr (by omega)
  ·exact .inr (by omega)
 ·rintro g (h | h | h)
  ·have := hb g h; omega
  ·omega
  ·omega
theorem A0g {m : Nat} (hm : m ≤ 5000) (h : Pts gO lo [⟨px, some l, cur, fin, O1⟩] H n) (hx : Ct px) (hnO : ¬ OU [⟨px, some l, cur, fin, O1⟩] gO) (hO : gO < n) : ACalls Tryz.prog 110 [aI m, px] n H (NewS false gO lo ⟨cur, l.drop m, fin⟩ (OU [⟨px, some l, cur, fin, O1⟩]) n H) := by
 generalize hR : NewS _ _ _ _ _ _ _ = R
 obtain ⟨hraw0, hmon, hb1⟩ := Cl h
 have hxf := hx
 have hb := h.bel
 have hc1 : AL [⟨px, some l, cur, fin, O1⟩] = cur := by simp [AL]
 have hOU : O1 = OU [⟨px, some l, cur, fin, O1⟩] := funext fun g => propext ⟨fun h => .inl h, fun h => h.elim id fun h => h.elim⟩
 have hraw : Raw true gO lo fin px l cur (OU [⟨px, some l, cur, fin, O1⟩]) H n := by rw [← hOU]; exact hraw0
 obtain ⟨ff, fa, fb, rfl⟩ := hx
 refine A8 Tryz.func110 A0w rfl fun hs => ?_
 repeat' (first | (simp -implicitDefEqProofs [c110, -getElem?_pos, splice, -AH]) | (simp (disch := omega) only [AA]) | (with_reducible first | refine A6 ?_ ?_ ?_ | exact AC | assumption | refine A0 ?_ | refine KM.of ?_ | refine AB ?_ | refine A1 ?_ | refine A4 ?_ | intro _g _hg | refine AD ?_ ?_ | intro _hc) | omega)
 rename_i ga hga
 subst hR
 have hrec := YL hxf (show ga ≠ _g by omega) _ m l cur O1 _ (upd (upd H ga (some (Bm m))) _g (some (Bt (.fn ff fa fb)))) (_g + 1) (Nat.le_refl _) hm (h.newB (by omega) (fun k hk => by simp (disch := omega) only [upd_ne])) rfl hnO (Bx.new hb hO (by omega) (by omega) (by simp (disch := omega) only [upd_ne, AX] <;> rfl)) (Bx.new hb hO (by omega) (by omega) (by simp (disch := omega) only [upd_ne, AX] <;> rfl))
 simp only [AL, List.append_nil] at hrec
 refine AI (r := .fn _ [] [.ptr ga 0, .ptr _g 0]) rfl (by omega) (fun k hk => by simp (disch := omega) only [upd_ne]; exact hs k (by omega)) ⟨⟨_, _, _, rfl⟩, by omega, (fun k hk => by simp (disch := omega) only [upd_ne]), (fun k hk => by simp (disch := omega) only [upd_ne]; exact hs k (by omega)), fun g => OU [⟨.fn ff fa fb, some l, cur, fin, O1⟩] g ∨ (g = ga ∨ g = _g), ?_, ?_, hrec⟩
 ·rintro g (h | h | h)
  ·exact .inl h
  ·exact .inr (by omega)
  ·exact .inr (by omega)
 ·rintro g (h | h | h)
  ·have := hb g h; omega
  ·omega
  ·omega
theorem A0l {k op m : Int} {va vb : List AV} (hop : 1 ≤ op ∧ op ≤ 3) (hm : B5 m) (h3 : op = 3 → 1 ≤ m) (hrg : rgE l) (h : Pts gO lo [⟨px, some l, cur, fin, O1⟩] H n) (hx : Ct px) (hnO : ¬ OU [⟨px, some l, cur, fin, O1⟩] gO) (hO : gO < n) : ACalls Tryz.prog 112 [.agg [aI k, aI op, aI m, .sl 1 va .ro, .sl 5 vb .ro], px] n H (NewS false gO lo ⟨cur, Ie (fun x => Fj op x m) l, fin⟩ (OU [⟨px, some l, cur, fin, O1⟩]) n H) := by
 generalize hR : NewS _ _ _ _ _ _ _ = R
 obtain ⟨hraw0, hmon, hb1⟩ := Cl h
 have hxf := hx
 have hb := h.bel
 have hc1 : AL [⟨px, some l, cur, fin, O1⟩] = cur := by simp [AL]
 have hOU : O1 = OU [⟨px, some l, cur, fin, O1⟩] := funext fun g => propext ⟨fun h => .inl h, fun h => h.elim id fun h => h.elim⟩
 have hraw : Raw true gO lo fin px l cur (OU [⟨px, some l, cur, fin, O1⟩]) H n := by rw [← hOU]; exact hraw0
 obtain ⟨ff, fa, fb, rfl⟩ := hx
 refine A8 Tryz.func112 A08 rfl fun hs => ?_
 repeat' (first | (simp -implicitDefEqProofs [c112, -getElem?_pos, splice, -AH]) | (simp (disch := omega) only [AA]) | (with_reducible first | refine A6 ?_ ?_ ?_ | exact AC | assumption | refine A0 ?_ | refine KM.of ?_ | refine AB ?_ | refine A1 ?_ | refine A4 ?_ | intro _g _hg | refine AD ?_ ?_ | intro _hc) | omega)
 rename_i ga hga gb hgb
 subst hR
 have hrec := XX (k := k) (a := .sl 1 va .ro) (b := .sl 5 vb .ro) hop hm h3 hxf (show _g ≠ gb by omega) (show _g ≠ ga by omega) l cur O1 _ (upd (upd (upd (upd H ga (some (BH k op m (.sl 1 va .ro) (.sl 5 vb .ro)))) gb (some (Bt (.fn ff fa fb)))) _g (some (Fc false))) _g (some (Fc false))) (_g + 1) (h.newB (by omega) (fun k hk => by simp (disch := omega) only [upd_ne])) rfl hrg hnO (Bx.new hb hO (by omega) (by omega) (by simp (disch := omega) only [upd_ne, AX] <;> rfl)) (Bx.new hb hO (by omega) (by omega) (by simp (disch := omega) only [upd_ne, AX] <;> rfl)) (Bx.new hb hO (by omega) (by omega) (by simp (disch := omega) only [upd_ne, AX] <;> rfl))
 simp only [AL, List.append_nil] at hrec
 refine AI (r := .fn _ [] [.ptr _g 0, .ptr gb 0, .ptr ga 0]) rfl (by omega) (fun k hk => by simp (disch := omega) only [upd_ne]; exact hs k (by omega)) ⟨⟨_, _, _, rfl⟩, by omega, (fun k hk => by simp (disch := omega) only [upd_ne]), (fun k hk => by simp (disch := omega) only [upd_ne]; exact hs k (by omega)), fun g => OU [⟨.fn ff fa fb, some l, cur, fin, O1⟩] g ∨ (g = _g ∨ g = gb ∨ g = ga), ?_, ?_, hrec⟩
 ·rintro g (h | h | h | h)
  ·exact .inl h
  ·exact .inr (by omega)
  ·exact .inr (by omega)
  ·exact .inr (by omega)
 ·rintro g (h | h | h | h)
  ·have := hb g h; omega
  ·omega
  ·omega
  ·omega
theorem A0r {k op m : Int} {va vb : List AV} (hop : 1 ≤ op ∧ op ≤ 5) (hm : B5 m) (hrg : rgE l) (h : Pts gO lo [⟨px, some l, cur, fin, O1⟩] H n) (hx : Ct px) (hnO : ¬ OU [⟨px, some l, cur, fin, O1⟩] gO) (hO : gO < n) : ACalls Tryz.prog 113 [.agg [aI k, aI op, aI m, .sl 1 va .ro, .sl 5 vb .ro], px] n H (NewS false gO lo ⟨cur, LQ (DZ op) m l, fin⟩ (OU [⟨px, some l, cur, fin, O1⟩]) n H) := by
 generalize hR : NewS _ _ _ _ _ _ _ = R
 obtain ⟨hraw0, hmon, hb1⟩ := Cl h
 have hxf := hx
 have hb := h.bel
 have hc1 : AL [⟨px, some l, cur, fin, O1⟩] = cur := by simp [AL]
 have hOU : O1 = OU [⟨px, some l, cur, fin, O1⟩] := funext fun g => propext ⟨fun h => .inl h, fun h => h.elim id fun h => h.elim⟩
 have hraw : Raw true gO lo fin px l cur (OU [⟨px, some l, cur, fin, O1⟩]) H n := by rw [← hOU]; exact hraw0
 obtain ⟨ff, fa, fb, rfl⟩ := hx
 refine A8 Tryz.func113 A13 rfl fun hs => ?_
 repeat' (first | (simp -implicitDefEqProofs [c113, -getElem?_pos, splice, -AH]) | (simp (disch := omega) only [AA]) | (with_reducible first | refine A6 ?_ ?_ ?_ | exact AC | assumption | refine A0 ?_ | refine KM.of ?_ | refine AB ?_ | refine A1 ?_ | refine A4 ?_ | intro _g _hg | refine AD ?_ ?_ | intro _hc) | omega)
 rename_i ga hga gb hgb
 subst hR
 have hrec := X5 (m := m) (k := k) (a := .sl 1 va .ro) (b := .sl 5 vb .ro) hop (show gb ≠ _g by omega) (show ga ≠ _g by omega) l cur m _ (upd (upd (upd (upd H ga (some (BH k op m (.sl 1 va .ro) (.sl 5 vb .ro)))) gb (some (Bt (.fn ff fa fb)))) _g (some (Bm 0))) _g (some (Bm m))) (_g + 1) (hraw.at_ (fun g hg => by have := hb g hg; simp (disch := omega) only [upd_ne]) (by omega)) hrg hm hnO (fun g hg => by have := hb g hg; omega) (Bx.new hb hO (by omega) (by omega) (by simp (disch := omega) only [upd_ne, AX] <;> rfl)) (Bx.new hb hO (by omega) (by omega) (by simp (disch := omega) only [upd_ne, AX] <;> rfl)) (Bx.new hb hO (by omega) (by omega) (by simp (disch := omega) only [upd_ne, AX] <;> rfl))
 refine AI (r := .fn _ [] [.ptr gb 0, .ptr ga 0, .ptr _g 0]) rfl (by omega) (fun k hk => by simp (disch := omega) only [upd_ne]; exact hs k (by omega)) ⟨⟨_, _, _, rfl⟩, by omega, (fun k hk => by simp (disch := omega) only [upd_ne]), (fun k hk => by simp (disch := omega) only [upd_ne]; exact hs k (by omega)), fun g => OU [⟨.fn ff fa fb, some l, cur, fin, O1⟩] g ∨ (g = gb ∨ g = ga ∨ g = _g), ?_, ?_, hrec⟩
 ·rintro g (h | h | h | h)
  ·exact .inl h
  ·exact .inr (by omega)
  ·exact .inr (by omega)
  ·exact .inr (by omega)
 ·rintro g (h | h | h | h)
  ·have := hb g h; omega
  ·omega
  ·omega
  ·omega
theorem YO {k op : Int} {m : Nat} {va vb : List AV} (hop : 1 ≤ op ∧ op ≤ 5) (hm : 1 ≤ m ∧ m ≤ 8) (hrg : rgE l) (h : Pts gO lo [⟨px, some l, cur, fin, O1⟩] H n) (hx : Ct px) (hnO : ¬ OU [⟨px, some l, cur, fin, O1⟩] gO) (hO : gO < n) : ACalls Tryz.prog 114 [.agg [aI k, aI op, aI (m : Nat), .sl 1 va .ro, .sl 5 vb .ro], px] n H (NewS false gO lo ⟨cur, FP (DZ op) m [] l, fin⟩ (OU [⟨px, some l, cur, fin, O1⟩]) n H) := by
 generalize hR : NewS _ _ _ _ _ _ _ = R
 obtain ⟨hraw0, hmon, hb1⟩ := Cl h
 have hxf := hx
 have hb := h.bel
 have hc1 : AL [⟨px, some l, cur, fin, O1⟩] = cur := by simp [AL]
 have hOU : O1 = OU [⟨px, some l, cur, fin, O1⟩] := funext fun g => propext ⟨fun h => .inl h, fun h => h.elim id fun h => h.elim⟩
 have hraw : Raw true gO lo fin px l cur (OU [⟨px, some l, cur, fin, O1⟩]) H n := by rw [← hOU]; exact hraw0
 obtain ⟨ff, fa, fb, rfl⟩ := hx
 have hOT : OT ⟨.fn ff fa fb, some l, cur, fin, O1⟩ .nil = OU [⟨.fn ff fa fb, some l, cur, fin, O1⟩] := funext fun g => propext ⟨fun h => h.elim id fun h => h.elim, .inl⟩
 refine A8 Tryz.func114 A17 rfl fun hs => ?_
 repeat' (first | (simp -implicitDefEqProofs [c114, -getElem?_pos, splice, -AH]) | (simp (disch := omega) only [AA]) | (with_reducible first | refine A6 ?_ ?_ ?_ | exact AC | assumption | refine A0 ?_ | refine KM.of ?_ | refine AB ?_ | refine A1 ?_ | refine A4 ?_ | intro _g _hg | refine AD ?_ ?_ | intro _hc) | omega)
 rename_i ga hga gb hgb
 subst hR
 have hrec := TU (k := k) (a := .sl 1 va .ro) (b := .sl 5 vb .ro) hxf hop hm (show _g ≠ ga by omega) (show _g ≠ gb by omega) _ l [] cur 0 .nil O1 _ (upd (upd (upd H ga (some (BH k op (m : Nat) (.sl 1 va .ro) (.sl 5 vb .ro)))) gb (some (Bt (.fn ff fa fb)))) _g (some (HS [] 0 .nil))) (_g + 1) (Nat.le_refl _) (h.newB (by omega) (fun k hk => by simp (disch := omega) only [upd_ne])) hOT (fun g h => h.elim) rfl (fun h => absurd rfl h) hnO (by simp) (fun x hx => by cases hx) hrg (Bx.new hb hO (by omega) (by omega) (by simp (disch := omega) only [upd_ne, AX] <;> rfl)) (Bx.new hb hO (by omega) (by omega) (by simp (disch := omega) only [upd_ne, AX] <;> rfl)) (Bx.new hb hO (by omega) (by omega) (by simp (disch := omega) only [upd_ne, AX] <;> rfl))
 simp only [AL, List.append_nil] at hrec
 refine AI (r := .fn _ [] [.ptr _g 0, .ptr ga 0, .ptr gb 0]) rfl (by omega) (fun k hk => by simp (disch := omega) only [upd_ne]; exact hs k (by omega)) ⟨⟨_, _, _, rfl⟩, by omega, (fun k hk => by simp (disch := omega) only [upd_ne]), (fun k hk => by simp (disch := omega) only [upd_ne]; exact hs k (by omega)), fun g => OU [⟨.fn ff fa fb, some l, cur, fin, O1⟩] g ∨ (g = _g ∨ g = ga ∨ g = gb), ?_, ?_, hrec⟩
 ·rintro g (h | h | h | h)
  ·exact .inl h
  ·exact .inr (by omega)
  ·exact .inr (by omega)
  ·exact .inr (by omega)
 ·rintro g (h | h | h | h)
  ·have := hb g h; omega
  ·omega
  ·omega
  ·omega
end
section
variable {gO lo n : Nat} {fin cur : AZ} {px : AV} {l : Aq} {O1 : Nat → Prop} {H : A3}
theorem Vw (h : Pts gO lo [⟨px, some l, cur, fin, O1⟩] H n) (hx : Ct px) (hnO : ¬ OU [⟨px, some l, cur, fin, O1⟩] gO) (hO : gO < n) : ACalls Tryz.prog 117 [aI 0, px] n H (NewS false gO lo ⟨cur, [], cur⟩ (OU [⟨px, some l, cur, fin, O1⟩]) n H) := by
 generalize hR : NewS _ _ _ _ _ _ _ = R
 obtain ⟨hraw0, hmon, hb1⟩ := Cl h
 have hxf := hx
 have hb := h.bel
 have hc1 : AL [⟨px, some l, cur, fin, O1⟩] = cur := by simp [AL]
 have hOU : O1 = OU [⟨px, some l, cur, fin, O1⟩] := funext fun g => propext ⟨fun h => .inl h, fun h => h.elim id fun h => h.elim⟩
 have hraw : Raw true gO lo fin px l cur (OU [⟨px, some l, cur, fin, O1⟩]) H n := by rw [← hOU]; exact hraw0
 obtain ⟨ff, fa, fb, rfl⟩ := hx
 refine A8 Tryz.func117 Wo rfl fun hs => ?_
 repeat' (first | (simp -implicitDefEqProofs [c117, -getElem?_pos, splice, -AH]) | (simp (disch := omega) only [AA]) | (with_reducible first | refine A6 ?_ ?_ ?_ | exact AC | assumption | refine A0 ?_ | refine KM.of ?_ | refine AB ?_ | refine A1 ?_ | refine A4 ?_ | intro _g _hg | refine AD ?_ ?_ | intro _hc) | omega)
 rename_i ga hga gb hgb gc hgc
 subst hR
 have hrec := RP (gO := gO) (lo := lo) (g1 := ga) (g2 := _g) (g3 := gb) (g4 := gc) (a := Bm (-1)) (b := Bt (.fn ff fa fb)) (c := HS [] 0 .nil) cur _ (upd (upd (upd (upd (upd H ga (some (Bm (0)))) gb (some (Bt (.fn ff fa fb)))) gc (some (HS [] 0 .nil))) _g (some (Bm 0))) _g (some (Bm (-1)))) (_g + 1) hnO (fun g hg => by have := hb g hg; omega) (Bx.new hb hO (by omega) (by omega) (by simp (disch := omega) only [upd_ne, AX] <;> rfl)) (Bx.new hb hO (by omega) (by omega) (by simp (disch := omega) only [upd_ne, AX] <;> rfl)) (Bx.new hb hO (by omega) (by omega) (by simp (disch := omega) only [upd_ne, AX] <;> rfl)) (Bx.new hb hO (by omega) (by omega) (by simp (disch := omega) only [upd_ne, AX] <;> rfl))
 refine AI (r := .fn _ [] [.ptr ga 0, .ptr _g 0, .ptr gb 0, .ptr gc 0]) rfl (by omega) (fun k hk => by simp (disch := omega) only [upd_ne]; exact hs k (by omega)) ⟨⟨_, _, _, rfl⟩, by omega, (fun k hk => by simp (disch := omega) only [upd_ne]), (fun k hk => by simp (disch := omega) only [upd_ne]; exact hs k (by omega)), fun g => OU [⟨.fn ff fa fb, some l, cur, fin, O1⟩] g ∨ (g = ga ∨ g = _g ∨ g = gb ∨ g = gc), ?_, ?_, hrec⟩
 ·rintro g (h | h | h | h | h)
  ·exact .inl h
  ·exact .inr (by omega)
  ·exact .inr (by omega)
  ·exact .inr (by omega)
  ·exact .inr (by omega)
 ·rintro g (h | h | h | h | h)
  ·have := hb g h; omega
  ·omega
  ·omega
  ·omega
  ·omega
theorem VH {m : Nat} (hm : 1 ≤ m ∧ m ≤ 20) (hl : l.length ≤ 5000) (h : Pts gO lo [⟨px, some l, cur, fin, O1⟩] H n) (hx : Ct px) (hnO : ¬ OU [⟨px, some l, cur, fin, O1⟩] gO) (hO : gO < n) : ACalls Tryz.prog 117 [aI m, px] n H (NewS false gO lo ⟨cur, l ++ Eo (l.map (·.1)) fin (m - 1), fin⟩ (OU [⟨px, some l, cur, fin, O1⟩]) n H) := by
 generalize hR : NewS _ _ _ _ _ _ _ = R
 obtain ⟨hraw0, hmon, hb1⟩ := Cl h
 have hxf := hx
 have hb := h.bel
 have hc1 : AL [⟨px, some l, cur, fin, O1⟩] = cur := by simp [AL]
 have hOU : O1 = OU [⟨px, some l, cur, fin, O1⟩] := funext fun g => propext ⟨fun h => .inl h, fun h => h.elim id fun h => h.elim⟩
 have hraw : Raw true gO lo fin px l cur (OU [⟨px, some l, cur, fin, O1⟩]) H n := by rw [← hOU]; exact hraw0
 obtain ⟨ff, fa, fb, rfl⟩ := hx
 have hOT : (fun g => OU [⟨.fn ff fa fb, some l, cur, fin, O1⟩] g ∨ CI .nil g) = OU [⟨.fn ff fa fb, some l, cur, fin, O1⟩] := funext fun g => propext ⟨fun h => h.elim id fun h => h.elim, .inl⟩
 refine A8 Tryz.func117 Wo rfl fun hs => ?_
 repeat' (first | (simp -implicitDefEqProofs [c117, -getElem?_pos, splice, -AH]) | (simp (disch := omega) only [AA]) | (with_reducible first | refine A6 ?_ ?_ ?_ | exact AC | assumption | refine A0 ?_ | refine KM.of ?_ | refine AB ?_ | refine A1 ?_ | refine A4 ?_ | intro _g _hg | refine AD ?_ ?_ | intro _hc) | omega)
 rename_i ga hga gb hgb gc hgc
 subst hR
 have hrec := T0 hxf (show ga ≠ _g by omega) (show ga ≠ gb by omega) (show ga ≠ gc by omega) (show _g ≠ gb by omega) (show _g ≠ gc by omega) (show gb ≠ gc by omega) hm l [] cur 0 .nil O1 _ (upd (upd (upd (upd (upd H ga (some (Bm (m)))) gb (some (Bt (.fn ff fa fb)))) gc (some (HS [] 0 .nil))) _g (some (Bm 0))) _g (some (Bm (-1)))) (_g + 1) (by simpa using hl) (h.newB (by omega) (fun k hk => by simp (disch := omega) only [upd_ne])) hOT (fun g h => h.elim) rfl (.inr ⟨rfl, rfl⟩) hnO (Bx.new hb hO (by omega) (by omega) (by simp (disch := omega) only [upd_ne, AX] <;> rfl)) (Bx.new hb hO (by omega) (by omega) (by simp (disch := omega) only [upd_ne, AX] <;> rfl)) (Bx.new hb hO (by omega) (by omega) (by simp (disch := omega) only [upd_ne, AX] <;> rfl)) (Bx.new hb hO (by omega) (by omega) (by simp (disch := omega) only [upd_ne, AX] <;> rfl))
 simp only [AL, List.append_nil] at hrec
 rw [List.nil_append] at hrec
 refine AI (r := .fn _ [] [.ptr ga 0, .ptr _g 0, .ptr gb 0, .ptr gc 0]) rfl (by omega) (fun k hk => by simp (disch := omega) only [upd_ne]; exact hs k (by omega)) ⟨⟨_, _, _, rfl⟩, by omega, (fun k hk => by simp (disch := omega) only [upd_ne]), (fun k hk => by simp (disch := omega) only [upd_ne]; exact hs k (by omega)), fun g => OU [⟨.fn ff fa fb, some l, cur, fin, O1⟩] g ∨ (g = ga ∨ g = _g ∨ g = gb ∨ g = gc), ?_, ?_, hrec⟩
 ·rintro g (h | h | h | h | h)
  ·exact .inl h
  ·exact .inr (by omega)
  ·exact .inr (by omega)
  ·exact .inr (by omega)
  ·exact .inr (by omega)
 ·rintro g (h | h | h | h | h)
  ·have := hb g h; omega
  ·omega
  ·omega
  ·omega
  ·omega
theorem NewS.up {e : Bool} {F : Fut} {O : Nat → Prop} {n1 n' : Nat} {H1 H' : A3} {r : AV} (h : NewS e gO lo F O n1 H1 r n' H') (hn : n ≤ n1) (hs : SameB n H H1) : NewS e gO lo F O n H r n' H' := by
 obtain ⟨h1, h2, h3, h4, O', h5, h6, h7⟩ := h
 exact ⟨h1, by omega, fun k hk => (h3 k (by omega)).trans (hs k hk), h4, O', fun g hg => (h5 g hg).imp id (fun h => by omega), h6, h7⟩
theorem VC {op m : Int} {va vb : List AV} (hop : 1 ≤ op ∧ op ≤ 6) (hm : B5 m) (h6 : op = 6 → 1 ≤ m) (hrg : rgE l) (h : Pts gO lo [⟨px, some l, cur, fin, O1⟩] H n) (hx : Ct px) (hnO : ¬ OU [⟨px, some l, cur, fin, O1⟩] gO) (hO : gO < n) : ACalls Tryz.prog 77 [.agg [aI 3, aI op, aI m, .sl 1 va .ro, .sl 5 vb .ro], px] n H (NewS false gO lo ⟨cur, l.map fun e => (DZ op e.1 m, e.2), fin⟩ (OU [⟨px, some l, cur, fin, O1⟩]) n H) := by
 generalize hR : NewS _ _ _ _ _ _ _ = R
 obtain ⟨hraw0, hmon, hb1⟩ := Cl h
 have hxf := hx
 have hb := h.bel
 have hc1 : AL [⟨px, some l, cur, fin, O1⟩] = cur := by simp [AL]
 have hOU : O1 = OU [⟨px, some l, cur, fin, O1⟩] := funext fun g => propext ⟨fun h => .inl h, fun h => h.elim id fun h => h.elim⟩
 have hraw : Raw true gO lo fin px l cur (OU [⟨px, some l, cur, fin, O1⟩]) H n := by rw [← hOU]; exact hraw0
 obtain ⟨ff, fa, fb, rfl⟩ := hx
 refine A8 Tryz.func77 HP rfl fun hs => ?_
 repeat' (first | (simp -implicitDefEqProofs [Cf, Cn, Cm, Cp, Cs, Ck, Cg, Cr, Ce, C5, c77, -getElem?_pos, splice, -AH]) | (simp (disch := omega) only [AA]) | (with_reducible first | refine A6 ?_ ?_ ?_ | exact AC | assumption | refine A0 ?_ | refine KM.of ?_ | refine AB ?_ | refine A1 ?_ | refine A4 ?_ | intro _g _hg | refine AD ?_ ?_ | intro _hc) | omega)
 rename_i ga hga
 subst hR
 have hrec := ZH (g1 := _g) (g2 := ga) (k := 3) (a := .sl 1 va .ro) (b := .sl 5 vb .ro) hop hm h6 l cur _ (upd (upd H ga (some (BH 3 op m (.sl 1 va .ro) (.sl 5 vb .ro)))) _g (some (Bt (.fn ff fa fb)))) (_g + 1) (hraw.at_ (fun g hg => by have := hb g hg; simp (disch := omega) only [upd_ne]) (by omega)) hrg hnO (fun g hg => by have := hb g hg; omega) (Bx.new hb hO (by omega) (by omega) (by simp (disch := omega) only [upd_ne, AX] <;> rfl)) (Bx.new hb hO (by omega) (by omega) (by simp (disch := omega) only [upd_ne, AX] <;> rfl))
 refine AI (r := .fn _ [] [.ptr _g 0, .ptr ga 0]) rfl (by omega) (fun k hk => by simp (disch := omega) only [upd_ne]; exact hs k (by omega)) ⟨⟨_, _, _, rfl⟩, by omega, (fun k hk => by simp (disch := omega) only [upd_ne]), (fun k hk => by simp (disch := omega) only [upd_ne]; exact hs k (by omega)), fun g => OU [⟨.fn ff fa fb, some l, cur, fin, O1⟩] g ∨ (g = _g ∨ g = ga), ?_, ?_, hrec⟩
 ·rintro g (h | h | h)
  ·exact .inl h
  ·exact .inr (by omega)
  ·exact .inr (by omega)
 ·rintro g (h | h | h)
  ·have := hb g h; omega
  ·omega
  ·omega
theorem VA {op m : Int} {va vb : List AV} (hop : 1 ≤ op ∧ op ≤ 3) (hm : B5 m) (h3 : op = 3 → 1 ≤ m) (hrg : rgE l) (h : Pts gO lo [⟨px, some l, cur, fin, O1⟩] H n) (hx : Ct px) (hnO : ¬ OU [⟨px, some l, cur, fin, O1⟩] gO) (hO : gO < n) : ACalls Tryz.prog 77 [.agg [aI 4, aI op, aI m, .sl 1 va .ro, .sl 5 vb .ro], px] n H (NewS false gO lo ⟨cur, l.filter fun e => Fj op e.1 m, fin⟩ (OU [⟨px, some l, cur, fin, O1⟩]) n H) := by
 generalize hR : NewS _ _ _ _ _ _ _ = R
 obtain ⟨hraw0, hmon, hb1⟩ := Cl h
 have hxf := hx
 have hb := h.bel
 have hc1 : AL [⟨px, some l, cur, fin, O1⟩] = cur := by simp [AL]
 have hOU : O1 = OU [⟨px, some l, cur, fin, O1⟩] := funext fun g => propext ⟨fun h => .inl h, fun h => h.elim id fun h => h.elim⟩
 have hraw : Raw true gO lo fin px l cur (OU [⟨px, some l, cur, fin, O1⟩]) H n := by rw [← hOU]; exact hraw0
 obtain ⟨ff, fa, fb, rfl⟩ := hx
 refine A8 Tryz.func77 HP rfl fun hs => ?_
 repeat' (first | (simp -implicitDefEqProofs [Cf, Cn, Cm, Cp, Cs, Ck, Cg, Cr, Ce, C5, c77, -getElem?_pos, splice, -AH]) | (simp (disch := omega) only [AA]) | (with_reducible first | refine A6 ?_ ?_ ?_ | exact AC | assumption | refine A0 ?_ | refine KM.of ?_ | refine AB ?_ | refine A1 ?_ | refine A4 ?_ | intro _g _hg | refine AD ?_ ?_ | intro _hc) | omega)
 rename_i ga hga
 subst hR
 have hrec := Tb (g1 := _g) (g2 := ga) (k := 4) (a := .sl 1 va .ro) (b := .sl 5 vb .ro) hop hm h3 hxf _ l cur O1 _ (upd (upd H ga (some (BH 4 op m (.sl 1 va .ro) (.sl 5 vb .ro)))) _g (some (Bt (.fn ff fa fb)))) (_g + 1) (Nat.le_refl _) (h.newB (by omega) (fun k hk => by simp (disch := omega) only [upd_ne])) rfl hrg hnO (Bx.new hb hO (by omega) (by omega) (by simp (disch := omega) only [upd_ne, AX] <;> rfl)) (Bx.new hb hO (by omega) (by omega) (by simp (disch := omega) only [upd_ne, AX] <;> rfl))
 simp only [AL, List.append_nil] at hrec
 refine AI (r := .fn _ [] [.ptr _g 0, .ptr ga 0]) rfl (by omega) (fun k hk => by simp (disch := omega) only [upd_ne]; exact hs k (by omega)) ⟨⟨_, _, _, rfl⟩, by omega, (fun k hk => by simp (disch := omega) only [upd_ne]), (fun k hk => by simp (disch := omega) only [upd_ne]; exact hs k (by omega)), fun g => OU [⟨.fn ff fa fb, some l, cur, fin, O1⟩] g ∨ (g = _g ∨ g = ga), ?_, ?_, hrec⟩
 ·rintro g (h | h | h)
  ·exact .inl h
  ·exact .inr (by omega)
  ·exact .inr (by omega)
 ·rintro g (h | h | h)
  ·have := hb g h; omega
  ·omega
  ·omega
theorem Vd {op m : Int} {va vb : List AV} (hop : 1 ≤ op ∧ op ≤ 3) (hm : B5 m) (h3 : op = 3 → 1 ≤ m) (hrg : rgE l) (h : Pts gO lo [⟨px, some l, cur, fin, O1⟩] H n) (hx : Ct px) (hnO : ¬ OU [⟨px, some l, cur, fin, O1⟩] gO) (hO : gO < n) : ACalls Tryz.prog 77 [.agg [aI 7, aI op, aI m, .sl 1 va .ro, .sl 5 vb .ro], px] n H (NewS false gO lo ⟨cur, (Ev (fun x => Fj op x m) l fin).1, (Ev (fun x => Fj op x m) l fin).2⟩ (OU [⟨px, some l, cur, fin, O1⟩]) n H) := by
 generalize hR : NewS _ _ _ _ _ _ _ = R
 obtain ⟨hraw0, hmon, hb1⟩ := Cl h
 have hxf := hx
 have hb := h.bel
 have hc1 : AL [⟨px, some l, cur, fin, O1⟩] = cur := by simp [AL]
 have hOU : O1 = OU [⟨px, some l, cur, fin, O1⟩] := funext fun g => propext ⟨fun h => .inl h, fun h => h.elim id fun h => h.elim⟩
 have hraw : Raw true gO lo fin px l cur (OU [⟨px, some l, cur, fin, O1⟩]) H n := by rw [← hOU]; exact hraw0
 obtain ⟨ff, fa, fb, rfl⟩ := hx
 refine A8 Tryz.func77 HP rfl fun hs => ?_
 repeat' (first | (simp -implicitDefEqProofs [Cf, Cn, Cm, Cp, Cs, Ck, Cg, Cr, Ce, C5, c77, -getElem?_pos, splice, -AH]) | (simp (disch := omega) only [AA]) | (with_reducible first | refine A6 ?_ ?_ ?_ | exact AC | assumption | refine A0 ?_ | refine KM.of ?_ | refine AB ?_ | refine A1 ?_ | refine A4 ?_ | intro _g _hg | refine AD ?_ ?_ | intro _hc) | omega)
 rename_i ga hga
 subst hR
 have hrec := Vl (g1 := _g) (g2 := ga) (k := 7) (a := .sl 1 va .ro) (b := .sl 5 vb .ro) hop hm h3 l cur _ (upd (upd H ga (some (BH 7 op m (.sl 1 va .ro) (.sl 5 vb .ro)))) _g (some (Bt (.fn ff fa fb)))) (_g + 1) (hraw.at_ (fun g hg => by have := hb g hg; simp (disch := omega) only [upd_ne]) (by omega)) hrg hnO (fun g hg => by have := hb g hg; omega) (Bx.new hb hO (by omega) (by omega) (by simp (disch := omega) only [upd_ne, AX] <;> rfl)) (Bx.new hb hO (by omega) (by omega) (by simp (disch := omega) only [upd_ne, AX] <;> rfl))
 refine AI (r := .fn _ [] [.ptr _g 0, .ptr ga 0]) rfl (by omega) (fun k hk => by simp (disch := omega) only [upd_ne]; exact hs k (by omega)) ⟨⟨_, _, _, rfl⟩, by omega, (fun k hk => by simp (disch := omega) only [upd_ne]), (fun k hk => by simp (disch := omega) only [upd_ne]; exact hs k (by omega)), fun g => OU [⟨.fn ff fa fb, some l, cur, fin, O1⟩] g ∨ (g = _g ∨ g = ga), ?_, ?_, hrec⟩
 ·rintro g (h | h | h)
  ·exact .inl h
  ·exact .inr (by omega)
  ·exact .inr (by omega)
 ·rintro g (h | h | h)
  ·have := hb g h; omega
  ·omega
  ·omega
theorem Ss {op m : Int} {va vb : List AV} (hrg : rgE l) (h : Pts gO lo [⟨px, some l, cur, fin, O1⟩] H n) (hx : Ct px) (hnO : ¬ OU [⟨px, some l, cur, fin, O1⟩] gO) (hO : gO < n) : ACalls Tryz.prog 77 [.agg [aI 11, aI op, aI m, .sl 1 va .ro, .sl 5 vb .ro], px] n H (NewS false gO lo ⟨cur, Fh (-1) l, fin⟩ (OU [⟨px, some l, cur, fin, O1⟩]) n H) := by
 generalize hR : NewS _ _ _ _ _ _ _ = R
 obtain ⟨hraw0, hmon, hb1⟩ := Cl h
 have hxf := hx
 have hb := h.bel
 have hc1 : AL [⟨px, some l, cur, fin, O1⟩] = cur := by simp [AL]
 have hOU : O1 = OU [⟨px, some l, cur, fin, O1⟩] := funext fun g => propext ⟨fun h => .inl h, fun h => h.elim id fun h => h.elim⟩
 have hraw : Raw true gO lo fin px l cur (OU [⟨px, some l, cur, fin, O1⟩]) H n := by rw [← hOU]; exact hraw0
 obtain ⟨ff, fa, fb, rfl⟩ := hx
 refine A8 Tryz.func77 HP rfl fun hs => ?_
 repeat' (first | (simp -implicitDefEqProofs [Cf, Cn, Cm, Cp, Cs, Ck, Cg, Cr, Ce, C5, c77, -getElem?_pos, splice, -AH]) | (simp (disch := omega) only [AA]) | (with_reducible first | refine A6 ?_ ?_ ?_ | exact AC | assumption | refine A0 ?_ | refine KM.of ?_ | refine AB ?_ | refine A1 ?_ | refine A4 ?_ | intro _g _hg | refine AD ?_ ?_ | intro _hc) | omega)
 rename_i ga hga gb hgb
 subst hR
 have hrec := Xo hxf (show gb ≠ _g by omega) _ (-1) l cur O1 _ (upd (upd (upd (upd H ga (some (BH 11 op m (.sl 1 va .ro) (.sl 5 vb .ro)))) gb (some (Bt (.fn ff fa fb)))) _g (some (Bm 0))) _g (some (Bm (-1)))) (_g + 1) (Nat.le_refl _) (h.newB (by omega) (fun k hk => by simp (disch := omega) only [upd_ne])) rfl hrg hnO (Bx.new hb hO (by omega) (by omega) (by simp (disch := omega) only [upd_ne, AX] <;> rfl)) (Bx.new hb hO (by omega) (by omega) (by simp (disch := omega) only [upd_ne, AX] <;> rfl))
 simp only [AL, List.append_nil] at hrec
 refine AI (r := .fn _ [] [.ptr gb 0, .ptr _g 0]) rfl (by omega) (fun k hk => by simp (disch := omega) only [upd_ne]; exact hs k (by omega)) ⟨⟨_, _, _, rfl⟩, by omega, (fun k hk => by simp (disch := omega) only [upd_ne]), (fun k hk => by simp (disch := omega) only [upd_ne]; exact hs k (by omega)), fun g => OU [⟨.fn ff fa fb, some l, cur, fin, O1⟩] g ∨ (g = gb ∨ g = _g), ?_, ?_, hrec⟩
 ·rintro g (h | h | h)
  ·exact .inl h
  ·exact .inr (by omega)
  ·exact .inr (by omega)
 ·rintro g (h | h | h)
  ·have := hb g h; omega
  ·omega
  ·omega
theorem Ve {op m : Int} {va vb : List AV} {j : Nat} (hm : j ≤ 5000) (h : Pts gO lo [⟨px, some l, cur, fin, O1⟩] H n) (hx : Ct px) (hnO : ¬ OU [⟨px, some l, cur, fin, O1⟩] gO) (hO : gO < n) : ACalls Tryz.prog 77 [.agg [aI 5, aI op, aI (j : Nat), .sl 1 va .ro, .sl 5 vb .ro], px] n H (NewS false gO lo ⟨cur, (DE j cur l fin).1, (DE j cur l fin).2⟩ (OU [⟨px, some l, cur, fin, O1⟩]) n H) := by
 generalize hR : NewS _ _ _ _ _ _ _ = R
 have hxf := hx
 have hb := h.bel
 obtain ⟨ff, fa, fb, rfl⟩ := hx
 refine A8 Tryz.func77 HP rfl fun hs => ?_
 repeat' (first | (simp -implicitDefEqProofs [Cf, Cn, Cm, Cp, Cs, Ck, Cg, Cr, Ce, C5, c77, -getElem?_pos, splice, -AH]) | (simp (disch := omega) only [AA]) | ((with_reducible refine Ap 109 ?_); refine ⟨_, A1g (gO := gO) (lo := lo) hm (h.newB (by dsimp only; omega) (fun k hk => by simp (disch := omega) only [upd_ne])) hxf hnO (by dsimp only; omega), ?_⟩; rintro r n' H' hle hsup hpost) | (with_reducible first | refine A6 ?_ ?_ ?_ | exact AC | assumption | refine A0 ?_ | refine KM.of ?_ | refine AB ?_ | refine A1 ?_ | refine A4 ?_ | intro _g _hg | refine AD ?_ ?_ | intro _hc) | omega)
 rename_i ga hga
 subst hR
 dsimp only at hle hpost
 have hp2 := hpost.up (n := n) (H := H) (by omega) (fun k hk => by simp (disch := omega) only [upd_ne])
 exact AI rfl hp2.2.1 hsup hp2
theorem Vf {op m : Int} {va vb : List AV} {j : Nat} (hm : j ≤ 5000) (h : Pts gO lo [⟨px, some l, cur, fin, O1⟩] H n) (hx : Ct px) (hnO : ¬ OU [⟨px, some l, cur, fin, O1⟩] gO) (hO : gO < n) : ACalls Tryz.prog 77 [.agg [aI 6, aI op, aI (j : Nat), .sl 1 va .ro, .sl 5 vb .ro], px] n H (NewS false gO lo ⟨cur, l.drop j, fin⟩ (OU [⟨px, some l, cur, fin, O1⟩]) n H) := by
 generalize hR : NewS _ _ _ _ _ _ _ = R
 have hxf := hx
 have hb := h.bel
 obtain ⟨ff, fa, fb, rfl⟩ := hx
 refine A8 Tryz.func77 HP rfl fun hs => ?_
 repeat' (first | (simp -implicitDefEqProofs [Cf, Cn, Cm, Cp, Cs, Ck, Cg, Cr, Ce, C5, c77, -getElem?_pos, splice, -AH]) | (simp (disch := omega) only [AA]) | ((with_reducible refine Ap 110 ?_); refine ⟨_, A0g (gO := gO) (lo := lo) hm (h.newB (by dsimp only; omega) (fun k hk => by simp (disch := omega) only [upd_ne])) hxf hnO (by dsimp only; omega), ?_⟩; rintro r n' H' hle hsup hpost) | (with_reducible first | refine A6 ?_ ?_ ?_ | exact AC | assumption | refine A0 ?_ | refine KM.of ?_ | refine AB ?_ | refine A1 ?_ | refine A4 ?_ | intro _g _hg | refine AD ?_ ?_ | intro _hc) | omega)
 rename_i ga hga
 subst hR
 dsimp only at hle hpost
 have hp2 := hpost.up (n := n) (H := H) (by omega) (fun k hk => by simp (disch := omega) only [upd_ne])
 exact AI rfl hp2.2.1 hsup hp2
theorem WD {op m : Int} {va vb : List AV} (hop : 1 ≤ op ∧ op ≤ 3) (hm : B5 m) (h3 : op = 3 → 1 ≤ m) (hrg : rgE l) (h : Pts gO lo [⟨px, some l, cur, fin, O1⟩] H n) (hx : Ct px) (hnO : ¬ OU [⟨px, some l, cur, fin, O1⟩] gO) (hO : gO < n) : ACalls Tryz.prog 77 [.agg [aI 8, aI op, aI m, .sl 1 va .ro, .sl 5 vb .ro], px] n H (NewS false gO lo ⟨cur, Ie (fun x => Fj op x m) l, fin⟩ (OU [⟨px, some l, cur, fin, O1⟩]) n H) := by
 generalize hR : NewS _ _ _ _ _ _ _ = R
 have hxf := hx
 have hb := h.bel
 obtain ⟨ff, fa, fb, rfl⟩ := hx
 refine A8 Tryz.func77 HP rfl fun hs => ?_
 repeat' (first | (simp -implicitDefEqProofs [Cf, Cn, Cm, Cp, Cs, Ck, Cg, Cr, Ce, C5, c77, -getElem?_pos, splice, -AH]) | (simp (disch := omega) only [AA]) | ((with_reducible refine Ap 112 ?_); refine ⟨_, A0l (gO := gO) (lo := lo) (k := 8) (va := va) (vb := vb) hop hm h3 hrg (h.newB (by dsimp only; omega) (fun k hk => by simp (disch := omega) only [upd_ne])) hxf hnO (by dsimp only; omega), ?_⟩; rintro r n' H' hle hsup hpost) | (with_reducible first | refine A6 ?_ ?_ ?_ | exact AC | assumption | refine A0 ?_ | refine KM.of ?_ | refine AB ?_ | refine A1 ?_ | refine A4 ?_ | intro _g _hg | refine AD ?_ ?_ | intro _hc) | omega)
 rename_i ga hga
 subst hR
 dsimp only at hle hpost
 have hp2 := hpost.up (n := n) (H := H) (by omega) (fun k hk => by simp (disch := omega) only [upd_ne])
 exact AI rfl hp2.2.1 hsup hp2
theorem Vm {op m : Int} {va vb : List AV} (hop : 1 ≤ op ∧ op ≤ 5) (hm : B5 m) (hrg : rgE l) (h : Pts gO lo [⟨px, some l, cur, fin, O1⟩] H n) (hx : Ct px) (hnO : ¬ OU [⟨px, some l, cur, fin, O1⟩] gO) (hO : gO < n) : ACalls Tryz.prog 77 [.agg [aI 9, aI op, aI m, .sl 1 va .ro, .sl 5 vb .ro], px] n H (NewS false gO lo ⟨cur, LQ (DZ op) m l, fin⟩ (OU [⟨px, some l, cur, fin, O1⟩]) n H) := by
 generalize hR : NewS _ _ _ _ _ _ _ = R
 have hxf := hx
 have hb := h.bel
 obtain ⟨ff, fa, fb, rfl⟩ := hx
 refine A8 Tryz.func77 HP rfl fun hs => ?_
 repeat' (first | (simp -implicitDefEqProofs [Cf, Cn, Cm, Cp, Cs, Ck, Cg, Cr, Ce, C5, c77, -getElem?_pos, splice, -AH]) | (simp (disch := omega) only [AA]) | ((with_reducible refine Ap 113 ?_); refine ⟨_, A0r (gO := gO) (lo := lo) (k := 9) (va := va) (vb := vb) hop hm hrg (h.newB (by dsimp only; omega) (fun k hk => by simp (disch := omega) only [upd_ne])) hxf hnO (by dsimp only; omega), ?_⟩; rintro r n' H' hle hsup hpost) | (with_reducible first | refine A6 ?_ ?_ ?_ | exact AC | assumption | refine A0 ?_ | refine KM.of ?_ | refine AB ?_ | refine A1 ?_ | refine A4 ?_ | intro _g _hg | refine AD ?_ ?_ | intro _hc) | omega)
 rename_i ga hga
 subst hR
 dsimp only at hle hpost
 have hp2 := hpost.up (n := n) (H := H) (by omega) (fun k hk => by simp (disch := omega) only [upd_ne])
 exact AI rfl hp2.2.1 hsup hp2
theorem TO {op m : Int} {va vb : List AV} {j : Nat} (hop : 1 ≤ op ∧ op ≤ 5) (hm : 1 ≤ j ∧ j ≤ 8) (hrg : rgE l) (h : Pts gO lo [⟨px, some l, cur, fin, O1⟩] H n) (hx : Ct px) (hnO : ¬ OU [⟨px, some l, cur, fin, O1⟩] gO) (hO : gO < n) : ACalls Tryz.prog 77 [.agg [aI 10, aI op, aI (j : Nat), .sl 1 va .ro, .sl 5 vb .ro], px] n H (NewS false gO lo ⟨cur, FP (DZ op) j [] l, fin⟩ (OU [⟨px, some l, cur, fin, O1⟩]) n H) := by
 generalize hR : NewS _ _ _ _ _ _ _ = R
 have hxf := hx
 have hb := h.bel
 obtain ⟨ff, fa, fb, rfl⟩ := hx
 refine A8 Tryz.func77 HP rfl fun hs => ?_
 repeat' (first | (simp -implicitDefEqProofs [Cf, Cn, Cm, Cp, Cs, Ck, Cg, Cr, Ce, C5, c77, -getElem?_pos, splice, -AH]) | (simp (disch := omega) only [AA]) | ((with_reducible refine Ap 114 ?_); refine ⟨_, YO (gO := gO) (lo := lo) (k := 10) (va := va) (vb := vb) hop hm hrg (h.newB (by dsimp only; omega) (fun k hk => by simp (disch := omega) only [upd_ne])) hxf hnO (by dsimp only; omega), ?_⟩; rintro r n' H' hle hsup hpost) | (with_reducible first | refine A6 ?_ ?_ ?_ | exact AC | assumption | refine A0 ?_ | refine KM.of ?_ | refine AB ?_ | refine A1 ?_ | refine A4 ?_ | intro _g _hg | refine AD ?_ ?_ | intro _hc) | omega)
 rename_i ga hga
 subst hR
 dsimp only at hle hpost
 have hp2 := hpost.up (n := n) (H := H) (by omega) (fun k hk => by simp (disch := omega) only [upd_ne])
 exact AI rfl hp2.2.1 hsup hp2
theorem S7 {op m : Int} {va vb : List AV}  (h : Pts gO lo [⟨px, some l, cur, fin, O1⟩] H n) (hx : Ct px) (hnO : ¬ OU [⟨px, some l, cur, fin, O1⟩] gO) (hO : gO < n) : ACalls Tryz.prog 77 [.agg [aI 12, aI op, aI 0, .sl 1 va .ro, .sl 5 vb .ro], px] n H (NewS false gO lo ⟨cur, [], cur⟩ (OU [⟨px, some l, cur, fin, O1⟩]) n H) := by
 generalize hR : NewS _ _ _ _ _ _ _ = R
 have hxf := hx
 have hb := h.bel
 obtain ⟨ff, fa, fb, rfl⟩ := hx
 refine A8 Tryz.func77 HP rfl fun hs => ?_
 repeat' (first | (simp -implicitDefEqProofs [Cf, Cn, Cm, Cp, Cs, Ck, Cg, Cr, Ce, C5, c77, -getElem?_pos, splice, -AH]) | (simp (disch := omega) only [AA]) | ((with_reducible refine Ap 117 ?_); refine ⟨_, Vw (gO := gO) (lo := lo) (h.newB (by dsimp only; omega) (fun k hk => by simp (disch := omega) only [upd_ne])) hxf hnO (by dsimp only; omega), ?_⟩; rintro r n' H' hle hsup hpost) | (with_reducible first | refine A6 ?_ ?_ ?_ | exact AC | assumption | refine A0 ?_ | refine KM.of ?_ | refine AB ?_ | refine A1 ?_ | refine A4 ?_ | intro _g _hg | refine AD ?_ ?_ | intro _hc) | omega)
 rename_i ga hga
 subst hR
 dsimp only at hle hpost
 have hp2 := hpost.up (n := n) (H := H) (by omega) (fun k hk => by simp (disch := omega) only [upd_ne])
 exact AI rfl hp2.2.1 hsup hp2
theorem TY {op m : Int} {va vb : List AV} {j : Nat} (hm : 1 ≤ j ∧ j ≤ 20) (hl : l.length ≤ 5000) (h : Pts gO lo [⟨px, some l, cur, fin, O1⟩] H n) (hx : Ct px) (hnO : ¬ OU [⟨px, some l, cur, fin, O1⟩] gO) (hO : gO < n) : ACalls Tryz.prog 77 [.agg [aI 12, aI op, aI (j : Nat), .sl 1 va .ro, .sl 5 vb .ro], px] n H (NewS false gO lo ⟨cur, l ++ Eo (l.map (·.1)) fin (j - 1), fin⟩ (OU [⟨px, some l, cur, fin, O1⟩]) n H) := by
 generalize hR : NewS _ _ _ _ _ _ _ = R
 have hxf := hx
 have hb := h.bel
 obtain ⟨ff, fa, fb, rfl⟩ := hx
 refine A8 Tryz.func77 HP rfl fun hs => ?_
 repeat' (first | (simp -implicitDefEqProofs [Cf, Cn, Cm, Cp, Cs, Ck, Cg, Cr, Ce, C5, c77, -getElem?_pos, splice, -AH]) | (simp (disch := omega) only [AA]) | ((with_reducible refine Ap 117 ?_); refine ⟨_, VH (gO := gO) (lo := lo) hm hl (h.newB (by dsimp only; omega) (fun k hk => by simp (disch := omega) only [upd_ne])) hxf hnO (by dsimp only; omega), ?_⟩; rintro r n' H' hle hsup hpost) | (with_reducible first | refine A6 ?_ ?_ ?_ | exact AC | assumption | refine A0 ?_ | refine KM.of ?_ | refine AB ?_ | refine A1 ?_ | refine A4 ?_ | intro _g _hg | refine AD ?_ ?_ | intro _hc) | omega)
 rename_i ga hga
 subst hR
 dsimp only at hle hpost
 have hp2 := hpost.up (n := n) (H := H) (by omega) (fun k hk => by simp (disch := omega) only [upd_ne])
 exact AI rfl hp2.2.1 hsup hp2
end
theorem Z7 (ps : List Pt) : Tl [] ps = ((D0 (ps.map Pt.fut)).l, (D0 (ps.map Pt.fut)).fin) := by simp [Tl, AL]
section
variable {gO lo n : Nat} {H : A3}
theorem ZJ {ps : List Pt} (h : Pts gO lo ps H n) (hall : JA ps) (hnO : ¬ OU ps gO) (hO : gO < n) (h60 : ps.length ≤ 60) : ACalls Tryz.prog 73 [.sl 1 (ps.map Pt.x) .ro] n H (NewS false gO lo (D0 (ps.map Pt.fut)) (OU ps) n H) := by
 generalize hR : NewS _ _ _ _ _ _ _ = R
 have hb := h.bel
 refine A8 Tryz.func73 A28 rfl fun hs => ?_
 repeat' (first | (simp -implicitDefEqProofs [c73, -getElem?_pos, splice, -AH]) | (simp (disch := omega) only [AA]) | (with_reducible first | refine A6 ?_ ?_ ?_ | exact AC | assumption | refine A0 ?_ | refine KM.of ?_ | refine AB ?_ | refine A1 ?_ | refine A4 ?_ | intro _g _hg | refine AD ?_ ?_ | intro _hc) | omega)
 subst hR
 have hrec := WF (g1 := _g) (gO := gO) (lo := lo) _ [] ps _ (upd H _g (some (Ef ps))) (_g + 1) (Nat.le_refl _) (h.newB (by omega) (fun k hk => by simp (disch := omega) only [upd_ne])) rfl hall hnO (Bx.new hb hO (by omega) (by omega) (by simp (disch := omega) only [upd_ne, AX] <;> rfl)) h60
 rw [Z7] at hrec
 simp only [List.nil_append] at hrec
 rw [← Kz] at hrec
 refine AI (r := .fn _ [] [.ptr _g 0]) rfl (by omega) (fun k hk => by simp (disch := omega) only [upd_ne]; exact hs k (by omega)) ⟨⟨_, _, _, rfl⟩, by omega, (fun k hk => by simp (disch := omega) only [upd_ne]), (fun k hk => by simp (disch := omega) only [upd_ne]; exact hs k (by omega)), _, ?_, ?_, hrec⟩
 ·rintro g (h | h)
  ·exact .inl h
  ·exact .inr (by omega)
 ·rintro g (h | h)
  ·have := hb g h; omega
  ·omega
theorem ZK (ps : List Pt) : (List.range ps.length).map (ent ps) = (ps.map Pt.fut).zipIdx.map fun x => (x.2, x.1.l, x.1.fin) := by
 refine List.ext_getElem (by simp) fun i h1 h2 => ?_
 simp at h1
 simp [ent, Pt.fut, List.getElem?_eq_getElem h1]
theorem Z1 (ps : List Pt) : (List.range ps.length).map (Xz ps) = ps.map Pt.x := by
 refine List.ext_getElem (by simp) fun i h1 h2 => ?_
 simp at h1
 simp [Xz, List.getElem?_eq_getElem h1]
theorem YX (ps : List Pt) : U3 ps (List.range ps.length) = So (ps.map Pt.fut) := by
 unfold U3 So
 congr 1
 refine List.ext_getElem (by simp) fun i h1 h2 => ?_
 simp at h1
 simp [ent, Pt.fut, List.getElem?_eq_getElem h1]
theorem Ya {ps : List Pt} (h : Pts gO lo ps H n) (hall : JA ps) (hnO : ¬ OU ps gO) (hO : gO < n) (h60 : ps.length ≤ 60) : ACalls Tryz.prog 74 [.sl 1 (ps.map Pt.x) .ro] n H (NewS false gO lo (Hv (ps.map Pt.fut)) (OU ps) n H) := by
 generalize hR : NewS _ _ _ _ _ _ _ = R
 have hb := h.bel
 refine A8 Tryz.func74 A2l rfl fun hs => ?_
 repeat' (first | (simp -implicitDefEqProofs [c74, -getElem?_pos, splice, -AH]) | (simp (disch := omega) only [AA]) | (with_reducible first | refine A6 ?_ ?_ ?_ | exact AC | assumption | refine A0 ?_ | refine KM.of ?_ | refine AB ?_ | refine A1 ?_ | refine A4 ?_ | intro _g _hg | refine AD ?_ ?_ | intro _hc) | omega)
 subst hR
 have hqo : X0 ps (List.range ps.length) := fun i hi => by
  have hi : i < ps.length := by simpa using hi
  obtain ⟨h1, h2⟩ := hall ps[i] (List.getElem_mem hi)
  exact ⟨ps[i], List.getElem?_eq_getElem hi, h1, h2⟩
 have hrec := VK (g1 := _g) (gO := gO) (lo := lo) (So (ps.map Pt.fut)) ps (List.range ps.length) .ro _ (upd H _g (some (Ef ps))) (_g + 1) (h.newB (by omega) (fun k hk => by simp (disch := omega) only [upd_ne])) rfl List.nodup_range hqo (by rw [YX]; exact Nat.le_refl _) hnO (Bx.new hb hO (by omega) (by omega) (by rw [Z1]; exact AX _ _ _)) (by simpa using h60)
 have hT : Hv (ps.map Pt.fut) = ⟨AL ps, (EH (So (ps.map Pt.fut)) ((List.range ps.length).map (ent ps)) (ps.map Pt.cur)).1, (EH (So (ps.map Pt.fut)) ((List.range ps.length).map (ent ps)) (ps.map Pt.cur)).2.flatten⟩ := by
  have e : (ps.map Pt.fut).map (·.cur) = ps.map Pt.cur := by rw [List.map_map]; rfl
  rw [Hv, ZK, e, G8]
 rw [hT]
 refine AI (r := .fn _ [] [.ptr _g 0]) rfl (by omega) (fun k hk => by simp (disch := omega) only [upd_ne]; exact hs k (by omega)) ⟨⟨_, _, _, rfl⟩, by omega, (fun k hk => by simp (disch := omega) only [upd_ne]), (fun k hk => by simp (disch := omega) only [upd_ne]; exact hs k (by omega)), _, ?_, ?_, hrec⟩
 ·rintro g (h | h)
  ·exact .inl h
  ·exact .inr (by omega)
 ·rintro g (h | h)
  ·have := hb g h; omega
  ·omega
theorem A25 {op : Int} {xa xb : AV} {la lb : Aq} {ca cb fa fb : AZ} {O1 O2 : Nat → Prop} (hop : 1 ≤ op ∧ op ≤ 5) (h : Pts gO lo [⟨xa, some la, ca, fa, O1⟩, ⟨xb, some lb, cb, fb, O2⟩] H n) (hxa : Ct xa) (hxb : Ct xb) (hra : rgE la) (hrb : rgE lb) (hnO : ¬ OU [⟨xa, some la, ca, fa, O1⟩, ⟨xb, some lb, cb, fb, O2⟩] gO) (hO : gO < n) : ACalls Tryz.prog 75 [aI op, xa, xb] n H (NewS false gO lo ⟨ca ++ cb, (G0 (DZ op) fa fb la cb lb).1, (G0 (DZ op) fa fb la cb lb).2⟩ (OU [⟨xa, some la, ca, fa, O1⟩, ⟨xb, some lb, cb, fb, O2⟩]) n H) := by
 generalize hR : NewS _ _ _ _ _ _ _ = R
 have hb := h.bel
 obtain ⟨f0, a0, w0, rfl⟩ := hxa
 obtain ⟨f1, a1, w1, rfl⟩ := hxb
 refine A8 Tryz.func75 A2n rfl fun hs => ?_
 repeat' (first | (simp -implicitDefEqProofs [c75, -getElem?_pos, splice, -AH]) | (simp (disch := omega) only [AA]) | (with_reducible first | refine A6 ?_ ?_ ?_ | exact AC | assumption | refine A0 ?_ | refine KM.of ?_ | refine AB ?_ | refine A1 ?_ | refine A4 ?_ | intro _g _hg | refine AD ?_ ?_ | intro _hc) | omega)
 rename_i ga hga gb hgb
 subst hR
 have hrec := Zj (g1 := gb) (g2 := _g) (g3 := ga) (gO := gO) (lo := lo) hop la ca cb lb O1 O2 _ (upd (upd (upd H ga (some (Bm op))) gb (some (Bt (.fn f0 a0 w0)))) _g (some (Bt (.fn f1 a1 w1)))) (_g + 1) (h.newB (by omega) (fun k hk => by simp (disch := omega) only [upd_ne])) rfl hra hrb hnO (Bx.new hb hO (by omega) (by omega) (by simp (disch := omega) only [upd_ne, AX] <;> rfl)) (Bx.new hb hO (by omega) (by omega) (by simp (disch := omega) only [upd_ne, AX] <;> rfl)) (Bx.new hb hO (by omega) (by omega) (by simp (disch := omega) only [upd_ne, AX] <;> rfl))
 refine AI (r := .fn _ [] [.ptr gb 0, .ptr _g 0, .ptr ga 0]) rfl (by omega) (fun k hk => by simp (disch := omega) only [upd_ne]; exact hs k (by omega)) ⟨⟨_, _, _, rfl⟩, by omega, (fun k hk => by simp (disch := omega) only [upd_ne]), (fun k hk => by simp (disch := omega) only [upd_ne]; exact hs k (by omega)), _, ?_, ?_, hrec⟩
 ·rintro g (h | h | h | h)
  ·exact .inl h
  ·exact .inr (by omega)
  ·exact .inr (by omega)
  ·exact .inr (by omega)
 ·rintro g (h | h | h | h)
  ·have := hb g h; omega
  ·omega
  ·omega
  ·omega
theorem Z0 {xa xb : AV} {la lb : Aq} {ca cb fa fb : AZ} {O1 O2 : Nat → Prop} (h : Pts gO lo [⟨xa, some la, ca, fa, O1⟩, ⟨xb, some lb, cb, fb, O2⟩] H n) (hxa : Ct xa) (hxb : Ct xb) (hnO : ¬ OU [⟨xa, some la, ca, fa, O1⟩, ⟨xb, some lb, cb, fb, O2⟩] gO) (hO : gO < n) : ACalls Tryz.prog 76 [.sl 1 [xa, xb] .ro] n H (NewS false gO lo ⟨ca ++ cb, DY fa fb la lb, fa ++ fb⟩ (OU [⟨xa, some la, ca, fa, O1⟩, ⟨xb, some lb, cb, fb, O2⟩]) n H) := by
 generalize hR : NewS _ _ _ _ _ _ _ = R
 have hb := h.bel
 refine A8 Tryz.func76 A2t rfl fun hs => ?_
 repeat' (first | (simp -implicitDefEqProofs [c76, -getElem?_pos, splice, -AH]) | (simp (disch := omega) only [AA]) | (with_reducible first | refine A6 ?_ ?_ ?_ | exact AC | assumption | refine A0 ?_ | refine KM.of ?_ | refine AB ?_ | refine A1 ?_ | refine A4 ?_ | intro _g _hg | refine AD ?_ ?_ | intro _hc) | omega)
 rename_i ga hga gb hgb
 subst hR
 have hrec := Vr (g1 := ga) (g2 := _g) (g3 := gb) (t := .ro) (gO := gO) (lo := lo) (show ga ≠ _g by omega) (show ga ≠ gb by omega) (show _g ≠ gb by omega) hxa hxb _ ⟨xa, some la, ca, fa, O1⟩ ⟨xb, some lb, cb, fb, O2⟩ false false 0 0 _ (upd (upd (upd H ga (some (HA [xa, xb] .ro))) gb (some (L8 0 0))) _g (some (I7 false false))) (_g + 1) (Nat.le_refl _) (h.newB (by omega) (fun k hk => by simp (disch := omega) only [upd_ne])) rfl rfl rfl rfl rfl hnO (Bx.new hb hO (by omega) (by omega) (by simp (disch := omega) only [upd_ne, AX] <;> rfl)) (Bx.new hb hO (by omega) (by omega) (by simp (disch := omega) only [upd_ne, AX] <;> rfl)) (Bx.new hb hO (by omega) (by omega) (by simp (disch := omega) only [upd_ne, AX] <;> rfl))
 simp only [side, AL, List.append_nil, Option.getD_some] at hrec
 refine AI (r := .fn _ [] [.ptr ga 0, .ptr _g 0, .ptr gb 0]) rfl (by omega) (fun k hk => by simp (disch := omega) only [upd_ne]; exact hs k (by omega)) ⟨⟨_, _, _, rfl⟩, by omega, (fun k hk => by simp (disch := omega) only [upd_ne]), (fun k hk => by simp (disch := omega) only [upd_ne]; exact hs k (by omega)), _, ?_, ?_, hrec⟩
 ·rintro g (h | h | h | h)
  ·exact .inl h
  ·exact .inr (by omega)
  ·exact .inr (by omega)
  ·exact .inr (by omega)
 ·rintro g (h | h | h | h)
  ·have := hb g h; omega
  ·omega
  ·omega
  ·omega
end
def LS (gO : Nat) (cs : AZ) (H : A3) : Option Nat → Prop
 | none => cs = [] ∧ H gO = some (.cells 74 [.sl 0 [] .nil])
 | some gg => H gO = some (.cells 74 [.slg 1 gg cs.length]) ∧ H gg = some (.grow 3 (cs.map aI))
def OpenP (e : Bool) (gO : Nat) (cs : AZ) (q : Option Nat) (F : Fut) (n : Nat) (H : A3) : CJ := fun r n' H' => Ct r ∧ n ≤ n' ∧ (∀ k, n' ≤ k → H' k = none) ∧ ∃ gg, LS gO (cs ++ F.cur) H' (some gg) ∧ (q = some gg ∨ n ≤ gg) ∧ gg < n' ∧ (∀ g, g < n → g ≠ gO → q ≠ some g → H' g = H g) ∧
 ∃ O' : Nat → Prop, (∀ g, O' g → n ≤ g ∧ g < n') ∧ ¬ O' gg ∧ Raw e gO cs.length F.fin r F.l F.cur O' H' n'
theorem HY {gO n n' g ga gc gd z : Nat} {t : Tok} {H H' : A3} {cs : AZ} {q : Option Nat} {xs : List Int} (hx : xs.length ≤ 140737488355328) (hz : z = 1 ∨ xs = []) (hO : gO < n) (hq : q = some g ∨ n ≤ g) (hg : g < n') (hn : n ≤ n') (a1 : n ≤ ga ∧ ga < n' ∧ ga ≠ g) (a2 : n ≤ gc ∧ gc < n' ∧ gc ≠ g) (a3 : n ≤ gd ∧ gd < n' ∧ gd ≠ g)
  (h1 : H' gO = some (.cells 74 [.slg 1 g (cs.length + 1)])) (h2 : H' g = some (.grow 3 ((cs ++ [0]).map aI))) (h3 : H' ga = some (.cells 72 [.ptr gO 0])) (h4 : H' gc = some (Bm cs.length)) (h5 : H' gd = some (MZ (.sl z (xs.map aI) t))) (fr : ∀ k, k < n → k ≠ gO → q ≠ some k → H' k = H k) (sup : ∀ k, n' ≤ k → H' k = none) :
  OpenP false gO cs q (Gi xs) n H (.fn 97 [] [.ptr ga 0, .ptr gc 0, .ptr gd 0]) n' H' := by
 have hrec := X4 (gO := gO) (lo := cs.length) (g1 := ga) (g2 := gc) (g3 := gd) hx hz xs.length 0 (fun _ => False) H' n' (by omega) (fun h => h) (fun g h => h.elim) ⟨fun h => h, by omega, a1.2.1, h3⟩ ⟨fun h => h, by omega, a2.2.1, h4⟩ ⟨fun h => h, by omega, a3.2.1, h5⟩
 rw [List.drop_zero] at hrec
 refine ⟨⟨_, _, _, rfl⟩, hn, sup, g, ⟨by simpa [Gi] using h1, h2⟩, hq, hg, fr, _, ?_, ?_, hrec⟩
 ·rintro k (h | rfl | rfl | rfl)
  ·exact h.elim
  ·exact ⟨a1.1, a1.2.1⟩
  ·exact ⟨a2.1, a2.2.1⟩
  ·exact ⟨a3.1, a3.2.1⟩
 ·rintro (h | h | h | h)
  ·exact h
  ·exact a1.2.2 h.symm
  ·exact a2.2.2 h.symm
  ·exact a3.2.2 h.symm
theorem LS.lt {gO n : Nat} {H : A3} {cs : AZ} {q : Option Nat} (h : LS gO cs H q) (hs : ∀ g, n ≤ g → H g = none) : gO < n ∧ ∀ g, q = some g → g < n ∧ gO ≠ g := by
 have k1 : ∀ (g : Nat) (ob : AObj), H g = some ob → g < n := fun g ob h => by
  rcases Nat.lt_or_ge g n with h1 | h1
  ·exact h1
  ·rw [hs g h1] at h; cases h
 match q, h with
 | none, h => exact ⟨k1 _ _ h.2, fun g h => by cases h⟩
 | some gg, h =>
  refine ⟨k1 _ _ h.1, fun g e => ?_⟩
  injection e with e
  subst e
  exact ⟨k1 _ _ h.2, fun e => by have := h.1; rw [e, h.2] at this; cases this⟩
theorem V3 {gO n : Nat} {H : A3} {cs : AZ} {q : Option Nat} {o m : Int} {v : List Int} {p : List St} (hv : v.length ≤ 140737488355328) (hcs : cs.length ≤ 100) (hL : LS gO cs H q) : ACalls Tryz.prog 72 [.ptr gO 0, encS (.mk 1 o m v p)] n H (OpenP false gO cs q (Gi v) n H) := by
 generalize hR : OpenP _ _ _ _ _ _ _ = R
 rw [AF]
 generalize AR p = ep
 refine A8 Tryz.func72 Zv rfl fun hs => ?_
 obtain ⟨hO, hgn⟩ := hL.lt hs
 have hcp : (cs ++ [0]).map aI = cs.map aI ++ [aI 0] := by simp
 cases q with
 | none =>
  obtain ⟨rfl, o1⟩ := hL
  repeat' (first | (simp -implicitDefEqProofs [F6, F5, F4, Ew, F7, c72, -getElem?_pos, o1, splice]) | (simp (disch := omega) only [AA]) | (refine Jw (.inl rfl) (A2 _) (by simp) (by simp) (by simp [maxLen]) (fun g hg => ?_)) | (with_reducible first | refine A6 ?_ ?_ ?_ | exact AC | assumption | refine A0 ?_ | refine KM.of ?_ | refine AB ?_ | refine A1 ?_ | refine AE ?_ | refine A4 ?_ | refine AJ ?_ | refine AG ?_ | intro _g _hg | refine AD ?_ ?_ | intro _hc) | omega)
  ·simp [B0, AV.fits, ones, AV.cells, AV.one]
  rename_i ga hga gb hgb gc hgc ge hge
  subst hR
  refine AI (r := .fn _ [] [.ptr ga 0, .ptr gc 0, .ptr _g 0]) rfl (by omega) (fun k hk => by simp (disch := omega) only [upd_ne]; exact hs k (by omega)) (HY (g := g) (xs := v) (z := 1) (t := .ro) hv (.inl rfl) hO (.inr (by omega)) (by omega) (by omega) ⟨by omega, by omega, by omega⟩ ⟨by omega, by omega, by omega⟩ ⟨by omega, by omega, by omega⟩ (by simp (disch := omega) only [upd_ne, AX] <;> rfl) (by simp (disch := omega) only [upd_ne, AX] <;> rfl) (by simp (disch := omega) only [upd_ne, AX] <;> rfl) (by simp (disch := omega) only [upd_ne, AX] <;> rfl) (by simp (disch := omega) only [upd_ne, AX] <;> rfl) (fun k h1 h2 h3 => by simp (disch := omega) only [upd_ne]) (fun k hk => by simp (disch := omega) only [upd_ne]; exact hs k (by omega)))
 | some gg =>
  obtain ⟨o1, o2⟩ := hL
  obtain ⟨hgn, hne⟩ := hgn gg rfl
  repeat' (first | (simp -implicitDefEqProofs [F6, F5, F4, Ew, F7, c72, -getElem?_pos, o1, o2, splice]) | (simp (disch := omega) only [AA]) | (with_reducible refine Sx [gg] ?_) | (refine Jj (.inl rfl) (A2 _) (by simp (disch := omega) only [upd_ne]; exact o2) (by simp) (by simp; omega) (by simp [maxLen]; omega) (fun g n' h1 h2 h3 => ?_)) | (with_reducible first | refine A6 ?_ ?_ ?_ | exact AC | assumption | refine A0 ?_ | refine KM.of ?_ | refine AB ?_ | refine A1 ?_ | refine AE ?_ | refine A4 ?_ | refine AJ ?_ | refine AG ?_ | intro _g _hg | refine AD ?_ ?_ | intro _hc) | omega)
  ·simp [B0, AV.fits, ones, AV.cells, AV.one]
  rename_i ga hga gb hgb gc hgc ge hge
  subst hR
  refine AI (r := .fn _ [] [.ptr ga 0, .ptr gc 0, .ptr _g 0]) rfl (by omega) (fun k hk => by simp (disch := omega) only [upd_ne]; exact hs k (by omega)) (HY (g := g) (xs := v) (z := 1) (t := .ro) hv (.inl rfl) hO (h1.elim (fun h => .inl (by rw [h])) (fun h => .inr (by omega))) (by omega) (by omega) ⟨by omega, by omega, by omega⟩ ⟨by omega, by omega, by omega⟩ ⟨by omega, by omega, by omega⟩ (by simp (disch := omega) only [upd_ne, AX] <;> rfl) (by rw [hcp]; simp (disch := omega) only [upd_ne, AX]) (by simp (disch := omega) only [upd_ne, AX] <;> rfl) (by simp (disch := omega) only [upd_ne, AX] <;> rfl) (by simp (disch := omega) only [upd_ne, AX] <;> rfl) (fun k h1 h2 h3 => by have : k ≠ gg := fun e => h3 (by rw [e]); simp (disch := omega) only [upd_ne]) (fun k hk => by simp (disch := omega) only [upd_ne]; exact hs k (by omega)))
end Go.Proofs.YtjdccdelcnmocaaGreatDoor

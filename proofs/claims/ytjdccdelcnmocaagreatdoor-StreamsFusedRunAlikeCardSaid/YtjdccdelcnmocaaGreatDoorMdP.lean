/- Streams: opening; no condition. -/
import Derived.Test.YtjdccdelcnmocaaGreatDoorMdO
import Derived.Test.YtjdccdelcnmocaaGreatDoorMdK
import Derived.Test.YtjdccdelcnmocaaGreatDoorMgI
import Derived.Test.YtjdccdelcnmocaaGreatDoorAdE
import Derived.Shelf.Strings.Fields
import Derived.Shelf.Strconv.Itoa3
import Derived.Shelf.Strings.OnBuilder
import Derived.Lib.AppendIntMem
import Derived.Test.YtjdccdelcnmocaaGreatDoorMgJ
import Derived.Test.YtjdccdelcnmocaaGreatDoorMdL
set_option linter.all false
set_option linter.unusedSimpArgs false
set_option linter.unusedVariables false
set_option maxHeartbeats 2000000
namespace Go.Proofs.YtjdccdelcnmocaaGreatDoor
theorem TokOkS.neq {t : Tok} {k n g gO : Nat} {H : A3} {cs : AZ} {q : Option Nat} (h : TokOkS t k H n) (hg : CI t g) (hL : LS gO cs H q) : q ≠ some g := by
 intro e
 subst e
 have h2 := hL.2
 match t, h, hg with
 | .own j, h, hg =>
  have e2 : g = j := hg
  subst e2
  rw [h.1] at h2
  cases h2
theorem Iv : ∀ a b : List St, Ak (a ++ b) = Ak a + Ak b
 | [], b => by simp [Ak]
 | y :: a, b => by have := Iv a b; simp [Ak, this]; omega
abbrev Kc (s : St) : Prop := ∀ (gO n : Nat) (H : A3) (cs : AZ) (q : Option Nat), cs.length + Ab s ≤ 100 → LS gO cs H q → ACalls Tryz.prog 43 [.ptr gO 0, encS s] n H (OpenP true gO cs q (AY s) n H)
attribute [local simp] Nt GX Gy PR NX Pd OR GG Gx I1 JS Qp Q2 PM RE QS Qq P7 RI Nb No Qt Np Qo QJ WK pe PO Pu Pe R3 QU RG Qh PB Oj Nj NF Nm Qz Gv Pp NY PV Ox NJ Pn OY QT Qy QR R9 PJ Ow Q9 Ot Pg PH O7 Pz NO RA GQ OV H7 OS Nd PG PT Ou Nk Og Qx RD Pf NZ RF PL PX R4 OZ Nc Qs NT Oh Pw P6 R6 Q5 NK Gr PA Q4 Qb OP NM P4 Qn P3 Oq OC PI OG Q8 Ni Nh Q3 Nr ON Qr P1 P5 Ov Nw QQ QO Pc NV PC Px R2 K6 OM List.mem_cons guardK FJ Fz Gu J5 O5 Gk Ge Gz Gj H8 GY GO GV H5 PD QM Gg PZ Oy OB O4 Nv QK GU P2 OQ Ql QP O9 R8 J0 Gq Gn Gm Gs RC Pr H6 Ns Gl Nq GS Gd NQ GL Gp Ok O6 Pa Na PK QD Q7 PU WJ MC MV JD MF MB MU Fe I3 I6 O0 Hz I4 Fd FD YP ME M8 I8 M9 MW El EL C6 Bo Cu EA AH ev get put Fa AN EK QA OI OA QC MH Od FW part BS IH RB Hx isNil Df EC Ep EG EE OW Oc NH OL Ng ML Pk PY Q6 Nf Qc Qv Of Ps OD Pi AV.fits AV.cells ones AV.one FF DC FI EF Fg FS Po Fk GZ Cz Br CH Er Gw AX Bq ZY J8 Oz PP List.getElem?_cons_zero List.getElem?_cons_succ Gc GJ Ga OE OX QB IB Qd Pj Qm Qf Pb QI QL Pq Nz Oa Nu
theorem Sw {gO n gs : Nat} {H : A3} {cs : AZ} {q : Option Nat} {k o m : Int} {v : List Int} {p : List St} {R : CJ} (hp0 : p ≠ []) (hp60 : p.length ≤ 60) (hsz : cs.length + Ak p ≤ 99) (hx : ∀ x ∈ p, Kc x) (hL : LS gO cs H q) (hs : ∀ g, n ≤ g → H g = none) (hgs : gs < n) (hgO : gO ≠ gs) (hq : q ≠ some gs) (qs : H gs = some (BH k o m (.sl 1 (v.map aI) .ro) (.sl 5 (AR p) .ro))) (nR : Nat)
  (hk : ∀ (ps : List Pt) (q1 : Option Nat) (n1 : Nat) (H1 : A3) (g5 : Nat), Opnd gO cs q n H ps q1 n1 H1 → ps.map Pt.fut = p.map AY → H1 gs = some (BH k o m (.sl 1 (v.map aI) .ro) (.sl 5 (AR p) .ro)) → aw Tryz.prog c43_k5 (fin R nR [.tmp 4]) ⟨[(3, .ptr gs 0), (5, .sl 1 (ps.map Pt.x) (.own g5))], n1, H1⟩) :
  LoopK (fun Q s => aw Tryz.prog c43_L8 Q s) (EY 0 (Ej (aw Tryz.prog c43_k5 (fin R nR [.tmp 4])) (fin R nR [.tmp 4]))) ⟨[(0, .ptr gO 0), (3, .ptr gs 0), (5, .sl 0 [] .nil), (17, .sl 5 (AR p) .ro), (18, aI p.length), (19, aI 0)], n, H⟩ := by
 have hpl := Ai p
 refine LoopK.go (fun r st => ∃ (j : Nat) (ps : List Pt) (q1 : Option Nat) (n1 z : Nat) (t : Tok) (H1 : A3), j + r = p.length ∧ st = ⟨[(0, .ptr gO 0), (3, .ptr gs 0), (5, .sl z (ps.map Pt.x) t), (17, .sl 5 (AR p) .ro), (18, aI p.length), (19, aI j)], n1, H1⟩ ∧ Opnd gO cs q n H ps q1 n1 H1 ∧ ps.map Pt.fut = (p.take j).map AY ∧ (AL ps).length ≤ Ak (p.take j) ∧ (t ≠ .nil → z = 1) ∧ TokOkS t ps.length H1 n1 ∧ (∀ g, CI t g → n ≤ g ∧ ¬ OU ps g)) p.length ?_ ?_
 ·refine ⟨0, [], q, n, 0, .nil, H, by omega, rfl, ⟨by simpa [AL] using hL, fun g hg => ⟨.inl hg, fun h => h⟩, .inl rfl, trivial, fun g hg => hg.elim, (fun p hp => by cases hp), fun _ _ _ _ => rfl, hs, Nat.le_refl _, (hL.lt hs).1⟩, rfl, by simp [AL], fun h => absurd rfl h, rfl, fun g hg => hg.elim⟩
 rintro r0 st ⟨j, ps, q1, n1, z, t, H1, hj, rfl, hO, hF, hcl, hz, hT, hTn⟩ J hJ
 have hle := hO.le
 have q3 : H1 gs = _ := (hO.fr gs hgs (Ne.symm hgO) hq).trans qs
 by_cases hjl : j < p.length
 ·obtain ⟨x, hxj⟩ : ∃ x, p[j]? = some x := ⟨_, List.getElem?_eq_getElem hjl⟩
  have hjl' : (j : Int) < p.length := by omega
  have hxe := DX hxj
  have hxf := Ax x
  have hop := hx x (List.mem_of_getElem? hxj)
  have htk : p.take (j + 1) = p.take j ++ [x] := by rw [List.take_succ, hxj]; rfl
  have hsizt : Ak (p.take j) + Ab x ≤ Ak p := by
   have h2 := Iv (p.take (j + 1)) (p.drop (j + 1))
   rw [List.take_append_drop, htk, Iv] at h2
   simp only [Ak] at h2
   omega
  have hmon := Qe x
  have hcx := YV x
  have hlen : ps.length = j := by have := congrArg List.length hF; simp at this; omega
  have hml : (ps.map Pt.x).length = ps.length := by simp
  obtain ⟨k', o', m', v', p'⟩ := x
  rw [AF] at hxe hxf
  have hop2 : ∀ (n : Nat) (H : A3), LS gO (cs ++ AL ps) H q1 → ACalls Tryz.prog 43 [.ptr gO 0, .agg [aI k', aI o', aI m', .sl 1 (v'.map aI) .ro, .sl 5 (AR p') .ro]] n H (OpenP true gO (cs ++ AL ps) q1 (AY (.mk k' o' m' v' p')) n H) := fun n H h => by
   have := hop gO n H (cs ++ AL ps) q1 (by rw [List.length_append]; omega) h
   rwa [AF] at this
  generalize hFe : AY (.mk k' o' m' v' p') = F at *
  generalize AR p = ep at *
  generalize AR p' = ep' at *
  generalize v'.map aI = ev' at *
  
  repeat' (first | (simp -implicitDefEqProofs [BG, BJ, BP, BM, BN, N7, N9, KR, Jb, c43, -getElem?_pos, q3, hjl', hxe, splice]) | (simp (disch := omega) only [AA]) | ((with_reducible refine Ap 43 ?_); refine ⟨_, hop2 _ _ (hO.ls.more hO.sup (fun k hk => by simp (disch := omega) only [upd_ne])), ?_⟩; rintro r n2 H2 hle2 hsup2 hpost; dsimp only at hle2 hpost; have hpo := hpost.up (n := n1) (H := H1) (by omega) (fun k hk => by simp (disch := omega) only [upd_ne]) (fun g hg => ((hO.ls.lt hO.sup).2 g hg).1); obtain ⟨O', gg, hO2, hOn, hfr2⟩ := hO.step hpo hmon; have hT2 : TokOkS t ps.length H2 n2 := hT.at_ (fun g hg => hfr2 g (hT.lt g hg) (fun e => by have := (hTn g hg).1; have := hO.lO; omega) (hT.neq hg hO.ls)) (by omega)) | (refine XW (by rw [hml]; exact hT2.at_ (fun k hk => by have := hT2.lt k hk; rw [upd_ne (by omega)]) (by omega)) hz (by rw [hml]; omega) (fun k hk => by rw [upd_ne (by omega)]; exact hsup2 k (by omega)) (fun g' n3 H3 k1 k2 k3 k4 k5 k6 k7 => ?_)) | (with_reducible first | refine A6 ?_ ?_ ?_ | exact AC | assumption | refine A0 ?_ | refine KM.of ?_ | refine AB ?_ | refine A1 ?_ | refine AE ?_ | refine A4 ?_ | refine AJ ?_ | refine AG ?_ | intro _g _hg | refine AD ?_ ?_ | intro _hc) | omega)
  ·obtain ⟨f1, f2, f3, rfl⟩ := hpo.1
   simp [B0, AV.fits, ones, AV.cells, AV.one]
  have hou : ∀ g, OU (ps ++ [⟨r, some F.l, F.cur, F.fin, O'⟩]) g ↔ OU ps g ∨ O' g := fun g => by rw [EM]; simp [OU]
  have htk2 : ∀ g, CI t g → n ≤ g ∧ ¬ OU (ps ++ [⟨r, some F.l, F.cur, F.fin, O'⟩]) g ∧ some gg ≠ some g := fun g hg =>
   ⟨(hTn g hg).1, fun h => ((hou g).1 h).elim (hTn g hg).2 (fun h => by have := hOn g h; have := hT.lt g hg; omega), hT2.neq hg hO2.ls⟩
  have hO3 := hO2.more (n2 := n3) (H2 := H3) htk2 (by omega) (fun k h1 h2 => (k4 k (by omega) h2).trans (upd_ne (by omega))) k6
  refine hJ (r0 - 1) _ (by omega) ⟨j + 1, ps ++ [⟨r, some F.l, F.cur, F.fin, O'⟩], some gg, n3, 1, .own g', H3, by omega, by simp, hO3, ?_, ?_, fun _ => rfl, ⟨by rw [k5]; simp, k3⟩, ?_⟩
  ·rw [htk, List.map_append, List.map_append, hF, List.map_singleton, List.map_singleton, hFe]; rfl
  ·rw [htk, Iv, Ek, List.length_append]; simp only [AL, List.append_nil, Ak]; omega
  ·intro g hg
   have e : g = g' := hg
   subst e
   rcases k1 with k1 | k1
   ·exact ⟨(htk2 g k1).1, (htk2 g k1).2.1⟩
   ·exact ⟨by omega, fun h => by have := hO2.pts.bel g h; omega⟩
 ·have hjl' : ¬ (j : Int) < p.length := by omega
  have hlen : ps.length = j := by have := congrArg List.length hF; simp at this; omega
  have htk : p.take j = p := List.take_of_length_le (by omega)
  rw [htk] at hF
  have hpos : 0 < p.length := List.length_pos_iff.2 hp0
  match t, hT, hz with
  | .nil, hT, _ => exact absurd hT (by show ¬ ps.length = 0; omega)
  | .ro, hT, _ => exact hT.elim
  | .own g5, hT, hz =>
   have hz := hz (by simp)
   subst hz
   have hk2 := hk ps q1 n1 H1 g5 hO hF q3
   
   simp -implicitDefEqProofs [KR, -getElem?_pos, hjl']
   exact hk2
theorem Opnd.nO {gO n n1 : Nat} {cs : AZ} {q q1 : Option Nat} {H H1 : A3} {ps : List Pt} (h : Opnd gO cs q n H ps q1 n1 H1) : ¬ OU ps gO := fun hu => by have := h.nw gO hu; have := h.lO; omega
theorem Td {l : List AV} {g : Nat} : AQ [.sl 1 l (.own g)] [.sl 1 l .ro] := ⟨_, _, rfl, ⟨1, l, .ro, rfl, .inl rfl, .inl rfl, A2 l⟩, rfl⟩
theorem ACalls.imp {f : Nat} {args : List AV} {n : Nat} {H : A3} {R R' : CJ} (h : ACalls Tryz.prog f args n H R) (k : ∀ r n' H', n ≤ n' → R r n' H' → R' r n' H') : ACalls Tryz.prog f args n H R' :=
 fun hs w0 G w vs hl hr hv => (h hs w0 G w vs hl hr hv).mono fun e w' ⟨v, r, G', n', H', e1, e2, e3, e4, e5, e6⟩ => ⟨v, r, G', n', H', e1, k r n' H' e5 e2, e3, e4, e5, e6⟩
theorem Di {gO lo n1 n2 : Nat} {F : Fut} {O : Nat → Prop} {H1 H2 : A3} {r : AV} (hN : NewS false gO lo F O n1 H1 r n2 H2) (h1 : ¬ O gO) (h2 : gO < n1) : ACalls Tryz.prog 71 [r] n2 H2 (NewS true gO lo F O n1 H1) := by
 obtain ⟨m1, m2, m3, m4, O2, m5, m6, m7⟩ := hN
 exact (Xx m7 m1 m6 (fun h => (m5 gO h).elim h1 (fun h => by omega)) (by omega)).imp fun r2 n3 H3 h3 hp => NewS.tr m2 m3 m5 hp
section
variable {gO n n1 gs g5 : Nat} {cs : AZ} {q q1 : Option Nat} {H H1 : A3} {ps : List Pt} {k o m : Int} {v : List Int} {p : List St}
theorem Xh (h60 : ps.length ≤ 60) (hO : Opnd gO cs q n H ps q1 n1 H1) (hps : ps ≠ []) (q3 : H1 gs = some (BH 13 o m (.sl 1 (v.map aI) .ro) (.sl 5 (AR p) .ro))) : aw Tryz.prog c43_k5 (fin (OpenP true gO cs q (D0 (ps.map Pt.fut)) n H) n [.tmp 4]) ⟨[(3, .ptr gs 0), (5, .sl 1 (ps.map Pt.x) (.own g5))], n1, H1⟩ := by
 generalize hR : OpenP _ _ _ _ _ _ _ = R
 have hlO : gO < n1 := by have := hO.lO; have := hO.le; omega
 have hcc := Kz ps
 
 repeat' (first | (simp -implicitDefEqProofs [BN, BM, BP, BJ, BG, -getElem?_pos, q3,  splice]) | (simp (disch := omega) only [AA]) | ((with_reducible refine Ap 73 ?_); refine ⟨_, (ZJ hO.pts hO.all hO.nO hlO h60).sim Td, ?_⟩; rintro r n2 H2 hle2 hsup2 hpost) | ((with_reducible refine Ap 71 ?_); refine ⟨_, Di hpost hO.nO hlO, ?_⟩; rintro r2 n3 H3 hle3 hsup3 hp2) | (with_reducible first | refine A6 ?_ ?_ ?_ | exact AC | assumption | refine A0 ?_ | refine KM.of ?_ | refine AB ?_ | refine A1 ?_ | refine AE ?_ | refine A4 ?_ | refine AJ ?_ | refine AG ?_ | intro _g _hg | refine AD ?_ ?_ | intro _hc) | omega)
 subst hR
 have hle := hO.le
 have ho := hO.fin_ hps (by first | rfl | assumption) hp2
 exact AI rfl ho.2.1 hsup3 ho
theorem Wq (h60 : ps.length ≤ 60) (hO : Opnd gO cs q n H ps q1 n1 H1) (hps : ps ≠ []) (q3 : H1 gs = some (BH 14 o m (.sl 1 (v.map aI) .ro) (.sl 5 (AR p) .ro))) : aw Tryz.prog c43_k5 (fin (OpenP true gO cs q (Hv (ps.map Pt.fut)) n H) n [.tmp 4]) ⟨[(3, .ptr gs 0), (5, .sl 1 (ps.map Pt.x) (.own g5))], n1, H1⟩ := by
 generalize hR : OpenP _ _ _ _ _ _ _ = R
 have hlO : gO < n1 := by have := hO.lO; have := hO.le; omega
 have hcc : (Hv (ps.map Pt.fut)).cur = AL ps := by simp [Hv, G8, Pt.fut, Function.comp_def]
 
 repeat' (first | (simp -implicitDefEqProofs [BN, BM, BP, BJ, BG, -getElem?_pos, q3,  splice]) | (simp (disch := omega) only [AA]) | ((with_reducible refine Ap 74 ?_); refine ⟨_, (Ya hO.pts hO.all hO.nO hlO h60).sim Td, ?_⟩; rintro r n2 H2 hle2 hsup2 hpost) | ((with_reducible refine Ap 71 ?_); refine ⟨_, Di hpost hO.nO hlO, ?_⟩; rintro r2 n3 H3 hle3 hsup3 hp2) | (with_reducible first | refine A6 ?_ ?_ ?_ | exact AC | assumption | refine A0 ?_ | refine KM.of ?_ | refine AB ?_ | refine A1 ?_ | refine AE ?_ | refine A4 ?_ | refine AJ ?_ | refine AG ?_ | intro _g _hg | refine AD ?_ ?_ | intro _hc) | omega)
 subst hR
 have hle := hO.le
 have ho := hO.fin_ hps (by first | rfl | assumption) hp2
 exact AI rfl ho.2.1 hsup3 ho
theorem Xs {f0 f1 : Nat} {a0 w0 a1 w1 : List AV} {la lb : Aq} {ca cb fa fb : AZ} {O1 O2 : Nat → Prop} (hop : 1 ≤ o ∧ o ≤ 5) (hra : rgE la) (hrb : rgE lb) (hO : Opnd gO cs q n H [⟨.fn f0 a0 w0, some la, ca, fa, O1⟩, ⟨.fn f1 a1 w1, some lb, cb, fb, O2⟩] q1 n1 H1)  (q3 : H1 gs = some (BH 15 o m (.sl 1 (v.map aI) .ro) (.sl 5 (AR p) .ro))) : aw Tryz.prog c43_k5 (fin (OpenP true gO cs q ⟨ca ++ cb, (G0 (DZ o) fa fb la cb lb).1, (G0 (DZ o) fa fb la cb lb).2⟩ n H) n [.tmp 4]) ⟨[(3, .ptr gs 0), (5, .sl 1 [.fn f0 a0 w0, .fn f1 a1 w1] (.own g5))], n1, H1⟩ := by
 generalize hR : OpenP _ _ _ _ _ _ _ = R
 have hlO : gO < n1 := by have := hO.lO; have := hO.le; omega
 
 repeat' (first | (simp -implicitDefEqProofs [BN, BM, BP, BJ, BG, -getElem?_pos, q3,  splice]) | (simp (disch := omega) only [AA]) | ((with_reducible refine Ap 75 ?_); refine ⟨_, A25 hop hO.pts ⟨_, _, _, rfl⟩ ⟨_, _, _, rfl⟩ hra hrb hO.nO hlO, ?_⟩; rintro r n2 H2 hle2 hsup2 hpost) | ((with_reducible refine Ap 71 ?_); refine ⟨_, Di hpost hO.nO hlO, ?_⟩; rintro r2 n3 H3 hle3 hsup3 hp2) | (with_reducible first | refine A6 ?_ ?_ ?_ | exact AC | assumption | refine A0 ?_ | refine KM.of ?_ | refine AB ?_ | refine A1 ?_ | refine AE ?_ | refine A4 ?_ | refine AJ ?_ | refine AG ?_ | intro _g _hg | refine AD ?_ ?_ | intro _hc) | omega)
 subst hR
 have hle := hO.le
 have ho := hO.fin_ (by simp) (by simp [AL]) hp2
 exact AI rfl ho.2.1 hsup3 ho
theorem Wl {f0 f1 : Nat} {a0 w0 a1 w1 : List AV} {la lb : Aq} {ca cb fa fb : AZ} {O1 O2 : Nat → Prop}  (hO : Opnd gO cs q n H [⟨.fn f0 a0 w0, some la, ca, fa, O1⟩, ⟨.fn f1 a1 w1, some lb, cb, fb, O2⟩] q1 n1 H1)  (q3 : H1 gs = some (BH 16 o m (.sl 1 (v.map aI) .ro) (.sl 5 (AR p) .ro))) : aw Tryz.prog c43_k5 (fin (OpenP true gO cs q ⟨ca ++ cb, DY fa fb la lb, fa ++ fb⟩ n H) n [.tmp 4]) ⟨[(3, .ptr gs 0), (5, .sl 1 [.fn f0 a0 w0, .fn f1 a1 w1] (.own g5))], n1, H1⟩ := by
 generalize hR : OpenP _ _ _ _ _ _ _ = R
 have hlO : gO < n1 := by have := hO.lO; have := hO.le; omega
 
 repeat' (first | (simp -implicitDefEqProofs [BN, BM, BP, BJ, BG, -getElem?_pos, q3,  splice]) | (simp (disch := omega) only [AA]) | ((with_reducible refine Ap 76 ?_); refine ⟨_, (Z0 hO.pts ⟨_, _, _, rfl⟩ ⟨_, _, _, rfl⟩ hO.nO hlO).sim Td, ?_⟩; rintro r n2 H2 hle2 hsup2 hpost) | ((with_reducible refine Ap 71 ?_); refine ⟨_, Di hpost hO.nO hlO, ?_⟩; rintro r2 n3 H3 hle3 hsup3 hp2) | (with_reducible first | refine A6 ?_ ?_ ?_ | exact AC | assumption | refine A0 ?_ | refine KM.of ?_ | refine AB ?_ | refine A1 ?_ | refine AE ?_ | refine A4 ?_ | refine AJ ?_ | refine AG ?_ | intro _g _hg | refine AD ?_ ?_ | intro _hc) | omega)
 subst hR
 have hle := hO.le
 have ho := hO.fin_ (by simp) (by simp [AL]) hp2
 exact AI rfl ho.2.1 hsup3 ho
theorem YU {f0 : Nat} {a0 w0 : List AV} {l : Aq} {cur fe : AZ} {O1 : Nat → Prop} (hop : 1 ≤ o ∧ o ≤ 6) (hm : B5 m) (h6 : o = 6 → 1 ≤ m) (hrg : rgE l) (hO : Opnd gO cs q n H [⟨.fn f0 a0 w0, some l, cur, fe, O1⟩] q1 n1 H1)  (q3 : H1 gs = some (BH 3 o m (.sl 1 (v.map aI) .ro) (.sl 5 (AR p) .ro))) : aw Tryz.prog c43_k5 (fin (OpenP true gO cs q ⟨cur, l.map fun e => (DZ o e.1 m, e.2), fe⟩ n H) n [.tmp 4]) ⟨[(3, .ptr gs 0), (5, .sl 1 [.fn f0 a0 w0] (.own g5))], n1, H1⟩ := by
 generalize hR : OpenP _ _ _ _ _ _ _ = R
 have hlO : gO < n1 := by have := hO.lO; have := hO.le; omega
 
 repeat' (first | (simp -implicitDefEqProofs [BN, BM, BP, BJ, BG, -getElem?_pos, q3,  splice]) | (simp (disch := omega) only [AA]) | ((with_reducible refine Ap 77 ?_); refine ⟨_, VC hop hm h6 hrg hO.pts ⟨_, _, _, rfl⟩ hO.nO hlO, ?_⟩; rintro r n2 H2 hle2 hsup2 hpost) | ((with_reducible refine Ap 71 ?_); refine ⟨_, Di hpost hO.nO hlO, ?_⟩; rintro r2 n3 H3 hle3 hsup3 hp2) | (with_reducible first | refine A6 ?_ ?_ ?_ | exact AC | assumption | refine A0 ?_ | refine KM.of ?_ | refine AB ?_ | refine A1 ?_ | refine AE ?_ | refine A4 ?_ | refine AJ ?_ | refine AG ?_ | intro _g _hg | refine AD ?_ ?_ | intro _hc) | omega)
 subst hR
 have hle := hO.le
 have ho := hO.fin_ (by simp) (by simp [AL]) hp2
 exact AI rfl ho.2.1 hsup3 ho
theorem ZB {f0 : Nat} {a0 w0 : List AV} {l : Aq} {cur fe : AZ} {O1 : Nat → Prop} (hop : 1 ≤ o ∧ o ≤ 3) (hm : B5 m) (h3 : o = 3 → 1 ≤ m) (hrg : rgE l) (hO : Opnd gO cs q n H [⟨.fn f0 a0 w0, some l, cur, fe, O1⟩] q1 n1 H1)  (q3 : H1 gs = some (BH 4 o m (.sl 1 (v.map aI) .ro) (.sl 5 (AR p) .ro))) : aw Tryz.prog c43_k5 (fin (OpenP true gO cs q ⟨cur, l.filter fun e => Fj o e.1 m, fe⟩ n H) n [.tmp 4]) ⟨[(3, .ptr gs 0), (5, .sl 1 [.fn f0 a0 w0] (.own g5))], n1, H1⟩ := by
 generalize hR : OpenP _ _ _ _ _ _ _ = R
 have hlO : gO < n1 := by have := hO.lO; have := hO.le; omega
 
 repeat' (first | (simp -implicitDefEqProofs [BN, BM, BP, BJ, BG, -getElem?_pos, q3,  splice]) | (simp (disch := omega) only [AA]) | ((with_reducible refine Ap 77 ?_); refine ⟨_, VA hop hm h3 hrg hO.pts ⟨_, _, _, rfl⟩ hO.nO hlO, ?_⟩; rintro r n2 H2 hle2 hsup2 hpost) | ((with_reducible refine Ap 71 ?_); refine ⟨_, Di hpost hO.nO hlO, ?_⟩; rintro r2 n3 H3 hle3 hsup3 hp2) | (with_reducible first | refine A6 ?_ ?_ ?_ | exact AC | assumption | refine A0 ?_ | refine KM.of ?_ | refine AB ?_ | refine A1 ?_ | refine AE ?_ | refine A4 ?_ | refine AJ ?_ | refine AG ?_ | intro _g _hg | refine AD ?_ ?_ | intro _hc) | omega)
 subst hR
 have hle := hO.le
 have ho := hO.fin_ (by simp) (by simp [AL]) hp2
 exact AI rfl ho.2.1 hsup3 ho
theorem Zg {f0 : Nat} {a0 w0 : List AV} {l : Aq} {cur fe : AZ} {O1 : Nat → Prop} {j : Nat} (hm : j ≤ 5000) (hO : Opnd gO cs q n H [⟨.fn f0 a0 w0, some l, cur, fe, O1⟩] q1 n1 H1)  (q3 : H1 gs = some (BH 5 o (j : Nat) (.sl 1 (v.map aI) .ro) (.sl 5 (AR p) .ro))) : aw Tryz.prog c43_k5 (fin (OpenP true gO cs q ⟨cur, (DE j cur l fe).1, (DE j cur l fe).2⟩ n H) n [.tmp 4]) ⟨[(3, .ptr gs 0), (5, .sl 1 [.fn f0 a0 w0] (.own g5))], n1, H1⟩ := by
 generalize hR : OpenP _ _ _ _ _ _ _ = R
 have hlO : gO < n1 := by have := hO.lO; have := hO.le; omega
 
 repeat' (first | (simp -implicitDefEqProofs [BN, BM, BP, BJ, BG, -getElem?_pos, q3,  splice]) | (simp (disch := omega) only [AA]) | ((with_reducible refine Ap 77 ?_); refine ⟨_, Ve (m := 0) hm hO.pts ⟨_, _, _, rfl⟩ hO.nO hlO, ?_⟩; rintro r n2 H2 hle2 hsup2 hpost) | ((with_reducible refine Ap 71 ?_); refine ⟨_, Di hpost hO.nO hlO, ?_⟩; rintro r2 n3 H3 hle3 hsup3 hp2) | (with_reducible first | refine A6 ?_ ?_ ?_ | exact AC | assumption | refine A0 ?_ | refine KM.of ?_ | refine AB ?_ | refine A1 ?_ | refine AE ?_ | refine A4 ?_ | refine AJ ?_ | refine AG ?_ | intro _g _hg | refine AD ?_ ?_ | intro _hc) | omega)
 subst hR
 have hle := hO.le
 have ho := hO.fin_ (by simp) (by simp [AL]) hp2
 exact AI rfl ho.2.1 hsup3 ho
theorem ZS {f0 : Nat} {a0 w0 : List AV} {l : Aq} {cur fe : AZ} {O1 : Nat → Prop} {j : Nat} (hm : j ≤ 5000) (hO : Opnd gO cs q n H [⟨.fn f0 a0 w0, some l, cur, fe, O1⟩] q1 n1 H1)  (q3 : H1 gs = some (BH 6 o (j : Nat) (.sl 1 (v.map aI) .ro) (.sl 5 (AR p) .ro))) : aw Tryz.prog c43_k5 (fin (OpenP true gO cs q ⟨cur, l.drop j, fe⟩ n H) n [.tmp 4]) ⟨[(3, .ptr gs 0), (5, .sl 1 [.fn f0 a0 w0] (.own g5))], n1, H1⟩ := by
 generalize hR : OpenP _ _ _ _ _ _ _ = R
 have hlO : gO < n1 := by have := hO.lO; have := hO.le; omega
 
 repeat' (first | (simp -implicitDefEqProofs [BN, BM, BP, BJ, BG, -getElem?_pos, q3,  splice]) | (simp (disch := omega) only [AA]) | ((with_reducible refine Ap 77 ?_); refine ⟨_, Vf (m := 0) hm hO.pts ⟨_, _, _, rfl⟩ hO.nO hlO, ?_⟩; rintro r n2 H2 hle2 hsup2 hpost) | ((with_reducible refine Ap 71 ?_); refine ⟨_, Di hpost hO.nO hlO, ?_⟩; rintro r2 n3 H3 hle3 hsup3 hp2) | (with_reducible first | refine A6 ?_ ?_ ?_ | exact AC | assumption | refine A0 ?_ | refine KM.of ?_ | refine AB ?_ | refine A1 ?_ | refine AE ?_ | refine A4 ?_ | refine AJ ?_ | refine AG ?_ | intro _g _hg | refine AD ?_ ?_ | intro _hc) | omega)
 subst hR
 have hle := hO.le
 have ho := hO.fin_ (by simp) (by simp [AL]) hp2
 exact AI rfl ho.2.1 hsup3 ho
theorem Zc {f0 : Nat} {a0 w0 : List AV} {l : Aq} {cur fe : AZ} {O1 : Nat → Prop} (hop : 1 ≤ o ∧ o ≤ 3) (hm : B5 m) (h3 : o = 3 → 1 ≤ m) (hrg : rgE l) (hO : Opnd gO cs q n H [⟨.fn f0 a0 w0, some l, cur, fe, O1⟩] q1 n1 H1)  (q3 : H1 gs = some (BH 7 o m (.sl 1 (v.map aI) .ro) (.sl 5 (AR p) .ro))) : aw Tryz.prog c43_k5 (fin (OpenP true gO cs q ⟨cur, (Ev (fun x => Fj o x m) l fe).1, (Ev (fun x => Fj o x m) l fe).2⟩ n H) n [.tmp 4]) ⟨[(3, .ptr gs 0), (5, .sl 1 [.fn f0 a0 w0] (.own g5))], n1, H1⟩ := by
 generalize hR : OpenP _ _ _ _ _ _ _ = R
 have hlO : gO < n1 := by have := hO.lO; have := hO.le; omega
 
 repeat' (first | (simp -implicitDefEqProofs [BN, BM, BP, BJ, BG, -getElem?_pos, q3,  splice]) | (simp (disch := omega) only [AA]) | ((with_reducible refine Ap 77 ?_); refine ⟨_, Vd hop hm h3 hrg hO.pts ⟨_, _, _, rfl⟩ hO.nO hlO, ?_⟩; rintro r n2 H2 hle2 hsup2 hpost) | ((with_reducible refine Ap 71 ?_); refine ⟨_, Di hpost hO.nO hlO, ?_⟩; rintro r2 n3 H3 hle3 hsup3 hp2) | (with_reducible first | refine A6 ?_ ?_ ?_ | exact AC | assumption | refine A0 ?_ | refine KM.of ?_ | refine AB ?_ | refine A1 ?_ | refine AE ?_ | refine A4 ?_ | refine AJ ?_ | refine AG ?_ | intro _g _hg | refine AD ?_ ?_ | intro _hc) | omega)
 subst hR
 have hle := hO.le
 have ho := hO.fin_ (by simp) (by simp [AL]) hp2
 exact AI rfl ho.2.1 hsup3 ho
theorem ZL {f0 : Nat} {a0 w0 : List AV} {l : Aq} {cur fe : AZ} {O1 : Nat → Prop} (hop : 1 ≤ o ∧ o ≤ 3) (hm : B5 m) (h3 : o = 3 → 1 ≤ m) (hrg : rgE l) (hO : Opnd gO cs q n H [⟨.fn f0 a0 w0, some l, cur, fe, O1⟩] q1 n1 H1)  (q3 : H1 gs = some (BH 8 o m (.sl 1 (v.map aI) .ro) (.sl 5 (AR p) .ro))) : aw Tryz.prog c43_k5 (fin (OpenP true gO cs q ⟨cur, Ie (fun x => Fj o x m) l, fe⟩ n H) n [.tmp 4]) ⟨[(3, .ptr gs 0), (5, .sl 1 [.fn f0 a0 w0] (.own g5))], n1, H1⟩ := by
 generalize hR : OpenP _ _ _ _ _ _ _ = R
 have hlO : gO < n1 := by have := hO.lO; have := hO.le; omega
 
 repeat' (first | (simp -implicitDefEqProofs [BN, BM, BP, BJ, BG, -getElem?_pos, q3,  splice]) | (simp (disch := omega) only [AA]) | ((with_reducible refine Ap 77 ?_); refine ⟨_, WD hop hm h3 hrg hO.pts ⟨_, _, _, rfl⟩ hO.nO hlO, ?_⟩; rintro r n2 H2 hle2 hsup2 hpost) | ((with_reducible refine Ap 71 ?_); refine ⟨_, Di hpost hO.nO hlO, ?_⟩; rintro r2 n3 H3 hle3 hsup3 hp2) | (with_reducible first | refine A6 ?_ ?_ ?_ | exact AC | assumption | refine A0 ?_ | refine KM.of ?_ | refine AB ?_ | refine A1 ?_ | refine AE ?_ | refine A4 ?_ | refine AJ ?_ | refine AG ?_ | intro _g _hg | refine AD ?_ ?_ | intro _hc) | omega)
 subst hR
 have hle := hO.le
 have ho := hO.fin_ (by simp) (by simp [AL]) hp2
 exact AI rfl ho.2.1 hsup3 ho
theorem Ym {f0 : Nat} {a0 w0 : List AV} {l : Aq} {cur fe : AZ} {O1 : Nat → Prop} (hop : 1 ≤ o ∧ o ≤ 5) (hm : B5 m) (hrg : rgE l) (hO : Opnd gO cs q n H [⟨.fn f0 a0 w0, some l, cur, fe, O1⟩] q1 n1 H1)  (q3 : H1 gs = some (BH 9 o m (.sl 1 (v.map aI) .ro) (.sl 5 (AR p) .ro))) : aw Tryz.prog c43_k5 (fin (OpenP true gO cs q ⟨cur, LQ (DZ o) m l, fe⟩ n H) n [.tmp 4]) ⟨[(3, .ptr gs 0), (5, .sl 1 [.fn f0 a0 w0] (.own g5))], n1, H1⟩ := by
 generalize hR : OpenP _ _ _ _ _ _ _ = R
 have hlO : gO < n1 := by have := hO.lO; have := hO.le; omega
 
 repeat' (first | (simp -implicitDefEqProofs [BN, BM, BP, BJ, BG, -getElem?_pos, q3,  splice]) | (simp (disch := omega) only [AA]) | ((with_reducible refine Ap 77 ?_); refine ⟨_, Vm hop hm hrg hO.pts ⟨_, _, _, rfl⟩ hO.nO hlO, ?_⟩; rintro r n2 H2 hle2 hsup2 hpost) | ((with_reducible refine Ap 71 ?_); refine ⟨_, Di hpost hO.nO hlO, ?_⟩; rintro r2 n3 H3 hle3 hsup3 hp2) | (with_reducible first | refine A6 ?_ ?_ ?_ | exact AC | assumption | refine A0 ?_ | refine KM.of ?_ | refine AB ?_ | refine A1 ?_ | refine AE ?_ | refine A4 ?_ | refine AJ ?_ | refine AG ?_ | intro _g _hg | refine AD ?_ ?_ | intro _hc) | omega)
 subst hR
 have hle := hO.le
 have ho := hO.fin_ (by simp) (by simp [AL]) hp2
 exact AI rfl ho.2.1 hsup3 ho
theorem Xn {f0 : Nat} {a0 w0 : List AV} {l : Aq} {cur fe : AZ} {O1 : Nat → Prop} {j : Nat} (hop : 1 ≤ o ∧ o ≤ 5) (hm : 1 ≤ j ∧ j ≤ 8) (hrg : rgE l) (hO : Opnd gO cs q n H [⟨.fn f0 a0 w0, some l, cur, fe, O1⟩] q1 n1 H1)  (q3 : H1 gs = some (BH 10 o (j : Nat) (.sl 1 (v.map aI) .ro) (.sl 5 (AR p) .ro))) : aw Tryz.prog c43_k5 (fin (OpenP true gO cs q ⟨cur, FP (DZ o) j [] l, fe⟩ n H) n [.tmp 4]) ⟨[(3, .ptr gs 0), (5, .sl 1 [.fn f0 a0 w0] (.own g5))], n1, H1⟩ := by
 generalize hR : OpenP _ _ _ _ _ _ _ = R
 have hlO : gO < n1 := by have := hO.lO; have := hO.le; omega
 
 repeat' (first | (simp -implicitDefEqProofs [BN, BM, BP, BJ, BG, -getElem?_pos, q3,  splice]) | (simp (disch := omega) only [AA]) | ((with_reducible refine Ap 77 ?_); refine ⟨_, TO (m := 0) hop hm hrg hO.pts ⟨_, _, _, rfl⟩ hO.nO hlO, ?_⟩; rintro r n2 H2 hle2 hsup2 hpost) | ((with_reducible refine Ap 71 ?_); refine ⟨_, Di hpost hO.nO hlO, ?_⟩; rintro r2 n3 H3 hle3 hsup3 hp2) | (with_reducible first | refine A6 ?_ ?_ ?_ | exact AC | assumption | refine A0 ?_ | refine KM.of ?_ | refine AB ?_ | refine A1 ?_ | refine AE ?_ | refine A4 ?_ | refine AJ ?_ | refine AG ?_ | intro _g _hg | refine AD ?_ ?_ | intro _hc) | omega)
 subst hR
 have hle := hO.le
 have ho := hO.fin_ (by simp) (by simp [AL]) hp2
 exact AI rfl ho.2.1 hsup3 ho
theorem XE {f0 : Nat} {a0 w0 : List AV} {l : Aq} {cur fe : AZ} {O1 : Nat → Prop} (hrg : rgE l) (hO : Opnd gO cs q n H [⟨.fn f0 a0 w0, some l, cur, fe, O1⟩] q1 n1 H1)  (q3 : H1 gs = some (BH 11 o m (.sl 1 (v.map aI) .ro) (.sl 5 (AR p) .ro))) : aw Tryz.prog c43_k5 (fin (OpenP true gO cs q ⟨cur, Fh (-1) l, fe⟩ n H) n [.tmp 4]) ⟨[(3, .ptr gs 0), (5, .sl 1 [.fn f0 a0 w0] (.own g5))], n1, H1⟩ := by
 generalize hR : OpenP _ _ _ _ _ _ _ = R
 have hlO : gO < n1 := by have := hO.lO; have := hO.le; omega
 
 repeat' (first | (simp -implicitDefEqProofs [BN, BM, BP, BJ, BG, -getElem?_pos, q3,  splice]) | (simp (disch := omega) only [AA]) | ((with_reducible refine Ap 77 ?_); refine ⟨_, Ss hrg hO.pts ⟨_, _, _, rfl⟩ hO.nO hlO, ?_⟩; rintro r n2 H2 hle2 hsup2 hpost) | ((with_reducible refine Ap 71 ?_); refine ⟨_, Di hpost hO.nO hlO, ?_⟩; rintro r2 n3 H3 hle3 hsup3 hp2) | (with_reducible first | refine A6 ?_ ?_ ?_ | exact AC | assumption | refine A0 ?_ | refine KM.of ?_ | refine AB ?_ | refine A1 ?_ | refine AE ?_ | refine A4 ?_ | refine AJ ?_ | refine AG ?_ | intro _g _hg | refine AD ?_ ?_ | intro _hc) | omega)
 subst hR
 have hle := hO.le
 have ho := hO.fin_ (by simp) (by simp [AL]) hp2
 exact AI rfl ho.2.1 hsup3 ho
theorem VI {f0 : Nat} {a0 w0 : List AV} {l : Aq} {cur fe : AZ} {O1 : Nat → Prop}  (hO : Opnd gO cs q n H [⟨.fn f0 a0 w0, some l, cur, fe, O1⟩] q1 n1 H1)  (q3 : H1 gs = some (BH 12 o 0 (.sl 1 (v.map aI) .ro) (.sl 5 (AR p) .ro))) : aw Tryz.prog c43_k5 (fin (OpenP true gO cs q ⟨cur, [], cur⟩ n H) n [.tmp 4]) ⟨[(3, .ptr gs 0), (5, .sl 1 [.fn f0 a0 w0] (.own g5))], n1, H1⟩ := by
 generalize hR : OpenP _ _ _ _ _ _ _ = R
 have hlO : gO < n1 := by have := hO.lO; have := hO.le; omega
 
 repeat' (first | (simp -implicitDefEqProofs [BN, BM, BP, BJ, BG, -getElem?_pos, q3,  splice]) | (simp (disch := omega) only [AA]) | ((with_reducible refine Ap 77 ?_); refine ⟨_, S7 (m := 0) hO.pts ⟨_, _, _, rfl⟩ hO.nO hlO, ?_⟩; rintro r n2 H2 hle2 hsup2 hpost) | ((with_reducible refine Ap 71 ?_); refine ⟨_, Di hpost hO.nO hlO, ?_⟩; rintro r2 n3 H3 hle3 hsup3 hp2) | (with_reducible first | refine A6 ?_ ?_ ?_ | exact AC | assumption | refine A0 ?_ | refine KM.of ?_ | refine AB ?_ | refine A1 ?_ | refine AE ?_ | refine A4 ?_ | refine AJ ?_ | refine AG ?_ | intro _g _hg | refine AD ?_ ?_ | intro _hc) | omega)
 subst hR
 have hle := hO.le
 have ho := hO.fin_ (by simp) (by simp [AL]) hp2
 exact AI rfl ho.2.1 hsup3 ho
theorem Wd {f0 : Nat} {a0 w0 : List AV} {l : Aq} {cur fe : AZ} {O1 : Nat → Prop} {j : Nat} (hm : 1 ≤ j ∧ j ≤ 20) (hl : l.length ≤ 5000) (hO : Opnd gO cs q n H [⟨.fn f0 a0 w0, some l, cur, fe, O1⟩] q1 n1 H1)  (q3 : H1 gs = some (BH 12 o (j : Nat) (.sl 1 (v.map aI) .ro) (.sl 5 (AR p) .ro))) : aw Tryz.prog c43_k5 (fin (OpenP true gO cs q ⟨cur, l ++ Eo (l.map (·.1)) fe (j - 1), fe⟩ n H) n [.tmp 4]) ⟨[(3, .ptr gs 0), (5, .sl 1 [.fn f0 a0 w0] (.own g5))], n1, H1⟩ := by
 generalize hR : OpenP _ _ _ _ _ _ _ = R
 have hlO : gO < n1 := by have := hO.lO; have := hO.le; omega
 
 repeat' (first | (simp -implicitDefEqProofs [BN, BM, BP, BJ, BG, -getElem?_pos, q3,  splice]) | (simp (disch := omega) only [AA]) | ((with_reducible refine Ap 77 ?_); refine ⟨_, TY (m := 0) hm hl hO.pts ⟨_, _, _, rfl⟩ hO.nO hlO, ?_⟩; rintro r n2 H2 hle2 hsup2 hpost) | ((with_reducible refine Ap 71 ?_); refine ⟨_, Di hpost hO.nO hlO, ?_⟩; rintro r2 n3 H3 hle3 hsup3 hp2) | (with_reducible first | refine A6 ?_ ?_ ?_ | exact AC | assumption | refine A0 ?_ | refine KM.of ?_ | refine AB ?_ | refine A1 ?_ | refine AE ?_ | refine A4 ?_ | refine AJ ?_ | refine AG ?_ | intro _g _hg | refine AD ?_ ?_ | intro _hc) | omega)
 subst hR
 have hle := hO.le
 have ho := hO.fin_ (by simp) (by simp [AL]) hp2
 exact AI rfl ho.2.1 hsup3 ho
end
theorem ZV {s : St} (h : Ks s) : AW s ≤ 5000 := by cases s; exact h.1
theorem Y5 {p : Pt} {F : Fut} (h : p.fut = F) (ha : (∃ l, p.l = some l) ∧ Ct p.x) : ∃ f a b O, p = ⟨.fn f a b, some F.l, F.cur, F.fin, O⟩ := by
 obtain ⟨x, l, cur, fe, O⟩ := p
 obtain ⟨⟨l, rfl⟩, f, a, b, rfl⟩ := ha
 subst h
 exact ⟨f, a, b, O, rfl⟩
theorem VF {gO n n1 gs g5 : Nat} {cs : AZ} {q q1 : Option Nat} {H H1 : A3} {ps : List Pt} {k o m : Int} {v : List Int} {p : List St} (hN : NodeOk k o m v p) (hok : TS p) (hsm : Sp p) (h1 : k ≠ 1) (h2 : k ≠ 2) (h60 : p.length ≤ 60) (hF : ps.map Pt.fut = p.map AY) (hO : Opnd gO cs q n H ps q1 n1 H1) (hps : ps ≠ []) (q3 : H1 gs = some (BH k o m (.sl 1 (v.map aI) .ro) (.sl 5 (AR p) .ro))) :
  aw Tryz.prog c43_k5 (fin (OpenP true gO cs q (AY (.mk k o m v p)) n H) n [.tmp 4]) ⟨[(3, .ptr gs 0), (5, .sl 1 (ps.map Pt.x) (.own g5))], n1, H1⟩ := by
 have hpl : ps.length = p.length := by have := congrArg List.length hF; simpa using this
 by_cases h13 : k = 13
 ·subst h13
  have e : AY (.mk 13 o m v p) = D0 (ps.map Pt.fut) := by rw [AY, F9, ← hF]; simp [CO]
  rw [e]; exact Xh (by omega) hO hps q3
 by_cases h14 : k = 14
 ·subst h14
  have e : AY (.mk 14 o m v p) = Hv (ps.map Pt.fut) := by rw [AY, F9, ← hF]; simp [CO]
  rw [e]; exact Wq (by omega) hO hps q3
 by_cases h15 : k = 15 ∨ k = 16
 ·obtain ⟨x, y, rfl⟩ : ∃ x y, p = [x, y] := by
   match p, hN.two h15 with
   | [x, y], _ => exact ⟨x, y, rfl⟩
  obtain ⟨pa, pb, rfl⟩ : ∃ pa pb, ps = [pa, pb] := by
   match ps, hpl with
   | [pa, pb], _ => exact ⟨pa, pb, rfl⟩
  simp only [List.map_cons, List.map_nil, List.cons.injEq, and_true] at hF
  obtain ⟨f0, a0, w0, O1, rfl⟩ := Y5 hF.1 (hO.all pa (by simp))
  obtain ⟨f1, a1, w1, O2, rfl⟩ := Y5 hF.2 (hO.all pb (by simp))
  have bx := Hn x hok.1
  have by_ := Hn y hok.2.1
  rcases h15 with rfl | rfl
  ·have e : AY (.mk 15 o m v [x, y]) = ⟨(AY x).cur ++ (AY y).cur, (G0 (DZ o) (AY x).fin (AY y).fin (AY x).l (AY y).cur (AY y).l).1, (G0 (DZ o) (AY x).fin (AY y).fin (AY x).l (AY y).cur (AY y).l).2⟩ := by simp [AY, Es, CO]
   rw [e]
   have hfn := hN.fn (by decide)
   exact Xs (by omega) bx.2 by_.2 hO q3
  ·have e : AY (.mk 16 o m v [x, y]) = ⟨(AY x).cur ++ (AY y).cur, DY (AY x).fin (AY y).fin (AY x).l (AY y).l, (AY x).fin ++ (AY y).fin⟩ := by simp [AY, Es, CO]
   rw [e]
   exact Wl hO q3
 have hk1 := hN.k1
 have hk2 := hN.k2
 obtain ⟨x, rfl⟩ : ∃ x, p = [x] := by
  match p, hN.one h1 h2 h13 h14 (by omega) (by omega) with
  | [x], _ => exact ⟨x, rfl⟩
 obtain ⟨pa, rfl⟩ : ∃ pa, ps = [pa] := by
  match ps, hpl with
  | [pa], _ => exact ⟨pa, rfl⟩
 simp only [List.map_cons, List.map_nil, List.cons.injEq, and_true] at hF
 obtain ⟨f0, a0, w0, O1, rfl⟩ := Y5 hF (hO.all pa (by simp))
 have bx := Hn x hok.1
 have hb5 := ZV hsm.1
 have e : AY (.mk k o m v [x]) = CC k o m (AY x) := by simp [AY, Es, CO, h1, h2, h13, h14]
 rw [e]
 generalize AY x = F at *
 have hfn := hN.fn
 have hcd := hN.cnd
 have hnm := hN.num
 by_cases k3 : k = 3
 ·subst k3
  have h1 := hfn (by decide); have h2 := hnm (by decide)
  simp only [J6, J7, D6] at h2
  rw [show CC 3 o m F = ⟨F.cur, F.l.map fun e => (DZ o e.1 m, e.2), F.fin⟩ by simp [CC]]
  exact YU (o := o) (m := m) (by omega) (show B5 m by unfold B5; grind) (by grind) bx.2 hO q3
 by_cases k4 : k = 4
 ·subst k4
  have h1 := hcd (by decide); have h2 := hnm (by decide)
  simp only [J6, J7, D6] at h2
  rw [show CC 4 o m F = ⟨F.cur, F.l.filter fun e => Fj o e.1 m, F.fin⟩ by simp [CC]]
  exact ZB (o := o) (m := m) (by omega) (show B5 m by unfold B5; grind) (by grind) bx.2 hO q3
 by_cases k5 : k = 5
 ·subst k5
  have h2 := hnm (by decide)
  simp only [J6, J7, D6] at h2
  obtain ⟨j, rfl⟩ : ∃ j : Nat, m = j := ⟨m.toNat, by grind⟩
  rw [show CC 5 o j F = ⟨F.cur, (DE j F.cur F.l F.fin).1, (DE j F.cur F.l F.fin).2⟩ by simp [CC]]
  exact Zg (j := j) (by grind) hO q3
 by_cases k6 : k = 6
 ·subst k6
  have h2 := hnm (by decide)
  simp only [J6, J7, D6] at h2
  obtain ⟨j, rfl⟩ : ∃ j : Nat, m = j := ⟨m.toNat, by grind⟩
  rw [show CC 6 o j F = ⟨F.cur, F.l.drop j, F.fin⟩ by simp [CC]]
  exact ZS (j := j) (by grind) hO q3
 by_cases k7 : k = 7
 ·subst k7
  have h1 := hcd (by decide); have h2 := hnm (by decide)
  simp only [J6, J7, D6] at h2
  rw [show CC 7 o m F = ⟨F.cur, (Ev (fun x => Fj o x m) F.l F.fin).1, (Ev (fun x => Fj o x m) F.l F.fin).2⟩ by simp [CC]]
  exact Zc (o := o) (m := m) (by omega) (show B5 m by unfold B5; grind) (by grind) bx.2 hO q3
 by_cases k8 : k = 8
 ·subst k8
  have h1 := hcd (by decide); have h2 := hnm (by decide)
  simp only [J6, J7, D6] at h2
  rw [show CC 8 o m F = ⟨F.cur, Ie (fun x => Fj o x m) F.l, F.fin⟩ by simp [CC]]
  exact ZL (o := o) (m := m) (by omega) (show B5 m by unfold B5; grind) (by grind) bx.2 hO q3
 by_cases k9 : k = 9
 ·subst k9
  have h1 := hfn (by decide); have h2 := hnm (by decide)
  simp only [J6, J7, D6] at h2
  rw [show CC 9 o m F = ⟨F.cur, LQ (DZ o) m F.l, F.fin⟩ by simp [CC]]
  exact Ym (o := o) (m := m) (by omega) (show B5 m by unfold B5; grind) bx.2 hO q3
 by_cases k10 : k = 10
 ·subst k10
  have h1 := hfn (by decide); have h2 := hnm (by decide)
  simp only [J6, J7, D6] at h2
  obtain ⟨j, rfl⟩ : ∃ j : Nat, m = j := ⟨m.toNat, by grind⟩
  rw [show CC 10 o j F = ⟨F.cur, FP (DZ o) j [] F.l, F.fin⟩ by simp [CC]]
  exact Xn (o := o) (j := j) (by omega) (by grind) bx.2 hO q3
 by_cases k11 : k = 11
 ·subst k11
  rw [show CC 11 o m F = ⟨F.cur, Fh (-1) F.l, F.fin⟩ by simp [CC]]
  exact XE (o := o) (m := m) bx.2 hO q3
 have k12 : k = 12 := by omega
 subst k12
 have h2 := hnm (by decide)
 simp only [J6, J7, D6] at h2
 obtain ⟨j, rfl⟩ : ∃ j : Nat, m = j := ⟨m.toNat, by grind⟩
 by_cases j0 : j = 0
 ·subst j0
  rw [show CC 12 o (0 : Nat) F = ⟨F.cur, [], F.cur⟩ by simp [CC, MO]]
  exact VI (o := o) hO q3
 ·rw [show CC 12 o j F = ⟨F.cur, F.l ++ Eo (F.l.map (·.1)) F.fin (j - 1), F.fin⟩ by simp [CC, MO, j0]]
  exact Wd (o := o) (j := j) (by grind) (by omega) hO q3
theorem Zf {R R' : CJ} {n n0 : Nat} {res : List ARes} {e : AExit} {s : AS} (hn : n ≤ n0) (hR : ∀ r n' H', n0 ≤ n' → R r n' H' → R' r n' H') (h : fin R n0 res e s) : fin R' n res e s := by
 cases e with
 | normal => obtain ⟨r, n', H', h1, h2, h3, h4, h5, h6⟩ := h; exact ⟨r, n', H', h1, by omega, h3, h4, h5, hR _ _ _ h2 h6⟩
 | ret => obtain ⟨r, n', H', h1, h2, h3, h4, h5, h6⟩ := h; exact ⟨r, n', H', h1, by omega, h3, h4, h5, hR _ _ _ h2 h6⟩
 | exit id => exact h
abbrev Zr (k o m : Int) (v : List Int) (p : List St) : Prop := ∀ {gO n n1 gs g5 : Nat} {cs : AZ} {q q1 : Option Nat} {H H1 : A3} {ps : List Pt}, ps.map Pt.fut = p.map AY → Opnd gO cs q n H ps q1 n1 H1 → ps ≠ [] → H1 gs = some (BH k o m (.sl 1 (v.map aI) .ro) (.sl 5 (AR p) .ro)) → aw Tryz.prog c43_k5 (fin (OpenP true gO cs q (AY (.mk k o m v p)) n H) n [.tmp 4]) ⟨[(3, .ptr gs 0), (5, .sl 1 (ps.map Pt.x) (.own g5))], n1, H1⟩
theorem YA {k o m : Int} {v : List Int} {p : List St} (hd : Zr k o m v p) (hp0 : p ≠ []) (hsz : 1 + Ak p ≤ 60) (hx : ∀ x ∈ p, Kc x) : Kc (.mk k o m v p) := by
 intro gO n H cs q hcs hL
 simp only [Ab] at hcs
 have h60 : p.length ≤ 60 := by have := Bz p; omega
 have hpl := Ai p
 have hl0 : ¬ p.length = 0 := fun e => hp0 (List.length_eq_zero_iff.1 e)
 have hl0' : ¬ (p.length : Int) = 0 := by omega
 unfold Zr at hd
 generalize hR : OpenP _ _ _ _ _ _ _ = R
 rw [AF]
 refine A8 Tryz.func43 Zp rfl fun hs => ?_
 obtain ⟨hO, hgn⟩ := hL.lt hs
 repeat' (first | (simp -implicitDefEqProofs [c43, Jb, -getElem?_pos, hpl, hl0, hl0', splice]) | (simp (disch := omega) only [AA]) | (with_reducible first | refine A6 ?_ ?_ ?_ | exact AC | assumption | refine A0 ?_ | refine KM.of ?_ | refine AB ?_ | refine A1 ?_ | refine AE ?_ | refine A4 ?_ | refine AJ ?_ | refine AG ?_ | intro _g _hg | refine AD ?_ ?_ | intro _hc) | omega)
 refine Sw (gO := gO) (n := _g + 1) (gs := _g) (cs := cs) (q := q) (k := k) (o := o) (m := m) (v := v) hp0 h60 (by omega) hx (hL.more hs (fun k hk => by simp (disch := omega) only [upd_ne])) (fun k hk => by simp (disch := omega) only [upd_ne]; exact hs k (by omega)) (by omega) (by omega) (fun e => by have := hgn _ e; omega) (by simp (disch := omega) only [upd_ne, AX] <;> rfl) n ?_
 intro ps q1 n1 H1 g5 hO2 hF q3
 subst hR
 have hps : ps ≠ [] := by
  intro e
  subst e
  have := congrArg List.length hF
  simp at this
  exact hp0 (List.length_eq_zero_iff.1 this.symm)
 refine Hl (hd hF hO2 hps q3) fun e st he => Zf (by omega) (fun r n' H' _ h => h.up (by omega) (fun k hk => by simp (disch := omega) only [upd_ne]) fun g hg => (hgn g hg).1) he
theorem A0p (s : St) : Cy s → HE s → Ks s → Ab s ≤ 60 → Kc s := by
 refine St.ind (Q := fun s => Cy s → HE s → Ks s → Ab s ≤ 60 → Kc s) ?_ s
 intro k o m v p ih hfit hok hsm hsz
 obtain ⟨hv, hp, hpp⟩ := hfit
 obtain ⟨hn, hop⟩ := hok
 have hN := C8 hn
 simp only [Ab] at hsz
 by_cases hlf : k = 1 ∨ k = 2
 ·have hp0 := hN.leaf hlf
  subst hp0
  exact fun gO n H cs q hcs hL => Vc hlf hN hv (by omega) hL
 have hp0 : p ≠ [] := by
  intro e
  subst e
  by_cases h13 : k = 13 ∨ k = 14
  ·exact hN.many h13 rfl
  ·by_cases h15 : k = 15 ∨ k = 16
   ·have := hN.two h15; simp at this
   ·have := hN.one (by omega) (by omega) (by omega) (by omega) (by omega) (by omega); simp at this
 have h60 : p.length ≤ 60 := by have := Bz p; omega
 exact YA (fun hF hO hps q3 => VF hN hop hsm.2 (by omega) (by omega) h60 hF hO hps q3) hp0 (by omega) fun x hx => ih x hx (Cq hpp x hx) (De hop x hx) (Gf hsm.2 x hx) (by have := Dc x hx; omega)
def GM (F : Fut) (k : Nat) : AZ := (F.cur :: F.l.map (·.2)).getD k []
abbrev Zl (a b : Int) : AObj := .cells 27 [aI a, aI b]
def A0n (n : Nat) (H : A3) (xs : List Int) (cs : AZ) (e : Bool) : CJ := fun r n' H' => n ≤ n' ∧ (∀ k, n' ≤ k → H' k = none) ∧ SameB n H H' ∧ ∃ gg, n ≤ gg ∧ H' gg = some (.grow 3 (cs.map aI)) ∧ r = .tup [.sl 1 (xs.map aI) .ro, .slg 1 gg cs.length, .bool e, aF (0, 0)]
theorem V2 {F : Fut} {j : Nat} {y : Int} {c : AZ} (h : F.l[j]? = some (y, c)) : GM F (j + 1) = c := by
 simp [GM, List.getD_eq_getElem?_getD, h]
theorem SH {cs c : AZ} (h : c.length = cs.length) : Cd cs 0 c = c := by
 unfold Cd; simp [List.drop_eq_nil_of_le, h]
theorem UK {R : CJ} {n m : Nat} {res : List ARes} {e : AT} {H : A3} {x r : AV} (h1 : Br ⟨e, m, H⟩ res = some x) (hs : AM x r) (h2 : n ≤ m) (h3 : ∀ k, m ≤ k → H k = none) (h4 : R r m H) : fin R n res .ret ⟨e, m, H⟩ := ⟨r, m, H, ⟨x, h1, hs⟩, h2, Nat.le_refl _, h3, SameB.rfl_ _ _, h4⟩
theorem SD {z : Nat} {l : List AV} {t : Tok} (hz : z = 1 ∨ l = []) : AM (.sl z l t) (.sl 1 l .ro) := ⟨1, l, .ro, rfl, .inl rfl, hz.imp Eq.symm (fun h => ⟨h, rfl⟩), A2 l⟩
theorem Zw {a b c d a' : AV} (h : AM a a') : AM (.tup [a, b, c, d]) (.tup [a', b, c, d]) := ⟨_, rfl, _, _, rfl, h, A2 _⟩
theorem XN {R : CJ} {n n1 gO gg g7 nR : Nat} {H H1 : A3} {px : AV} {F : Fut} {O : Nat → Prop} {m : Nat} (hm : m ≤ 5000) (hpx : Ct px) (hS : Sit gO 0 [⟨px, some F.l, F.cur, F.fin, O⟩] H1 n1 gg F.cur) (hn : n ≤ n1) (hgO : n ≤ gO) (hgg : n ≤ gg) (hOn : ∀ g, OU [⟨px, some F.l, F.cur, F.fin, O⟩] g → n ≤ g) (hsame : SameB n H H1) (h7 : Bx (OU [⟨px, some F.l, F.cur, F.fin, O⟩]) gO g7 H1 n1 (Zl 0 0)) (n7 : n ≤ g7) (g77 : gg ≠ g7)
  (hR : R = A0n n H ((F.l.map (·.1)).take m) (if m ≤ F.l.length then GM F m else F.fin) (decide (F.l.length < m))) (hnR : nR = n) :
  LoopK (fun Q s => aw Tryz.prog c18_L4 Q s) (EY 0 (Ej (aw Tryz.prog c18_k1 (fin R nR [.tmp 4, .tmp 5, .tmp 6, .cell 7 (some 2)])) (fin R nR [.tmp 4, .tmp 5, .tmp 6, .cell 7 (some 2)]))) ⟨[(1, aI m), (7, .ptr g7 0), (9, .ptr gO 0), (10, px), (11, .sl 0 [] .nil)], n1, H1⟩ := by
 subst hnR
 refine LoopK.go (fun r st => ∃ (j n2 z : Nat) (t : Tok) (O1 : Nat → Prop) (H2 : A3), j + r = m ∧ j ≤ F.l.length ∧ st = ⟨[(1, aI m), (7, .ptr g7 0), (9, .ptr gO 0), (10, px), (11, .sl z (((F.l.map (·.1)).take j).map aI) t)], n2, H2⟩ ∧ nR ≤ n2 ∧ SitT gO 0 ⟨px, some (F.l.drop j), GM F j, F.fin, O1⟩ t j H2 n2 gg (GM F j) ∧ (GM F j).length = F.cur.length ∧ (t ≠ .nil → z = 1) ∧ (∀ g, OT ⟨px, some (F.l.drop j), GM F j, F.fin, O1⟩ t g → nR ≤ g) ∧ SameB nR H H2 ∧ Bx (OT ⟨px, some (F.l.drop j), GM F j, F.fin, O1⟩ t) gO g7 H2 n2 (Zl 0 0)) m ?_ ?_
 ·exact ⟨0, n1, 0, .nil, O, H1, by omega, by omega, rfl, hn, ⟨hS, rfl, fun g h => h.elim, fun h => h, fun h => h⟩, rfl, fun h => absurd rfl h, fun g h => h.elim (hOn g) (fun h => h.elim), hsame, ⟨fun h => h.elim h7.no (fun h => h.elim), h7.nO, h7.lt, h7.at_⟩⟩
 rintro r st ⟨j, n2, z, t, O1, H2, hj, hjl, rfl, hn2, hST, hcl, hz, hOn2, hsame2, B7⟩ J hJ
 have hgiv := hST.sit.giv
 have hlt := hgiv.lt hST.sit.sup
 have hxl : (((F.l.map (·.1)).take j).map aI).length = j := by simp; omega
 have q7 := B7.at_
 have hz1 : z = 1 ∨ ((F.l.map (·.1)).take j).map aI = [] := by
  by_cases ht : t = .nil
  ·subst ht
   have e : j = 0 := hST.tok
   subst e
   exact .inr rfl
  ·exact .inl (hz ht)
 obtain ⟨ff, fa, fb, rfl⟩ := hpx
 by_cases hjm : j < m
 ·have hjm' : (j : Int) < m := by omega
  cases hd : F.l.drop j with
  | nil =>
   rw [hd] at hST B7 hOn2
   have hlen : F.l.length = j := by have := congrArg List.length hd; simp at this; omega
   have htk : (F.l.map (·.1)).take m = (F.l.map (·.1)).take j := by rw [List.take_of_length_le (by simp; omega), List.take_of_length_le (by simp; omega)]
   rw [if_neg (by omega), htk, decide_eq_true (by omega)] at hR
   generalize ((F.l.map (·.1)).take j) = xs at *
   generalize hxa : xs.map aI = xsa at *
   have qo := q7
   
   repeat' (first | (simp -implicitDefEqProofs [KJ, KY, K8, K3, He, Ea, c18, -getElem?_pos, q7, qo, hxl, hjm', splice, -AH]) | (simp (disch := omega) only [AA]) | (refine hST.call (fun r n' H' p' hle hr hl hS2 ha => ?_); obtain ⟨x', l', cur', fin', O3⟩ := p'; dsimp only [PtR] at hr; obtain ⟨rfl, rfl, ⟨v, rfl⟩, rfl, rfl⟩ := hr; have C7 := B7.go g77 ha; have q7 := C7.at_; have e1 : Cd (GM F j) 0 (AL [(⟨.fn ff fa fb, none, F.fin, F.fin, O3⟩ : Pt)]) = F.fin := (SH (by simpa [AL] using hl)).trans (by simp [AL]); rw [e1] at hS2; have qo := hS2.sit.giv.opn) | (with_reducible first | refine A6 ?_ ?_ ?_ | exact AC | assumption | refine A0 ?_ | refine KM.of ?_ | refine AB ?_ | refine A1 ?_ | refine AE ?_ | refine A4 ?_ | refine AJ ?_ | refine AG ?_ | intro _g _hg | refine AD ?_ ?_ | intro _hc) | omega)
   subst hR hxa
   have hle' : n2 ≤ n' := hle
   have := C7.lt
   have hg := hS2.sit.giv.giv
   refine UK (x := .tup [.sl z (xs.map aI) t, .slg 1 gg F.fin.length, .bool true, .agg [aI 0, aI 0]]) (by simp -implicitDefEqProofs [-getElem?_pos]) (Zw (SD hz1)) (by omega) (fun k hk => by rw [upd_ne (by omega)]; exact hS2.sit.sup k hk) ⟨by omega, (fun k hk => by rw [upd_ne (by omega)]; exact hS2.sit.sup k hk), fun k hk => ?_, gg, hgg, by rw [upd_ne g77]; exact hg, rfl⟩
   rw [upd_ne (by omega), ha.fr k (by omega) (fun h => by have := hOn2 k h; omega) (by omega)]
   exact hsame2 k hk
  | cons e l2 =>
   obtain ⟨y, c⟩ := e
   have hy : F.l[j]? = some (y, c) := by
    have := congrArg (fun l => l[0]?) hd
    simpa using this
   have hd2 : F.l.drop (j + 1) = l2 := by
    have := congrArg List.tail hd
    simpa using this
   have hj1 : j + 1 ≤ F.l.length := by have := (List.getElem?_eq_some_iff.1 hy).1; omega
   have htk : ((F.l.map (·.1)).take (j + 1)).map aI = ((F.l.map (·.1)).take j).map aI ++ [aI y] := by
    rw [List.take_succ, List.getElem?_map, hy]; simp
   rw [hd] at hST B7 hOn2
   generalize hxs : ((F.l.map (·.1)).take j).map aI = xsa at *
   
   repeat' (first | (simp -implicitDefEqProofs [KJ, KY, K8, K3, He, Ea, c18, -getElem?_pos, q7, hxl, hjm', splice, -AH]) | (simp (disch := omega) only [AA]) | (refine hST.call (fun r n' H' p' hle hr hl hS2 ha => ?_); obtain ⟨x', l', cur', fin', O3⟩ := p'; dsimp only [PtR] at hr; obtain ⟨rfl, rfl, rfl, rfl, rfl⟩ := hr; have hle' : n2 ≤ n' := hle; have C7 := B7.go g77 ha; have e1 : Cd (GM F j) 0 (AL [(⟨.fn ff fa fb, some l2, cur', F.fin, O3⟩ : Pt)]) = cur' := (SH (by simpa [AL] using hl)).trans (by simp [AL]); rw [e1] at hS2) | (refine Iy (by rw [hxl]; exact hS2.tok.at_ (fun k hk => by have := hS2.tok.lt k hk; rw [upd_ne (by omega)]) (by omega)) hz (by rw [hxl]; omega) (fun k hk => by rw [upd_ne (by omega)]; exact hS2.sit.sup k (by omega)) (fun g' n3 H3 k1 k2 k3 k4 k5 k6 k7 => ?_)) | (with_reducible first | refine A6 ?_ ?_ ?_ | exact AC | assumption | refine A0 ?_ | refine KM.of ?_ | refine AB ?_ | refine A1 ?_ | refine AE ?_ | refine A4 ?_ | refine AJ ?_ | refine AG ?_ | intro _g _hg | refine AD ?_ ?_ | intro _hc) | omega)
   have rep : Rep' t (j + 1) n' H' g' n3 H3 := ⟨k1.elim .inl (fun h => .inr (by omega)), by omega, k3, fun k h1 h2 => (k4 k (by omega) h2).trans (upd_ne (by omega)), by rw [k5, hxl], k6⟩
   have hS3 := hS2.app rep
   have D7 := C7.app rep
   have e2 : GM F (j + 1) = cur' := V2 hy
   refine hJ (r - 1) _ (by omega) ⟨j + 1, n3, 1, .own g', O3, H3, by omega, hj1, by rw [htk], by omega, by rw [hd2, e2]; exact hS3, by rw [e2]; simpa [AL] using hl.trans (by simpa [AL] using hcl), fun _ => rfl, ?_, ?_, by rw [hd2, e2]; exact D7⟩
   ·rw [hd2, e2]
    rintro g (hg | hg)
    ·exact (ha.sub g (.inl hg)).elim (hOn2 g) (fun h => by omega)
    ·have e : g = g' := hg
     exact k1.elim (fun h => by rw [e]; exact hOn2 g' (.inr h)) (fun h => by omega)
   ·intro k hk
    rw [rep.fr k (by omega) (fun h => by have := hOn2 k (.inr h); omega), ha.fr k (by omega) (fun h => by have := hOn2 k h; omega) (by omega)]
    exact hsame2 k hk
 ·have hjm' : ¬ (j : Int) < m := by omega
  have hmj : m = j := by omega
  subst hmj
  rw [if_pos hjl, decide_eq_false (by omega)] at hR
  have qo := hST.sit.giv.opn
  have qg := hST.sit.giv.giv
  generalize ((F.l.map (·.1)).take m) = xs at *
  generalize hxa : xs.map aI = xsa at *
  
  repeat' (first | (simp -implicitDefEqProofs [KJ, KY, K8, K3, He, Ea, c18, -getElem?_pos, q7, qo, hxl, hjm', splice, -AH]) | (simp (disch := omega) only [AA]) | (with_reducible first | refine A6 ?_ ?_ ?_ | exact AC | assumption | refine A0 ?_ | refine KM.of ?_ | refine AB ?_ | refine A1 ?_ | refine AE ?_ | refine A4 ?_ | refine AJ ?_ | refine AG ?_ | intro _g _hg | refine AD ?_ ?_ | intro _hc) | omega)
  subst hR hxa
  have := B7.lt
  refine UK (x := .tup [.sl z (xs.map aI) t, .slg 1 gg (GM F m).length, .bool false, .agg [aI 0, aI 0]]) (by simp -implicitDefEqProofs [-getElem?_pos]) (Zw (SD hz1)) (by omega) (fun k hk => by rw [upd_ne (by omega)]; exact hST.sit.sup k hk) ⟨by omega, (fun k hk => by rw [upd_ne (by omega)]; exact hST.sit.sup k hk), fun k hk => ?_, gg, hgg, by rw [upd_ne g77]; exact qg, rfl⟩
  rw [upd_ne (by omega)]
  exact hsame2 k hk
def MX (s : St) (m : Int) : AV :=
 if (Eg s).1 ≠ 0 then .tup [.sl 1 [] .ro, .sl 1 [] .ro, .bool false, aF (Eg s)]
 else if ¬ (0 ≤ m ∧ m ≤ 5000) then .tup [.sl 1 [] .ro, .sl 1 [] .ro, .bool false, aF (4, -2)]
 else .tup [.sl 1 ((((AY s).l.map (·.1)).take m.toNat).map aI) .ro, .sl 1 ((if m.toNat ≤ (AY s).l.length then GM (AY s) m.toNat else (AY s).fin).map aI) .ro, .bool (decide ((AY s).l.length < m.toNat)), aF (0, 0)]
theorem KX {c d : AV} : AM (.tup [.sl 0 [] .nil, .sl 0 [] .nil, c, d]) (.tup [.sl 1 [] .ro, .sl 1 [] .ro, c, d]) :=
 ⟨_, rfl, _, _, rfl, ⟨1, [], .ro, rfl, .inl rfl, .inr ⟨rfl, rfl⟩, rfl⟩, _, _, rfl, ⟨1, [], .ro, rfl, .inl rfl, .inr ⟨rfl, rfl⟩, rfl⟩, A2 _⟩
theorem ZD (s : St) (hf : Cy s) (m : Int) (h : (Eg s).1 ≠ 0 ∨ ¬ (0 ≤ m ∧ m ≤ 5000)) : APure Tryz.prog 18 [encS s, aI m] (MX s m) := by
 have hv := ID s hf
 unfold MX
 have h00 : (Eg s).1 = 0 → Eg s = (0, 0) := fun h => (J3 h).1
 generalize AY s = F
 generalize Eg s = f at *
 obtain ⟨k, o, m', v, p⟩ := s
 rw [AF] at *
 generalize v.map aI = va at *
 generalize AR p = ep at *
 
 refine A7 Tryz.func18 Zt rfl fun n H hH => ?_
 by_cases h0 : f.1 = 0
 ·have h2 := h.resolve_left (by simpa using h0)
  have h01 := h00 h0
  rw [if_neg (by simpa using h0), if_pos h2]
  by_cases hm0 : m < 0
  ·repeat' (first | (simp -implicitDefEqProofs [c18, Ea, -getElem?_pos, h0, hm0, splice, KX]) | (simp (disch := omega) only [AA]) | ((with_reducible refine Aa 15 ?_); refine' Am (hv) ?_) | (with_reducible first | refine A6 ?_ ?_ ?_ | exact AC | refine SameB.upd ?_ ?_ _ | assumption | refine A0 ?_ | refine KM.of ?_ | refine AB ?_ | refine A1 ?_ | refine AE ?_ | refine A4 ?_ | refine AJ ?_ | refine AG ?_ | intro _g _hg | refine AD ?_ ?_ | intro _hc) | omega)
   all_goals first | exact KX | omega
  ·have hm1 : (5000 : Int) < m := by omega
   repeat' (first | (simp -implicitDefEqProofs [c18, Ea, -getElem?_pos, h0, hm0, hm1, splice, KX]) | (simp (disch := omega) only [AA]) | ((with_reducible refine Aa 15 ?_); refine' Am (hv) ?_) | (with_reducible first | refine A6 ?_ ?_ ?_ | exact AC | refine SameB.upd ?_ ?_ _ | assumption | refine A0 ?_ | refine KM.of ?_ | refine AB ?_ | refine A1 ?_ | refine AE ?_ | refine A4 ?_ | refine AJ ?_ | refine AG ?_ | intro _g _hg | refine AD ?_ ?_ | intro _hc) | omega)
   all_goals first | exact KX | omega
 ·rw [if_pos h0]
  repeat' (first | (simp -implicitDefEqProofs [c18, Ea, -getElem?_pos, h0, splice, KX]) | (simp (disch := omega) only [AA]) | ((with_reducible refine Aa 15 ?_); refine' Am (hv) ?_) | (with_reducible first | refine A6 ?_ ?_ ?_ | exact AC | refine SameB.upd ?_ ?_ _ | assumption | refine A0 ?_ | refine KM.of ?_ | refine AB ?_ | refine A1 ?_ | refine AE ?_ | refine A4 ?_ | refine AJ ?_ | refine AG ?_ | intro _g _hg | refine AD ?_ ?_ | intro _hc) | omega)
  all_goals first | exact KX | omega
theorem Vs (l : List Int) : AO (l.map aI) = l.map aI := by
 induction l with
 | nil => rfl
 | cons x l ih => simp only [AO, List.map_cons, List.flatMap_cons] at ih ⊢; rw [ih]; rfl
theorem Wp (s : St) (hf : Cy s) (hs0 : (Eg s).1 = 0) (hop : Kc s) (m : Nat) (hm : m ≤ 5000) (n : Nat) (H : A3) : ACalls Tryz.prog 18 [encS s, aI m] n H (A0n n H (((AY s).l.map (·.1)).take m) (if m ≤ (AY s).l.length then GM (AY s) m else (AY s).fin) (decide ((AY s).l.length < m))) := by
 have hv := ID s hf
 obtain ⟨h00, hok, hsm, hsz⟩ := J3 hs0
 have hmon := Qe s
 rw [h00] at hv
 unfold Kc at hop
 generalize hR : A0n _ _ _ _ _ = R
 generalize Ab s = sz at *
 generalize AY s = F at *
 obtain ⟨k, o, m', v, p⟩ := s
 rw [AF] at *
 generalize v.map aI = va at *
 generalize AR p = ep at *
 have hm0 : ¬ (m : Int) < 0 := by omega
 have hm1 : ¬ (5000 : Int) < m := by omega
 refine A8 Tryz.func18 Zt rfl fun hs => ?_
 repeat' (first | (simp -implicitDefEqProofs [c18, Ea, He, -getElem?_pos, hm0, hm1, splice]) | (simp (disch := omega) only [AA]) | ((with_reducible refine Ap 43 ?_); refine ⟨_, hop _g _ _ [] none (by simp; omega) ⟨rfl, by simp (disch := omega) only [upd_ne, AX] <;> rfl⟩, ?_⟩; rintro r n' H' hle hsup hpost) | ((with_reducible refine Aa 15 ?_); refine' Am (hv) ?_) | (with_reducible first | refine A6 ?_ ?_ ?_ | exact AC | assumption | refine A0 ?_ | refine KM.of ?_ | refine AB ?_ | refine A1 ?_ | refine AE ?_ | refine A4 ?_ | refine AJ ?_ | refine AG ?_ | intro _g _hg | refine AD ?_ ?_ | intro _hc) | omega)
 rename_i ga hga g7 hg7 g8 hg8
 dsimp only at hpost
 obtain ⟨h1, h2, h3, gg, h4, h5, h6, h7, O', h8, h9, h10⟩ := hpost
 have hgg : _g + 1 ≤ gg := h5.resolve_left (fun e => by cases e)
 have hou : ∀ g, OU [⟨r, some F.l, F.cur, F.fin, O'⟩] g ↔ O' g := fun g => by simp [OU]
 have hlo : ∀ k, k < _g + 1 → k ≠ _g → H' k = _ := fun k a1 a2 => h7 k a1 a2 (by simp)
 refine XN (n := n) hm h1 (O := O') ⟨⟨⟨h10, hmon.1⟩, fun g hg => (h8 g hg).2, fun g _ h => h, trivial⟩, ⟨by simpa using h4.1, by simpa using h4.2, by simp [AL], by simp [AL]⟩, fun h => h9 ((hou gg).1 h), fun h => by have := h8 _g ((hou _g).1 h); omega, h3⟩ (by omega) (by omega) (by omega) (fun g hg => by have := h8 g ((hou g).1 hg); omega) (fun k hk => by rw [hlo k (by omega) (by omega)]; simp (disch := omega) only [upd_ne]) ⟨fun h => by have := h8 g7 ((hou g7).1 h); omega, by omega, by omega, by rw [hlo g7 (by omega) (by omega)]; simp (disch := omega) only [upd_ne, AX] <;> rfl⟩ (by omega) (by omega) hR.symm rfl
theorem A0q (s : St) (hf : Cy s) (ho : (Eg s).1 = 0 → Kc s) (m : Int) : APure Tryz.prog 18 [encS s, aI m] (MX s m) := by
 by_cases h : (Eg s).1 ≠ 0 ∨ ¬ (0 ≤ m ∧ m ≤ 5000)
 ·exact ZD s hf m h
 ·have hs0 : (Eg s).1 = 0 := Decidable.not_not.1 fun h' => h (.inl h')
  have hm : 0 ≤ m ∧ m ≤ 5000 := Decidable.not_not.1 fun h' => h (.inr h')
  obtain ⟨j, rfl⟩ : ∃ j : Nat, m = j := ⟨m.toNat, by omega⟩
  intro n H
  have hv : MX s j = .tup [.sl 1 ((((AY s).l.map (·.1)).take j).map aI) .ro, .sl 1 ((if j ≤ (AY s).l.length then GM (AY s) j else (AY s).fin).map aI) .ro, .bool (decide ((AY s).l.length < j)), aF (0, 0)] := by
   rw [MX, if_neg (by simpa using hs0), if_neg (by simpa using hm), Int.toNat_natCast]
  rw [hv]
  generalize hcs : (if j ≤ (AY s).l.length then GM (AY s) j else (AY s).fin) = cs
  have h1 := Wp s hf hs0 (ho hs0) j (by omega) n H
  rw [hcs] at h1
  refine (ACalls.frz (R' := fun r n' H' => n ≤ n' ∧ SameB n H H' ∧ r = .tup [.sl 1 ((((AY s).l.map (·.1)).take j).map aI) .ro, .sl 1 (cs.map aI) .ro, .bool (decide ((AY s).l.length < j)), aF (0, 0)]) h1 ?_).forget ?_
  ·rintro r n' H' hn ⟨h1, h2, h3, gg, h4, h5, rfl⟩
   refine ⟨gg, _, 1, cs.map aI, by rw [h5, Vs], by kernel_rfl, by omega, fun x hx => ?_, h1, fun k hk => by rw [upd_ne (by omega)]; exact h3 k hk, ?_⟩
   ·obtain ⟨y, _, rfl⟩ := List.mem_map.1 hx; rfl
   ·simp [Fp, IV]
  ·rintro r n' H' hn ⟨h1, h2, rfl⟩
   exact ⟨h2, rfl, rfl, rfl⟩
theorem A02 (s : St) (hf : Cy s) (m : Int) : APure Tryz.prog 18 [encS s, aI m] (MX s m) := A0q s hf (fun h => by obtain ⟨_, hok, hsm, hsz⟩ := J3 h; exact A0p s hf hok hsm hsz) m
open Go.RowKit
theorem Mp {P : Program} {w0 w w' : World} {G : Gh} {n : Nat} {H : A3} (h0 : Rel0 P w0 G n H w) (hb : Below w.heap.size w w') : Rel0 P w0 G n H w' := by
 have hbl : ∀ g, g < w.heap.size → w'.heap[g]? = w.heap[g]? := fun g hg => hb.block g hg
 refine ⟨h0.ext.tr hb, h0.lo, Nat.le_trans h0.hi hb.size, fun b o v hv => ?_, fun g e c hg => ?_, h0.capLo, fun g ob hob => ?_⟩
 ·have hc := h0.seal_ b o v hv
  have hlt : b < w.heap.size := World.block_lt_of_cell? _ _ hc
  rw [hb.cell (p := ⟨b, o, none⟩) hlt]; exact hc
 ·obtain ⟨cur, fz, h1, h2⟩ := h0.caps g e c hg
  refine ⟨cur, fz, ?_, h2⟩
  rw [hbl g (Array.getElem?_eq_some_iff.1 h1).1]; exact h1
 ·obtain ⟨h1, h2, h3⟩ := h0.objs g ob hob
  have hlt : g < w.heap.size := Nat.lt_of_lt_of_le h2 h0.hi
  exact ⟨h1, h2, h3.keep (hbl g hlt) (fun _ => rfl) rfl (Gh.Le.rfl_ G) (MapsKeep.lt hbl)⟩
theorem VO {P : Program} {f : Nat} {args : List AV} {v : AV} (h : ∀ (G : Gh) (vs : List Value), RepL G vs args → ∃ u : Value, (∀ G', Rep G' u v) ∧ ∀ w : World, Laid w → Calls P f vs.toArray w fun e w' => e = .returned u ∧ Below w.heap.size w w') : APure P f args v := by
 intro n H hs w0 G w vs hl h0 hrep
 obtain ⟨u, hu, hc⟩ := h G vs hrep
 refine (hc w (hl.ext h0.ext)).mono ?_
 rintro e w' ⟨rfl, hb⟩
 exact ⟨u, v, G, n, H, rfl, ⟨rfl, rfl, rfl⟩, hu G, Gh.Le.rfl_ _, Nat.le_refl _, Mp h0 hb⟩
theorem WP (s : ByteArray) (l : List UInt8) (h : s.data.toList = l) : s = ⟨l.toArray⟩ := by cases s; subst h; simp
theorem LN (n : Int) (h : -9223372036854775808 ≤ n ∧ n ≤ 9223372036854775807) : APure Tryz.prog 120 [.int .i64 n] (.str (Lib.itoa n)) := by
 refine VO fun G vs hr => ⟨.string ⟨(Lib.itoa n).toArray⟩, fun _ => .str (by simp), fun w hl => ?_⟩
 cases hr with | cons h1 h2 =>
 cases h2; cases h1
 refine (Any.strconv_Itoa Xj n h.1 h.2 w (YN (by kernel_rfl) hl.pow)).mono ?_
 rintro e w' ⟨rfl, k, os, rfl⟩
 exact ⟨rfl, Lib.below_grow _ _ (Nat.le_refl _) _ _⟩
theorem Jx (l : List Str) : AO (l.map AV.str) = l.map AV.str := by
 induction l with
 | nil => rfl
 | cons x l ih => simp only [List.map_cons, AO, List.flatMap_cons, AV.cells, List.singleton_append] at ih ⊢; rw [ih]
theorem Vy {G : Gh} (l : List Str) : RepL G (l.map fun x => Value.string ⟨x.toArray⟩) (l.map AV.str) := by
 induction l with
 | nil => exact .nil
 | cons x l ih => exact .cons (.str (by simp)) ih
theorem RV (s : Str) (hs : s.length < 4294967281) (ha : ∀ b ∈ s, b.toNat < 128) (hk : (Lib.fields s).length ≤ 1000000) : APure Tryz.prog 139 [.str s] (.sl 1 ((Lib.fields s).map AV.str) .ro) := by
 intro n H hH w0 G w vs hl h0 hrep
 cases hrep with | cons h1 h2 =>
 cases h2; cases h1
 rename_i sb hsb
 subst hsb
 refine (Any.strings_Fields ZP (by kernel_rfl) (by kernel_rfl) sb w (by rw [Lib.size_eq]; exact hs) (fun j b hj => ha b (List.mem_of_getElem? hj)) (YN (by kernel_rfl) (hl.ext h0.ext).spc)).mono ?_
 rintro e w' ⟨rfl, rfl⟩
 have hrel := h0.newRow (w' := w.alloc (.cells ((Lib.fields sb.data.toList).map fun l => Value.string ⟨l.toArray⟩).toArray 9)) (cur := ((Lib.fields sb.data.toList).map fun l => Value.string ⟨l.toArray⟩).toArray) (e := 9) (fz := (0, 0)) (vs := (Lib.fields sb.data.toList).map fun l => Value.string ⟨l.toArray⟩) (c := none) (ob := none) rfl rfl rfl rfl
  (fun j u hu => by simpa using hu) (fun e' c' hc => by cases hc) (.inl rfl)
 have hle := h0.addLe ((Lib.fields sb.data.toList).map fun l => Value.string ⟨l.toArray⟩) none
 have hhi := h0.hi
 refine ⟨_, _, _, n, H, rfl, ⟨rfl, rfl, rfl⟩, .slro (vs := (Lib.fields sb.data.toList).map fun l => Value.string ⟨l.toArray⟩) ?_ (Gh.add_sealed _ _ _) ?_ (by simp), hle, Nat.le_refl _, hrel.less h0.lo (by omega) hH ?_⟩
 ·rw [Jx]; exact Vy _
 ·refine ⟨by simp, by simp only [maxLen]; omega, by decide, fun x hx => ?_, fun x hx => ?_⟩
  ·obtain ⟨y, _, rfl⟩ := List.mem_map.1 hx; rfl
  ·rw [Jx] at hx; obtain ⟨y, _, rfl⟩ := List.mem_map.1 hx; rfl
 ·intro k hk'
  rw [upd_ne (by omega)]
abbrev aSs (l : List Str) : AV := .sl 1 (l.map AV.str) .ro
theorem A0m (l : List Str) (sep : Str) (hl : l.length ≤ 140737488355328) (hlen : (Lib.join l sep).length ≤ 140737488355328) : APure Tryz.prog 83 [aSs l, .str sep] (.str (Lib.join l sep)) := by
 intro n H hH w0 G w vs hl0 h0 hrep
 cases hrep with | cons h1 h2 =>
 cases h2 with | cons h3 h4 =>
 cases h4; cases h3
 rename_i sb hsb
 subst hsb
 obtain ⟨A, c, rfl, hc, hm, hA⟩ := h1.slOut
 have key : ∀ {W : World} {e : Ending}, e = .returned (.string ⟨(Lib.join l sb.data.toList).toArray⟩) → Below w.heap.size w W → ∃ (v : Value) (r : AV) (G' : Gh) (n' : Nat) (H' : A3), e = .returned v ∧ (r = .str (Lib.join l sb.data.toList) ∧ n' = n ∧ H' = H) ∧ Rep G' v r ∧ G.Le G' ∧ n ≤ n' ∧ Rel0 Tryz.prog w0 G' n' H' W := fun he hb =>
  ⟨_, _, G, n, H, he, ⟨rfl, rfl, rfl⟩, .str (by simp), Gh.Le.rfl_ _, Nat.le_refl _, Mp h0 hb⟩
 by_cases hl0 : l = []
 ·subst hl0
  refine (Any.strings_Join_none Ul FY A c sb w).mono ?_
  rintro e w' ⟨he, rfl⟩
  exact key (by rw [he]; rfl) (Below.refl _ _)
 ·obtain ⟨g, off, us, rfl, hr, hs, ho⟩ := hA (by simpa using hl0)
  rw [Jx] at hr
  have hcell : ∀ (j : Nat) (x : ByteArray), (l.map fun x => (⟨x.toArray⟩ : ByteArray))[j]? = some x → w.cell? ⟨g, off + j, none⟩ = some (.string x) := by
   intro j x hj
   obtain ⟨y, hy, rfl⟩ : ∃ y, l[j]? = some y ∧ (⟨y.toArray⟩ : ByteArray) = x := by simpa [List.getElem?_map] using hj
   obtain ⟨u, hu, hru⟩ := hr.at (i := j) (x := .str y) (by simp [List.getElem?_map, hy])
   have h5 := h0.seal_ _ _ _ (hs j u hu)
   cases hru
   rename_i s hsy
   rw [h5, WP _ _ hsy]
  have hlt : g < w.heap.size := by
   obtain ⟨y, hy⟩ : ∃ y, l[0]? = some y := ⟨_, List.getElem?_eq_getElem (List.length_pos_iff.2 hl0)⟩
   have := World.block_lt_of_cell? w _ (hcell 0 ⟨y.toArray⟩ (by simp [List.getElem?_map, hy]))
   simpa using this
  have hmap : (l.map fun x => (⟨x.toArray⟩ : ByteArray)).map (·.data.toList) = l := by
   rw [List.map_map]; conv => rhs; rw [← List.map_id l]
   apply List.map_congr_left; intro x _; simp
  have hj := Any.strings_Join Ul FY g off c (l.map fun x => (⟨x.toArray⟩ : ByteArray)) sb w hcell hlt (by simpa using hl) (by simpa using hc) (by rw [hmap]; exact hlen)
  rw [hmap, List.length_map] at hj
  simp only [List.length_map] at *
  refine hj.mono ?_
  rintro e w' ⟨he, hb⟩
  exact key he hb
def sF : List UInt8 := [112, 108, 117, 115, 32, 109, 105, 110, 117, 115, 32, 116, 105, 109, 101, 115, 32, 109, 97, 120, 32, 109, 105, 110, 32, 109, 111, 100]
def sC : List UInt8 := [98, 101, 108, 111, 119, 32, 97, 98, 111, 118, 101, 32, 100, 105, 118, 105, 115, 105, 98, 108, 101]
def kn0 : Js := [(139, [.str sF], .sl 1 ((Lib.fields sF).map .str) .ro), (139, [.str sC], .sl 1 ((Lib.fields sC).map .str) .ro),
 (120, [.int .i64 0], .str (Lib.itoa 0)), (120, [.int .i64 1], .str (Lib.itoa 1)), (120, [.int .i64 2], .str (Lib.itoa 2)), (120, [.int .i64 3], .str (Lib.itoa 3)), (120, [.int .i64 100], .str (Lib.itoa 100)),
 (83, [aSs [[48], [51], [49]], .str [44]], .str (Lib.join [[48], [51], [49]] [44]))]
theorem Sz : UJ Tryz.prog kn0 :=
 ⟨RV sF (by decide) (by decide) (by decide +kernel), by decide +kernel, RV sC (by decide) (by decide) (by decide +kernel), by decide +kernel,
 LN 0 (by decide), rfl, LN 1 (by decide), rfl, LN 2 (by decide), rfl, LN 3 (by decide), rfl, LN 100 (by decide), rfl,
 A0m [[48], [51], [49]] [44] (by decide) (by decide), rfl, trivial⟩
def xp0 (P : Program) (T : Js) : XP := ⟨P, DI, fun _ => false, fun e => Nat.beq e 25 || Nat.beq e 3, YY T, fun f => Nat.beq f 61 || Nat.beq f 18⟩
def txq : List UInt8 := [116, 97, 107, 101, 40, 50, 44, 102, 105, 108, 116, 101, 114, 40, 100, 105, 118, 105, 115, 105, 98, 108, 101, 32, 51, 44, 114, 97, 110, 103, 101, 40, 49, 44, 49, 48, 48, 44, 49, 41, 41, 41]
def s0q : AV := .agg [.int .i64 5, .int .i64 0, .int .i64 2, .sl 0 [] .nil, .sl 5 [.agg [.int .i64 4, .int .i64 3, .int .i64 3, .sl 0 [] .nil, .sl 5 [.agg [.int .i64 2, .int .i64 0, .int .i64 0, .sl 1 [.int .i64 1, .int .i64 100, .int .i64 1] .ro, .sl 0 [] .nil]] .ro]] .ro]
def f0q : AV := .agg [.int .i64 0, .int .i64 0]
theorem pq : APure Tryz.prog 25 [.str txq] (.tup [s0q, f0q]) := run_pure (X := xp0 Tryz.prog kn0) (Kw Sz) 3000 (by kernel_rfl) rfl rfl
theorem rq : APure Tryz.prog 18 [s0q, .int .i64 5] (.tup [.sl 1 [.int .i64 3, .int .i64 6] .ro, .sl 1 [.int .i64 6] .ro, .bool true, f0q]) := run_pure (X := xp0 Tryz.prog kn0) (Kw Sz) 3000 (by kernel_rfl) rfl rfl
def kn1 : Js := (25, [.str txq], .tup [s0q, f0q]) :: (18, [s0q, .int .i64 5], .tup [.sl 1 [.int .i64 3, .int .i64 6] .ro, .sl 1 [.int .i64 6] .ro, .bool true, f0q]) :: kn0
theorem A0h : UJ Tryz.prog kn1 := ⟨pq, rfl, rq, rfl, Sz⟩
theorem Te : APure Tryz.prog 16 [] (.bool true) := run_pure (X := xp0 Tryz.prog kn1) (Kw A0h) 3000 (by kernel_rfl) rfl rfl
def unN (k o n m : Int) : Option Int :=
 if k = 3 ∧ o ≠ 2 ∧ o ≠ 6 then some (DZ o n m) else if k = 4 ∧ o = 1 ∨ k = 5 then some (min n m) else if k = 4 ∧ o = 2 then some (max n m) else if k = 6 then some (min (n + m) 5000) else if k = 11 then some 0 else none
def K7 (k o n : Int) (p : List St) : Option St := match p with
 | q :: r => if (k = 3 ∧ (o = 1 ∧ n = 0 ∨ o = 3 ∧ n = 1)) ∨ (k = 6 ∧ n = 0) ∨ (k = 12 ∧ n = 1) ∨ ((k = 13 ∨ k = 14) ∧ r = []) ∨ (k = 5 ∧ (AW q : Int) < n) then some q else none
 | [] => none
def JQ (k o n : Int) (p : List St) : Option St := match p with
 | [.mk k' o' m v' pp] => if k' = k ∧ o' = o then (unN k o n m).map fun j => .mk k o j v' pp else none
 | _ => none
def Co (p : List St) : List St := p.flatMap fun q => if q.k = 13 then q.p else [q]
def LJ (k o n : Int) (v : List Int) (p : List St) : Option St := if k = 13 ∧ (p.any fun q => decide (q.k = 13)) = true then some (.mk k o n v (Co p)) else none
def GP : St → Option St
 | .mk k o n v p => match K7 k o n p with
  | some t => some t
  | none => match JQ k o n p with
   | some t => some t
   | none => LJ k o n v p
def O8 (F G : Fut) : Fut := ⟨F.cur ++ G.cur, F.l.map (fun e => (e.1, e.2 ++ G.cur)) ++ G.l.map (fun e => (e.1, F.fin ++ e.2)), F.fin ++ G.fin⟩
theorem LE (F : Fut) (Fs : List Fut) : D0 (F :: Fs) = O8 F (D0 Fs) := rfl
theorem Yx (F : Fut) : O8 ⟨[], [], []⟩ F = F := by simp [O8]
theorem WB (F G K : Fut) : O8 (O8 F G) K = O8 F (O8 G K) := by
 simp [O8, List.map_append, List.map_map, Function.comp_def, List.append_assoc]
theorem U4 : ∀ (A B : List Fut), D0 (A ++ B) = O8 (D0 A) (D0 B)
 | [], B => by simp [D0, Yx]
 | F :: A, B => by rw [List.cons_append, LE, U4 A B, LE, WB]
theorem Uc : ∀ (n : Nat) (cur : AZ) (l : Aq) (fin : AZ), l.length < n → DE n cur l fin = (l, fin)
 | 0, _, _, _, h => by simp at h
 | n + 1, _, [], _, _ => rfl
 | n + 1, _, (x, c) :: r, fin, h => by
  simp only [List.length_cons] at h
  simp only [DE, Uc n c r fin (by omega)]
theorem Ue : ∀ (n m : Nat) (cur : AZ) (l : Aq) (fin : AZ), DE n cur (DE m cur l fin).1 (DE m cur l fin).2 = DE (min n m) cur l fin
 | 0, m, cur, l, fin => by simp [DE]
 | n + 1, 0, cur, l, fin => by simp [DE]
 | n + 1, m + 1, cur, [], fin => by rw [Nat.succ_min_succ]; simp [DE]
 | n + 1, m + 1, cur, (x, c) :: r, fin => by
  rw [Nat.succ_min_succ]
  simp only [DE, Ue n m c r fin]
theorem P9 : ∀ (l : Aq) (a : Int), Fh a (Fh a l) = Fh a l
 | [], _ => rfl
 | (x, c) :: r, a => by
  simp only [Fh]
  split
  ·rename_i h; simp only [Fh, if_pos h, P9 r x]
  ·exact P9 r a
theorem UT (fin : AZ) : ∀ (l : Aq) (c : AZ) (m : Nat), l.length < m → EH m [(0, l, fin)] [c] = (l, [fin])
 | [], c, 0, h => by simp at h
 | [], c, m + 1, _ => by cases m <;> simp [EH]
 | (x, d) :: r, c, 0, h => by simp at h
 | (x, d) :: r, c, m + 1, h => by
  simp only [List.length_cons] at h
  simp only [EH, List.nil_append, List.set_cons_zero, UT fin r d m (by omega)]
  simp
theorem Xr (F : Fut) : Hv [F] = F := by
 obtain ⟨cur, l, fin⟩ := F
 have h := UT fin l cur (l.length + 1) (by omega)
 simp [Hv, So, h]
theorem ZO (x m n : Int) : x * m % 10000 * n % 10000 = x * (n * m % 10000) % 10000 := by
 rw [Int.mul_emod, Int.emod_emod_of_dvd _ (Int.dvd_refl _), ← Int.mul_emod, Int.mul_emod x (n * m % 10000), Int.emod_emod_of_dvd _ (Int.dvd_refl _), ← Int.mul_emod]
 congr 1; rw [Int.mul_comm n m, Int.mul_assoc]
theorem KT (k o n : Int) (v : List Int) (p : List St) : AY (.mk k o n v p) = CO k o n v (p.map AY) := by
 have h : ∀ p : List St, Es p = p.map AY := fun p => by induction p with | nil => rfl | cons x r ih => simp [Es, ih]
 rw [AY, h]
theorem U2 (o n : Int) (v : List Int) (p : List St) : AY (.mk 13 o n v p) = D0 (p.map AY) := by rw [KT]; simp [CO]
theorem UB : ∀ (p : List St), D0 ((Co p).map AY) = D0 (p.map AY)
 | [] => rfl
 | q :: r => by
  have e : Co (q :: r) = (if q.k = 13 then q.p else [q]) ++ Co r := rfl
  rw [e, List.map_append, U4, UB r, List.map_cons, LE]
  congr 1
  split
  ·rename_i h
   obtain ⟨k, o, n, v, p⟩ := q
   simp only [St.k] at h; subst h
   rw [U2]; rfl
  ·simp [D0]
theorem Xt {s t : St} (hs : HE s) (hm : Ks s) (h : GP s = some t) : AY t = AY s := by
 obtain ⟨k, o, n, v, p⟩ := s
 have hp : ∀ q ∈ p, (AY q).l.length ≤ AW q ∧ rgE (AY q).l := fun q hq => Hn q (De hs.2 q hq)
 have hN := C8 hs.1
 rw [KT]
 simp only [GP] at h
 split at h
 ·rename_i t' hu
  injection h with h; subst h
  unfold K7 at hu
  split at hu
  ·rename_i q r
   split at hu
   ·rename_i hc
    injection hu with hu; subst hu
    obtain ⟨hb, hr⟩ := hp q List.mem_cons_self
    generalize hF : AY q = F at *
    have h1 : k ≠ 13 → k ≠ 14 → 3 ≤ k → k ≤ 12 → r = [] := fun a b c d => List.length_eq_zero_iff.1 (by have := hN.one (by omega) (by omega) a b (by omega) (by omega); simpa using this)
    rcases hc with ⟨rfl, hc⟩ | ⟨rfl, rfl⟩ | ⟨rfl, rfl⟩ | ⟨hk, rfl⟩ | ⟨rfl, hc⟩
    ·have := h1 (by decide) (by decide) (by decide) (by decide); subst this
     have hl : F.l.map (fun e => (DZ o e.1 n, e.2)) = F.l := by
      conv => rhs; rw [← List.map_id F.l]
      apply List.map_congr_left
      intro e he
      have := hr e he
      have : DZ o e.1 n = e.1 := by
       rcases hc with ⟨rfl, rfl⟩ | ⟨rfl, rfl⟩
       ·simp [DZ]; omega
       ·simp [DZ]; omega
      rw [this]; rfl
     simp [CO, CC, hF, hl]
    ·have := h1 (by decide) (by decide) (by decide) (by decide); subst this
     simp [CO, CC, hF]
    ·have := h1 (by decide) (by decide) (by decide) (by decide); subst this
     simp [CO, CC, MO, Eo, hF]
    ·rcases hk with rfl | rfl
     ·simp [CO, hF, D0]
     ·simp only [List.map_cons, List.map_nil, hF]
      have := Xr F
      simp [CO, this]
    ·have := h1 (by decide) (by decide) (by decide) (by decide); subst this
     have := Uc n.toNat F.cur F.l F.fin (by omega)
     simp [CO, CC, hF, this]
   ·cases hu
  ·cases hu
 ·split at h
  ·rename_i t' hu
   injection h with h; subst h
   unfold JQ at hu
   split at hu
   ·rename_i k' o' m v' pp _
    split at hu
    ·rename_i hc
     obtain ⟨rfl, rfl⟩ := hc
     obtain ⟨j, hj, rfl⟩ := Option.map_eq_some_iff.1 hu
     obtain ⟨hb, hr⟩ := hp _ List.mem_cons_self
     have hN' := C8 hs.2.1.1
     have hsm := hm.2.1
     have hq := fun q hq => Hn q (De hs.2.1.2 q hq)
     have hlen : ∀ q ∈ pp, (AY q).l.length ≤ 5000 := fun q h => by
      have h1 := (hq q h).1
      have h2 := Gf hsm.2 q h
      obtain ⟨_, _, _, _, _⟩ := q
      have := h2.1; omega
     rw [KT, List.map_cons, List.map_nil, KT]
     unfold unN at hj
     have hone : k' ≠ 13 → k' ≠ 14 → 3 ≤ k' → k' ≤ 12 → ∃ q, pp = [q] := fun a b c d => List.length_eq_one_iff.1 (hN'.one (by omega) (by omega) a b (by omega) (by omega))
     split at hj
     ·rename_i hk
      obtain ⟨rfl, ho2, ho6⟩ := hk
      obtain ⟨q, rfl⟩ := hone (by decide) (by decide) (by decide) (by decide)
      have hr := (hq q List.mem_cons_self).2
      injection hj with hj; subst hj
      have ho := hN.fn (by decide)
      simp only [CO, CC, List.map_cons, List.map_nil]
      simp
      intro a c he
      have hx := hr (a, c) he
      simp only at hx
      have : o' = 1 ∨ o' = 3 ∨ o' = 4 ∨ o' = 5 := by omega
      rcases this with rfl | rfl | rfl | rfl
      ·simp [DZ]; omega
      ·simp [DZ]; exact (ZO a m n).symm
      ·simp [DZ]; omega
      ·simp [DZ]; omega
     ·split at hj
      ·rename_i hk
       injection hj with hj; subst hj
       rcases hk with ⟨rfl, rfl⟩ | rfl
       ·obtain ⟨q, rfl⟩ := hone (by decide) (by decide) (by decide) (by decide)
        simp [CO, CC, List.filter_filter]
        apply List.filter_congr
        intro x _
        simp [Fj]; rw [Bool.eq_iff_iff]; simp; omega
       ·obtain ⟨q, rfl⟩ := hone (by decide) (by decide) (by decide) (by decide)
        have := hN.num (by decide)
        have := hN'.num (by decide)
        have e : (min n m).toNat = min n.toNat m.toNat := by omega
        simp [CO, CC, e, Ue]
      ·split at hj
       ·rename_i hk
        obtain ⟨rfl, rfl⟩ := hk
        injection hj with hj; subst hj
        obtain ⟨q, rfl⟩ := hone (by decide) (by decide) (by decide) (by decide)
        simp [CO, CC, List.filter_filter]
        apply List.filter_congr
        intro x _
        simp [Fj]; rw [Bool.eq_iff_iff]; simp; omega
       ·split at hj
        ·rename_i hk
         subst hk
         injection hj with hj; subst hj
         obtain ⟨q, rfl⟩ := hone (by decide) (by decide) (by decide) (by decide)
         have h1 := hN.num (by decide)
         have h2 := hN'.num (by decide)
         have h3 := hlen q List.mem_cons_self
         simp [J6, J7, D6] at h1 h2
         have e : (AY q).l.drop (min (n + m) 5000).toNat = ((AY q).l.drop m.toNat).drop n.toNat := by
          rw [List.drop_drop]
          by_cases hc : n + m ≤ 5000
          ·congr 1; omega
          ·rw [List.drop_of_length_le (by omega), List.drop_of_length_le (by omega)]
         simp [CO, CC, e]
        ·split at hj
         ·rename_i hk
          subst hk
          injection hj with hj; subst hj
          obtain ⟨q, rfl⟩ := hone (by decide) (by decide) (by decide) (by decide)
          simp [CO, CC, P9]
         ·cases hj
    ·cases hu
   ·cases hu
  ·unfold LJ at h
   split at h
   ·rename_i hc
    obtain ⟨rfl, _⟩ := hc
    injection h with h; subst h
    rw [U2, UB]; simp [CO]
   ·cases h
theorem Rr : ∀ (a b : List St), Ak (a ++ b) = Ak a + Ak b
 | [], b => by simp [Ak]
 | x :: a, b => by simp only [List.cons_append, Ak, Rr a b]; omega
theorem Kv : ∀ (p : List St), Ak (Co p) ≤ Ak p ∧ ((p.any fun q => decide (q.k = 13)) = true → Ak (Co p) < Ak p)
 | [] => by simp [Co]
 | q :: r => by
  have e : Co (q :: r) = (if q.k = 13 then q.p else [q]) ++ Co r := rfl
  obtain ⟨h1, h2⟩ := Kv r
  obtain ⟨k, o, n, v, p⟩ := q
  rw [e, Rr]
  simp only [List.any_cons, Bool.or_eq_true, decide_eq_true_eq, Ak, Ab]
  rw [show (St.mk k o n v p).k = k from rfl, show (St.mk k o n v p).p = p from rfl]
  by_cases hk : k = 13
  ·rw [if_pos hk]
   exact ⟨by omega, fun _ => by omega⟩
  ·rw [if_neg hk]
   simp only [Ak, Ab]
   exact ⟨by omega, fun h => by have := h2 (h.resolve_left hk); omega⟩
theorem LY {s t : St} (h : GP s = some t) : Ab t < Ab s := by
 obtain ⟨k, o, n, v, p⟩ := s
 simp only [GP] at h
 split at h
 ·rename_i t' hu
  injection h with h; subst h
  unfold K7 at hu
  split at hu
  ·split at hu
   ·injection hu with hu; subst hu; simp only [Ab, Ak]; omega
   ·cases hu
  ·cases hu
 ·split at h
  ·rename_i t' hu
   injection h with h; subst h
   unfold JQ at hu
   split at hu
   ·split at hu
    ·obtain ⟨j, hj, rfl⟩ := Option.map_eq_some_iff.1 hu
     simp only [Ab, Ak]; omega
    ·cases hu
   ·cases hu
  ·unfold LJ at h
   split at h
   ·rename_i hc
    injection h with h; subst h
    have := (Kv p).2 hc.2
    simp only [Ab]; omega
   ·cases h
theorem QY : ∀ {a b : List St}, TS a → TS b → TS (a ++ b)
 | [], _, _, h => h
 | _ :: _, _, h, k => ⟨h.1, QY h.2 k⟩
theorem Oe : ∀ {a b : List St}, Sp a → Sp b → Sp (a ++ b)
 | [], _, _, h => h
 | _ :: _, _, h, k => ⟨h.1, Oe h.2 k⟩
theorem Wr : ∀ {p : List St}, TS p → Sp p → TS (Co p) ∧ Sp (Co p) ∧ (DK (Co p)).sum = (DK p).sum ∧ (p ≠ [] → Co p ≠ [])
 | [], _, _ => ⟨trivial, trivial, rfl, fun h => absurd rfl h⟩
 | q :: r, h, k => by
  have e : Co (q :: r) = (if q.k = 13 then q.p else [q]) ++ Co r := rfl
  obtain ⟨h1, h2, h3, _⟩ := Wr h.2 k.2
  have ha : ∀ a b : List St, DK (a ++ b) = DK a ++ DK b := fun a b => by simp [FG]
  rw [e]
  split
  ·rename_i hk
   obtain ⟨k', o, n, v, p⟩ := q
   simp only [St.k] at hk; subst hk
   refine ⟨QY h.1.2 h1, Oe k.1.2 h2, ?_, fun _ => ?_⟩
   ·rw [ha, List.sum_append, h3]; simp [DK, AW, CB, St.p]
   ·have := (C8 h.1.1).many (.inl rfl)
    simp [St.p, this]
  ·refine ⟨QY (a := [q]) ⟨h.1, trivial⟩ h1, Oe (a := [q]) ⟨k.1, trivial⟩ h2, ?_, fun _ => by simp⟩
   rw [ha, List.sum_append, h3]; simp [DK]
theorem A0i {k o n m j : Int} {v v' : List Int} {p pp : List St} (hN : NodeOk k o n v p) (hN' : NodeOk k o m v' pp) (h : unN k o n m = some j) : (GI k = true → J6 k o ≤ j ∧ j ≤ J7 k) ∧ (GI k = false → j = 0) := by
 have h1 := hN.num
 have h2 := hN'.num
 unfold unN at h
 split at h
 ·rename_i hk
  obtain ⟨rfl, ho2, ho6⟩ := hk
  injection h with h; subst h
  have h1 := h1 (by decide); have h2 := h2 (by decide)
  have ho := hN.fn (by decide)
  refine ⟨fun _ => ?_, fun h => by simp [GI, NW] at h⟩
  simp [J6, J7, D6, ho6] at h1 h2 ⊢
  exact Sq h1 h2 (by omega)
 ·split at h
  ·rename_i hk
   injection h with h; subst h
   rcases hk with ⟨rfl, rfl⟩ | rfl
   ·have h1 := h1 (by decide); have h2 := h2 (by decide)
    exact ⟨fun _ => by omega, fun h => by simp [GI, D6] at h⟩
   ·have h1 := h1 (by decide); have h2 := h2 (by decide)
    exact ⟨fun _ => by omega, fun h => by simp [GI, Hw] at h⟩
  ·split at h
   ·rename_i hk
    obtain ⟨rfl, rfl⟩ := hk
    injection h with h; subst h
    have h1 := h1 (by decide); have h2 := h2 (by decide)
    exact ⟨fun _ => by omega, fun h => by simp [GI, D6] at h⟩
   ·split at h
    ·rename_i hk
     subst hk
     injection h with h; subst h
     have h1 := h1 (by decide); have h2 := h2 (by decide)
     refine ⟨fun _ => ?_, fun h => by simp [GI, Hw] at h⟩
     simp [J6, J7, D6] at h1 h2 ⊢
     omega
    ·split at h
     ·rename_i hk
      subst hk
      injection h with h; subst h
      exact ⟨fun h => by simp [GI, NW, D6, Hw] at h, fun _ => rfl⟩
     ·cases h
theorem Iw {k o n : Int} {v : List Int} {p : List St} (h : NodeOk k o n v p) : Bs (.mk k o n v p) = 0 := by
 have h1 := h.k1; have h2 := h.k2
 simp only [Bs]
 rw [if_neg (by omega), if_neg, if_neg, if_neg, if_neg, if_pos h.vals]
 ·rintro ⟨a, b⟩; exact b (h.num a)
 ·rintro (⟨a, b, c⟩ | ⟨a, b⟩)
  ·rcases h.fn a with d | d
   ·exact b d
   ·exact c d
  ·exact b (h.cnd a)
 ·rintro (⟨a, b⟩ | ⟨a, b⟩ | ⟨a, b, c⟩)
  ·simp [Da] at a
   rw [h.nov a.1 a.2] at b; simp at b
  ·exact b (h.non a)
  ·exact c (h.noo a b)
 ·rintro (⟨a, b⟩ | ⟨a, b⟩ | ⟨a, b⟩ | ⟨a, b, c, d⟩ | ⟨a, b⟩)
  ·simp [Da] at a; rw [h.leaf a] at b; simp at b
  ·simp [G9] at a; have := h.many a; exact this (List.length_eq_zero_iff.1 b)
  ·simp [Jf] at a; exact b (h.two a)
  ·simp [Da] at a; simp [G9] at b; simp [Jf] at c
   exact d (h.one a.1 a.2 b.1 b.2 c.1 c.2)
  ·exact b (h.rng a)
theorem US {s t : St} (hs : HE s) (hm : Ks s) (h : GP s = some t) : HE t ∧ Ks t ∧ AW t = AW s := by
 obtain ⟨k, o, n, v, p⟩ := s
 have hN := C8 hs.1
 simp only [GP] at h
 split at h
 ·rename_i t' hu
  injection h with h; subst h
  unfold K7 at hu
  split at hu
  ·rename_i q r
   split at hu
   ·rename_i hc
    injection hu with hu; subst hu
    refine ⟨hs.2.1, hm.2.1, ?_⟩
    have h1 : k ≠ 13 → k ≠ 14 → 3 ≤ k → k ≤ 12 → r = [] := fun a b c d => List.length_eq_zero_iff.1 (by have := hN.one (by omega) (by omega) a b (by omega) (by omega); simpa using this)
    rcases hc with ⟨rfl, hc⟩ | ⟨rfl, rfl⟩ | ⟨rfl, rfl⟩ | ⟨hk, rfl⟩ | ⟨rfl, hc⟩
    ·have := h1 (by decide) (by decide) (by decide) (by decide); subst this; simp [AW, DK, CB]
    ·have := h1 (by decide) (by decide) (by decide) (by decide); subst this; simp [AW, DK, CB]
    ·have := h1 (by decide) (by decide) (by decide) (by decide); subst this; simp [AW, DK, CB]
    ·rcases hk with rfl | rfl <;> simp [AW, DK, CB]
    ·have := h1 (by decide) (by decide) (by decide) (by decide); subst this; simp [AW, DK, CB]; omega
   ·cases hu
  ·cases hu
 ·split at h
  ·rename_i t' hu
   injection h with h; subst h
   unfold JQ at hu
   split at hu
   ·rename_i k' o' m v' pp _
    split at hu
    ·rename_i hc
     obtain ⟨rfl, rfl⟩ := hc
     obtain ⟨j, hj, rfl⟩ := Option.map_eq_some_iff.1 hu
     have hN' := C8 hs.2.1.1
     obtain ⟨q1, q2⟩ := A0i hN hN' hj
     have hb : AW (.mk k' o' j v' pp) = AW (.mk k' o' n v [.mk k' o' m v' pp]) := by
      have hone : k' ≠ 13 → k' ≠ 14 → 3 ≤ k' → k' ≤ 12 → ∃ q, pp = [q] := fun a b c d => List.length_eq_one_iff.1 (hN'.one (by omega) (by omega) a b (by omega) (by omega))
      unfold unN at hj
      split at hj
      ·rename_i hk; obtain ⟨rfl, _⟩ := hk
       obtain ⟨q, rfl⟩ := hone (by decide) (by decide) (by decide) (by decide)
       simp [AW, DK, CB]
      ·split at hj
       ·rename_i hk
        injection hj with hj; subst hj
        rcases hk with ⟨rfl, _⟩ | rfl
        ·obtain ⟨q, rfl⟩ := hone (by decide) (by decide) (by decide) (by decide)
         simp [AW, DK, CB]
        ·obtain ⟨q, rfl⟩ := hone (by decide) (by decide) (by decide) (by decide)
         simp [AW, DK, CB]; omega
       ·split at hj
        ·rename_i hk; obtain ⟨rfl, _⟩ := hk
         obtain ⟨q, rfl⟩ := hone (by decide) (by decide) (by decide) (by decide)
         simp [AW, DK, CB]
        ·split at hj
         ·rename_i hk; subst hk
          obtain ⟨q, rfl⟩ := hone (by decide) (by decide) (by decide) (by decide)
          simp [AW, DK, CB]
         ·split at hj
          ·rename_i hk; subst hk
           obtain ⟨q, rfl⟩ := hone (by decide) (by decide) (by decide) (by decide)
           simp [AW, DK, CB]
          ·cases hj
     exact ⟨⟨Iw ⟨hN'.k1, hN'.k2, hN'.leaf, hN'.many, hN'.two, hN'.one, hN'.rng, hN'.nov, hN'.fn, hN'.cnd, hN'.noo, q1, q2, hN'.vals⟩, hs.2.1.2⟩, ⟨by rw [hb]; exact hm.1, hm.2.1.2⟩, hb⟩
    ·cases hu
   ·cases hu
  ·unfold LJ at h
   split at h
   ·rename_i hc
    obtain ⟨rfl, _⟩ := hc
    injection h with h; subst h
    obtain ⟨a, b, c, d⟩ := Wr hs.2 hm.2
    have hb : AW (.mk 13 o n v (Co p)) = AW (.mk 13 o n v p) := by simp only [AW, CB]; simpa using c
    exact ⟨⟨Iw ⟨hN.k1, hN.k2, fun h => by omega, fun _ => d (hN.many (.inl rfl)), fun h => by omega, fun _ _ h => absurd rfl h, hN.rng, hN.nov, hN.fn, hN.cnd, hN.noo, hN.num, hN.non, hN.vals⟩, a⟩, ⟨by rw [hb]; exact hm.1, b⟩, hb⟩
   ·cases h
def Kx : Nat → St → St
 | 0, s => s
 | n + 1, s => match GP s with
  | some t => Kx n t
  | none => s
mutual
def FZ : St → St
 | .mk k o n v p => Kx (Ak (EI p) + 1) (.mk k o n v (EI p))
def EI : List St → List St
 | [] => []
 | s :: r => FZ s :: EI r
end
theorem Et : ∀ p : List St, EI p = p.map FZ
 | [] => rfl
 | s :: r => by simp [EI, Et r]
theorem YC : ∀ (n : Nat) {s : St}, HE s → Ks s → HE (Kx n s) ∧ Ks (Kx n s) ∧ AW (Kx n s) = AW s ∧ Ab (Kx n s) ≤ Ab s ∧ AY (Kx n s) = AY s
 | 0, s, h, k => ⟨h, k, rfl, Nat.le_refl _, rfl⟩
 | n + 1, s, h, k => by
  simp only [Kx]
  split
  ·rename_i t e
   obtain ⟨h1, h2, h3⟩ := US h k e
   obtain ⟨a, b, c, d, f⟩ := YC n h1 h2
   have := LY e
   exact ⟨a, b, c.trans h3, by omega, f.trans (Xt h k e)⟩
  ·exact ⟨h, k, rfl, Nat.le_refl _, rfl⟩
theorem UA : ∀ (n : Nat) {s : St}, Ab s ≤ n → GP (Kx n s) = none
 | 0, s, h => by have := LP s; omega
 | n + 1, s, h => by
  simp only [Kx]
  split
  ·rename_i t e
   have := LY e
   exact UA n (by omega)
  ·assumption
theorem TQ (s : St) : HE s → Ks s → HE (FZ s) ∧ Ks (FZ s) ∧ AW (FZ s) = AW s ∧ Ab (FZ s) ≤ Ab s ∧ AY (FZ s) = AY s := by
 refine St.ind (Q := fun s => HE s → Ks s → HE (FZ s) ∧ Ks (FZ s) ∧ AW (FZ s) = AW s ∧ Ab (FZ s) ≤ Ab s ∧ AY (FZ s) = AY s) ?_ s
 intro k o n v p ih hs hm
 have hp : ∀ r : List St, (∀ q ∈ r, q ∈ p) → TS r → Sp r → TS (EI r) ∧ Sp (EI r) ∧ DK (EI r) = DK r ∧ Ak (EI r) ≤ Ak r ∧ (EI r).map AY = r.map AY := by
  intro r
  induction r with
  | nil => intro _ _ _; exact ⟨trivial, trivial, rfl, Nat.le_refl _, rfl⟩
  | cons q r ihr =>
   intro hsub h1 h2
   obtain ⟨a, b, c, d, e⟩ := ih q (hsub q List.mem_cons_self) h1.1 h2.1
   obtain ⟨a', b', c', d', e'⟩ := ihr (fun x hx => hsub x (List.mem_cons_of_mem _ hx)) h1.2 h2.2
   exact ⟨⟨a, a'⟩, ⟨b, b'⟩, by simp [EI, DK, c, c'], by simp only [EI, Ak]; omega, by simp [EI, e, e']⟩
 obtain ⟨a, b, c, d, e⟩ := hp p (fun q h => h) hs.2 hm.2
 have hN := C8 hs.1
 have hlen : (EI p).length = p.length := by simp [Et]
 have hb : AW (.mk k o n v (EI p)) = AW (.mk k o n v p) := by simp only [AW, c]
 have hne : p = [] ↔ EI p = [] := by rw [← List.length_eq_zero_iff, ← hlen, List.length_eq_zero_iff]
 have hok : HE (.mk k o n v (EI p)) := ⟨Iw ⟨hN.k1, hN.k2, fun h => hne.1 (hN.leaf h), fun h e => hN.many h (hne.2 e), fun h => hlen.trans (hN.two h), fun a b c d e f => hlen.trans (hN.one a b c d e f), hN.rng, hN.nov, hN.fn, hN.cnd, hN.noo, hN.num, hN.non, hN.vals⟩, a⟩
 obtain ⟨a1, b1, c1, d1, e1⟩ := YC (Ak (EI p) + 1) hok ⟨by rw [hb]; exact hm.1, b⟩
 refine ⟨a1, b1, c1.trans hb, Nat.le_trans d1 (by simp only [Ab]; omega), e1.trans ?_⟩
 rw [KT, KT, e]
theorem A0o {k o n : Int} {v : List Int} {p : List St} (hs : HE (.mk k o n v p)) (hm : Ks (.mk k o n v p)) : HE (.mk k o n v (EI p)) ∧ Ks (.mk k o n v (EI p)) ∧ Ab (.mk k o n v (EI p)) ≤ Ab (.mk k o n v p) := by
 have hp : ∀ r : List St, TS r → Sp r → TS (EI r) ∧ Sp (EI r) ∧ DK (EI r) = DK r ∧ Ak (EI r) ≤ Ak r := by
  intro r
  induction r with
  | nil => intro _ _; exact ⟨trivial, trivial, rfl, Nat.le_refl _⟩
  | cons q r ihr =>
   intro h1 h2
   obtain ⟨a, b, c, d, _⟩ := TQ q h1.1 h2.1
   obtain ⟨a', b', c', d'⟩ := ihr h1.2 h2.2
   exact ⟨⟨a, a'⟩, ⟨b, b'⟩, by simp [EI, DK, c, c'], by simp only [EI, Ak]; omega⟩
 obtain ⟨a, b, c, d⟩ := hp p hs.2 hm.2
 have hN := C8 hs.1
 have hlen : (EI p).length = p.length := by simp [Et]
 have hb : AW (.mk k o n v (EI p)) = AW (.mk k o n v p) := by simp only [AW, c]
 have hne : p = [] ↔ EI p = [] := by rw [← List.length_eq_zero_iff, ← hlen, List.length_eq_zero_iff]
 exact ⟨⟨Iw ⟨hN.k1, hN.k2, fun h => hne.1 (hN.leaf h), fun h e => hN.many h (hne.2 e), fun h => hlen.trans (hN.two h), fun a b c d e f => hlen.trans (hN.one a b c d e f), hN.rng, hN.nov, hN.fn, hN.cnd, hN.noo, hN.num, hN.non, hN.vals⟩, a⟩, ⟨by rw [hb]; exact hm.1, b⟩, by simp only [Ab]; omega⟩
mutual
def nrm : St → Prop
 | .mk k o n v p => GP (.mk k o n v p) = none ∧ Jh p
def Jh : List St → Prop
 | [] => True
 | s :: r => nrm s ∧ Jh r
end
theorem LD : ∀ {a b : List St}, Jh a → Jh b → Jh (a ++ b)
 | [], _, _, h => h
 | _ :: _, _, h, k => ⟨h.1, LD h.2 k⟩
theorem NU : ∀ {p : List St}, Jh p → Jh (Co p)
 | [], _ => trivial
 | q :: r, h => by
  have e : Co (q :: r) = (if q.k = 13 then q.p else [q]) ++ Co r := rfl
  rw [e]
  split
  ·obtain ⟨k, o, n, v, p⟩ := q; exact LD h.1.2 (NU h.2)
  ·exact LD (a := [q]) ⟨h.1, trivial⟩ (NU h.2)
theorem Wi {s t : St} (hs : Jh s.p) (h : GP s = some t) : Jh t.p := by
 obtain ⟨k, o, n, v, p⟩ := s
 simp only [GP] at h
 split at h
 ·rename_i t' hu
  injection h with h; subst h
  unfold K7 at hu
  split at hu
  ·rename_i q r
   split at hu
   ·injection hu with hu; subst hu
    obtain ⟨k, o, n, v, p⟩ := q; exact hs.1.2
   ·cases hu
  ·cases hu
 ·split at h
  ·rename_i t' hu
   injection h with h; subst h
   unfold JQ at hu
   split at hu
   ·split at hu
    ·obtain ⟨j, hj, rfl⟩ := Option.map_eq_some_iff.1 hu
     exact hs.1.2
    ·cases hu
   ·cases hu
  ·unfold LJ at h
   split at h
   ·injection h with h; subst h; exact NU hs
   ·cases h
theorem UE : ∀ (n : Nat) {s : St}, Jh s.p → Jh (Kx n s).p
 | 0, _, h => h
 | n + 1, s, h => by
  simp only [Kx]
  split
  ·rename_i t e; exact UE n (Wi h e)
  ·exact h
theorem Ys (s : St) : nrm (FZ s) := by
 refine St.ind (Q := fun s => nrm (FZ s)) ?_ s
 intro k o n v p ih
 have hp : ∀ r : List St, (∀ q ∈ r, q ∈ p) → Jh (EI r) := by
  intro r
  induction r with
  | nil => intro _; exact trivial
  | cons q r ihr => intro h; exact ⟨ih q (h q List.mem_cons_self), ihr fun x hx => h x (List.mem_cons_of_mem _ hx)⟩
 have h1 := UA (Ak (EI p) + 1) (s := .mk k o n v (EI p)) (by simp [Ab])
 have h2 := UE (Ak (EI p) + 1) (s := .mk k o n v (EI p)) (hp p fun q h => h)
 simp only [FZ]
 generalize Kx (Ak (EI p) + 1) (.mk k o n v (EI p)) = t at *
 obtain ⟨k, o, n, v, p⟩ := t
 exact ⟨h1, h2⟩
theorem ZQ (s : St) : nrm s → FZ s = s := by
 refine St.ind (Q := fun s => nrm s → FZ s = s) ?_ s
 intro k o n v p ih h
 have hp : ∀ r : List St, (∀ q ∈ r, q ∈ p) → Jh r → EI r = r := by
  intro r
  induction r with
  | nil => intro _ _; rfl
  | cons q r ihr => intro hsub h; simp only [EI]; rw [ih q (hsub q List.mem_cons_self) h.1, ihr (fun x hx => hsub x (List.mem_cons_of_mem _ hx)) h.2]
 simp only [FZ, hp p (fun q h => h) h.2, Kx, h.1]
theorem Zd (s : St) : FZ (FZ s) = FZ s := ZQ _ (Ys s)
end Go.Proofs.YtjdccdelcnmocaaGreatDoor

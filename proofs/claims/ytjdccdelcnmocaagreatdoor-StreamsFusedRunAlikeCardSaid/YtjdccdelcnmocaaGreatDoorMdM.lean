/- Streams: sources of parts one after another; no condition. -/
import Derived.Test.YtjdccdelcnmocaaGreatDoorMgJ
import Derived.Test.YtjdccdelcnmocaaGreatDoorMdL
set_option linter.all false
set_option linter.unusedSimpArgs false
set_option linter.unusedVariables false
set_option maxHeartbeats 1000000
namespace Go.Proofs.YtjdccdelcnmocaaGreatDoor
theorem Vi : Ae Tryz.prog 98 = true := by kernel_rfl
def Pt.fut (p : Pt) : Fut := ⟨p.cur, p.l.getD [], p.fin⟩
abbrev Ef (l : List Pt) : AObj := .cells 104 [.sl 1 (l.map Pt.x) .ro]
theorem Kz : ∀ ps : List Pt, (D0 (ps.map Pt.fut)).cur = AL ps
 | [] => rfl
 | p :: ps => by simp [D0, AL, Pt.fut, Kz ps]
def Tl (d : List Pt) (left : List Pt) : Aq × AZ := ((D0 (left.map Pt.fut)).l.map (fun e => (e.1, AL d ++ e.2)), AL d ++ (D0 (left.map Pt.fut)).fin)
theorem Zh (d : List Pt) : Tl d [] = ([], AL d) := by simp [Tl, D0]
theorem Yj {d left : List Pt} {p p' : Pt} (h : p.l = some []) (h' : p'.cur = p.fin) : Tl d (p :: left) = Tl (d ++ [p']) left := by
 simp [Tl, D0, Pt.fut, h, Ek, AL, h', Function.comp_def]
theorem A14 {d left : List Pt} {p p' : Pt} {y : Int} {c : AZ} {l : Aq} (h : p.l = some ((y, c) :: l)) (h1 : p'.cur = c) (h2 : p'.l = some l) (h3 : p'.fin = p.fin) : Tl d (p :: left) = ((y, AL (d ++ p' :: left)) :: (Tl d (p' :: left)).1, (Tl d (p' :: left)).2) := by
 have := Kz left
 simp [Tl, D0, Pt.fut, h, h1, h2, h3, Ek, AL, Function.comp_def, this]
def Ct (x : AV) : Prop := ∃ f a b, x = .fn f a b
def JA (ps : List Pt) : Prop := ∀ p ∈ ps, (∃ l, p.l = some l) ∧ Ct p.x
def tot : List Pt → Nat
 | [] => 0
 | p :: ps => (p.l.getD []).length + 1 + tot ps
attribute [local simp] Nt GX Gy PR NX Pd OR GG Gx I1 JS Qp Q2 PM RE QS Qq P7 RI Nb No Qt Np Qo QJ WK pe PO Pu Pe R3 QU RG Qh PB Oj Nj NF Nm Qz Gv Pp NY PV Ox NJ Pn OY QT Qy QR R9 PJ Ow Q9 Ot Pg PH O7 Pz NO RA GQ OV H7 OS Nd PG PT Ou Nk Og Qx RD Pf NZ RF PL PX R4 OZ Nc Qs NT Oh Pw P6 R6 Q5 NK Gr PA Q4 Qb OP NM P4 Qn P3 Oq OC PI OG Q8 Ni Nh Q3 Nr ON Qr P1 P5 Ov Nw QQ QO Pc NV PC Px R2 K6 OM List.mem_cons guardK FJ Fz Gu J5 O5 Gk Ge Gz Gj H8 GY GO GV H5 PD QM Gg PZ Oy OB O4 Nv QK GU P2 OQ Ql QP O9 R8 J0 Gq Gn Gm Gs RC Pr H6 Ns Gl Nq GS Gd NQ GL Gp Ok O6 Pa Na PK QD Q7 PU WJ MC MV JD MF MB MU Fe I3 I6 O0 Hz I4 Fd FD YP ME M8 I8 M9 MW El EL C6 Bo Cu EA AH ev get put Fa AN EK QA OI OA QC MH Od FW part BS IH RB Hx isNil Df EC Ep EG EE OW Oc NH OL Ng ML Pk PY Q6 Nf Qc Qv Of Ps OD Pi AV.fits AV.cells ones AV.one FF DC FI EF Fg FS Po Fk GZ Cz Br CH Er Gw AX Bq ZY J8 Oz PP List.getElem?_cons_zero List.getElem?_cons_succ Gc GJ Ga OE OX QB IB Qd Pj Qm Qf Pb QI QL Pq Nz Oa Nu
theorem WF {gO lo : Nat} {g1 : Nat} : ∀ (m : Nat) (d left : List Pt) (O : Nat → Prop) (H0 : A3) (n0 : Nat), tot left ≤ m → Pts gO lo (d ++ left) H0 n0 → OU (d ++ left) = O → JA left → ¬ O gO → Bx O gO g1 H0 n0 (Ef left) → left.length ≤ 60 →
  Raw false gO lo (Tl d left).2 (.fn 98 [] [.ptr g1 0]) (Tl d left).1 (AL (d ++ left)) (fun g => O g ∨ g = g1) H0 n0 := by
 intro m
 induction m using Nat.strongRecOn with
 | _ m ih =>
  intro d left O H0 n0 hm hP hO hall noO B1 h60
  have hbel : ∀ g, O g → g < n0 := fun g hg => hP.bel g (hO ▸ hg)
  refine Raw.of fun n H gg cs hn hag hgg hgO hgv => ?_
  replace B1 := B1.to hn (hag g1 (.inr rfl))
  have q1 := B1.at_
  have ng1 : gg ≠ g1 := fun h => hgg (.inr h)
  have nog : ¬ O gg := fun h => hgg (.inl h)
  replace hbel : ∀ g, O g → g < n := fun g h => Nat.lt_of_lt_of_le (hbel g h) hn
  refine ⟨Vi, ?_⟩
  subst hO
  have hS := fun hs => Sit.start hP hn (fun g hg => hag g (.inl hg)) nog noO hgv hs
  generalize hR : Cv _ _ _ _ _ _ _ _ _ _ _ = R
  refine A8 Tryz.func98 A1z rfl fun hs => ?_
  have hS := hS hs
  repeat' (first | (simp -implicitDefEqProofs [c98, Hr, Hg, Hm, Hj, c98, -getElem?_pos, q1, -AH]) | (simp (disch := omega) only [AA]) | (with_reducible first | refine A6 ?_ ?_ ?_ | exact AC | assumption | refine A0 ?_ | refine KM.of ?_ | refine AB ?_ | intro _g _hg | refine AD ?_ ?_ | intro _hc) | omega)
  refine LoopK.go (fun r st => ∃ (d1 left1 : List Pt) (n1 : Nat) (H1 : A3), r = left1.length ∧ st = ⟨[(0, .ptr g1 0)], n1, H1⟩ ∧ n ≤ n1 ∧ Sit gO lo (d1 ++ left1) H1 n1 gg (Cd cs lo (AL (d1 ++ left1))) ∧ (AL (d1 ++ left1)).length = (AL (d ++ left)).length ∧ Aft lo gg cs (AL (d1 ++ left1)) (fun g => OU (d ++ left) g ∨ g = g1) n H n1 H1 (fun g => OU (d1 ++ left1) g ∨ g = g1) ∧ Bx (OU (d1 ++ left1)) gO g1 H1 n1 (Ef left1) ∧ Tl d1 left1 = Tl d left ∧ JA left1 ∧ tot left1 ≤ tot left ∧ left1.length ≤ 60) left.length ?_ ?_
  ·refine ⟨d, left, n, H, rfl, rfl, Nat.le_refl _, ?_, rfl, ?_, B1, rfl, hall, Nat.le_refl _, h60⟩
   ·rw [E8 hgv]; exact hS
   ·exact (((Aft.same hgv hbel)).ext (B := fun g => g = g1) (fun g h => by have := B1.lt; subst h; omega) (fun _ _ => rfl) (fun _ _ => rfl) (ng1))
  rintro r st ⟨d1, left1, n1, H1, rfl, rfl, hn1, hS1, hl1, ha1, B1', hE, hall1, htot, h60'⟩ J hJ
  have q1 := B1'.at_
  cases left1 with
  | nil =>
   repeat' (first | (simp -implicitDefEqProofs [Hr, Hg, Hm, Hj, c98, -getElem?_pos, q1, -AH]) | (simp (disch := omega) only [AA]) | (with_reducible first | refine A6 ?_ ?_ ?_ | exact AC | assumption | refine A0 ?_ | refine KM.of ?_ | refine AB ?_ | intro _g _hg | refine AD ?_ ?_ | intro _hc) | omega)
   subst hR
   rw [Zh] at hE
   rw [← hE]
   rw [List.append_nil] at ha1 hS1
   exact AI (r := .tup [_, _]) rfl (by omega) hS1.sup ⟨0, _, rfl, ha1, fun h => by cases h⟩
  | cons p rest =>
   obtain ⟨x, l, cur, fin, O'⟩ := p
   obtain ⟨⟨l, rfl⟩, ff, fa, fb, rfl⟩ : (∃ k, l = some k) ∧ Ct x := hall1 _ List.mem_cons_self
   have hrl : rest.length ≤ 59 := by simpa using h60'
   have hlen : (rest.map Pt.x).length ≤ 59 := by simpa using hrl
   simp only [Ef, List.map_cons] at q1
   generalize hrx : rest.map Pt.x = rx at *
   have hpos : (0 : Int) < (rx.length + 1 : Nat) := by omega
   cases l with
   | nil =>
    repeat' (first | (simp -implicitDefEqProofs [Hr, Hg, Hm, Hj, c98, -getElem?_pos, q1, hpos, splice, -AH]) | (simp (disch := omega) only [AA]) | (refine hS1.call (fun r n' H' p' hle hr hl hS2 ha => ?_); obtain ⟨x', l', cur', fin', O2⟩ := p'; dsimp only [PtR] at hr; obtain ⟨rfl, rfl, ⟨v, rfl⟩, rfl, rfl⟩ := hr; have B1n := B1'.go ng1 ha; have q1 := B1n.at_; simp only [Ef, List.map_cons, hrx] at q1) | (with_reducible first | refine A6 ?_ ?_ ?_ | exact AC | assumption | refine A0 ?_ | refine KM.of ?_ | refine AB ?_ | intro _g _hg | refine AD ?_ ?_ | intro _hc) | omega)
    have e : ∀ p : Pt, d1 ++ p :: rest = (d1 ++ [p]) ++ rest := fun p => by simp
    have hat := (Aft.tr hgv ha1 ((ha).ext (B := fun g => g = g1) (fun g h => by have := B1.lt; subst h; omega) (fun _ _ => rfl) (fun _ _ => rfl) (ng1)) hl1 (hl.trans hl1)).box (x := some (Ef rest)) (.inr rfl) ng1
    have hS3 := hS2.keep (x := some (Ef rest)) B1n.no B1n.nO ng1 B1n.lt
    have B1s := B1n.set (Ef rest)
    rw [CE (by have := hgv.fit; omega) (hl)] at hS3
    rw [e] at hS3 hl hat B1s
    simp only [Ef, hrx] at hat hS3 B1s
    refine hJ rest.length _ (by simp) ⟨_, rest, n', _, rfl, rfl, by omega, hS3, hl.trans hl1, hat, by simp only [Ef, hrx]; exact B1s, (Yj rfl rfl).symm.trans hE, fun q hq => hall1 q (List.mem_cons_of_mem _ hq), by simp only [tot] at htot; omega, by omega⟩
   | cons e l =>
    obtain ⟨y, c⟩ := e
    repeat' (first | (simp -implicitDefEqProofs [Hr, Hg, Hm, Hj, c98, -getElem?_pos, q1, hpos, splice, -AH]) | (simp (disch := omega) only [AA]) | (refine hS1.call (fun r n' H' p' hle hr hl hS2 ha => ?_); obtain ⟨x', l', cur', fin', O2⟩ := p'; dsimp only [PtR] at hr; obtain ⟨rfl, rfl, rfl, rfl, rfl⟩ := hr; have B1n := B1'.go ng1 ha; have q1 := B1n.at_; simp only [Ef, List.map_cons, hrx] at q1) | (with_reducible first | refine A6 ?_ ?_ ?_ | exact AC | assumption | refine A0 ?_ | refine KM.of ?_ | refine AB ?_ | intro _g _hg | refine AD ?_ ?_ | intro _hc) | omega)
    subst hR
    have hat := Aft.tr hgv ha1 ((ha).ext (B := fun g => g = g1) (fun g h => by have := B1.lt; subst h; omega) (fun _ _ => rfl) (fun _ _ => rfl) (ng1)) hl1 (hl.trans hl1)
    rw [A14 (p := ⟨.fn ff fa fb, some ((y, cur') :: l), cur, fin', O'⟩) (p' := ⟨.fn ff fa fb, some l, cur', fin', O2⟩) rfl rfl rfl rfl] at hE
    rw [← hE]
    refine AI (r := .tup [_, _]) rfl (by omega) hS2.sup ⟨_, rfl, hat, ih _ ?_ d1 (_ :: rest) _ _ _ (Nat.le_refl _) hS2.pts rfl ?_ hS2.ngO ?_ (by simp; omega)⟩
    ·simp only [tot, Option.getD_some, List.length_cons] at htot hm ⊢; omega
    ·intro q hq
     rcases List.mem_cons.1 hq with h | h
     ·subst h; exact ⟨⟨_, rfl⟩, _, _, _, rfl⟩
     ·exact hall1 q (List.mem_cons_of_mem _ h)
    ·simp only [Ef, List.map_cons, hrx] at B1n ⊢; exact B1n
section
variable {e sz by_ : Nat} {d : Option Nat} {K : AS → Prop} {en : AT} {n : Nat} {H : A3}
theorem GK {l m : List AV} {t : Tok} {g0 : Nat} (hg : H g0 = some (.row e l.length)) (h1 : (l.length + m.length) * by_ ≤ 140737488355328) (h2 : l.length + m.length ≤ maxLen)
  (hk : ∀ g n', (g = g0 ∨ n ≤ g) → n ≤ n' → g < n' → K ⟨AN en d (.sl sz (l ++ m) (.own g)), n', upd (upd H g0 none) g (some (.row e (l.length + m.length)))⟩) : appKS e sz by_ d K ⟨en, n, H⟩ (.sl sz l (.own g0)) (.sl sz m t) :=
 ⟨.inl rfl, m, A2 m, h1, h2, rfl, hg, hk⟩
theorem NR {z : Nat} {m : List AV} {t : Tok} (hm : m ≠ []) (h1 : (0 + m.length) * by_ ≤ 140737488355328) (h2 : 0 + m.length ≤ maxLen)
  (hk : ∀ g, n ≤ g → K ⟨AN en d (.sl sz m (.own g)), g + 1, upd H g (some (.row e m.length))⟩) : appKS e sz by_ d K ⟨en, n, H⟩ (.sl z [] .nil) (.sl sz m t) :=
 ⟨.inl rfl, m, A2 m, h1, h2, fun h => absurd h hm, fun _ => .inl hk⟩
end
def LI (e : Nat) (l : List AV) (n : Nat) (H : A3) : CJ := fun r n' H' => SameB n H H' ∧ ((l = [] ∧ r = .sl 0 [] .nil) ∨ ∃ g, n ≤ g ∧ g < n' ∧ r = .sl 1 l (.own g) ∧ H' g = some (.row e l.length))
theorem Y7 (l : List AV) (n : Nat) (H : A3) (hl : l.length ≤ 1000000) : ACalls Tryz.prog 100 [.sl 1 l .ro] n H (LI 76 l n H) := by
 refine A8 Tryz.func100 A1d rfl fun hs => ?_
 have hb : (([] : List AV).length + l.length) * 8 ≤ 140737488355328 := by simp; omega
 have hm : ([] : List AV).length + l.length ≤ maxLen := by simp [maxLen]; omega
 have fin' : ∀ (e : AT) (n1 g g0 : Nat) (k0 : AObj), n ≤ g0 → (g = g0 ∨ g0 + 1 ≤ g) → g0 + 1 ≤ n1 → g < n1 → get e 2 = .sl 1 l (.own g) → fin (LI 76 l n H) n [.tmp 2] .ret ⟨e, n1, upd (upd (upd H g0 (some k0)) g0 none) g (some (.row 76 (([] : List AV).length + l.length)))⟩ := by
  intro e n1 g g0 k0 h1 h2 h3 h4 h5
  refine AI (r := .sl 1 l (.own g)) (by simp [Br, CH, Er, h5]) (by omega) (fun k hk => by simp (disch := omega) only [upd_ne]; exact hs k (by omega)) ⟨fun k hk => by simp (disch := omega) only [upd_ne], .inr ⟨g, by omega, h4, rfl, by rw [AX]; simp⟩⟩
 cases l with
 | nil =>
  repeat' (first | (simp -implicitDefEqProofs [Lk, c100, -getElem?_pos, -List.length_nil]) | (simp (disch := omega) only [AA]) | (refine GK (AX _ _ _) hb hm (fun g n' h1 h2 h3 => ?_)) | (with_reducible first | refine A6 ?_ ?_ ?_ | exact AC | assumption | refine A0 ?_ | refine KM.of ?_ | refine AB ?_ | refine AE ?_ | refine AJ ?_ | refine AG ?_ | intro _g _hg | refine AD ?_ ?_ | intro _hc) | omega)
  ·exact AI (r := .sl 0 [] .nil) rfl (by omega) hs ⟨SameB.rfl_ _ _, .inl ⟨rfl, rfl⟩⟩
  ·exact fin' _ _ _ _ _ _hg h1 h2 h3 rfl
 | cons x l =>
  repeat' (first | (simp -implicitDefEqProofs [Lk, c100, -getElem?_pos, -List.length_nil, -List.length_cons]) | (simp (disch := omega) only [AA]) | (refine GK (AX _ _ _) hb hm (fun g n' h1 h2 h3 => ?_)) | (with_reducible first | refine A6 ?_ ?_ ?_ | exact AC | assumption | refine A0 ?_ | refine KM.of ?_ | refine AB ?_ | refine AE ?_ | refine AJ ?_ | refine AG ?_ | intro _g _hg | refine AD ?_ ?_ | intro _hc) | omega)
  exact fin' _ _ _ _ _ _hg h1 h2 h3 rfl
theorem Rc (l : List AV) (n : Nat) (H : A3) (hl : l.length ≤ 1000000) : ACalls Tryz.prog 92 [.sl 1 l .ro] n H (LI 3 l n H) := by
 refine A8 Tryz.func92 A2e rfl fun hs => ?_
 have hb : (([] : List AV).length + l.length) * 8 ≤ 140737488355328 := by simp; omega
 have hm : ([] : List AV).length + l.length ≤ maxLen := by simp [maxLen]; omega
 have fin' : ∀ (e : AT) (n1 g g0 : Nat) (k0 : AObj), n ≤ g0 → (g = g0 ∨ g0 + 1 ≤ g) → g0 + 1 ≤ n1 → g < n1 → get e 2 = .sl 1 l (.own g) → fin (LI 3 l n H) n [.tmp 2] .ret ⟨e, n1, upd (upd (upd H g0 (some k0)) g0 none) g (some (.row 3 (([] : List AV).length + l.length)))⟩ := by
  intro e n1 g g0 k0 h1 h2 h3 h4 h5
  refine AI (r := .sl 1 l (.own g)) (by simp [Br, CH, Er, h5]) (by omega) (fun k hk => by simp (disch := omega) only [upd_ne]; exact hs k (by omega)) ⟨fun k hk => by simp (disch := omega) only [upd_ne], .inr ⟨g, by omega, h4, rfl, by rw [AX]; simp⟩⟩
 cases l with
 | nil =>
  repeat' (first | (simp -implicitDefEqProofs [Mt, c92, -getElem?_pos, -List.length_nil]) | (simp (disch := omega) only [AA]) | (refine GK (AX _ _ _) hb hm (fun g n' h1 h2 h3 => ?_)) | (with_reducible first | refine A6 ?_ ?_ ?_ | exact AC | assumption | refine A0 ?_ | refine KM.of ?_ | refine AB ?_ | refine AE ?_ | refine AJ ?_ | refine AG ?_ | intro _g _hg | refine AD ?_ ?_ | intro _hc) | omega)
  ·exact AI (r := .sl 0 [] .nil) rfl (by omega) hs ⟨SameB.rfl_ _ _, .inl ⟨rfl, rfl⟩⟩
  ·exact fin' _ _ _ _ _ _hg h1 h2 h3 rfl
 | cons x l =>
  repeat' (first | (simp -implicitDefEqProofs [Mt, c92, -getElem?_pos, -List.length_nil, -List.length_cons]) | (simp (disch := omega) only [AA]) | (refine GK (AX _ _ _) hb hm (fun g n' h1 h2 h3 => ?_)) | (with_reducible first | refine A6 ?_ ?_ ?_ | exact AC | assumption | refine A0 ?_ | refine KM.of ?_ | refine AB ?_ | refine AE ?_ | refine AJ ?_ | refine AG ?_ | intro _g _hg | refine AD ?_ ?_ | intro _hc) | omega)
  exact fin' _ _ _ _ _ _hg h1 h2 h3 rfl
theorem Sit.callAt {ps : List Pt} {i : Nat} {p : Pt} {gO lo gg n : Nat} {cs : AZ} {H : A3} {d : Option Nat} {K : AS → Prop} {en : AT} (h : Sit gO lo ps H n gg cs) (hi : ps[i]? = some p)
  (hk : ∀ r n' H' p', n ≤ n' → PtR p r p' → (AL (ps.set i p')).length = (AL ps).length → Sit gO lo (ps.set i p') H' n' gg (Cd cs lo (AL (ps.set i p'))) → Aft lo gg cs (AL (ps.set i p')) (OU ps) n H n' H' (OU (ps.set i p')) → K ⟨AN en d r, n', H'⟩) :
  AH Tryz.prog d K en n H [] p.x := by
 have hil : i < ps.length := (List.getElem?_eq_some_iff.1 hi).1
 have e : ps = ps.take i ++ p :: ps.drop (i + 1) := by
  rw [← drop_at hi, List.take_append_drop]
 have e' : ∀ p', ps.set i p' = ps.take i ++ p' :: ps.drop (i + 1) := fun p' => by
  rw [List.set_eq_take_append_cons_drop, if_pos hil]
 simp only [e'] at hk
 generalize ps.take i = qs at *
 generalize ps.drop (i + 1) = bs at *
 subst e
 exact h.call hk
theorem Sit.more {ps : List Pt} {gO lo gg n n' : Nat} {cs : AZ} {H H' : A3} (h : Sit gO lo ps H n gg cs) (hn : n ≤ n') (hs : SameB n H H') (hsup : ∀ g, n' ≤ g → H' g = none) : Sit gO lo ps H' n' gg cs := by
 have hlt := h.giv.lt h.sup
 exact ⟨h.pts.at_ (fun k hk => hs k (h.pts.bel k hk)) hn, ⟨by rw [hs gO hlt.1]; exact h.giv.opn, by rw [hs gg hlt.2]; exact h.giv.giv, h.giv.fit, h.giv.at_⟩, h.ngg, h.ngO, hsup⟩
theorem Bx.more {gO g : Nat} {O : Nat → Prop} {n n' : Nat} {H H' : A3} {ob : AObj} (h : Bx O gO g H n ob) (hn : n ≤ n') (hs : SameB n H H') : Bx O gO g H' n' ob := ⟨h.no, h.nO, Nat.lt_of_lt_of_le h.lt hn, (hs g h.lt).trans h.at_⟩
theorem Aft.more {lo gg n n' n2 : Nat} {c cs : AZ} {H H' H2 : A3} {O O' : Nat → Prop} (ha : Aft lo gg cs c O n H n' H' O') (hn : n' ≤ n2) (hs : SameB n' H' H2) (hg : gg < n') : Aft lo gg cs c O n H n2 H2 O' :=
 ⟨Nat.le_trans ha.le hn, ha.sub, fun g h => Nat.lt_of_lt_of_le (ha.bel g h) hn, fun g h1 h2 h3 => (hs g (Nat.lt_of_lt_of_le h1 ha.le)).trans (ha.fr g h1 h2 h3), (hs gg hg).trans ha.giv⟩
theorem G8 : ∀ ps : List Pt, AL ps = (ps.map Pt.cur).flatten
 | [] => rfl
 | p :: ps => by simp [AL, G8 ps]
def Xz (ps : List Pt) (i : Nat) : AV := (ps[i]?.map Pt.x).getD .any
def ent (ps : List Pt) (i : Nat) : Nat × Aq × AZ := (i, (ps[i]?.bind Pt.l).getD [], (ps[i]?.map Pt.fin).getD [])
theorem Ws {ps : List Pt} {i : Nat} {p : Pt} (h : ps[i]? = some p) : Xz ps i = p.x := by simp [Xz, h]
theorem Nn {ps : List Pt} {i : Nat} {p : Pt} (h : ps[i]? = some p) : ent ps i = (i, p.l.getD [], p.fin) := by simp [ent, h]
theorem LZ {ps : List Pt} {i : Nat} {p p' : Pt} (h : ps[i]? = some p) : (ps.set i p')[i]? = some p' := by
 have := (List.getElem?_eq_some_iff.1 h).1
 simp [this]
theorem Li {ps : List Pt} {i j : Nat} {p' : Pt} (h : j ≠ i) : (ps.set i p')[j]? = ps[j]? := List.getElem?_set_ne (Ne.symm h)
theorem Un {ps : List Pt} {i : Nat} {p' : Pt} {q : List Nat} (h : i ∉ q) : q.map (ent (ps.set i p')) = q.map (ent ps) :=
 List.map_congr_left fun j hj => by unfold ent; rw [Li (fun e : j = i => h (e ▸ hj))]
theorem UV {ps : List Pt} {i : Nat} {p p' : Pt} {q : List Nat} (h : ps[i]? = some p) (hx : p'.x = p.x) : q.map (Xz (ps.set i p')) = q.map (Xz ps) :=
 List.map_congr_left fun j hj => by
  unfold Xz
  by_cases e : j = i
  ·subst e; rw [LZ h, h]; simp [hx]
  ·rw [Li e]
def U3 (ps : List Pt) (q : List Nat) : Nat := (q.map fun i => (ent ps i).2.1.length + 1).sum
theorem UR {ps : List Pt} {i : Nat} {p' : Pt} {q : List Nat} (h : i ∉ q) : U3 (ps.set i p') q = U3 ps q := by
 unfold U3
 congr 1
 exact List.map_congr_left fun j hj => by unfold ent; rw [Li (fun e : j = i => h (e ▸ hj))]
theorem VP : Ae Tryz.prog 99 = true := by kernel_rfl
theorem X7 (m : Nat) (cs : List AZ) : EH m [] cs = ([], cs) := by cases m <;> rfl
def X0 (ps : List Pt) (q : List Nat) : Prop := ∀ i ∈ q, ∃ p, ps[i]? = some p ∧ (∃ l, p.l = some l) ∧ Ct p.x
abbrev HA (l : List AV) (t : Tok) : AObj := .cells 104 [.sl 1 l t]
theorem VK {gO lo : Nat} {g1 : Nat} : ∀ (m : Nat) (ps : List Pt) (q : List Nat) (t : Tok) (O : Nat → Prop) (H0 : A3) (n0 : Nat), Pts gO lo ps H0 n0 → OU ps = O → q.Nodup → X0 ps q → U3 ps q ≤ m → ¬ O gO → Bx O gO g1 H0 n0 (HA (q.map (Xz ps)) t) → q.length ≤ 60 →
  Raw false gO lo (EH m (q.map (ent ps)) (ps.map Pt.cur)).2.flatten (.fn 99 [] [.ptr g1 0]) (EH m (q.map (ent ps)) (ps.map Pt.cur)).1 (AL ps) (fun g => O g ∨ g = g1) H0 n0 := by
 intro m
 induction m using Nat.strongRecOn with
 | _ m ih =>
  intro ps q t O H0 n0 hP hO hnd hq hm noO B1 h60
  have hbel : ∀ g, O g → g < n0 := fun g hg => hP.bel g (hO ▸ hg)
  refine Raw.of fun n H gg cs hn hag hgg hgO hgv => ?_
  replace B1 := B1.to hn (hag g1 (.inr rfl))
  have q1 := B1.at_
  have ng1 : gg ≠ g1 := fun h => hgg (.inr h)
  have nog : ¬ O gg := fun h => hgg (.inl h)
  replace hbel : ∀ g, O g → g < n := fun g h => Nat.lt_of_lt_of_le (hbel g h) hn
  refine ⟨VP, ?_⟩
  subst hO
  have hS := fun hs => Sit.start hP hn (fun g hg => hag g (.inl hg)) nog noO hgv hs
  generalize hT : EH m (q.map (ent ps)) (ps.map Pt.cur) = T at *
  generalize hR : Cv _ _ _ _ _ _ _ _ _ _ _ = R
  refine A8 Tryz.func99 A2h rfl fun hs => ?_
  have hS := hS hs
  repeat' (first | (simp -implicitDefEqProofs [c99, F8, F2, F0, Ey, c99, -getElem?_pos, q1, -AH]) | (simp (disch := omega) only [AA]) | (with_reducible first | refine A6 ?_ ?_ ?_ | exact AC | assumption | refine A0 ?_ | refine KM.of ?_ | refine AB ?_ | refine AE ?_ | refine AJ ?_ | refine AG ?_ | intro _g _hg | refine AD ?_ ?_ | intro _hc) | omega)
  refine LoopK.go (fun r st => ∃ (m1 : Nat) (ps1 : List Pt) (q2 : List Nat) (t1 : Tok) (n1 : Nat) (H1 : A3), r = q2.length ∧ st = ⟨[(0, .ptr g1 0)], n1, H1⟩ ∧ n ≤ n1 ∧ Sit gO lo ps1 H1 n1 gg (Cd cs lo (AL ps1)) ∧ (AL ps1).length = (AL ps).length ∧ Aft lo gg cs (AL ps1) (fun g => OU ps g ∨ g = g1) n H n1 H1 (fun g => OU ps1 g ∨ g = g1) ∧ Bx (OU ps1) gO g1 H1 n1 (HA (q2.map (Xz ps1)) t1) ∧ EH m1 (q2.map (ent ps1)) (ps1.map Pt.cur) = T ∧ q2.Nodup ∧ X0 ps1 q2 ∧ U3 ps1 q2 ≤ m1 ∧ m1 ≤ m ∧ q2.length ≤ 60) q.length ?_ ?_
  ·refine ⟨m, ps, q, t, n, H, rfl, rfl, Nat.le_refl _, ?_, rfl, ?_, B1, hT, hnd, hq, hm, Nat.le_refl _, h60⟩
   ·rw [E8 hgv]; exact hS
   ·exact (((Aft.same hgv hbel)).ext (B := fun g => g = g1) (fun g h => by have := B1.lt; subst h; omega) (fun _ _ => rfl) (fun _ _ => rfl) (ng1))
  rintro r st ⟨m1, ps1, q2, t1, n1, H1, rfl, rfl, hn1, hS1, hl1, ha1, B1', hE, hnd1, hq1, hm1, hmm, h60'⟩ J hJ
  have q1 := B1'.at_
  cases q2 with
  | nil =>
   repeat' (first | (simp -implicitDefEqProofs [F8, F2, F0, Ey, c99, -getElem?_pos, q1, -AH]) | (simp (disch := omega) only [AA]) | (with_reducible first | refine A6 ?_ ?_ ?_ | exact AC | assumption | refine A0 ?_ | refine KM.of ?_ | refine AB ?_ | refine AE ?_ | refine AJ ?_ | refine AG ?_ | intro _g _hg | refine AD ?_ ?_ | intro _hc) | omega)
   subst hR
   rw [List.map_nil, X7] at hE
   rw [← hE, ← G8]
   exact AI (r := .tup [_, _]) rfl (by omega) hS1.sup ⟨0, _, rfl, ha1, fun h => by cases h⟩
  | cons i rest =>
   obtain ⟨p, hi, ⟨l, hpl⟩, ff, fa, fb, hpx⟩ := hq1 i List.mem_cons_self
   obtain ⟨x, pl, cur, fin, O'⟩ := p
   simp only at hpl hpx
   subst hpl hpx
   have hnr : i ∉ rest := (List.nodup_cons.1 hnd1).1
   have hnd2 : rest.Nodup := (List.nodup_cons.1 hnd1).2
   have hrl : rest.length ≤ 59 := by simpa using h60'
   have hlen : (rest.map (Xz ps1)).length ≤ 59 := by simpa using hrl
   obtain ⟨m2, rfl⟩ : ∃ k, m1 = k + 1 := ⟨m1 - 1, by simp only [U3, List.map_cons, List.sum_cons] at hm1; omega⟩
   simp only [HA, List.map_cons, Ws hi] at q1
   generalize hrx : rest.map (Xz ps1) = rx at *
   have hpos : (0 : Int) < (rx.length + 1 : Nat) := by omega
   have B1u := B1'.set (HA rx .ro)
   have hSu := hS1.keep (x := some (HA rx .ro)) B1'.no B1'.nO ng1 B1'.lt
   have hau := ha1.box (x := some (HA rx .ro)) (.inr rfl) ng1
   have hm1' : (l.length + 1) + U3 ps1 rest ≤ m2 + 1 := by
    have := hm1
    simp only [U3, List.map_cons, List.sum_cons, Nn hi, Option.getD_some] at this
    exact this
   rw [List.map_cons, Nn hi] at hE
   simp only [Option.getD_some] at hE
   cases l with
   | nil =>
    repeat' (first | (simp -implicitDefEqProofs [F8, F2, F0, Ey, c99, -getElem?_pos, q1, hpos, splice, -AH]) | (simp (disch := omega) only [AA]) | (refine hSu.callAt hi (fun r n' H' p' hle hr hl hS2 ha => ?_); obtain ⟨x', l', cur', fin', O2⟩ := p'; dsimp only [PtR] at hr; obtain ⟨rfl, rfl, ⟨v, rfl⟩, rfl, rfl⟩ := hr; have B1n := B1u.go ng1 ha; have q1 := B1n.at_) | (with_reducible first | refine A6 ?_ ?_ ?_ | exact AC | assumption | refine A0 ?_ | refine KM.of ?_ | refine AB ?_ | refine AE ?_ | refine AJ ?_ | refine AG ?_ | intro _g _hg | refine AD ?_ ?_ | intro _hc) | omega)
    have hat := Aft.tr hgv hau ((ha).ext (B := fun g => g = g1) (fun g h => by have := B1.lt; subst h; omega) (fun _ _ => rfl) (fun _ _ => rfl) (ng1)) hl1 (hl.trans hl1)
    rw [CE (by have := hgv.fit; omega) hl] at hS2
    refine hJ rest.length _ (by simp) ⟨m2, _, rest, .ro, n', H', rfl, rfl, by omega, hS2, hl.trans hl1, hat, ?_, ?_, hnd2, ?_, ?_, by omega, by omega⟩
    ·rw [UV (p' := ⟨.fn ff fa fb, none, cur', cur', O2⟩) hi rfl, hrx]; exact B1n
    ·rw [Un hnr, List.map_set, ← hE]; rfl
    ·intro j hj
     obtain ⟨p, h1, h2⟩ := hq1 j (List.mem_cons_of_mem _ hj)
     exact ⟨p, by rw [Li (fun e : j = i => hnr (e ▸ hj))]; exact h1, h2⟩
    ·rw [UR hnr]; simp at hm1'; omega
   | cons e l => 
    obtain ⟨y, c⟩ := e
    repeat' (first | (simp -implicitDefEqProofs [F8, F2, F0, Ey, c99, -getElem?_pos, q1, hpos, splice, -AH]) | (simp (disch := omega) only [AA]) | (refine hSu.callAt hi (fun r n' H' p' hle hr hl hS2 ha => ?_); obtain ⟨x', l', cur', fin', O2⟩ := p'; dsimp only [PtR] at hr; obtain ⟨rfl, rfl, rfl, rfl, rfl⟩ := hr; have B1n := B1u.go ng1 ha; have q1 := B1n.at_) | (with_reducible first | refine A6 ?_ ?_ ?_ | exact AC | assumption | refine A0 ?_ | refine KM.of ?_ | refine AB ?_ | refine AE ?_ | refine AJ ?_ | refine AG ?_ | intro _g _hg | refine AD ?_ ?_ | intro _hc) | omega)
    have hat := Aft.tr hgv hau ((ha).ext (B := fun g => g = g1) (fun g h => by have := B1.lt; subst h; omega) (fun _ _ => rfl) (fun _ _ => rfl) (ng1)) hl1 (hl.trans hl1)
    rw [CE (by have := hgv.fit; omega) hl] at hS2
    have hgn := hS2.giv.lt hS2.sup
    have hil := (List.getElem?_eq_some_iff.1 hi).1
    have hT2 : T = ((y, AL (ps1.set i ⟨.fn ff fa fb, some l, cur', fin', O2⟩)) :: (EH m2 ((rest ++ [i]).map (ent (ps1.set i ⟨.fn ff fa fb, some l, cur', fin', O2⟩))) ((ps1.set i ⟨.fn ff fa fb, some l, cur', fin', O2⟩).map Pt.cur)).1, (EH m2 ((rest ++ [i]).map (ent (ps1.set i ⟨.fn ff fa fb, some l, cur', fin', O2⟩))) ((ps1.set i ⟨.fn ff fa fb, some l, cur', fin', O2⟩).map Pt.cur)).2) := by
     rw [← hE, EH, List.map_append, Un hnr, List.map_set, G8, List.map_set, List.map_singleton, Nn (LZ hi)]
     rfl
    have done : ∀ (e : AT) (n4 : Nat) (H4 : A3) (t : Tok), get e 1 = aI y → get e 2 = .bool true → n' ≤ n4 → SameB n' H' H4 → (∀ k, n4 ≤ k → H4 k = none) → fin R n [.tmp 1, .tmp 2] .ret ⟨e, n4, upd H4 g1 (some (HA (rx ++ [.fn ff fa fb]) t))⟩ := by
     intro e n4 H4 t h1 h2 h3 h4 h5
     have B1m := B1n.more h3 h4
     have hat2 := (hat.more h3 h4 hgn.2).box (x := some (HA (rx ++ [.fn ff fa fb]) t)) (.inr rfl) ng1
     have hS4 := (hS2.more h3 h4 h5).keep (x := some (HA (rx ++ [.fn ff fa fb]) t)) B1m.no B1m.nO ng1 B1m.lt
     subst hR
     rw [hT2]
     refine AI (r := .tup [aI y, .bool true]) (by simp [Br, CH, Er, h1, h2]) (by omega) (fun k hk => by have := B1m.lt; rw [upd_ne (by omega)]; exact h5 k hk) ⟨_, rfl, hat2, ih m2 (by omega) _ (rest ++ [i]) t _ _ n4 hS4.pts rfl ?_ ?_ ?_ hS4.ngO ?_ (by simp; omega)⟩
     ·exact List.nodup_append.2 ⟨hnd2, by simp, fun a k1 b k2 => by simp at k2; subst k2; exact fun e => hnr (e ▸ k1)⟩
     ·intro j hj
      rcases List.mem_append.1 hj with hj | hj
      ·obtain ⟨p, h1, h2⟩ := hq1 j (List.mem_cons_of_mem _ hj)
       exact ⟨p, by rw [Li (fun e : j = i => hnr (e ▸ hj))]; exact h1, h2⟩
      ·simp at hj; subst hj
       exact ⟨_, LZ hi, ⟨_, rfl⟩, _, _, _, rfl⟩
     ·have e1 : U3 (ps1.set i ⟨.fn ff fa fb, some l, cur', fin', O2⟩) (rest ++ [i]) = U3 ps1 rest + (l.length + 1) := by
       unfold U3
       rw [List.map_append, List.sum_append]
       have := UR (ps := ps1) (p' := ⟨.fn ff fa fb, some l, cur', fin', O2⟩) hnr
       unfold U3 at this
       rw [this]
       simp [Nn (LZ hi)]
      rw [e1]
      simp at hm1'
      omega
     ·rw [List.map_append, UV (p' := ⟨.fn ff fa fb, some l, cur', fin', O2⟩) hi rfl, hrx, List.map_singleton, Ws (LZ hi)]
      exact B1m.set _
    refine CallK.chk ⟨_, Y7 rx n' H' (by omega), ?_⟩
    rintro r n3 H3 (hle3 : n' ≤ n3) hsup3 ⟨hsb, hcl⟩
    have q1 : H3 g1 = _ := (hsb g1 B1n.lt).trans B1n.at_
    have hg1 := B1n.lt
    rcases hcl with ⟨rfl, rfl⟩ | ⟨g3, h31, h32, rfl, h33⟩
    ·repeat' (first | (simp -implicitDefEqProofs [F8, F2, F0, Ey, c99, -getElem?_pos, q1, splice, -AH]) | (simp (disch := omega) only [AA]) | (refine NR (by simp) (by simp) (by simp [maxLen]) (fun g h1 => ?_)) | (with_reducible first | refine A6 ?_ ?_ ?_ | exact AC | assumption | refine A0 ?_ | refine KM.of ?_ | refine AB ?_ | refine AE ?_ | refine AJ ?_ | refine AG ?_ | intro _g _hg | refine AD ?_ ?_ | intro _hc) | omega)
     exact done _ _ _ (.own g) rfl rfl (by omega) (fun k hk => by simp (disch := omega) only [upd_ne]; exact hsb k (by omega)) (fun k hk => by simp (disch := omega) only [upd_ne]; exact hsup3 k (by omega))
    ·repeat' (first | (simp -implicitDefEqProofs [F8, F2, F0, Ey, c99, -getElem?_pos, q1, splice, -AH]) | (simp (disch := omega) only [AA]) | (refine GK (by simp (disch := omega) only [upd_ne]; exact h33) (by simp; omega) (by simp [maxLen]; omega) (fun g n6 h1 h2 h3 => ?_)) | (with_reducible first | refine A6 ?_ ?_ ?_ | exact AC | assumption | refine A0 ?_ | refine KM.of ?_ | refine AB ?_ | refine AE ?_ | refine AJ ?_ | refine AG ?_ | intro _g _hg | refine AD ?_ ?_ | intro _hc) | omega)
     exact done _ _ _ (.own g) rfl rfl (by omega) (fun k hk => by simp (disch := omega) only [upd_ne]; exact hsb k (by omega)) (fun k hk => by simp (disch := omega) only [upd_ne]; exact hsup3 k (by omega))
theorem WG : Ae Tryz.prog 103 = true := by kernel_rfl
def side (p : Pt) (b : Bool) (h : Int) : Aq := if b = true then (h, p.cur) :: p.l.getD [] else p.l.getD []
theorem A01 {p p' : Pt} {r : AV} (h : Int) (hr : PtR p r p') : ∃ (h' : Int) (b' : Bool), r = .tup [aI h', .bool b'] ∧ side p' b' h' = side p false h ∧ (b' = false → p'.l = none) ∧ p'.fin = p.fin ∧ p'.x = p.x := by
 obtain ⟨x, l, cur, fin, O⟩ := p
 obtain ⟨x', l', cur', fin', O'⟩ := p'
 unfold PtR at hr
 match l, hr with
 | none, ⟨h1, h2, h3, h4, h5⟩ => exact ⟨0, false, h3, by simp only at h4; simp [side, h4], fun _ => h4, h2, h1⟩
 | some [], ⟨h1, h2, ⟨v, h3⟩, h4, h5⟩ => exact ⟨v, false, h3, by simp only at h4; simp [side, h4], fun _ => h4, h2, h1⟩
 | some ((y, c) :: l), ⟨h1, h2, h3, h4, h5⟩ => exact ⟨y, true, h3, by simp only at h4 h5; simp [side, h4, h5], (fun h => by cases h), h2, h1⟩
theorem Pts.cur_fin {gO lo n : Nat} {qs bs : List Pt} {p : Pt} {H : A3} (h : Pts gO lo (qs ++ p :: bs) H n) (hl : p.l = none) : p.cur = p.fin := by
 have := h.part
 unfold PtOk at this
 rw [hl] at this
 exact this.2
abbrev I7 (a b : Bool) : AObj := .cells 122 [.bool a, .bool b]
abbrev L8 (a b : Int) : AObj := .cells 99 [aI a, aI b]
theorem Vr {gO lo : Nat} {g1 g2 g3 : Nat} {fa fb : AZ} {xa xb : AV} {t : Tok} (n12 : g1 ≠ g2) (n13 : g1 ≠ g3) (n23 : g2 ≠ g3) (xfa : Ct xa) (xfb : Ct xb) : ∀ (N : Nat) (pa pb : Pt) (b0 b1 : Bool) (h0 h1 : Int) (O : Nat → Prop) (H0 : A3) (n0 : Nat), (side pa b0 h0).length + (side pb b1 h1).length ≤ N → Pts gO lo [pa, pb] H0 n0 → OU [pa, pb] = O → pa.x = xa → pb.x = xb → pa.fin = fa → pb.fin = fb → ¬ O gO →
  Bx O gO g1 H0 n0 (HA [xa, xb] t) → Bx O gO g2 H0 n0 (I7 b0 b1) → Bx O gO g3 H0 n0 (L8 h0 h1) →
  Raw false gO lo (fa ++ fb) (.fn 103 [] [.ptr g1 0, .ptr g2 0, .ptr g3 0]) (DY fa fb (side pa b0 h0) (side pb b1 h1)) (AL [pa, pb]) (fun g => O g ∨ g = g1 ∨ g = g2 ∨ g = g3) H0 n0 := by
 intro N
 induction N using Nat.strongRecOn with
 | _ N ih =>
  intro pa pb b0 b1 h0 h1 O H0 n0 hN hP hO hxa hxb hfa hfb noO B1 B2 B3
  have hbel : ∀ g, O g → g < n0 := fun g hg => hP.bel g (hO ▸ hg)
  refine Raw.of fun n H gg cs hn hag hgg hgO hgv => ?_
  replace B1 := B1.to hn (hag g1 (.inr (.inl rfl)))
  have q1 := B1.at_
  have ng1 : gg ≠ g1 := fun h => hgg (.inr (.inl h))
  replace B2 := B2.to hn (hag g2 (.inr (.inr (.inl rfl))))
  have q2 := B2.at_
  have ng2 : gg ≠ g2 := fun h => hgg (.inr (.inr (.inl h)))
  replace B3 := B3.to hn (hag g3 (.inr (.inr (.inr rfl))))
  have q3 := B3.at_
  have ng3 : gg ≠ g3 := fun h => hgg (.inr (.inr (.inr h)))
  have nog : ¬ O gg := fun h => hgg (.inl h)
  replace hbel : ∀ g, O g → g < n := fun g h => Nat.lt_of_lt_of_le (hbel g h) hn
  refine ⟨WG, ?_⟩
  subst hO
  have hS := fun hs => Sit.start hP hn (fun g hg => hag g (.inl hg)) nog noO hgv hs
  generalize hLa : side pa b0 h0 = La at *
  generalize hLb : side pb b1 h1 = Lb at *
  generalize hR : Cv _ _ _ _ _ _ _ _ _ _ _ = R
  refine A8 Tryz.func103 A0u rfl fun hs => ?_
  have hS := hS hs
  repeat' (first | (simp -implicitDefEqProofs [c103, CM, CW, CN, CZ, CV, CS, c103, -getElem?_pos, q1, -AH]) | (simp (disch := omega) only [AA]) | (with_reducible first | refine A6 ?_ ?_ ?_ | exact AC | assumption | refine A0 ?_ | refine KM.of ?_ | refine AB ?_ | intro _g _hg | refine AD ?_ ?_ | intro _hc) | omega)
  refine LoopK.go (fun r st => ∃ (j : Nat) (pa1 pb1 : Pt) (c0 c1 : Bool) (k0 k1 : Int) (n1 : Nat) (H1 : A3), j + r = 2 ∧ st = ⟨[(1, .ptr g2 0), (2, .ptr g3 0), (8, .sl 1 [xa, xb] t), (9, aI 2), (10, aI j)], n1, H1⟩ ∧ n ≤ n1 ∧ Sit gO lo [pa1, pb1] H1 n1 gg (Cd cs lo (AL [pa1, pb1])) ∧ (AL [pa1, pb1]).length = (AL [pa, pb]).length ∧
   Aft lo gg cs (AL [pa1, pb1]) (fun g => OU [pa, pb] g ∨ (g = g1 ∨ g = g2 ∨ g = g3)) n H n1 H1 (fun g => OU [pa1, pb1] g ∨ (g = g1 ∨ g = g2 ∨ g = g3)) ∧ Bx (OU [pa1, pb1]) gO g1 H1 n1 (HA [xa, xb] t) ∧ Bx (OU [pa1, pb1]) gO g2 H1 n1 (I7 c0 c1) ∧ Bx (OU [pa1, pb1]) gO g3 H1 n1 (L8 k0 k1) ∧
   side pa1 c0 k0 = La ∧ side pb1 c1 k1 = Lb ∧ (1 ≤ j → c0 = false → pa1.l = none) ∧ (2 ≤ j → c1 = false → pb1.l = none) ∧ pa1.x = xa ∧ pb1.x = xb ∧ pa1.fin = fa ∧ pb1.fin = fb) 2 ?_ ?_
  ·refine ⟨0, pa, pb, b0, b1, h0, h1, n, H, by omega, ?_, Nat.le_refl _, ?_, rfl, ?_, B1, B2, B3, hLa, hLb, by omega, by omega, hxa, hxb, hfa, hfb⟩
   ·rfl
   ·rw [E8 hgv]; exact hS
   ·exact (((Aft.same hgv hbel)).ext (B := fun g => g = g1 ∨ g = g2 ∨ g = g3) (fun g h => by have := B1.lt; have := B2.lt; have := B3.lt; rcases h with rfl | rfl | rfl <;> omega) (fun _ _ => rfl) (fun _ _ => rfl) (fun h => h.elim ng1 (fun h => h.elim ng2 ng3)))
  rintro r st ⟨j, pa1, pb1, c0, c1, k0, k1, n1, H1, hj, rfl, hn1, hS1, hl1, ha1, B1', B2', B3', eA, eB, d0, d1, ex0, ex1, ef0, ef1⟩ J hJ
  have q1 := B1'.at_
  have q2 := B2'.at_
  have q3 := B3'.at_
  obtain ⟨f0, a0, w0, rfl⟩ := xfa
  obtain ⟨f1, a1, w1, rfl⟩ := xfb
  by_cases j0 : j = 0
  ·subst j0
   cases c0 with
   | true =>
    repeat' (first | (simp -implicitDefEqProofs [CM, CW, CN, CZ, CV, CS, c103, -getElem?_pos, q1, q2, q3, -AH]) | (simp (disch := omega) only [AA]) | (with_reducible first | refine A6 ?_ ?_ ?_ | exact AC | assumption | refine A0 ?_ | refine KM.of ?_ | refine AB ?_ | intro _g _hg | refine AD ?_ ?_ | intro _hc) | omega)
    exact hJ 1 _ (by omega) ⟨1, pa1, pb1, true, c1, k0, k1, n1, H1, rfl, rfl, hn1, hS1, hl1, ha1, B1', B2', B3', eA, eB, (fun _ h => by cases h), by omega, ex0, ex1, ef0, ef1⟩
   | false =>
    repeat' (first | (simp -implicitDefEqProofs [CM, CW, CN, CZ, CV, CS, c103, -getElem?_pos, q1, q2, q3, n23, Ne.symm n23, splice, -AH]) | (simp (disch := omega) only [AA]) | ((rw [← ex0]); refine hS1.call (qs := []) (fun r n' H' p' hle hr hl hS2 ha => ?_); obtain ⟨h', b', rfl, hsd, hbn, hfn, hxn⟩ := A01 k0 hr; have B1n := B1'.go ng1 ha; have B2n := B2'.go ng2 ha; have B3n := B3'.go ng3 ha; have q2 := B2n.at_; have q3 := B3n.at_) | (with_reducible first | refine A6 ?_ ?_ ?_ | exact AC | assumption | refine A0 ?_ | refine KM.of ?_ | refine AB ?_ | intro _g _hg | refine AD ?_ ?_ | intro _hc) | omega)
    rw [ex0]
    replace hS2 : Sit gO lo [p', pb1] H' n' gg (Cd (Cd cs lo (AL [pa1, pb1])) lo (AL [p', pb1])) := hS2
    replace hl : (AL [p', pb1]).length = (AL [pa1, pb1]).length := hl
    have hat := ((Aft.tr hgv ha1 ((ha).ext (B := fun g => g = g1 ∨ g = g2 ∨ g = g3) (fun g h => by have := B1.lt; have := B2.lt; have := B3.lt; rcases h with rfl | rfl | rfl <;> omega) (fun _ _ => rfl) (fun _ _ => rfl) (fun h => h.elim ng1 (fun h => h.elim ng2 ng3))) hl1 (hl.trans hl1)).box (x := some (L8 h' k1)) (.inr (.inr (.inr rfl))) ng3).box (x := some (I7 b' c1)) (.inr (.inr (.inl rfl))) ng2
    have hS3 := (hS2.keep (x := some (L8 h' k1)) B3n.no B3n.nO ng3 B3n.lt).keep (x := some (I7 b' c1)) B2n.no B2n.nO ng2 B2n.lt
    rw [CE (by have := hgv.fit; omega) hl] at hS3
    exact hJ 1 _ (by omega) ⟨1, p', pb1, b', c1, h', k1, n', _, rfl, rfl, by omega, hS3, hl.trans hl1, hat, (B1n.keep n13).keep n12, (B2n.keep n23).set _, (B3n.set _).keep (Ne.symm n23), hsd.trans eA, eB, fun _ => hbn, by omega, hxn.trans ex0, ex1, hfn.trans ef0, ef1⟩
  by_cases j1 : j = 1
  ·subst j1
   cases c1 with
   | true =>
    repeat' (first | (simp -implicitDefEqProofs [CM, CW, CN, CZ, CV, CS, c103, -getElem?_pos, q1, q2, q3, -AH]) | (simp (disch := omega) only [AA]) | (with_reducible first | refine A6 ?_ ?_ ?_ | exact AC | assumption | refine A0 ?_ | refine KM.of ?_ | refine AB ?_ | intro _g _hg | refine AD ?_ ?_ | intro _hc) | omega)
    exact hJ 0 _ (by omega) ⟨2, pa1, pb1, c0, true, k0, k1, n1, H1, rfl, rfl, hn1, hS1, hl1, ha1, B1', B2', B3', eA, eB, fun _ => d0 (by omega), (fun _ h => by cases h), ex0, ex1, ef0, ef1⟩
   | false =>
    repeat' (first | (simp -implicitDefEqProofs [CM, CW, CN, CZ, CV, CS, c103, -getElem?_pos, q1, q2, q3, n23, Ne.symm n23, splice, -AH]) | (simp (disch := omega) only [AA]) | ((rw [← ex1]); refine hS1.call (qs := [pa1]) (bs := []) (fun r n' H' p' hle hr hl hS2 ha => ?_); obtain ⟨h', b', rfl, hsd, hbn, hfn, hxn⟩ := A01 k1 hr; have B1n := B1'.go ng1 ha; have B2n := B2'.go ng2 ha; have B3n := B3'.go ng3 ha; have q2 := B2n.at_; have q3 := B3n.at_) | (with_reducible first | refine A6 ?_ ?_ ?_ | exact AC | assumption | refine A0 ?_ | refine KM.of ?_ | refine AB ?_ | intro _g _hg | refine AD ?_ ?_ | intro _hc) | omega)
    rw [ex1]
    replace hS2 : Sit gO lo [pa1, p'] H' n' gg (Cd (Cd cs lo (AL [pa1, pb1])) lo (AL [pa1, p'])) := hS2
    replace hl : (AL [pa1, p']).length = (AL [pa1, pb1]).length := hl
    have hat := ((Aft.tr hgv ha1 ((ha).ext (B := fun g => g = g1 ∨ g = g2 ∨ g = g3) (fun g h => by have := B1.lt; have := B2.lt; have := B3.lt; rcases h with rfl | rfl | rfl <;> omega) (fun _ _ => rfl) (fun _ _ => rfl) (fun h => h.elim ng1 (fun h => h.elim ng2 ng3))) hl1 (hl.trans hl1)).box (x := some (L8 k0 h')) (.inr (.inr (.inr rfl))) ng3).box (x := some (I7 c0 b')) (.inr (.inr (.inl rfl))) ng2
    have hS3 := (hS2.keep (x := some (L8 k0 h')) B3n.no B3n.nO ng3 B3n.lt).keep (x := some (I7 c0 b')) B2n.no B2n.nO ng2 B2n.lt
    rw [CE (by have := hgv.fit; omega) hl] at hS3
    exact hJ 0 _ (by omega) ⟨2, pa1, p', c0, b', k0, h', n', _, rfl, rfl, by omega, hS3, hl.trans hl1, hat, (B1n.keep n13).keep n12, (B2n.keep n23).set _, (B3n.set _).keep (Ne.symm n23), eA, hsd.trans eB, fun _ => d0 (by omega), fun _ => hbn, ex0, hxn.trans ex1, ef0, hfn.trans ef1⟩
  have hj2 : j = 2 := by omega
  subst hj2
  subst hR
  have dn : ∀ (e : AT) (y : Int) (b0' b1' : Bool) (c : AZ) (L : Aq), get e 3 = aI y → get e 4 = .bool true → DY fa fb La Lb = (y, AL [pa1, pb1]) :: DY fa fb (side pa1 b0' k0) (side pb1 b1' k1) → (side pa1 b0' k0).length + (side pb1 b1' k1).length < N → fin (Cv false gO lo (fa ++ fb) (.fn 103 [] [.ptr g1 0, .ptr g2 0, .ptr g3 0]) gg cs (fun g => OU [pa, pb] g ∨ g = g1 ∨ g = g2 ∨ g = g3) n H (DY fa fb La Lb)) n [.tmp 3, .tmp 4] .ret ⟨e, n1, upd H1 g2 (some (I7 b0' b1'))⟩ := by
   intro e y b0' b1' c L h1 h2 h3 h4
   have hS3 := hS1.keep (x := some (I7 b0' b1')) B2'.no B2'.nO ng2 B2'.lt
   have hat := ha1.box (x := some (I7 b0' b1')) (.inr (.inr (.inl rfl))) ng2
   rw [h3]
   exact AI (r := .tup [aI y, .bool true]) (by simp [Br, CH, Er, h1, h2]) (by omega) hS3.sup ⟨_, rfl, hat, ih _ h4 pa1 pb1 b0' b1' k0 k1 _ _ n1 (Nat.le_refl _) hS3.pts rfl ex0 ex1 ef0 ef1 hS3.ngO (B1'.keep n12) (B2'.set _) (B3'.keep (Ne.symm n23))⟩
  have pf0 : pa1.l = none → pa1.cur = fa := fun h => by rw [← ef0]; exact hS1.pts.cur_fin (qs := []) h
  have pf1 : pb1.l = none → pb1.cur = fb := fun h => by rw [← ef1]; exact hS1.pts.cur_fin (qs := [_]) h
  have mlen := hN
  cases c0 with
  | false =>
   have l0 := d0 (by omega) rfl
   have s0 : La = [] := by rw [← eA]; simp [side, l0]
   cases c1 with
   | false =>
    have l1 := d1 (by omega) rfl
    have s1 : Lb = [] := by rw [← eB]; simp [side, l1]
    repeat' (first | (simp -implicitDefEqProofs [CM, CW, CN, CZ, CV, CS, c103, -getElem?_pos, q1, q2, q3, -AH]) | (simp (disch := omega) only [AA]) | (with_reducible first | refine A6 ?_ ?_ ?_ | exact AC | assumption | refine A0 ?_ | refine KM.of ?_ | refine AB ?_ | intro _g _hg | refine AD ?_ ?_ | intro _hc) | omega)
    rw [s0, s1, DY]
    have hcf : AL [pa1, pb1] = fa ++ fb := by simp [AL, pf0 l0, pf1 l1]
    rw [hcf] at ha1
    exact AI (r := .tup [_, _]) rfl (by omega) hS1.sup ⟨0, _, rfl, ha1, fun h => by cases h⟩
   | true =>
    have s1 : Lb = (k1, pb1.cur) :: pb1.l.getD [] := by rw [← eB]; simp [side]
    repeat' (first | (simp -implicitDefEqProofs [CM, CW, CN, CZ, CV, CS, c103, -getElem?_pos, q1, q2, q3, splice, -AH]) | (simp (disch := omega) only [AA]) | (with_reducible first | refine A6 ?_ ?_ ?_ | exact AC | assumption | refine A0 ?_ | refine KM.of ?_ | refine AB ?_ | intro _g _hg | refine AD ?_ ?_ | intro _hc) | omega)
    refine dn _ k1 false false [] [] rfl rfl ?_ ?_
    ·rw [s0, s1, DY]; simp [side, l0, AL, pf0 l0]
    ·rw [s0, s1] at mlen; simp [side, l0] at mlen ⊢; omega
  | true =>
   have s0 : La = (k0, pa1.cur) :: pa1.l.getD [] := by rw [← eA]; simp [side]
   cases c1 with
   | false =>
    have l1 := d1 (by omega) rfl
    have s1 : Lb = [] := by rw [← eB]; simp [side, l1]
    repeat' (first | (simp -implicitDefEqProofs [CM, CW, CN, CZ, CV, CS, c103, -getElem?_pos, q1, q2, q3, splice, -AH]) | (simp (disch := omega) only [AA]) | (with_reducible first | refine A6 ?_ ?_ ?_ | exact AC | assumption | refine A0 ?_ | refine KM.of ?_ | refine AB ?_ | intro _g _hg | refine AD ?_ ?_ | intro _hc) | omega)
    refine dn _ k0 false false [] [] rfl rfl ?_ ?_
    ·rw [s0, s1, DY]; simp [side, l1, AL, pf1 l1]
    ·rw [s0, s1] at mlen; simp [side, l1] at mlen ⊢; omega
   | true =>
    have s1 : Lb = (k1, pb1.cur) :: pb1.l.getD [] := by rw [← eB]; simp [side]
    by_cases hlt : k1 < k0
    ·repeat' (first | (simp -implicitDefEqProofs [CM, CW, CN, CZ, CV, CS, c103, -getElem?_pos, q1, q2, q3, hlt, splice, -AH]) | (simp (disch := omega) only [AA]) | (with_reducible first | refine A6 ?_ ?_ ?_ | exact AC | assumption | refine A0 ?_ | refine KM.of ?_ | refine AB ?_ | intro _g _hg | refine AD ?_ ?_ | intro _hc) | omega)
     refine dn _ k1 true false [] [] rfl rfl ?_ ?_
     ·rw [s0, s1, DY, if_neg (by omega)]; simp [side, AL]
     ·rw [s0, s1] at mlen; simp [side] at mlen ⊢; omega
    ·repeat' (first | (simp -implicitDefEqProofs [CM, CW, CN, CZ, CV, CS, c103, -getElem?_pos, q1, q2, q3, hlt, splice, -AH]) | (simp (disch := omega) only [AA]) | (with_reducible first | refine A6 ?_ ?_ ?_ | exact AC | assumption | refine A0 ?_ | refine KM.of ?_ | refine AB ?_ | intro _g _hg | refine AD ?_ ?_ | intro _hc) | omega)
     refine dn _ k0 false true [] [] rfl rfl ?_ ?_
     ·rw [s0, s1, DY, if_pos (by omega)]; simp [side, AL]
     ·rw [s0, s1] at mlen; simp [side] at mlen ⊢; omega
theorem Sit.hd {bs : List Pt} {p : Pt} {gO lo gg n : Nat} {cs : AZ} {H : A3} {d : Option Nat} {K : AS → Prop} {en : AT} (h : Sit gO lo (p :: bs) H n gg cs)
  (hk : ∀ r n' H' p', n ≤ n' → PtR p r p' → (AL (p' :: bs)).length = (AL (p :: bs)).length → Sit gO lo (p' :: bs) H' n' gg (Cd cs lo (AL (p' :: bs))) → Aft lo gg cs (AL (p' :: bs)) (OU (p :: bs)) n H n' H' (OU (p' :: bs)) → K ⟨AN en d r, n', H'⟩) :
  AH Tryz.prog d K en n H [] p.x := Sit.call (qs := []) h hk
def PSe (gO lo : Nat) (p : Pt) (l : Aq) (gg : Nat) (cs : AZ) (n : Nat) (H : A3) : CJ := fun r n' H' => ∃ p', n ≤ n' ∧ PtR ⟨p.x, some l, p.cur, p.fin, p.O⟩ r p' ∧ (AL [p']).length = (AL [p]).length ∧ Sit gO lo [p'] H' n' gg (Cd cs lo (AL [p'])) ∧ Aft lo gg cs (AL [p']) (OU [p]) n H n' H' (OU [p'])
abbrev Kd (pd : Int → Bool) (l : Aq) : Aq := l.dropWhile fun e => !pd e.1
theorem LW {gO lo gg gs f : Nat} {px : AV} {fin : AZ} {ob : AObj} {pd : Int → Bool} (hcal : Ae Tryz.prog f = true) (hpd : ∀ (x : Int) (n : Nat) (H : A3), B5 x → H gs = some ob → APureAt Tryz.prog f [aI x, .ptr gs 0] n H (.bool (pd x))) (hxf : Ct px) (ng : gg ≠ gs) (l : Aq) (cur cs : AZ) (O : Nat → Prop) (n : Nat) (H : A3)
  (hS : Sit gO lo [⟨px, some l, cur, fin, O⟩] H n gg cs) (hrg : rgE l) (B : Bx (OU [⟨px, some l, cur, fin, O⟩]) gO gs H n ob) : ACalls Tryz.prog 106 [px, .fn f [] [.ptr gs 0]] n H (PSe gO lo ⟨px, some l, cur, fin, O⟩ (Kd pd l) gg cs n H) := by
 generalize hR : PSe _ _ _ _ _ _ _ _ = R
 refine A8 Tryz.func106 A1k rfl fun hs => ?_
 repeat' (first | (simp -implicitDefEqProofs [c106, GR, c106, -getElem?_pos, -AH]) | (simp (disch := omega) only [AA]) | (with_reducible first | refine A6 ?_ ?_ ?_ | exact AC | assumption | refine A0 ?_ | refine KM.of ?_ | refine AB ?_ | intro _g _hg | refine AD ?_ ?_ | intro _hc) | omega)
 refine LoopK.go (fun r st => ∃ (l1 : Aq) (cur1 : AZ) (O1 : Nat → Prop) (n1 : Nat) (H1 : A3), r = l1.length ∧ st = ⟨[(0, px), (1, .fn f [] [.ptr gs 0])], n1, H1⟩ ∧ n ≤ n1 ∧ Sit gO lo [⟨px, some l1, cur1, fin, O1⟩] H1 n1 gg (Cd cs lo (AL [⟨px, some l1, cur1, fin, O1⟩])) ∧ (AL [⟨px, some l1, cur1, fin, O1⟩]).length = (AL [⟨px, some l, cur, fin, O⟩]).length ∧ rgE l1 ∧
  Aft lo gg cs (AL [⟨px, some l1, cur1, fin, O1⟩]) (OU [⟨px, some l, cur, fin, O⟩]) n H n1 H1 (OU [⟨px, some l1, cur1, fin, O1⟩]) ∧ Bx (OU [⟨px, some l1, cur1, fin, O1⟩]) gO gs H1 n1 ob ∧ Kd pd l1 = Kd pd l) l.length ?_ ?_
 ·refine ⟨l, cur, O, n, H, rfl, rfl, Nat.le_refl _, ?_, rfl, hrg, Aft.same hS.giv hS.pts.bel, B, rfl⟩
  rw [E8 hS.giv]; exact hS
 rintro r st ⟨l1, cur1, O1, n1, H1, rfl, rfl, hn1, hS1, hl1, hrg1, ha1, B1, hE⟩ J hJ
 obtain ⟨ff, fa, fb, rfl⟩ := hxf
 cases l1 with
 | nil =>
  repeat' (first | (simp -implicitDefEqProofs [GR, c106, -getElem?_pos, -AH]) | (simp (disch := omega) only [AA]) | (refine hS1.hd (fun r n' H' p' hle hr hl hS2 ha => ?_); obtain ⟨x', l', cur', fin', O2⟩ := p'; dsimp only [PtR] at hr; obtain ⟨rfl, rfl, ⟨v, rfl⟩, rfl, rfl⟩ := hr) | (with_reducible first | refine A6 ?_ ?_ ?_ | exact AC | assumption | refine A0 ?_ | refine KM.of ?_ | refine AB ?_ | intro _g _hg | refine AD ?_ ?_ | intro _hc) | omega)
  subst hR
  have hat := Aft.tr hS.giv ha1 ha hl1 (hl.trans hl1)
  have e0 : Kd pd l = [] := by rw [← hE]; rfl
  rw [CE (by have := hS.giv.fit; omega) hl] at hS2
  rw [e0]
  exact AI (r := .tup [aI v, .bool false]) rfl (by omega) hS2.sup ⟨⟨.fn ff fa fb, none, cur', cur', O2⟩, by omega, ⟨rfl, rfl, ⟨v, rfl⟩, rfl, rfl⟩, hl.trans hl1, hS2, hat⟩
 | cons e l1 =>
  obtain ⟨y, c⟩ := e
  cases hpy : pd y with
  | true =>
   repeat' (first | (simp -implicitDefEqProofs [GR, c106, -getElem?_pos, hcal, Mf (f := f), -AH]) | (simp (disch := omega) only [AA]) | (refine hS1.hd (fun r n' H' p' hle hr hl hS2 ha => ?_); obtain ⟨x', l', cur', fin', O2⟩ := p'; dsimp only [PtR] at hr; obtain ⟨rfl, rfl, rfl, rfl, rfl⟩ := hr; have B2 := B1.go ng ha; have hap := hpd y n' H' hrg1.hd B2.at_; rw [hpy] at hap) | ((with_reducible refine CallK.chk (f := _) ?_); (refine' CallK.sfAt ?_ (hap) ?_); (focus first | (with_reducible exact A2 _) | (simp [AQ, AM, A5, A2]; done))) | (with_reducible first | refine A6 ?_ ?_ ?_ | exact AC | assumption | refine A0 ?_ | refine KM.of ?_ | refine AB ?_ | intro _g _hg | refine AD ?_ ?_ | intro _hc) | omega)
   subst hR
   have hat := Aft.tr hS.giv ha1 ha hl1 (hl.trans hl1)
   have e0 : Kd pd l = (y, cur') :: l1 := by rw [← hE]; simp [Kd, List.dropWhile, hpy]
   rw [CE (by have := hS.giv.fit; omega) hl] at hS2
   rw [e0]
   exact AI (r := .tup [aI y, .bool true]) rfl (by omega) hS2.sup ⟨⟨.fn ff fa fb, some l1, cur', fin', O2⟩, by omega, ⟨rfl, rfl, rfl, rfl, rfl⟩, hl.trans hl1, hS2, hat⟩
  | false =>
   repeat' (first | (simp -implicitDefEqProofs [GR, c106, -getElem?_pos, hcal, Mf (f := f), -AH]) | (simp (disch := omega) only [AA]) | (refine hS1.hd (fun r n' H' p' hle hr hl hS2 ha => ?_); obtain ⟨x', l', cur', fin', O2⟩ := p'; dsimp only [PtR] at hr; obtain ⟨rfl, rfl, rfl, rfl, rfl⟩ := hr; have B2 := B1.go ng ha; have hap := hpd y n' H' hrg1.hd B2.at_; rw [hpy] at hap) | ((with_reducible refine CallK.chk (f := _) ?_); (refine' CallK.sfAt ?_ (hap) ?_); (focus first | (with_reducible exact A2 _) | (simp [AQ, AM, A5, A2]; done))) | (with_reducible first | refine A6 ?_ ?_ ?_ | exact AC | assumption | refine A0 ?_ | refine KM.of ?_ | refine AB ?_ | intro _g _hg | refine AD ?_ ?_ | intro _hc) | omega)
   have hat := Aft.tr hS.giv ha1 ha hl1 (hl.trans hl1)
   have e0 : Kd pd ((y, cur') :: l1) = Kd pd l1 := by simp [Kd, List.dropWhile, hpy]
   rw [CE (by have := hS.giv.fit; omega) hl] at hS2
   exact hJ l1.length _ (by simp) ⟨l1, cur', O2, n', H', rfl, rfl, by omega, hS2, hl.trans hl1, hrg1.tl, hat, B1.go ng ha, e0 ▸ hE⟩
theorem Ta : Ae Tryz.prog 105 = true := by kernel_rfl
theorem Re : Ae Tryz.prog 107 = true := by kernel_rfl
theorem M2 : Ae Tryz.prog 134 = true := by kernel_rfl
theorem VJ : Ae Tryz.prog 135 = true := by kernel_rfl
theorem XU : Ae Tryz.prog 115 = true := by kernel_rfl
theorem W7 : Ae Tryz.prog 116 = true := by kernel_rfl
theorem V8 {gs : Nat} {k op m : Int} {a b : AV} (hop : 1 ≤ op ∧ op ≤ 3) (hm : B5 m) (h3 : op = 3 → 1 ≤ m) (x : Int) (n : Nat) (H : A3) (hx : B5 x) (q : H gs = some (BH k op m a b)) : APureAt Tryz.prog 107 [aI x, .ptr gs 0] n H (.bool (Fj op x m)) := by
 have hap := OH op x m hop hx hm h3
 refine DH Tryz.func107 A1r rfl fun hH => ?_
 repeat' (first | (simp -implicitDefEqProofs [c107, -getElem?_pos, q, AM]) | (simp (disch := omega) only [AA]) | ((with_reducible refine Aa 108 ?_); refine' Am (hap) ?_) | (with_reducible first | refine A6 ?_ ?_ ?_ | exact AC | refine SameB.upd ?_ ?_ _ | assumption | refine A0 ?_ | refine KM.of ?_ | refine AB ?_ | intro _g _hg | refine AD ?_ ?_ | intro _hc) | omega)
theorem YS {gs : Nat} {k op m : Int} {a b : AV} (hop : 1 ≤ op ∧ op ≤ 3) (hm : B5 m) (h3 : op = 3 → 1 ≤ m) (x : Int) (n : Nat) (H : A3) (hx : B5 x) (q : H gs = some (BH k op m a b)) : APureAt Tryz.prog 135 [aI x, .ptr gs 0] n H (.bool (!Fj op x m)) := by
 have hap := OH op x m hop hx hm h3
 refine DH Tryz.func135 A0y rfl fun hH => ?_
 repeat' (first | (simp -implicitDefEqProofs [c135, -getElem?_pos, q, AM]) | (simp (disch := omega) only [AA]) | ((with_reducible refine Aa 108 ?_); refine' Am (hap) ?_) | (with_reducible first | refine A6 ?_ ?_ ?_ | exact AC | refine SameB.upd ?_ ?_ _ | assumption | refine A0 ?_ | refine KM.of ?_ | refine AB ?_ | intro _g _hg | refine AD ?_ ?_ | intro _hc) | omega)
theorem Yq {gs : Nat} {z : Int} (x : Int) (n : Nat) (H : A3) (hx : B5 x) (q : H gs = some (Bm z)) : APureAt Tryz.prog 116 [aI x, .ptr gs 0] n H (.bool (x != z)) := by
 refine DH Tryz.func116 A1c rfl fun hH => ?_
 repeat' (first | (simp -implicitDefEqProofs [c116, -getElem?_pos, q, AM]) | (simp (disch := omega) only [AA]) | (with_reducible first | refine A6 ?_ ?_ ?_ | exact AC | refine SameB.upd ?_ ?_ _ | assumption | refine A0 ?_ | refine KM.of ?_ | refine AB ?_ | intro _g _hg | refine AD ?_ ?_ | intro _hc) | omega)
theorem Uo (pd : Int → Bool) (l : Aq) : (Kd pd l).length ≤ l.length := (List.dropWhile_sublist _).length_le
theorem TZ {pd : Int → Bool} {l : Aq} (h : rgE l) : rgE (Kd pd l) := h.sub (List.dropWhile_sublist _)
theorem Lu {pd : Int → Bool} : ∀ {l : Aq}, l.filter (fun e => pd e.1) = (match Kd pd l with | [] => [] | e :: r => e :: r.filter fun e => pd e.1)
 | [] => rfl
 | (y, c) :: l => by
  cases h : pd y with
  | true => simp [Kd, List.dropWhile, h]
  | false =>
   have := Lu (pd := pd) (l := l)
   simp only [Kd, List.dropWhile, h] at this ⊢
   simpa [h] using this
theorem Tb {gO lo : Nat} {fin : AZ} {px a b : AV} {g1 g2 : Nat} {k op m : Int} (hop : 1 ≤ op ∧ op ≤ 3) (hm : B5 m) (h3 : op = 3 → 1 ≤ m) (hxf : Ct px) : ∀ (N : Nat) (l : Aq) (cur : AZ) (O1 O : Nat → Prop) (H0 : A3) (n0 : Nat), l.length ≤ N → Pts gO lo [⟨px, some l, cur, fin, O1⟩] H0 n0 → OU [⟨px, some l, cur, fin, O1⟩] = O → rgE l → ¬ O gO →
  Bx O gO g1 H0 n0 (Bt px) → Bx O gO g2 H0 n0 (BH k op m a b) → Raw false gO lo fin (.fn 105 [] [.ptr g1 0, .ptr g2 0]) (l.filter fun e => Fj op e.1 m) (AL [⟨px, some l, cur, fin, O1⟩]) (fun g => O g ∨ g = g1 ∨ g = g2) H0 n0 := by
 intro N
 induction N using Nat.strongRecOn with
 | _ N ih =>
  intro l cur O1 O H0 n0 hN hP hO hrg noO B1 B2
  have hbel : ∀ g, O g → g < n0 := fun g hg => hP.bel g (hO ▸ hg)
  refine Raw.of fun n H gg cs hn hag hgg hgO hgv => ?_
  replace B1 := B1.to hn (hag g1 (.inr (.inl rfl)))
  have q1 := B1.at_
  have ng1 : gg ≠ g1 := fun h => hgg (.inr (.inl h))
  replace B2 := B2.to hn (hag g2 (.inr (.inr rfl)))
  have q2 := B2.at_
  have ng2 : gg ≠ g2 := fun h => hgg (.inr (.inr h))
  have nog : ¬ O gg := fun h => hgg (.inl h)
  replace hbel : ∀ g, O g → g < n := fun g h => Nat.lt_of_lt_of_le (hbel g h) hn
  refine ⟨Ta, ?_⟩
  subst hO
  have hS := fun hs => Sit.start hP hn (fun g hg => hag g (.inl hg)) nog noO hgv hs
  have hft := Lu (pd := fun x => Fj op x m) (l := l)
  have hrg2 : rgE (Kd (fun x => Fj op x m) l) := TZ hrg
  have htl := Uo (fun x => Fj op x m) l
  have hc := fun hs => LW (pd := fun x => Fj op x m) Re (V8 (k := k) (a := a) (b := b) hop hm h3) hxf ng2 l cur cs O1 n H (hS hs) hrg B2
  rw [hft]
  generalize Kd (fun x => Fj op x m) l = l2 at *
  obtain ⟨ff, fa, fb, rfl⟩ := hxf
  cases l2 with
  | nil =>
   generalize hR : Cv _ _ _ _ _ _ _ _ _ _ _ = R
   refine A8 Tryz.func105 Xq rfl fun hs => ?_
   have hc := hc hs
   repeat' (first | (simp -implicitDefEqProofs [c105, -getElem?_pos, q1, q2, -AH]) | (simp (disch := omega) only [AA]) | ((with_reducible refine Ap 106 ?_); refine ⟨_, hc, ?_⟩; rintro r n' H' hle hsup ⟨p', (hle : n ≤ n'), hr, hl, hS2, ha⟩; obtain ⟨x', l', cur', fin', O2⟩ := p'; dsimp only [PtR] at hr; obtain ⟨rfl, rfl, ⟨v, rfl⟩, rfl, rfl⟩ := hr) | (with_reducible first | refine A6 ?_ ?_ ?_ | exact AC | assumption | refine A0 ?_ | refine KM.of ?_ | refine AB ?_ | intro _g _hg | refine AD ?_ ?_ | intro _hc) | omega)
   subst hR
   replace ha := ha.eqc (c' := cur') (by simp [AL])
   exact AI (r := .tup [_, _]) rfl (by omega) hsup ⟨v, _, rfl, ((ha).ext (B := fun g => g = g1 ∨ g = g2) (fun g h => by have := B1.lt; have := B2.lt; rcases h with rfl | rfl <;> omega) (fun _ _ => rfl) (fun _ _ => rfl) (fun h => h.elim ng1 ng2)), fun h => by cases h⟩
  | cons e l2 =>
   obtain ⟨y, c⟩ := e
   generalize hR : Cv _ _ _ _ _ _ _ _ _ _ _ = R
   refine A8 Tryz.func105 Xq rfl fun hs => ?_
   have hc := hc hs
   repeat' (first | (simp -implicitDefEqProofs [c105, -getElem?_pos, q1, q2, -AH]) | (simp (disch := omega) only [AA]) | ((with_reducible refine Ap 106 ?_); refine ⟨_, hc, ?_⟩; rintro r n' H' hle hsup ⟨p', (hle : n ≤ n'), hr, hl, hS2, ha⟩; obtain ⟨x', l', cur', fin', O2⟩ := p'; dsimp only [PtR] at hr; obtain ⟨rfl, rfl, rfl, rfl, rfl⟩ := hr) | (with_reducible first | refine A6 ?_ ?_ ?_ | exact AC | assumption | refine A0 ?_ | refine KM.of ?_ | refine AB ?_ | intro _g _hg | refine AD ?_ ?_ | intro _hc) | omega)
   subst hR
   have ha1 := ha.eqc (c' := cur') (by simp [AL])
   have := ih l2.length (by simp at htl; omega) l2 cur' O2 _ H' n' (Nat.le_refl _) hS2.pts rfl hrg2.tl hS2.ngO (B1.go ng1 ha) (B2.go ng2 ha)
   simp only [AL, List.append_nil] at this
   exact AI (r := .tup [_, _]) rfl (by omega) hsup ⟨_, rfl, ((ha1).ext (B := fun g => g = g1 ∨ g = g2) (fun g h => by have := B1.lt; have := B2.lt; rcases h with rfl | rfl <;> omega) (fun _ _ => rfl) (fun _ _ => rfl) (fun h => h.elim ng1 ng2)), this⟩
theorem RY (p : Int → Bool) : ∀ l : Aq, Ie p l = Kd (fun x => !p x) l
 | [] => rfl
 | (x, c) :: l => by
  have := RY p l
  cases h : p x with
  | true => simp only [Ie, h]; simpa [Kd, List.dropWhile, h] using this
  | false => simp [Ie, Kd, List.dropWhile, h]
theorem Ry : ∀ (z : Int) (l : Aq), Fh z l = (match Kd (fun x => x != z) l with | [] => [] | e :: r => e :: Fh e.1 r)
 | _, [] => rfl
 | z, (x, c) :: l => by
  have := Ry z l
  by_cases h : x = z
  ·subst h; simp only [Fh]; simpa [Kd, List.dropWhile] using this
  ·have h2 : (x != z) = true := by simpa using h
   rw [Fh, if_pos h]
   simp only [Kd, List.dropWhile, h2, Bool.not_true]
theorem WC {gO lo : Nat} {fin : AZ} {px : AV} {g1 g2 g3 : Nat} {ob : AObj} (hxf : Ct px) : ∀ (l : Aq) (cur : AZ) (O : Nat → Prop) (H0 : A3) (n0 : Nat), Raw true gO lo fin px l cur O H0 n0 → ¬ O gO → (∀ g, O g → g < n0) →
  Bx O gO g1 H0 n0 (Fc true) → Bx O gO g2 H0 n0 (Bt px) → Bx O gO g3 H0 n0 ob → Raw false gO lo fin (.fn 134 [] [.ptr g1 0, .ptr g2 0, .ptr g3 0]) l cur (fun g => O g ∨ g = g1 ∨ g = g2 ∨ g = g3) H0 n0 := by
 intro l
 induction l with
 | nil =>
  intro cur O H0 n0 hr noO hbel B1 B2 B3
  refine Raw.of fun n H gg cs hn hag hgg hgO hgv => ?_
  replace B1 := B1.to hn (hag g1 (.inr (.inl rfl)))
  have q1 := B1.at_
  have ng1 : gg ≠ g1 := fun h => hgg (.inr (.inl h))
  replace B2 := B2.to hn (hag g2 (.inr (.inr (.inl rfl))))
  have q2 := B2.at_
  have ng2 : gg ≠ g2 := fun h => hgg (.inr (.inr (.inl h)))
  replace B3 := B3.to hn (hag g3 (.inr (.inr (.inr rfl))))
  have q3 := B3.at_
  have ng3 : gg ≠ g3 := fun h => hgg (.inr (.inr (.inr h)))
  have nog : ¬ O gg := fun h => hgg (.inl h)
  replace hbel : ∀ g, O g → g < n := fun g h => Nat.lt_of_lt_of_le (hbel g h) hn
  refine ⟨M2, ?_⟩
  replace hr := hr.at_ (fun g hg => hag g (.inl hg)) hn
  have hc := hr.to n H gg cs (Nat.le_refl _) (fun _ _ => rfl) nog noO hgv
  generalize hR : Cv _ _ _ _ _ _ _ _ _ _ _ = R
  refine A8 Tryz.func134 Pm rfl fun hs => ?_
  repeat' (first | (simp -implicitDefEqProofs [GW, c134, -getElem?_pos, q1, q2, splice, -AH]) | (simp (disch := omega) only [AA]) | (refine Bj hc ⟨?_⟩; rintro r n' H' hle hsup ⟨v, O', rfl, ha, _⟩) | (with_reducible first | refine A6 ?_ ?_ ?_ | exact AC | assumption | refine A0 ?_ | refine KM.of ?_ | refine AB ?_ | intro _g _hg | refine AD ?_ ?_ | intro _hc) | omega)
  subst hR
  exact AI (r := .tup [_, _]) rfl (by omega) hsup ⟨v, _, rfl, ((ha).ext (B := fun g => g = g1 ∨ g = g2 ∨ g = g3) (fun g h => by have := B1.lt; have := B2.lt; have := B3.lt; rcases h with rfl | rfl | rfl <;> omega) (fun _ _ => rfl) (fun _ _ => rfl) (fun h => h.elim ng1 (fun h => h.elim ng2 ng3))), fun h => by cases h⟩
 | cons e l ih =>
  obtain ⟨y, c⟩ := e
  intro cur O H0 n0 hr noO hbel B1 B2 B3
  refine Raw.of fun n H gg cs hn hag hgg hgO hgv => ?_
  replace B1 := B1.to hn (hag g1 (.inr (.inl rfl)))
  have q1 := B1.at_
  have ng1 : gg ≠ g1 := fun h => hgg (.inr (.inl h))
  replace B2 := B2.to hn (hag g2 (.inr (.inr (.inl rfl))))
  have q2 := B2.at_
  have ng2 : gg ≠ g2 := fun h => hgg (.inr (.inr (.inl h)))
  replace B3 := B3.to hn (hag g3 (.inr (.inr (.inr rfl))))
  have q3 := B3.at_
  have ng3 : gg ≠ g3 := fun h => hgg (.inr (.inr (.inr h)))
  have nog : ¬ O gg := fun h => hgg (.inl h)
  replace hbel : ∀ g, O g → g < n := fun g h => Nat.lt_of_lt_of_le (hbel g h) hn
  refine ⟨M2, ?_⟩
  replace hr := hr.at_ (fun g hg => hag g (.inl hg)) hn
  have hc := hr.to n H gg cs (Nat.le_refl _) (fun _ _ => rfl) nog noO hgv
  generalize hR : Cv _ _ _ _ _ _ _ _ _ _ _ = R
  refine A8 Tryz.func134 Pm rfl fun hs => ?_
  repeat' (first | (simp -implicitDefEqProofs [GW, c134, -getElem?_pos, q1, q2, splice, -AH]) | (simp (disch := omega) only [AA]) | (refine Bj hc ⟨?_⟩; rintro r n' H' hle hsup ⟨O', rfl, ha, hr'⟩) | (with_reducible first | refine A6 ?_ ?_ ?_ | exact AC | assumption | refine A0 ?_ | refine KM.of ?_ | refine AB ?_ | intro _g _hg | refine AD ?_ ?_ | intro _hc) | omega)
  subst hR
  exact AI (r := .tup [_, _]) rfl (by omega) hsup ⟨_, rfl, ((ha).ext (B := fun g => g = g1 ∨ g = g2 ∨ g = g3) (fun g h => by have := B1.lt; have := B2.lt; have := B3.lt; rcases h with rfl | rfl | rfl <;> omega) (fun _ _ => rfl) (fun _ _ => rfl) (fun h => h.elim ng1 (fun h => h.elim ng2 ng3))), ih c O' _ n' hr' (ha.nO noO (hgv.lt hs).1) ha.bel (B1.go ng1 ha) (B2.go ng2 ha) (B3.go ng3 ha)⟩
theorem XX {gO lo : Nat} {fin : AZ} {px a b : AV} {g1 g2 g3 : Nat} {k op m : Int} (hop : 1 ≤ op ∧ op ≤ 3) (hm : B5 m) (h3 : op = 3 → 1 ≤ m) (hxf : Ct px) (n12 : g1 ≠ g2) (n13 : g1 ≠ g3) (l : Aq) (cur : AZ) (O1 O : Nat → Prop) (H0 : A3) (n0 : Nat) (hP : Pts gO lo [⟨px, some l, cur, fin, O1⟩] H0 n0) (hO : OU [⟨px, some l, cur, fin, O1⟩] = O) (hrg : rgE l) (noO : ¬ O gO)
  (B1 : Bx O gO g1 H0 n0 (Fc false)) (B2 : Bx O gO g2 H0 n0 (Bt px)) (B3 : Bx O gO g3 H0 n0 (BH k op m a b)) : Raw false gO lo fin (.fn 134 [] [.ptr g1 0, .ptr g2 0, .ptr g3 0]) (Ie (fun x => Fj op x m) l) (AL [⟨px, some l, cur, fin, O1⟩]) (fun g => O g ∨ g = g1 ∨ g = g2 ∨ g = g3) H0 n0 := by
 have hbel : ∀ g, O g → g < n0 := fun g hg => hP.bel g (hO ▸ hg)
 refine Raw.of fun n H gg cs hn hag hgg hgO hgv => ?_
 replace B1 := B1.to hn (hag g1 (.inr (.inl rfl)))
 have q1 := B1.at_
 have ng1 : gg ≠ g1 := fun h => hgg (.inr (.inl h))
 replace B2 := B2.to hn (hag g2 (.inr (.inr (.inl rfl))))
 have q2 := B2.at_
 have ng2 : gg ≠ g2 := fun h => hgg (.inr (.inr (.inl h)))
 replace B3 := B3.to hn (hag g3 (.inr (.inr (.inr rfl))))
 have q3 := B3.at_
 have ng3 : gg ≠ g3 := fun h => hgg (.inr (.inr (.inr h)))
 have nog : ¬ O gg := fun h => hgg (.inl h)
 replace hbel : ∀ g, O g → g < n := fun g h => Nat.lt_of_lt_of_le (hbel g h) hn
 refine ⟨M2, ?_⟩
 subst hO
 have hS := fun hs => (Sit.start hP hn (fun g hg => hag g (.inl hg)) nog noO hgv hs).keep (x := some (Fc true)) B1.no B1.nO ng1 B1.lt
 have B1u := B1.set (Fc true)
 have B2u := B2.keep (x := some (Fc true)) (Ne.symm n12)
 have B3u := B3.keep (x := some (Fc true)) (Ne.symm n13)
 have hft := RY (fun x => Fj op x m) l
 have hrg2 : rgE (Kd (fun x => !Fj op x m) l) := TZ hrg
 have hc := fun hs => LW (pd := fun x => !Fj op x m) VJ (YS (k := k) (a := a) (b := b) hop hm h3) hxf ng3 l cur cs O1 n _ (hS hs) hrg B3u
 rw [hft]
 generalize Kd (fun x => !Fj op x m) l = l2 at *
 have hxf' := hxf
 obtain ⟨ff, fa, fb, rfl⟩ := hxf
 cases l2 with
 | nil =>
  generalize hR : Cv _ _ _ _ _ _ _ _ _ _ _ = R
  refine A8 Tryz.func134 Pm rfl fun hs => ?_
  have hc := hc hs
  repeat' (first | (simp -implicitDefEqProofs [GW, c134, -getElem?_pos, q1, q2, n12, Ne.symm n12, splice, -AH]) | (simp (disch := omega) only [AA]) | ((with_reducible refine Ap 106 ?_); refine ⟨_, hc, ?_⟩; rintro r n' H' hle hsup ⟨p', (hle : n ≤ n'), hr, hl, hS2, ha⟩; obtain ⟨x', l', cur', fin', O2⟩ := p'; dsimp only [PtR] at hr; obtain ⟨rfl, rfl, ⟨v, rfl⟩, rfl, rfl⟩ := hr) | (with_reducible first | refine A6 ?_ ?_ ?_ | exact AC | assumption | refine A0 ?_ | refine KM.of ?_ | refine AB ?_ | intro _g _hg | refine AD ?_ ?_ | intro _hc) | omega)
  subst hR
  replace ha := ha.eqc (c' := cur') (by simp [AL])
  exact AI (r := .tup [_, _]) rfl (by omega) hsup ⟨v, _, rfl, ((ha).ext (B := fun g => g = g1 ∨ g = g2 ∨ g = g3) (fun g h => by have := B1.lt; have := B2.lt; have := B3.lt; rcases h with rfl | rfl | rfl <;> omega) (fun g h => by rw [upd_ne (fun e => h (.inl e))]) (fun _ _ => rfl) (fun h => h.elim ng1 (fun h => h.elim ng2 ng3))), fun h => by cases h⟩
 | cons e l2 =>
  obtain ⟨y, c⟩ := e
  generalize hR : Cv _ _ _ _ _ _ _ _ _ _ _ = R
  refine A8 Tryz.func134 Pm rfl fun hs => ?_
  have hc := hc hs
  repeat' (first | (simp -implicitDefEqProofs [GW, c134, -getElem?_pos, q1, q2, n12, Ne.symm n12, splice, -AH]) | (simp (disch := omega) only [AA]) | ((with_reducible refine Ap 106 ?_); refine ⟨_, hc, ?_⟩; rintro r n' H' hle hsup ⟨p', (hle : n ≤ n'), hr, hl, hS2, ha⟩; obtain ⟨x', l', cur', fin', O2⟩ := p'; dsimp only [PtR] at hr; obtain ⟨rfl, rfl, rfl, rfl, rfl⟩ := hr) | (with_reducible first | refine A6 ?_ ?_ ?_ | exact AC | assumption | refine A0 ?_ | refine KM.of ?_ | refine AB ?_ | intro _g _hg | refine AD ?_ ?_ | intro _hc) | omega)
  subst hR
  have ha1 := ha.eqc (c' := cur') (by simp [AL])
  have hr' : Raw true gO lo fin' (.fn ff fa fb) l2 cur' O2 H' n' := hS2.pts.1.1
  have hOs : ∀ g, OU [⟨.fn ff fa fb, some l2, cur', fin', O2⟩] g ↔ O2 g := fun g => by simp [OU]
  have C1 := B1u.go ng1 ha
  have C2 := B2u.go ng2 ha
  have C3 := B3u.go ng3 ha
  have := WC hxf' l2 cur' O2 H' n' hr' (fun h => hS2.ngO ((hOs _).2 h)) (fun g h => hS2.pts.bel g ((hOs g).2 h)) ⟨fun h => C1.no ((hOs _).2 h), C1.nO, C1.lt, C1.at_⟩ ⟨fun h => C2.no ((hOs _).2 h), C2.nO, C2.lt, C2.at_⟩ ⟨fun h => C3.no ((hOs _).2 h), C3.nO, C3.lt, C3.at_⟩
  have hOe : OU [⟨.fn ff fa fb, some l2, cur', fin', O2⟩] = O2 := funext fun g => propext (hOs g)
  rw [hOe] at ha1
  exact AI (r := .tup [_, _]) rfl (by omega) hsup ⟨_, rfl, ((ha1).ext (B := fun g => g = g1 ∨ g = g2 ∨ g = g3) (fun g h => by have := B1.lt; have := B2.lt; have := B3.lt; rcases h with rfl | rfl | rfl <;> omega) (fun g h => by rw [upd_ne (fun e => h (.inl e))]) (fun _ _ => rfl) (fun h => h.elim ng1 (fun h => h.elim ng2 ng3))), this⟩
theorem Xo {gO lo : Nat} {fin : AZ} {px : AV} {g1 g2 : Nat} (hxf : Ct px) (n12 : g1 ≠ g2) : ∀ (N : Nat) (z : Int) (l : Aq) (cur : AZ) (O1 O : Nat → Prop) (H0 : A3) (n0 : Nat), l.length ≤ N → Pts gO lo [⟨px, some l, cur, fin, O1⟩] H0 n0 → OU [⟨px, some l, cur, fin, O1⟩] = O → rgE l → ¬ O gO →
  Bx O gO g1 H0 n0 (Bt px) → Bx O gO g2 H0 n0 (Bm z) → Raw false gO lo fin (.fn 115 [] [.ptr g1 0, .ptr g2 0]) (Fh z l) (AL [⟨px, some l, cur, fin, O1⟩]) (fun g => O g ∨ g = g1 ∨ g = g2) H0 n0 := by
 intro N
 induction N using Nat.strongRecOn with
 | _ N ih =>
  intro z l cur O1 O H0 n0 hN hP hO hrg noO B1 B2
  have hbel : ∀ g, O g → g < n0 := fun g hg => hP.bel g (hO ▸ hg)
  refine Raw.of fun n H gg cs hn hag hgg hgO hgv => ?_
  replace B1 := B1.to hn (hag g1 (.inr (.inl rfl)))
  have q1 := B1.at_
  have ng1 : gg ≠ g1 := fun h => hgg (.inr (.inl h))
  replace B2 := B2.to hn (hag g2 (.inr (.inr rfl)))
  have q2 := B2.at_
  have ng2 : gg ≠ g2 := fun h => hgg (.inr (.inr h))
  have nog : ¬ O gg := fun h => hgg (.inl h)
  replace hbel : ∀ g, O g → g < n := fun g h => Nat.lt_of_lt_of_le (hbel g h) hn
  refine ⟨XU, ?_⟩
  subst hO
  have hS := fun hs => Sit.start hP hn (fun g hg => hag g (.inl hg)) nog noO hgv hs
  have hft := Ry z l
  have hrg2 : rgE (Kd (fun x => x != z) l) := TZ hrg
  have htl := Uo (fun x => x != z) l
  have hc := fun hs => LW (pd := fun x => x != z) W7 (Yq (z := z)) hxf ng2 l cur cs O1 n H (hS hs) hrg B2
  rw [hft]
  generalize Kd (fun x => x != z) l = l2 at *
  obtain ⟨ff, fa, fb, rfl⟩ := hxf
  cases l2 with
  | nil =>
   generalize hR : Cv _ _ _ _ _ _ _ _ _ _ _ = R
   refine A8 Tryz.func115 Xp rfl fun hs => ?_
   have hc := hc hs
   repeat' (first | (simp -implicitDefEqProofs [c115, -getElem?_pos, q1, q2, splice, -AH]) | (simp (disch := omega) only [AA]) | ((with_reducible refine Ap 106 ?_); refine ⟨_, hc, ?_⟩; rintro r n' H' hle hsup ⟨p', (hle : n ≤ n'), hr, hl, hS2, ha⟩; obtain ⟨x', l', cur', fin', O2⟩ := p'; dsimp only [PtR] at hr; obtain ⟨rfl, rfl, ⟨v, rfl⟩, rfl, rfl⟩ := hr; have C2 := B2.go ng2 ha; have q2 := C2.at_) | (with_reducible first | refine A6 ?_ ?_ ?_ | exact AC | assumption | refine A0 ?_ | refine KM.of ?_ | refine AB ?_ | intro _g _hg | refine AD ?_ ?_ | intro _hc) | omega)
   subst hR
   have := C2.lt
   replace ha := ha.eqc (c' := cur') (by simp [AL])
   exact AI (r := .tup [_, _]) rfl (by omega) (fun k hk => by rw [upd_ne (by omega)]; exact hsup k hk) ⟨v, _, rfl, ((ha).ext (B := fun g => g = g1 ∨ g = g2) (fun g h => by have := B1.lt; have := B2.lt; rcases h with rfl | rfl <;> omega) (fun _ _ => rfl) (fun g h => by rw [upd_ne (fun e => h (.inr e))]) (fun h => h.elim ng1 ng2)), fun h => by cases h⟩
  | cons e l2 =>
   obtain ⟨y, c⟩ := e
   generalize hR : Cv _ _ _ _ _ _ _ _ _ _ _ = R
   refine A8 Tryz.func115 Xp rfl fun hs => ?_
   have hc := hc hs
   repeat' (first | (simp -implicitDefEqProofs [c115, -getElem?_pos, q1, q2, splice, -AH]) | (simp (disch := omega) only [AA]) | ((with_reducible refine Ap 106 ?_); refine ⟨_, hc, ?_⟩; rintro r n' H' hle hsup ⟨p', (hle : n ≤ n'), hr, hl, hS2, ha⟩; obtain ⟨x', l', cur', fin', O2⟩ := p'; dsimp only [PtR] at hr; obtain ⟨rfl, rfl, rfl, rfl, rfl⟩ := hr; have C2 := B2.go ng2 ha; have q2 := C2.at_) | (with_reducible first | refine A6 ?_ ?_ ?_ | exact AC | assumption | refine A0 ?_ | refine KM.of ?_ | refine AB ?_ | intro _g _hg | refine AD ?_ ?_ | intro _hc) | omega)
   subst hR
   have := C2.lt
   have ha1 := ha.eqc (c' := cur') (by simp [AL])
   have hS3 := hS2.keep (x := some (Bm y)) C2.no C2.nO ng2 C2.lt
   have := ih l2.length (by simp at htl; omega) y l2 cur' O2 _ _ n' (Nat.le_refl _) hS3.pts rfl hrg2.tl hS2.ngO ((B1.go ng1 ha).keep n12) (C2.set _)
   simp only [AL, List.append_nil] at this
   exact AI (r := .tup [_, _]) rfl (by omega) (fun k hk => by rw [upd_ne (by omega)]; exact hsup k hk) ⟨_, rfl, ((ha1).ext (B := fun g => g = g1 ∨ g = g2) (fun g h => by have := B1.lt; have := B2.lt; rcases h with rfl | rfl <;> omega) (fun _ _ => rfl) (fun g h => by rw [upd_ne (fun e => h (.inr e))]) (fun h => h.elim ng1 ng2)), this⟩
theorem YH : Ae Tryz.prog 133 = true := by kernel_rfl
theorem YL {gO lo : Nat} {fin : AZ} {px : AV} {g1 g2 : Nat} (hxf : Ct px) (n12 : g1 ≠ g2) : ∀ (N : Nat) (m : Nat) (l : Aq) (cur : AZ) (O1 O : Nat → Prop) (H0 : A3) (n0 : Nat), l.length ≤ N → m ≤ 5000 → Pts gO lo [⟨px, some l, cur, fin, O1⟩] H0 n0 → OU [⟨px, some l, cur, fin, O1⟩] = O → ¬ O gO →
  Bx O gO g1 H0 n0 (Bm m) → Bx O gO g2 H0 n0 (Bt px) → Raw false gO lo fin (.fn 133 [] [.ptr g1 0, .ptr g2 0]) (l.drop m) (AL [⟨px, some l, cur, fin, O1⟩]) (fun g => O g ∨ g = g1 ∨ g = g2) H0 n0 := by
 intro N
 induction N using Nat.strongRecOn with
 | _ N ih =>
  intro m l cur O1 O H0 n0 hN hm5 hP hO noO B1 B2
  have hbel : ∀ g, O g → g < n0 := fun g hg => hP.bel g (hO ▸ hg)
  refine Raw.of fun n H gg cs hn hag hgg hgO hgv => ?_
  replace B1 := B1.to hn (hag g1 (.inr (.inl rfl)))
  have q1 := B1.at_
  have ng1 : gg ≠ g1 := fun h => hgg (.inr (.inl h))
  replace B2 := B2.to hn (hag g2 (.inr (.inr rfl)))
  have q2 := B2.at_
  have ng2 : gg ≠ g2 := fun h => hgg (.inr (.inr h))
  have nog : ¬ O gg := fun h => hgg (.inl h)
  replace hbel : ∀ g, O g → g < n := fun g h => Nat.lt_of_lt_of_le (hbel g h) hn
  refine ⟨YH, ?_⟩
  subst hO
  have hS := fun hs => Sit.start hP hn (fun g hg => hag g (.inl hg)) nog noO hgv hs
  generalize hR : Cv _ _ _ _ _ _ _ _ _ _ _ = R
  refine A8 Tryz.func133 A1o rfl fun hs => ?_
  have hS := hS hs
  repeat' (first | (simp -implicitDefEqProofs [c133, FL, FE, FC, FA, c133, -getElem?_pos, -AH]) | (simp (disch := omega) only [AA]) | (with_reducible first | refine A6 ?_ ?_ ?_ | exact AC | assumption | refine A0 ?_ | refine KM.of ?_ | refine AB ?_ | intro _g _hg | refine AD ?_ ?_ | intro _hc) | omega)
  refine LoopK.go (fun r st => ∃ (l1 : Aq) (cur1 : AZ) (O2 : Nat → Prop) (n1 : Nat) (H1 : A3), st = ⟨[(0, .ptr g1 0), (1, .ptr g2 0)], n1, H1⟩ ∧ n ≤ n1 ∧ Sit gO lo [⟨px, some l1, cur1, fin, O2⟩] H1 n1 gg (Cd cs lo (AL [⟨px, some l1, cur1, fin, O2⟩])) ∧ (AL [⟨px, some l1, cur1, fin, O2⟩]).length = (AL [⟨px, some l, cur, fin, O1⟩]).length ∧
   Aft lo gg cs (AL [⟨px, some l1, cur1, fin, O2⟩]) (fun g => OU [⟨px, some l, cur, fin, O1⟩] g ∨ (g = g1 ∨ g = g2)) n H n1 H1 (fun g => OU [⟨px, some l1, cur1, fin, O2⟩] g ∨ (g = g1 ∨ g = g2)) ∧ Bx (OU [⟨px, some l1, cur1, fin, O2⟩]) gO g1 H1 n1 (Bm r) ∧ Bx (OU [⟨px, some l1, cur1, fin, O2⟩]) gO g2 H1 n1 (Bt px) ∧ l1.drop r = l.drop m ∧ l1.length ≤ N ∧ r ≤ 5000) m ?_ ?_
  ·refine ⟨l, cur, O1, n, H, rfl, Nat.le_refl _, ?_, rfl, ?_, B1, B2, rfl, hN, hm5⟩
   ·rw [E8 hS.giv]; exact hS
   ·exact (((Aft.same hgv hbel)).ext (B := fun g => g = g1 ∨ g = g2) (fun g h => by have := B1.lt; have := B2.lt; rcases h with rfl | rfl <;> omega) (fun _ _ => rfl) (fun _ _ => rfl) (fun h => h.elim ng1 ng2))
  rintro r st ⟨l1, cur1, O2, n1, H1, rfl, hn1, hS1, hl1, ha1, B1', B2', hE, hN1, hr5⟩ J hJ
  have q1 := B1'.at_
  have q2 := B2'.at_
  have hxf' := hxf
  obtain ⟨ff, fa, fb, rfl⟩ := hxf
  by_cases hr0 : r = 0
  ·subst hr0
   cases l1 with
   | nil =>
    repeat' (first | (simp -implicitDefEqProofs [FL, FE, FC, FA, c133, -getElem?_pos, q1, q2, splice, -AH]) | (simp (disch := omega) only [AA]) | (refine hS1.hd (fun r n' H' p' hle hr hl hS2 ha => ?_); obtain ⟨x', l', cur', fin', O3⟩ := p'; dsimp only [PtR] at hr; obtain ⟨rfl, rfl, ⟨v, rfl⟩, rfl, rfl⟩ := hr) | (with_reducible first | refine A6 ?_ ?_ ?_ | exact AC | assumption | refine A0 ?_ | refine KM.of ?_ | refine AB ?_ | intro _g _hg | refine AD ?_ ?_ | intro _hc) | omega)
    subst hR
    have hat := (Aft.tr hgv ha1 ((ha).ext (B := fun g => g = g1 ∨ g = g2) (fun g h => by have := B1.lt; have := B2.lt; rcases h with rfl | rfl <;> omega) (fun _ _ => rfl) (fun _ _ => rfl) (fun h => h.elim ng1 ng2)) hl1 (hl.trans hl1)).eqc (c' := cur') (by simp [AL])
    rw [← hE]
    exact AI (r := .tup [_, _]) rfl (by omega) hS2.sup ⟨v, _, rfl, hat, fun h => by cases h⟩
   | cons e l1 =>
    obtain ⟨y, c⟩ := e
    repeat' (first | (simp -implicitDefEqProofs [FL, FE, FC, FA, c133, -getElem?_pos, q1, q2, splice, -AH]) | (simp (disch := omega) only [AA]) | (refine hS1.hd (fun r n' H' p' hle hr hl hS2 ha => ?_); obtain ⟨x', l', cur', fin', O3⟩ := p'; dsimp only [PtR] at hr; obtain ⟨rfl, rfl, rfl, rfl, rfl⟩ := hr; have C1 := B1'.go ng1 ha; have C2 := B2'.go ng2 ha) | (with_reducible first | refine A6 ?_ ?_ ?_ | exact AC | assumption | refine A0 ?_ | refine KM.of ?_ | refine AB ?_ | intro _g _hg | refine AD ?_ ?_ | intro _hc) | omega)
    subst hR
    have hat := (Aft.tr hgv ha1 ((ha).ext (B := fun g => g = g1 ∨ g = g2) (fun g h => by have := B1.lt; have := B2.lt; rcases h with rfl | rfl <;> omega) (fun _ _ => rfl) (fun _ _ => rfl) (fun h => h.elim ng1 ng2)) hl1 (hl.trans hl1)).eqc (c' := cur') (by simp [AL])
    rw [← hE]
    have := ih l1.length (by simp at hN1; omega) 0 l1 cur' O3 _ H' n' (Nat.le_refl _) (by omega) hS2.pts rfl hS2.ngO C1 C2
    simp only [AL, List.append_nil, List.drop_zero] at this
    exact AI (r := .tup [_, _]) rfl (by omega) hS2.sup ⟨_, rfl, hat, this⟩
  ·have hr0' : (0 : Int) < r := by omega
   have hw : (r : Int) - 1 = ((r - 1 : Nat) : Int) := by omega
   cases l1 with
   | nil =>
    repeat' (first | (simp -implicitDefEqProofs [FL, FE, FC, FA, c133, -getElem?_pos, q1, q2, hr0', splice, -AH]) | (simp (disch := omega) only [AA]) | (refine hS1.hd (fun r n' H' p' hle hr hl hS2 ha => ?_); obtain ⟨x', l', cur', fin', O3⟩ := p'; dsimp only [PtR] at hr; obtain ⟨rfl, rfl, ⟨v, rfl⟩, rfl, rfl⟩ := hr) | (with_reducible first | refine A6 ?_ ?_ ?_ | exact AC | assumption | refine A0 ?_ | refine KM.of ?_ | refine AB ?_ | intro _g _hg | refine AD ?_ ?_ | intro _hc) | omega)
    subst hR
    have hat := (Aft.tr hgv ha1 ((ha).ext (B := fun g => g = g1 ∨ g = g2) (fun g h => by have := B1.lt; have := B2.lt; rcases h with rfl | rfl <;> omega) (fun _ _ => rfl) (fun _ _ => rfl) (fun h => h.elim ng1 ng2)) hl1 (hl.trans hl1)).eqc (c' := cur') (by simp [AL])
    have e0 : l.drop m = [] := by rw [← hE]; simp
    rw [e0]
    exact AI (r := .tup [_, _]) rfl (by omega) hS2.sup ⟨0, _, rfl, hat, fun h => by cases h⟩
   | cons e l1 =>
    obtain ⟨y, c⟩ := e
    repeat' (first | (simp -implicitDefEqProofs [FL, FE, FC, FA, c133, -getElem?_pos, q1, q2, hr0', hw, splice, -AH]) | (simp (disch := omega) only [AA]) | (refine hS1.hd (fun r n' H' p' hle hr hl hS2 ha => ?_); obtain ⟨x', l', cur', fin', O3⟩ := p'; dsimp only [PtR] at hr; obtain ⟨rfl, rfl, rfl, rfl, rfl⟩ := hr; have C1 := B1'.go ng1 ha; have C2 := B2'.go ng2 ha; have q1 := C1.at_) | (with_reducible first | refine A6 ?_ ?_ ?_ | exact AC | assumption | refine A0 ?_ | refine KM.of ?_ | refine AB ?_ | intro _g _hg | refine AD ?_ ?_ | intro _hc) | omega)
    have hat := (Aft.tr hgv ha1 ((ha).ext (B := fun g => g = g1 ∨ g = g2) (fun g h => by have := B1.lt; have := B2.lt; rcases h with rfl | rfl <;> omega) (fun _ _ => rfl) (fun _ _ => rfl) (fun h => h.elim ng1 ng2)) hl1 (hl.trans hl1)).box (x := some (Bm ((r - 1 : Nat) : Int))) (.inr (.inl rfl)) ng1
    have hS3 := hS2.keep (x := some (Bm ((r - 1 : Nat) : Int))) C1.no C1.nO ng1 C1.lt
    rw [CE (by have := hgv.fit; omega) hl] at hS3
    exact hJ (r - 1) _ (by omega) ⟨l1, cur', O3, n', _, rfl, by omega, hS3, hl.trans hl1, hat, C1.set _, C2.keep (Ne.symm n12), by rw [← hE]; obtain ⟨k, rfl⟩ : ∃ k, r = k + 1 := ⟨r - 1, by omega⟩; simp, by simp at hN1; omega, by omega⟩
def CI : Tok → Nat → Prop
 | .own k, g => g = k
 | _, _ => False
def TokOk (t : Tok) (k : Nat) (H : A3) (n : Nat) : Prop := match t with
 | .own g => H g = some (.row 3 k) ∧ g < n
 | .nil => k = 0
 | .ro => False
theorem Iy {t t2 : Tok} {xs : List AV} {x : AV} {z : Nat} {d : Option Nat} {K : AS → Prop} {en : AT} {n : Nat} {H : A3} (h : TokOk t xs.length H n) (hz : t ≠ .nil → z = 1) (hl : xs.length ≤ 1000000) (hs : ∀ g, n ≤ g → H g = none)
  (hk : ∀ g' n' H', (CI t g' ∨ n ≤ g') → n ≤ n' → g' < n' → (∀ k, k < n → ¬ CI t k → H' k = H k) → H' g' = some (.row 3 (xs.length + 1)) → (∀ k, n' ≤ k → H' k = none) → (∀ k, CI t k → k ≠ g' → H' k = none) → K ⟨AN en d (.sl 1 (xs ++ [x]) (.own g')), n', H'⟩) :
  appKS 3 1 8 d K ⟨en, n, H⟩ (.sl z xs t) (.sl 1 [x] t2) := by
 match t, h with
 | .nil, h =>
  have h0 : xs = [] := List.length_eq_zero_iff.1 h
  subst h0
  refine NR (by simp) (by simp) (by simp [maxLen]) fun g hg => ?_
  exact hk g (g + 1) _ (.inr hg) (by omega) (by omega) (fun k h1 _ => by rw [upd_ne (by omega)]) (AX _ _ _) (fun k h1 => by rw [upd_ne (by omega)]; exact hs k (by omega)) (fun k h1 => h1.elim)
 | .own g0, h =>
  obtain ⟨h1, h2⟩ := h
  have hz := hz (by simp)
  subst hz
  refine GK h1 (by simp; omega) (by simp [maxLen]; omega) fun g n' h3 h4 h5 => ?_
  refine hk g n' _ (h3.elim (fun h => .inl h) .inr) h4 h5 (fun k k1 k2 => ?_) (AX _ _ _) (fun k k1 => ?_) (fun k k1 k2 => ?_)
  ·have : k ≠ g0 := k2
   rw [upd_ne (by rcases h3 with h3 | h3 <;> omega), upd_ne this]
  ·rw [upd_ne (by omega), upd_ne (by omega)]; exact hs k (by omega)
  ·have e : k = g0 := k1
   subst e
   rw [upd_ne k2, AX]
theorem Gb : Ae Tryz.prog 138 = true := by kernel_rfl
theorem TokOk.at_ {t : Tok} {k n n1 : Nat} {H H1 : A3} (h : TokOk t k H n) (hH : ∀ g, CI t g → H1 g = H g) (hn : n ≤ n1) : TokOk t k H1 n1 := by
 match t, h with
 | .nil, h => exact h
 | .own g, h => exact ⟨(hH g rfl).trans h.1, by have := h.2; omega⟩
theorem TokOk.lt {t : Tok} {k n : Nat} {H : A3} (h : TokOk t k H n) : ∀ g, CI t g → g < n := by
 match t, h with
 | .nil, h => exact fun g hg => hg.elim
 | .own k, h => intro g hg; have e : g = k := hg; subst e; exact h.2
def HC (xs : List Int) (fin : AZ) (m i : Nat) : Aq := if m = 0 then [] else (xs.drop i).map (fun x => (x, fin)) ++ Eo xs fin (m - 1)
theorem M7 (fin : AZ) : ∀ m, Eo [] fin m = []
 | 0 => rfl
 | m + 1 => by simp [Eo, M7 fin m]
theorem WW (fin : AZ) (m i : Nat) : HC [] fin m i = [] := by simp [HC, M7]
theorem Jl {xs : List Int} {fin : AZ} {m i : Nat} {y : Int} (hm : m ≠ 0) (hy : xs[i]? = some y) : HC xs fin m i = (y, fin) :: HC xs fin m (i + 1) := by
 simp only [HC, if_neg hm, drop_at hy, List.map_cons, List.cons_append]
theorem VX {xs : List Int} {fin : AZ} {m : Nat} (hm : 2 ≤ m) : HC xs fin m xs.length = HC xs fin (m - 1) 0 := by
 obtain ⟨k, rfl⟩ : ∃ k, m = k + 2 := ⟨m - 2, by omega⟩
 simp [HC, Eo]
theorem VW {xs : List Int} {fin : AZ} : HC xs fin 1 xs.length = [] := by simp [HC, Eo]
theorem Sr {gO lo : Nat} {fin : AZ} {g1 g2 g3 g4 z : Nat} {t : Tok} {xs : List Int} {px : AV} (n12 : g1 ≠ g2) (n13 : g1 ≠ g3) (n14 : g1 ≠ g4) (n23 : g2 ≠ g3) (n24 : g2 ≠ g4) (n34 : g3 ≠ g4) (hxl : xs.length ≤ 5000) : ∀ (N m i : Nat) (O : Nat → Prop) (H0 : A3) (n0 : Nat), (HC xs fin m i).length ≤ N → m ≤ 20 → i ≤ xs.length → ¬ O gO → (∀ g, O g → g < n0) →
  Bx O gO g1 H0 n0 (Bm m) → Bx O gO g2 H0 n0 (Bm i) → Bx O gO g3 H0 n0 (Bt px) → Bx O gO g4 H0 n0 (.cells 22 [.sl z (xs.map aI) t]) → z = 1 ∨ xs = [] →
  Raw false gO lo fin (.fn 138 [] [.ptr g1 0, .ptr g2 0, .ptr g3 0, .ptr g4 0]) (HC xs fin m i) fin (fun g => O g ∨ g = g1 ∨ g = g2 ∨ g = g3 ∨ g = g4) H0 n0 := by
 intro N
 induction N using Nat.strongRecOn with
 | _ N ih =>
  intro m i O H0 n0 hN hm hi noO hbel B1 B2 B3 B4 hz
  refine Raw.of fun n H gg cs hn hag hgg hgO hgv => ?_
  replace B1 := B1.to hn (hag g1 (.inr (.inl rfl)))
  have q1 := B1.at_
  have ng1 : gg ≠ g1 := fun h => hgg (.inr (.inl h))
  replace B2 := B2.to hn (hag g2 (.inr (.inr (.inl rfl))))
  have q2 := B2.at_
  have ng2 : gg ≠ g2 := fun h => hgg (.inr (.inr (.inl h)))
  replace B3 := B3.to hn (hag g3 (.inr (.inr (.inr (.inl rfl)))))
  have q3 := B3.at_
  have ng3 : gg ≠ g3 := fun h => hgg (.inr (.inr (.inr (.inl h))))
  replace B4 := B4.to hn (hag g4 (.inr (.inr (.inr (.inr rfl)))))
  have q4 := B4.at_
  have ng4 : gg ≠ g4 := fun h => hgg (.inr (.inr (.inr (.inr h))))
  have nog : ¬ O gg := fun h => hgg (.inl h)
  replace hbel : ∀ g, O g → g < n := fun g h => Nat.lt_of_lt_of_le (hbel g h) hn
  refine ⟨Gb, ?_⟩
  have hA := Aft.same hgv hbel
  generalize hR : Cv _ _ _ _ _ _ _ _ _ _ _ = R
  refine A8 Tryz.func138 JW rfl fun hs => ?_
  by_cases m0 : m = 0
  ·subst m0
   repeat' (first | (simp -implicitDefEqProofs [CU, CP, CR, CQ, CX, CY, Ca, CL, c138, -getElem?_pos, q1, splice, -AH]) | (simp (disch := omega) only [AA]) | (with_reducible first | refine A6 ?_ ?_ ?_ | exact AC | assumption | refine A0 ?_ | refine KM.of ?_ | refine AB ?_ | refine AE ?_ | refine AJ ?_ | refine AG ?_ | intro _g _hg | refine AD ?_ ?_ | intro _hc) | omega)
   subst hR
   exact AI (r := .tup [_, _]) rfl (by omega) hs ⟨0, _, rfl, ((hA).ext (B := fun g => g = g1 ∨ g = g2 ∨ g = g3 ∨ g = g4) (fun g h => by have := B1.lt; have := B2.lt; have := B3.lt; have := B4.lt; rcases h with rfl | rfl | rfl | rfl <;> omega) (fun _ _ => rfl) (fun _ _ => rfl) (fun h => h.elim ng1 (fun h => h.elim ng2 (fun h => h.elim ng3 ng4)))), fun h => by cases h⟩
  ·have m0' : ¬ (m : Int) = 0 := by omega
   have i0 : ¬ (i : Int) < 0 := by omega
   have hxm : (xs.map aI).length = xs.length := by simp
   by_cases il : i = xs.length
   ·have il' : (i : Int) = xs.length := by omega
    have hw : (m : Int) - 1 = ((m - 1 : Nat) : Int) := by omega
    by_cases m1 : m = 1
    ·subst m1
     repeat' (first | (simp -implicitDefEqProofs [CU, CP, CR, CQ, CX, CY, Ca, CL, c138, -getElem?_pos, q1, q2, q3, q4, hxm, m0', i0, il', n12, n13, n14, n23, n24, n34, Ne.symm n12, splice, -AH]) | (simp (disch := omega) only [AA]) | (with_reducible first | refine A6 ?_ ?_ ?_ | exact AC | assumption | refine A0 ?_ | refine KM.of ?_ | refine AB ?_ | refine AE ?_ | refine AJ ?_ | refine AG ?_ | intro _g _hg | refine AD ?_ ?_ | intro _hc) | omega)
     subst hR
     rw [il, VW]
     exact AI (r := .tup [_, _]) rfl (by omega) (fun k hk => by have := B1.lt; have := B2.lt; rw [upd_ne (by omega), upd_ne (by omega)]; exact hs k hk) ⟨0, _, rfl, ((hA).ext (B := fun g => g = g1 ∨ g = g2 ∨ g = g3 ∨ g = g4) (fun g h => by have := B1.lt; have := B2.lt; have := B3.lt; have := B4.lt; rcases h with rfl | rfl | rfl | rfl <;> omega) (fun _ _ => rfl) (fun g h => by rw [upd_ne (fun e => h (.inl e))]; rw [upd_ne (fun e => h (.inr (.inl e)))]) (fun h => h.elim ng1 (fun h => h.elim ng2 (fun h => h.elim ng3 ng4)))), fun h => by cases h⟩
    ·have hm1 : (0 : Int) < ((m - 1 : Nat) : Int) := by omega
     cases xs with
     | nil =>
      subst il
      repeat' (first | (simp -implicitDefEqProofs [CU, CP, CR, CQ, CX, CY, Ca, CL, c138, -getElem?_pos, q1, q2, q3, q4, hxm, m0', i0, il', hw, hm1, n12, n13, n14, n23, n24, n34, Ne.symm n12, splice, -AH]) | (simp (disch := omega) only [AA]) | (with_reducible first | refine A6 ?_ ?_ ?_ | exact AC | assumption | refine A0 ?_ | refine KM.of ?_ | refine AB ?_ | refine AE ?_ | refine AJ ?_ | refine AG ?_ | intro _g _hg | refine AD ?_ ?_ | intro _hc) | omega)
      subst hR
      rw [WW]
      exact AI (r := .tup [_, _]) rfl (by omega) (fun k hk => by have := B1.lt; have := B2.lt; rw [upd_ne (by omega), upd_ne (by omega)]; exact hs k hk) ⟨0, _, rfl, ((hA).ext (B := fun g => g = g1 ∨ g = g2 ∨ g = g3 ∨ g = g4) (fun g h => by have := B1.lt; have := B2.lt; have := B3.lt; have := B4.lt; rcases h with rfl | rfl | rfl | rfl <;> omega) (fun _ _ => rfl) (fun g h => by rw [upd_ne (fun e => h (.inl e))]; rw [upd_ne (fun e => h (.inr (.inl e)))]) (fun h => h.elim ng1 (fun h => h.elim ng2 (fun h => h.elim ng3 ng4)))), fun h => by cases h⟩
     | cons y ys =>
      have hstep := Jl (xs := y :: ys) (fin := fin) (m := m - 1) (i := 0) (y := y) (by omega) rfl
      have hnx := VX (xs := y :: ys) (fin := fin) (m := m) (by omega)
      rw [← il] at hnx
      have hN2 : (HC (y :: ys) fin (m - 1) 1).length < N := by rw [hnx, hstep] at hN; simp at hN; omega
      have hpos : (0 : Int) < (ys.map aI).length + 1 := by omega
      simp only [List.map_cons] at B4 q4 hxm
      have hml : ¬ ((ys.map aI).length : Int) + 1 = 0 := by omega
      have hz1 : z = 1 := hz.elim id (fun h => by cases h)
      subst hz1
      have ih2 := ih _ hN2 (m - 1) 1
      rw [hnx, hstep] at hR
      generalize hys : ys.map aI = ysa at *
      repeat' (first | (simp -implicitDefEqProofs [CU, CP, CR, CQ, CX, CY, Ca, CL, c138, -getElem?_pos, q1, q2, q3, q4, hxm, m0', i0, il', hw, hm1, hml, n12, n13, n14, n23, n24, n34, Ne.symm n12, splice, -AH]) | (simp (disch := omega) only [AA]) | (with_reducible first | refine A6 ?_ ?_ ?_ | exact AC | assumption | refine A0 ?_ | refine KM.of ?_ | refine AB ?_ | refine AE ?_ | refine AJ ?_ | refine AG ?_ | intro _g _hg | refine AD ?_ ?_ | intro _hc) | omega)
      subst hR
      refine AI (r := .tup [_, _]) rfl (by omega) (fun k hk => by have := B1.lt; have := B2.lt; rw [upd_ne (by omega), upd_ne (by omega), upd_ne (by omega)]; exact hs k hk) ⟨_, rfl, ((hA).ext (B := fun g => g = g1 ∨ g = g2 ∨ g = g3 ∨ g = g4) (fun g h => by have := B1.lt; have := B2.lt; have := B3.lt; have := B4.lt; rcases h with rfl | rfl | rfl | rfl <;> omega) (fun _ _ => rfl) (fun g h => by rw [upd_ne (fun e => h (.inr (.inl e)))]; rw [upd_ne (fun e => h (.inl e))]; rw [upd_ne (fun e => h (.inr (.inl e)))]) (fun h => h.elim ng1 (fun h => h.elim ng2 (fun h => h.elim ng3 ng4)))), ?_⟩
      refine ih2 O _ n (Nat.le_refl _) (by omega) (by simp) noO hbel ?_ ?_ ?_ ?_ (.inl rfl)
      ·exact ((B1.keep n12).set _).keep n12
      ·exact ((B2.set _).keep (Ne.symm n12)).set _
      ·exact ((B3.keep (Ne.symm n23)).keep (Ne.symm n13)).keep (Ne.symm n23)
      ·rw [List.map_cons, hys]; exact ((B4.keep (Ne.symm n24)).keep (Ne.symm n14)).keep (Ne.symm n24)
   ·have il2 : i < xs.length := by omega
    have il' : ¬ (i : Int) = xs.length := by omega
    obtain ⟨y, hy⟩ : ∃ y, xs[i]? = some y := ⟨_, List.getElem?_eq_getElem il2⟩
    have hya := IF (f := aI) hy
    have hstep := Jl (xs := xs) (fin := fin) (m := m) (i := i) (y := y) m0 hy
    have hml : ¬ (xs.length : Int) = 0 := by omega
    have hmp : ¬ (m : Int) ≤ 0 := by omega
    have hmp2 : (0 : Int) < m := by omega
    have hw : IntKind.i64.wrap ((i : Int) + 1) = ((i + 1 : Nat) : Int) := by rw [IntWalk.i64_in _ (by omega)]; omega
    have hw2 : IntKind.i64.wrap (((i + 1 : Nat) : Int) - 1) = i := by rw [IntWalk.i64_in _ (by omega)]; omega
    have hN2 : (HC xs fin m (i + 1)).length < N := by rw [hstep] at hN; simp at hN; omega
    have hz1 : z = 1 := hz.elim id (fun h => by subst h; simp at il2)
    subst hz1
    have hml3 : ((xs.length : Int) == 0) = false := by simpa using hml
    have ih2 := ih _ hN2 m (i + 1)
    rw [hstep] at hR
    generalize hxa : xs.map aI = xsa at *
    generalize hi1 : ((i + 1 : Nat) : Int) = i1 at *
    repeat' (first | (simp -implicitDefEqProofs [CU, CP, CR, CQ, CX, CY, Ca, CL, c138, -getElem?_pos, q1, q2, q3, q4, hxm, m0', i0, il', hw, hw2, hml, hmp, hmp2, m0, hml3, hya, n12, n13, n14, n23, n24, n34, Ne.symm n12, splice, -AH]) | (simp (disch := omega) only [AA]) | (with_reducible first | refine A6 ?_ ?_ ?_ | exact AC | assumption | refine A0 ?_ | refine KM.of ?_ | refine AB ?_ | refine AE ?_ | refine AJ ?_ | refine AG ?_ | intro _g _hg | refine AD ?_ ?_ | intro _hc) | omega)
    subst hR
    refine AI (r := .tup [_, _]) rfl (by omega) (fun k hk => by have := B2.lt; rw [upd_ne (by omega)]; exact hs k hk) ⟨_, rfl, ((hA).ext (B := fun g => g = g1 ∨ g = g2 ∨ g = g3 ∨ g = g4) (fun g h => by have := B1.lt; have := B2.lt; have := B3.lt; have := B4.lt; rcases h with rfl | rfl | rfl | rfl <;> omega) (fun _ _ => rfl) (fun g h => by rw [upd_ne (fun e => h (.inr (.inl e)))]) (fun h => h.elim ng1 (fun h => h.elim ng2 (fun h => h.elim ng3 ng4)))), ?_⟩
    refine ih2 O _ n (Nat.le_refl _) (by omega) (by omega) noO hbel (B1.keep n12) ?_ (B3.keep (Ne.symm n23)) ?_ (.inl rfl)
    ·exact B2.set _
    ·exact B4.keep (Ne.symm n24)
end Go.Proofs.YtjdccdelcnmocaaGreatDoor

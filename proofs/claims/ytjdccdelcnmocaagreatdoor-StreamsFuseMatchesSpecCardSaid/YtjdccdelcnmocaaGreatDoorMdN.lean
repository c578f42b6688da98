/- Streams: sources that repeat elements: the first round; no condition. -/
import Derived.Test.YtjdccdelcnmocaaGreatDoorMdM
set_option linter.all false
set_option linter.unusedSimpArgs false
set_option linter.unusedVariables false
namespace Go.Proofs.YtjdccdelcnmocaaGreatDoor
abbrev OT (p : Pt) (t : Tok) : Nat → Prop := fun g => OU [p] g ∨ Io t g
structure SitT (gO lo : Nat) (p : Pt) (t : Tok) (k : Nat) (H : A6) (n gg : Nat) (cs : Av) : Prop where
 sit : Sit gO lo [p] H n gg cs
 tok : TokOk t k H n
 dj : ∀ g, Io t g → ¬ OU [p] g
 ngt : ¬ Io t gg
 nOt : ¬ Io t gO
theorem SitT.bel {gO lo k n gg : Nat} {p : Pt} {t : Tok} {H : A6} {cs : Av} (h : SitT gO lo p t k H n gg cs) : ∀ g, OT p t g → g < n := fun g hg => hg.elim (h.sit.pts.bel g) (h.tok.lt g)
theorem SitT.call {gO lo k n gg : Nat} {p : Pt} {t : Tok} {H : A6} {cs : Av} {d : Option Nat} {K : AS → Prop} {en : Ai} (h : SitT gO lo p t k H n gg cs)
  (hk : ∀ r n' H' p', n ≤ n' → PtR p r p' → (CJ [p']).length = (CJ [p]).length → SitT gO lo p' t k H' n' gg (EA cs lo (CJ [p'])) → Aft lo gg cs (CJ [p']) (OT p t) n H n' H' (OT p' t) → K ⟨Ad en d r, n', H'⟩) :
  BL Tryz.prog d K en n H [] p.x := by
 refine h.sit.hd (fun r n' H' p' hle hr hl hS ha => ?_)
 have hfr : ∀ g, Io t g → H' g = H g := fun g hg => ha.fr g (h.tok.lt g hg) (h.dj g hg) (fun e => h.ngt (e ▸ hg))
 refine hk r n' H' p' hle hr hl ⟨hS, h.tok.at_ hfr hle, fun g hg hp => (ha.sub g hp).elim (h.dj g hg) (fun h2 => by have := h.tok.lt g hg; omega), h.ngt, h.nOt⟩ ?_
 exact ha.ext (B := Io t) (fun g hg => h.tok.lt g hg) (fun _ _ => rfl) (fun _ _ => rfl) h.ngt
theorem SitT.keep {gO lo k n gg g : Nat} {p : Pt} {t : Tok} {H : A6} {cs : Av} {x : Option AObj} (h : SitT gO lo p t k H n gg cs) (h1 : ¬ OT p t g) (h2 : gO ≠ g) (h3 : gg ≠ g) (h4 : g < n) : SitT gO lo p t k (upd H g x) n gg cs :=
 ⟨h.sit.keep (fun k => h1 (.inl k)) h2 h3 h4, h.tok.at_ (fun k hk => upd_ne (fun e => h1 (.inr (e ▸ hk)))) (Nat.le_refl _), h.dj, h.ngt, h.nOt⟩
structure Rep' (t : Tok) (k' : Nat) (n : Nat) (H : A6) (g' n' : Nat) (H' : A6) : Prop where
 wh : Io t g' ∨ n ≤ g'
 le : n ≤ n'
 lt : g' < n'
 fr : ∀ k, k < n → ¬ Io t k → H' k = H k
 at_ : H' g' = some (.row 3 k')
 sup : ∀ k, n' ≤ k → H' k = none
theorem SitT.app {gO lo k k' n gg n' g' : Nat} {p : Pt} {t : Tok} {H H' : A6} {cs : Av} (h : SitT gO lo p t k H n gg cs) (r : Rep' t k' n H g' n' H') : SitT gO lo p (.own g') k' H' n' gg cs := by
 have hlt := h.sit.giv.lt h.sit.sup
 refine ⟨⟨h.sit.pts.at_ (fun g hg => r.fr g (h.sit.pts.bel g hg) (fun k => h.dj g k hg)) r.le, ⟨(r.fr gO hlt.1 h.nOt).trans h.sit.giv.opn, (r.fr gg hlt.2 h.ngt).trans h.sit.giv.giv, h.sit.giv.fit, h.sit.giv.at_⟩, h.sit.ngg, h.sit.ngO, r.sup⟩, ⟨r.at_, r.lt⟩, fun g hg hp => ?_, fun hg => ?_, fun hg => ?_⟩
 ·have e : g = g' := hg
  subst e
  exact r.wh.elim (fun k => h.dj g k hp) (fun k => by have := h.sit.pts.bel g hp; omega)
 ·have e : gg = g' := hg
  subst e
  exact r.wh.elim h.ngt (fun k => by omega)
 ·have e : gO = g' := hg
  subst e
  exact r.wh.elim h.nOt (fun k => by omega)
theorem Bx.app {gO k' n g n' g' : Nat} {p : Pt} {t : Tok} {H H' : A6} {ob : AObj} (b : Bx (OT p t) gO g H n ob) (r : Rep' t k' n H g' n' H') : Bx (OT p (.own g')) gO g H' n' ob := by
 have h1 := b.lt
 have h2 := r.le
 refine ⟨fun hg => hg.elim (fun h => b.no (.inl h)) (fun h => ?_), b.nO, by omega, (r.fr g h1 (fun h => b.no (.inr h))).trans b.at_⟩
 have e : g = g' := h
 subst e
 exact r.wh.elim (fun k => b.no (.inr k)) (fun k => by omega)
theorem Aft.app {lo gg k' n n1 n' g' : Nat} {p p1 : Pt} {t t1 : Tok} {B : Nat → Prop} {cs c : Av} {H H1 H' : A6} (ha : Aft lo gg cs c (fun g => OT p t g ∨ B g) n H n1 H1 (fun g => OT p1 t1 g ∨ B g)) (r : Rep' t1 k' n1 H1 g' n' H') (hb : ∀ g, OT p1 t1 g → g < n1) (hg : gg < n1) (hgt : ¬ Io t1 gg) : Aft lo gg cs c (fun g => OT p t g ∨ B g) n H n' H' (fun g => OT p1 (.own g') g ∨ B g) := by
 have h2 := r.le
 have h3 := ha.le
 refine ⟨by omega, fun g hg => ?_, fun g hg => ?_, fun g k1 k2 k3 => ?_, (r.fr gg hg hgt).trans ha.giv⟩
 ·rcases hg with (hg | hg) | hg
  ·exact ha.sub g (.inl (.inl hg))
  ·have e : g = g' := hg
   subst e
   exact r.wh.elim (fun k => ha.sub g (.inl (.inr k))) (fun k => .inr (by omega))
  ·exact ha.sub g (.inr hg)
 ·rcases hg with (hg | hg) | hg
  ·have := hb g (.inl hg); omega
  ·have e : g = g' := hg
   have := r.lt; omega
  ·have := ha.bel g (.inr hg); omega
 ·have h4 : ¬ Io t1 g := fun k => (ha.sub g (.inl (.inr k))).elim k2 (fun h => by omega)
  rw [r.fr g (by omega) h4]; exact ha.fr g k1 k2 k3
def NewS (e : Bool) (gO lo : Nat) (F : Fut) (O : Nat → Prop) (n : Nat) (H : A6) : DP := fun r n' H' => Xy r ∧ n ≤ n' ∧ SameB n H H' ∧ (∀ k, n' ≤ k → H' k = none) ∧ ∃ O' : Nat → Prop, (∀ g, O' g → O g ∨ n ≤ g) ∧ (∀ g, O' g → g < n') ∧ Raw e gO lo F.fin r F.l F.cur O' H' n'
attribute [local simp] Nj Fe FS L6 N3 NE LZ Fg F3 Fq HO MF Nf MS MH NT O6 Md Of L5 Me M5 Nc LI M0 TE pe Nt OB NM MM M1 Nw LN Mb Lh Lc NY Mk Lx FX MB MD Nd Lg MO N1 ME MK NN Mf LY LR Ma Ol Mm MC N7 Lm M6 Mr Ly FH ND Fh NJ Mz NC NU Ms Oa NO OS Mx Ld Lw LL LQ L7 OM Ot ON Mg Mn N2 OA O5 Ln O8 MU F9 Oi OY Nu LF Mw Ng Nm Mt Nr Np Nb Oh On OO OK Mo Ny LK Nz Lk LD MJ NK NF M9 L9 Nn LH NW LJ Hv M3 List.mem_cons guardK E5 Er FR HV LU FT Fd FO Fi FD FC F5 FW Fc Lb O9 FZ NH LB Mu Mp ML OW FG OR No OF O4 Lt M2 Hj FY FP F6 Fb Oo N5 FI OJ FF NX F4 FB M7 Fa F8 Ll N0 Ml LW NZ La MZ Lp TF Ju K2 HG KF Jz KD EN Ge Gb Od Ga GX EM E3 Us Jt Jx Gd Jp Jv Dl DQ Bz Bk CH DL BL ev get put EV Ad Cw L8 MP LM Lo K7 OV EF part BO Gn OD GV isNil Ct DJ Dm DN DM Nq Lu MV Mh NV KE NS OQ Og LO Lj M4 N4 Lq OH Mj AV.fits AV.cells ones AV.one E7 CI E1 DI EQ EI MY Es FU CK CB CQ Ew FV Ax Bn VW HB Nx LT List.getElem?_cons_zero List.getElem?_cons_succ FJ FM F7 OI Mc MX Gk Oc OG MI Lv Mi Ok MW Lr Ls MA LX
section
variable {gO lo n : Nat} {fin cur : Av} {px : AV} {l : CL} {O1 : Nat → Prop} {H : A6}
theorem Bx.new {O : Nat → Prop} {g m : Nat} {H2 : A6} {ob : AObj} (hb : ∀ g, O g → g < n) (hO : gO < n) (h1 : n ≤ g) (h2 : g < m) (h3 : H2 g = some ob) : Bx O gO g H2 m ob := ⟨fun h => by have := hb g h; omega, by omega, h2, h3⟩
theorem Pts.newB {ps : List Pt} {n' : Nat} {H' : A6} (h : Pts gO lo ps H n) (hn : n ≤ n') (hs : SameB n H H') : Pts gO lo ps H' n' := h.at_ (fun g hg => hs g (h.bel g hg)) hn
end
section
variable {gO lo n : Nat} {fin cur : Av} {px : AV} {l : CL} {O1 : Nat → Prop} {H : A6}
theorem NewS.up {e : Bool} {F : Fut} {O : Nat → Prop} {n1 n' : Nat} {H1 H' : A6} {r : AV} (h : NewS e gO lo F O n1 H1 r n' H') (hn : n ≤ n1) (hs : SameB n H H1) : NewS e gO lo F O n H r n' H' := by
 obtain ⟨h1, h2, h3, h4, O', h5, h6, h7⟩ := h
 exact ⟨h1, by omega, fun k hk => (h3 k (by omega)).trans (hs k hk), h4, O', fun g hg => (h5 g hg).imp id (fun h => by omega), h6, h7⟩
end
def LS (gO : Nat) (cs : Av) (H : A6) : Option Nat → Prop
 | none => cs = [] ∧ H gO = some (.cells 74 [.sl 0 [] .nil])
 | some gg => H gO = some (.cells 74 [.slg 1 gg cs.length]) ∧ H gg = some (.grow 3 (cs.map aI))
theorem LS.lt {gO n : Nat} {H : A6} {cs : Av} {q : Option Nat} (h : LS gO cs H q) (hs : ∀ g, n ≤ g → H g = none) : gO < n ∧ ∀ g, q = some g → g < n ∧ gO ≠ g := by
 have k1 : ∀ (g : Nat) (ob : AObj), H g = some ob → g < n := fun g ob h => by
  rcases Nat.lt_or_ge g n with h1 | h1
  ·exact h1
  ·rw [hs g h1] at h; cases h
 match q, h with
 | none, h => exact ⟨k1 _ _ h.2, fun g h => by cases h⟩
 | some gg, h =>
  refine ⟨k1 _ _ h.1, fun g e => ?_⟩
  injection e with e
  subst e
  exact ⟨k1 _ _ h.2, fun e => by have := h.1; rw [e, h.2] at this; cases this⟩
end Go.Proofs.YtjdccdelcnmocaaGreatDoor

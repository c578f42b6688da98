/- Streams: sources that skip elements, or repeated ones; no condition. -/
import Derived.Test.YtjdccdelcnmocaaGreatDoorMgJ
import Derived.Test.YtjdccdelcnmocaaGreatDoorMdM
set_option linter.all false
set_option linter.unusedSimpArgs false
set_option linter.unusedVariables false
set_option maxHeartbeats 1000000
namespace Go.Proofs.YtjdccdelcnmocaaGreatDoor
def CT : Tok → Nat → Prop
 | .own k, g => g = k
 | _, _ => False
def TokOk (t : Tok) (k : Nat) (H : A4) (n : Nat) : Prop := match t with
 | .own g => H g = some (.row 3 k) ∧ g < n
 | .nil => k = 0
 | .ro => False
theorem Nu {t t2 : Tok} {xs : List AV} {x : AV} {z : Nat} {d : Option Nat} {K : AS → Prop} {en : AT} {n : Nat} {H : A4} (h : TokOk t xs.length H n) (hz : t ≠ .nil → z = 1) (hl : xs.length ≤ 1000000) (hs : ∀ g, n ≤ g → H g = none)
  (hk : ∀ g' n' H', (CT t g' ∨ n ≤ g') → n ≤ n' → g' < n' → (∀ k, k < n → ¬ CT t k → H' k = H k) → H' g' = some (.row 3 (xs.length + 1)) → (∀ k, n' ≤ k → H' k = none) → (∀ k, CT t k → k ≠ g' → H' k = none) → K ⟨AP en d (.sl 1 (xs ++ [x]) (.own g')), n', H'⟩) :
  appKS 3 1 8 d K ⟨en, n, H⟩ (.sl z xs t) (.sl 1 [x] t2) := by
 match t, h with
 | .nil, h =>
  have h0 : xs = [] := List.length_eq_zero_iff.1 h
  subst h0
  refine Qw (by simp) (by simp) (by simp [maxLen]) fun g hg => ?_
  exact hk g (g + 1) _ (.inr hg) (by omega) (by omega) (fun k h1 _ => by rw [upd_ne (by omega)]) (AX _ _ _) (fun k h1 => by rw [upd_ne (by omega)]; exact hs k (by omega)) (fun k h1 => h1.elim)
 | .own g0, h =>
  obtain ⟨h1, h2⟩ := h
  have hz := hz (by simp)
  subst hz
  refine Qh h1 (by simp; omega) (by simp [maxLen]; omega) fun g n' h3 h4 h5 => ?_
  refine hk g n' _ (h3.elim (fun h => .inl h) .inr) h4 h5 (fun k k1 k2 => ?_) (AX _ _ _) (fun k k1 => ?_) (fun k k1 k2 => ?_)
  ·have : k ≠ g0 := k2
   rw [upd_ne (by rcases h3 with h3 | h3 <;> omega), upd_ne this]
  ·rw [upd_ne (by omega), upd_ne (by omega)]; exact hs k (by omega)
  ·have e : k = g0 := k1
   subst e
   rw [upd_ne k2, AX]
theorem TokOk.at_ {t : Tok} {k n n1 : Nat} {H H1 : A4} (h : TokOk t k H n) (hH : ∀ g, CT t g → H1 g = H g) (hn : n ≤ n1) : TokOk t k H1 n1 := by
 match t, h with
 | .nil, h => exact h
 | .own g, h => exact ⟨(hH g rfl).trans h.1, by have := h.2; omega⟩
theorem TokOk.lt {t : Tok} {k n : Nat} {H : A4} (h : TokOk t k H n) : ∀ g, CT t g → g < n := by
 match t, h with
 | .nil, h => exact fun g hg => hg.elim
 | .own k, h => intro g hg; have e : g = k := hg; subst e; exact h.2
attribute [local simp] Kz De DC Kv Lp Je Jw Dj DK Fe Fi KJ JN LL KL Ig JX Ix L9 Kn K6 Kk LJ K3 Ji RM pe KK Io Iu JW JI Kf Ir L7 Jx LH J5 L8 Is DT J0 Ju Jg Ih Li Lf K5 KN Js LO Ks LC La Im Ip Ln JQ Kt Jt JF L4 DG Lv DY Kq JZ Ky LB LG Lk KH JM LE Jr LF KA JU L0 JY JB Lo JJ Ly Jl Lm Ik Jm Jf Kw DJ KO Lj JG Ld Jn Lh Kj J9 Kp Kb Lc K2 KE LR Il Lq JC L3 Km JR Lz Jd LN L2 M1 LM Lr KG Iv JO L1 LK List.mem_cons guardK CR Ez F6 Fa Lx DX DF DL Dd DP DM DN Dh D9 M0 Ki Dg KF LP JV Jp Kc K8 DR KX LV J1 JA LW LQ Fj DQ DS DH DA Lw Ja DW Ii DD L6 Db DE Ku DO DU LZ LD KR Lg Kl J7 L5 J4 RL IR IV Gt IN IS IL Cx FB FA KV FC F8 Cv CY Sc IH II F9 IK IT D0 D4 Bg BG C3 CK Ar ev get put GQ AP Cr Jc K4 Kd LI JT Jh EF part BZ HA Jy Gx isNil CA CG EL CQ C1 Kx JP J3 KI Iq IF Ij JE Jo LU Jq Jv K7 Jz KZ Iz AV.fits AV.cells ones AV.one EK CD EE E2 FV ES Ll GB Fy CH Br C5 F3 Gg AX BY TO Fc Ko Ie List.getElem?_cons_zero List.getElem?_cons_succ Dc Df Di J8 Kg Ls H9 It Kh JK KD Ke LT JH Lu Iw LY JD
abbrev OT (p : Pt) (t : Tok) : Nat → Prop := fun g => OU [p] g ∨ CT t g
structure SitT (gO lo : Nat) (p : Pt) (t : Tok) (k : Nat) (H : A4) (n gg : Nat) (cs : Ai) : Prop where
 sit : Sit gO lo [p] H n gg cs
 tok : TokOk t k H n
 dj : ∀ g, CT t g → ¬ OU [p] g
 ngt : ¬ CT t gg
 nOt : ¬ CT t gO
theorem SitT.bel {gO lo k n gg : Nat} {p : Pt} {t : Tok} {H : A4} {cs : Ai} (h : SitT gO lo p t k H n gg cs) : ∀ g, OT p t g → g < n := fun g hg => hg.elim (h.sit.pts.bel g) (h.tok.lt g)
theorem SitT.call {gO lo k n gg : Nat} {p : Pt} {t : Tok} {H : A4} {cs : Ai} {d : Option Nat} {K : AS → Prop} {en : AT} (h : SitT gO lo p t k H n gg cs)
  (hk : ∀ r n' H' p', n ≤ n' → PtR p r p' → (Ap [p']).length = (Ap [p]).length → SitT gO lo p' t k H' n' gg (EA cs lo (Ap [p'])) → Aft lo gg cs (Ap [p']) (OT p t) n H n' H' (OT p' t) → K ⟨AP en d r, n', H'⟩) :
  Ar Tryz.prog d K en n H [] p.x := by
 refine h.sit.hd (fun r n' H' p' hle hr hl hS ha => ?_)
 have hfr : ∀ g, CT t g → H' g = H g := fun g hg => ha.fr g (h.tok.lt g hg) (h.dj g hg) (fun e => h.ngt (e ▸ hg))
 refine hk r n' H' p' hle hr hl ⟨hS, h.tok.at_ hfr hle, fun g hg hp => (ha.sub g hp).elim (h.dj g hg) (fun h2 => by have := h.tok.lt g hg; omega), h.ngt, h.nOt⟩ ?_
 exact ha.ext (B := CT t) (fun g hg => h.tok.lt g hg) (fun _ _ => rfl) (fun _ _ => rfl) h.ngt
theorem SitT.keep {gO lo k n gg g : Nat} {p : Pt} {t : Tok} {H : A4} {cs : Ai} {x : Option AObj} (h : SitT gO lo p t k H n gg cs) (h1 : ¬ OT p t g) (h2 : gO ≠ g) (h3 : gg ≠ g) (h4 : g < n) : SitT gO lo p t k (upd H g x) n gg cs :=
 ⟨h.sit.keep (fun k => h1 (.inl k)) h2 h3 h4, h.tok.at_ (fun k hk => upd_ne (fun e => h1 (.inr (e ▸ hk)))) (Nat.le_refl _), h.dj, h.ngt, h.nOt⟩
structure Rep' (t : Tok) (k' : Nat) (n : Nat) (H : A4) (g' n' : Nat) (H' : A4) : Prop where
 wh : CT t g' ∨ n ≤ g'
 le : n ≤ n'
 lt : g' < n'
 fr : ∀ k, k < n → ¬ CT t k → H' k = H k
 at_ : H' g' = some (.row 3 k')
 sup : ∀ k, n' ≤ k → H' k = none
theorem SitT.app {gO lo k k' n gg n' g' : Nat} {p : Pt} {t : Tok} {H H' : A4} {cs : Ai} (h : SitT gO lo p t k H n gg cs) (r : Rep' t k' n H g' n' H') : SitT gO lo p (.own g') k' H' n' gg cs := by
 have hlt := h.sit.giv.lt h.sit.sup
 refine ⟨⟨h.sit.pts.at_ (fun g hg => r.fr g (h.sit.pts.bel g hg) (fun k => h.dj g k hg)) r.le, ⟨(r.fr gO hlt.1 h.nOt).trans h.sit.giv.opn, (r.fr gg hlt.2 h.ngt).trans h.sit.giv.giv, h.sit.giv.fit, h.sit.giv.at_⟩, h.sit.ngg, h.sit.ngO, r.sup⟩, ⟨r.at_, r.lt⟩, fun g hg hp => ?_, fun hg => ?_, fun hg => ?_⟩
 ·have e : g = g' := hg
  subst e
  exact r.wh.elim (fun k => h.dj g k hp) (fun k => by have := h.sit.pts.bel g hp; omega)
 ·have e : gg = g' := hg
  subst e
  exact r.wh.elim h.ngt (fun k => by omega)
 ·have e : gO = g' := hg
  subst e
  exact r.wh.elim h.nOt (fun k => by omega)
theorem Bx.app {gO k' n g n' g' : Nat} {p : Pt} {t : Tok} {H H' : A4} {ob : AObj} (b : Bx (OT p t) gO g H n ob) (r : Rep' t k' n H g' n' H') : Bx (OT p (.own g')) gO g H' n' ob := by
 have h1 := b.lt
 have h2 := r.le
 refine ⟨fun hg => hg.elim (fun h => b.no (.inl h)) (fun h => ?_), b.nO, by omega, (r.fr g h1 (fun h => b.no (.inr h))).trans b.at_⟩
 have e : g = g' := h
 subst e
 exact r.wh.elim (fun k => b.no (.inr k)) (fun k => by omega)
theorem Aft.app {lo gg k' n n1 n' g' : Nat} {p p1 : Pt} {t t1 : Tok} {B : Nat → Prop} {cs c : Ai} {H H1 H' : A4} (ha : Aft lo gg cs c (fun g => OT p t g ∨ B g) n H n1 H1 (fun g => OT p1 t1 g ∨ B g)) (r : Rep' t1 k' n1 H1 g' n' H') (hb : ∀ g, OT p1 t1 g → g < n1) (hg : gg < n1) (hgt : ¬ CT t1 gg) : Aft lo gg cs c (fun g => OT p t g ∨ B g) n H n' H' (fun g => OT p1 (.own g') g ∨ B g) := by
 have h2 := r.le
 have h3 := ha.le
 refine ⟨by omega, fun g hg => ?_, fun g hg => ?_, fun g k1 k2 k3 => ?_, (r.fr gg hg hgt).trans ha.giv⟩
 ·rcases hg with (hg | hg) | hg
  ·exact ha.sub g (.inl (.inl hg))
  ·have e : g = g' := hg
   subst e
   exact r.wh.elim (fun k => ha.sub g (.inl (.inr k))) (fun k => .inr (by omega))
  ·exact ha.sub g (.inr hg)
 ·rcases hg with (hg | hg) | hg
  ·have := hb g (.inl hg); omega
  ·have e : g = g' := hg
   have := r.lt; omega
  ·have := ha.bel g (.inr hg); omega
 ·have h4 : ¬ CT t1 g := fun k => (ha.sub g (.inl (.inr k))).elim k2 (fun h => by omega)
  rw [r.fr g (by omega) h4]; exact ha.fr g k1 k2 k3
def NewS (e : Bool) (gO lo : Nat) (F : Fut) (O : Nat → Prop) (n : Nat) (H : A4) : Bi := fun r n' H' => Ox r ∧ n ≤ n' ∧ SameB n H H' ∧ (∀ k, n' ≤ k → H' k = none) ∧ ∃ O' : Nat → Prop, (∀ g, O' g → O g ∨ n ≤ g) ∧ (∀ g, O' g → g < n') ∧ Raw e gO lo F.fin r F.l F.cur O' H' n'
section
variable {gO lo n : Nat} {fin cur : Ai} {px : AV} {l : Bc} {O1 : Nat → Prop} {H : A4}
theorem Bx.new {O : Nat → Prop} {g m : Nat} {H2 : A4} {ob : AObj} (hb : ∀ g, O g → g < n) (hO : gO < n) (h1 : n ≤ g) (h2 : g < m) (h3 : H2 g = some ob) : Bx O gO g H2 m ob := ⟨fun h => by have := hb g h; omega, by omega, h2, h3⟩
theorem Pts.newB {ps : List Pt} {n' : Nat} {H' : A4} (h : Pts gO lo ps H n) (hn : n ≤ n') (hs : SameB n H H') : Pts gO lo ps H' n' := h.at_ (fun g hg => hs g (h.bel g hg)) hn
theorem Pf (h : Pts gO lo [⟨px, some l, cur, fin, O1⟩] H n) : Raw true gO lo fin px l cur O1 H n ∧ monL cur l fin ∧ ∀ g, O1 g → g < n := ⟨h.1.1, h.1.2, h.2.1⟩
theorem WR {F : Fut} {O : Nat → Prop} (hr : Raw false gO lo F.fin px F.l F.cur O H n) (hx : Ox px) (hb : ∀ g, O g → g < n) (hnO : ¬ O gO) (hO : gO < n) : ACalls Tryz.prog 71 [px] n H (NewS true gO lo F O n H) := by
 generalize hR : NewS _ _ _ _ _ _ _ = R
 obtain ⟨ff, fa, fb, rfl⟩ := hx
 refine Ab Tryz.func71 A3a rfl fun hs => ?_
 repeat' (first | (simp -implicitDefEqProofs [c71, -getElem?_pos, splice, -Ar]) | (simp (disch := omega) only [AF]) | (with_reducible first | refine A7 ?_ ?_ ?_ | exact AB | assumption | refine A3 ?_ | refine KM.of ?_ | refine AG ?_ | refine A2 ?_ | refine A5 ?_ | intro _g _hg | refine AE ?_ ?_ | intro _hc) | omega)
 rename_i g2 hg2
 subst hR
 refine BI (r := .fn _ [] [.ptr _g 0, .ptr g2 0]) rfl (by omega) (fun k hk => by simp (disch := omega) only [upd_ne]; exact hs k (by omega)) ⟨⟨_, _, _, rfl⟩, by omega, (fun k hk => by simp (disch := omega) only [upd_ne]), (fun k hk => by simp (disch := omega) only [upd_ne]; exact hs k (by omega)), _, ?_, ?_, WV (by omega) F.l F.cur O _ _ (hr.at_ (fun g hg => by have := hb g hg; simp (disch := omega) only [upd_ne]) (by omega)) hnO (fun g hg => by have := hb g hg; omega) (Bx.new hb hO (by omega) (by omega) (by simp (disch := omega) only [upd_ne, AX] <;> rfl)) (Bx.new hb hO (by omega) (by omega) (by simp (disch := omega) only [upd_ne, AX] <;> rfl))⟩
 ·rintro g (h | h | h)
  ·exact .inl h
  ·exact .inr (by omega)
  ·exact .inr (by omega)
 ·rintro g (h | h | h)
  ·have := hb g h; omega
  ·omega
  ·omega
end
section
variable {gO lo n : Nat} {fin cur : Ai} {px : AV} {l : Bc} {O1 : Nat → Prop} {H : A4}
theorem A1m {m : Nat} (hm : m ≤ 5000) (h : Pts gO lo [⟨px, some l, cur, fin, O1⟩] H n) (hx : Ox px) (hnO : ¬ OU [⟨px, some l, cur, fin, O1⟩] gO) (hO : gO < n) : ACalls Tryz.prog 109 [aI m, px] n H (NewS false gO lo ⟨cur, (EP m cur l fin).1, (EP m cur l fin).2⟩ (OU [⟨px, some l, cur, fin, O1⟩]) n H) := by
 generalize hR : NewS _ _ _ _ _ _ _ = R
 obtain ⟨hraw0, hmon, hb1⟩ := Pf h
 have hxf := hx
 have hb := h.bel
 have hc1 : Ap [⟨px, some l, cur, fin, O1⟩] = cur := by simp [Ap]
 have hOU : O1 = OU [⟨px, some l, cur, fin, O1⟩] := funext fun g => propext ⟨fun h => .inl h, fun h => h.elim id fun h => h.elim⟩
 have hraw : Raw true gO lo fin px l cur (OU [⟨px, some l, cur, fin, O1⟩]) H n := by rw [← hOU]; exact hraw0
 obtain ⟨ff, fa, fb, rfl⟩ := hx
 refine Ab Tryz.func109 A1c rfl fun hs => ?_
 repeat' (first | (simp -implicitDefEqProofs [c109, -getElem?_pos, splice, -Ar]) | (simp (disch := omega) only [AF]) | (with_reducible first | refine A7 ?_ ?_ ?_ | exact AB | assumption | refine A3 ?_ | refine KM.of ?_ | refine AG ?_ | refine A2 ?_ | refine A5 ?_ | intro _g _hg | refine AE ?_ ?_ | intro _hc) | omega)
 rename_i ga hga
 subst hR
 have hrec := WZ (show ga ≠ _g by omega) l cur m _ (upd (upd H ga (some (ML m))) _g (some (PN (.fn ff fa fb)))) (_g + 1) (hraw.at_ (fun g hg => by have := hb g hg; simp (disch := omega) only [upd_ne]) (by omega)) hm hnO (fun g hg => by have := hb g hg; omega) (Bx.new hb hO (by omega) (by omega) (by simp (disch := omega) only [upd_ne, AX] <;> rfl)) (Bx.new hb hO (by omega) (by omega) (by simp (disch := omega) only [upd_ne, AX] <;> rfl))
 refine BI (r := .fn _ [] [.ptr ga 0, .ptr _g 0]) rfl (by omega) (fun k hk => by simp (disch := omega) only [upd_ne]; exact hs k (by omega)) ⟨⟨_, _, _, rfl⟩, by omega, (fun k hk => by simp (disch := omega) only [upd_ne]), (fun k hk => by simp (disch := omega) only [upd_ne]; exact hs k (by omega)), fun g => OU [⟨.fn ff fa fb, some l, cur, fin, O1⟩] g ∨ (g = ga ∨ g = _g), ?_, ?_, hrec⟩
 ·rintro g (h | h | h)
  ·exact .inl h
  ·exact .inr (by omega)
  ·exact .inr (by omega)
 ·rintro g (h | h | h)
  ·have := hb g h; omega
  ·omega
  ·omega
end
end Go.Proofs.YtjdccdelcnmocaaGreatDoor

/- Streams: sources of two parts together; no condition. -/
import Derived.Test.YtjdccdelcnmocaaGreatDoorMgJ
import Derived.Test.YtjdccdelcnmocaaGreatDoorMdL
set_option linter.all false
set_option linter.unusedSimpArgs false
set_option linter.unusedVariables false
set_option maxHeartbeats 1000000
namespace Go.Proofs.YtjdccdelcnmocaaGreatDoor
def Xy (x : AV) : Prop := ∃ f a b, x = .fn f a b
attribute [local simp] Nj Fe FS L6 N3 NE LZ Fg F3 Fq HO MF Nf MS MH NT O6 Md Of L5 Me M5 Nc LI M0 TE pe Nt OB NM MM M1 Nw LN Mb Lh Lc NY Mk Lx FX MB MD Nd Lg MO N1 ME MK NN Mf LY LR Ma Ol Mm MC N7 Lm M6 Mr Ly FH ND Fh NJ Mz NC NU Ms Oa NO OS Mx Ld Lw LL LQ L7 OM Ot ON Mg Mn N2 OA O5 Ln O8 MU F9 Oi OY Nu LF Mw Ng Nm Mt Nr Np Nb Oh On OO OK Mo Ny LK Nz Lk LD MJ NK NF M9 L9 Nn LH NW LJ Hv M3 List.mem_cons guardK E5 Er FR HV LU FT Fd FO Fi FD FC F5 FW Fc Lb O9 FZ NH LB Mu Mp ML OW FG OR No OF O4 Lt M2 Hj FY FP F6 Fb Oo N5 FI OJ FF NX F4 FB M7 Fa F8 Ll N0 Ml LW NZ La MZ Lp TF Ju K2 HG KF Jz KD EN Ge Gb Od Ga GX EM E3 Us Jt Jx Gd Jp Jv Dl DQ Bz Bk CH DL BL ev get put EV Ad Cw L8 MP LM Lo K7 OV EF part BO Gn OD GV isNil Ct DJ Dm DN DM Nq Lu MV Mh NV KE NS OQ Og LO Lj M4 N4 Lq OH Mj AV.fits AV.cells ones AV.one E7 CI E1 DI EQ EI MY Es FU CK CB CQ Ew FV Ax Bn VW HB Nx LT List.getElem?_cons_zero List.getElem?_cons_succ FJ FM F7 OI Mc MX Gk Oc OG MI Lv Mi Ok MW Lr Ls MA LX
section
variable {e sz by_ : Nat} {d : Option Nat} {K : AS → Prop} {en : Ai} {n : Nat} {H : A6}
theorem RG {l m : List AV} {t : Tok} {g0 : Nat} (hg : H g0 = some (.row e l.length)) (h1 : (l.length + m.length) * by_ ≤ 140737488355328) (h2 : l.length + m.length ≤ maxLen)
  (hk : ∀ g n', (g = g0 ∨ n ≤ g) → n ≤ n' → g < n' → K ⟨Ad en d (.sl sz (l ++ m) (.own g)), n', upd (upd H g0 none) g (some (.row e (l.length + m.length)))⟩) : appKS e sz by_ d K ⟨en, n, H⟩ (.sl sz l (.own g0)) (.sl sz m t) :=
 ⟨.inl rfl, m, A0 m, h1, h2, rfl, hg, hk⟩
end
def Qf (e : Nat) (l : List AV) (n : Nat) (H : A6) : DP := fun r n' H' => SameB n H H' ∧ ((l = [] ∧ r = .sl 0 [] .nil) ∨ ∃ g, n ≤ g ∧ g < n' ∧ r = .sl 1 l (.own g) ∧ H' g = some (.row e l.length))
theorem UD (l : List AV) (n : Nat) (H : A6) (hl : l.length ≤ 1000000) : ACalls Tryz.prog 92 [.sl 1 l .ro] n H (Qf 3 l n H) := by
 refine Bi Tryz.func92 XB rfl fun hs => ?_
 have hb : (([] : List AV).length + l.length) * 8 ≤ 140737488355328 := by simp; omega
 have hm : ([] : List AV).length + l.length ≤ maxLen := by simp [maxLen]; omega
 have fin' : ∀ (e : Ai) (n1 g g0 : Nat) (k0 : AObj), n ≤ g0 → (g = g0 ∨ g0 + 1 ≤ g) → g0 + 1 ≤ n1 → g < n1 → get e 2 = .sl 1 l (.own g) → fin (Qf 3 l n H) n [.tmp 2] .ret ⟨e, n1, upd (upd (upd H g0 (some k0)) g0 none) g (some (.row 3 (([] : List AV).length + l.length)))⟩ := by
  intro e n1 g g0 k0 h1 h2 h3 h4 h5
  refine Ir (r := .sl 1 l (.own g)) (by simp [CB, CQ, Ew, h5]) (by omega) (fun k hk => by simp (disch := omega) only [upd_ne]; exact hs k (by omega)) ⟨fun k hk => by simp (disch := omega) only [upd_ne], .inr ⟨g, by omega, h4, rfl, by rw [Ax]; simp⟩⟩
 cases l with
 | nil =>
  repeat' (first | (simp -implicitDefEqProofs [Kz, c92, -getElem?_pos, -List.length_nil]) | (simp (disch := omega) only [AH]) | (refine RG (Ax _ _ _) hb hm (fun g n' h1 h2 h3 => ?_)) | (with_reducible first | refine A8 ?_ ?_ ?_ | exact AF | assumption | refine A4 ?_ | refine KM.of ?_ | refine AG ?_ | refine AA ?_ | refine AJ ?_ | refine AB ?_ | intro _g _hg | refine AE ?_ ?_ | intro _hc) | omega)
  ·exact Ir (r := .sl 0 [] .nil) rfl (by omega) hs ⟨SameB.rfl_ _ _, .inl ⟨rfl, rfl⟩⟩
  ·exact fin' _ _ _ _ _ _hg h1 h2 h3 rfl
 | cons x l =>
  repeat' (first | (simp -implicitDefEqProofs [Kz, c92, -getElem?_pos, -List.length_nil, -List.length_cons]) | (simp (disch := omega) only [AH]) | (refine RG (Ax _ _ _) hb hm (fun g n' h1 h2 h3 => ?_)) | (with_reducible first | refine A8 ?_ ?_ ?_ | exact AF | assumption | refine A4 ?_ | refine KM.of ?_ | refine AG ?_ | refine AA ?_ | refine AJ ?_ | refine AB ?_ | intro _g _hg | refine AE ?_ ?_ | intro _hc) | omega)
  exact fin' _ _ _ _ _ _hg h1 h2 h3 rfl
def ent (ps : List Pt) (i : Nat) : Nat × CL × Av := (i, (ps[i]?.bind Pt.l).getD [], (ps[i]?.map Pt.fin).getD [])
theorem Sit.hd {bs : List Pt} {p : Pt} {gO lo gg n : Nat} {cs : Av} {H : A6} {d : Option Nat} {K : AS → Prop} {en : Ai} (h : Sit gO lo (p :: bs) H n gg cs)
  (hk : ∀ r n' H' p', n ≤ n' → PtR p r p' → (CJ (p' :: bs)).length = (CJ (p :: bs)).length → Sit gO lo (p' :: bs) H' n' gg (EA cs lo (CJ (p' :: bs))) → Aft lo gg cs (CJ (p' :: bs)) (OU (p :: bs)) n H n' H' (OU (p' :: bs)) → K ⟨Ad en d r, n', H'⟩) :
  BL Tryz.prog d K en n H [] p.x := Sit.call (qs := []) h hk
def Io : Tok → Nat → Prop
 | .own k, g => g = k
 | _, _ => False
def TokOk (t : Tok) (k : Nat) (H : A6) (n : Nat) : Prop := match t with
 | .own g => H g = some (.row 3 k) ∧ g < n
 | .nil => k = 0
 | .ro => False
theorem TokOk.at_ {t : Tok} {k n n1 : Nat} {H H1 : A6} (h : TokOk t k H n) (hH : ∀ g, Io t g → H1 g = H g) (hn : n ≤ n1) : TokOk t k H1 n1 := by
 match t, h with
 | .nil, h => exact h
 | .own g, h => exact ⟨(hH g rfl).trans h.1, by have := h.2; omega⟩
theorem TokOk.lt {t : Tok} {k n : Nat} {H : A6} (h : TokOk t k H n) : ∀ g, Io t g → g < n := by
 match t, h with
 | .nil, h => exact fun g hg => hg.elim
 | .own k, h => intro g hg; have e : g = k := hg; subst e; exact h.2
end Go.Proofs.YtjdccdelcnmocaaGreatDoor

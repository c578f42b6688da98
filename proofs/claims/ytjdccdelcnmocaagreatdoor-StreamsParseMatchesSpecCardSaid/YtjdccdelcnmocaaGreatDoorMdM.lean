/- Streams: sources with one part: while, scan, taking; no condition. -/
import Derived.Test.YtjdccdelcnmocaaGreatDoorMgJ
import Derived.Test.YtjdccdelcnmocaaGreatDoorMdL
set_option linter.all false
set_option linter.unusedSimpArgs false
set_option linter.unusedVariables false
set_option maxHeartbeats 1000000
namespace Go.Proofs.YtjdccdelcnmocaaGreatDoor
attribute [local simp] Kz De DC Kv Lp Je Jw Dj DK Fe Fi KJ JN LL KL Ig JX Ix L9 Kn K6 Kk LJ K3 Ji RM pe KK Io Iu JW JI Kf Ir L7 Jx LH J5 L8 Is DT J0 Ju Jg Ih Li Lf K5 KN Js LO Ks LC La Im Ip Ln JQ Kt Jt JF L4 DG Lv DY Kq JZ Ky LB LG Lk KH JM LE Jr LF KA JU L0 JY JB Lo JJ Ly Jl Lm Ik Jm Jf Kw DJ KO Lj JG Ld Jn Lh Kj J9 Kp Kb Lc K2 KE LR Il Lq JC L3 Km JR Lz Jd LN L2 M1 LM Lr KG Iv JO L1 LK List.mem_cons guardK CR Ez F6 Fa Lx DX DF DL Dd DP DM DN Dh D9 M0 Ki Dg KF LP JV Jp Kc K8 DR KX LV J1 JA LW LQ Fj DQ DS DH DA Lw Ja DW Ii DD L6 Db DE Ku DO DU LZ LD KR Lg Kl J7 L5 J4 RL IR IV Gt IN IS IL Cx FB FA KV FC F8 Cv CY Sc IH II F9 IK IT D0 D4 Bg BG C3 CK Ar ev get put GQ AP Cr Jc K4 Kd LI JT Jh EF part BZ HA Jy Gx isNil CA CG EL CQ C1 Kx JP J3 KI Iq IF Ij JE Jo LU Jq Jv K7 Jz KZ Iz AV.fits AV.cells ones AV.one EK CD EE E2 FV ES Ll GB Fy CH Br C5 F3 Gg AX BY TO Fc Ko Ie List.getElem?_cons_zero List.getElem?_cons_succ Dc Df Di J8 Kg Ls H9 It Kh JK KD Ke LT JH Lu Iw LY JD
theorem Oi : CW Tryz.prog 132 = true := by kernel_rfl
theorem take_zero {gO lo : Nat} {fin : Ai} {px : AV} {g1 g2 : Nat} (l : Bc) (cur : Ai) (O : Nat → Prop) (H0 : A4) (n0 : Nat) (noO : ¬ O gO) (hbel : ∀ g, O g → g < n0) (B1 : Bx O gO g1 H0 n0 (ML 0)) (B2 : Bx O gO g2 H0 n0 (PN px)) :
  Raw false gO lo (EP 0 cur l fin).2 (.fn 132 [] [.ptr g1 0, .ptr g2 0]) (EP 0 cur l fin).1 cur (fun g => O g ∨ g = g1 ∨ g = g2) H0 n0 := by
 have hr : Raw false gO lo fin px [] cur (fun _ => False) H0 n0 ∨ True := .inr trivial
 refine Raw.of fun n H gg cs hn hag hgg hgO hgv => ?_
 replace B1 := B1.to hn (hag g1 (.inr (.inl rfl)))
 have q1 := B1.at_
 replace B2 := B2.to hn (hag g2 (.inr (.inr rfl)))
 have ng1 : gg ≠ g1 := fun h => hgg (.inr (.inl h))
 have ng2 : gg ≠ g2 := fun h => hgg (.inr (.inr h))
 replace hbel : ∀ g, O g → g < n := fun g h => Nat.lt_of_lt_of_le (hbel g h) hn
 refine ⟨Oi, ?_⟩
 have e1 : EP 0 cur l fin = ([], cur) := by cases l <;> rfl
 rw [e1]
 generalize hR : Om _ _ _ _ _ _ _ _ _ _ _ = R
 refine Ab Tryz.func132 TC rfl fun hs => ?_
 repeat' (first | (simp -implicitDefEqProofs [JS, c132, -getElem?_pos, q1, splice, -Ar]) | (simp (disch := omega) only [AF]) | (with_reducible first | refine A7 ?_ ?_ ?_ | exact AB | assumption | refine A3 ?_ | refine KM.of ?_ | refine AG ?_ | intro _g _hg | refine AE ?_ ?_ | intro _hc) | omega)
 subst hR
 exact BI (r := .tup [_, _]) rfl (by omega) hs ⟨0, _, rfl, (((Aft.same hgv hbel)).ext (B := fun g => g = g1 ∨ g = g2) (fun g h => by have := B1.lt; have := B2.lt; rcases h with rfl | rfl <;> omega) (fun _ _ => rfl) (fun _ _ => rfl) (fun h => h.elim ng1 ng2)), fun h => by cases h⟩
theorem WZ {gO lo : Nat} {fin : Ai} {px : AV} {g1 g2 : Nat} (n12 : g1 ≠ g2) : ∀ (l : Bc) (cur : Ai) (m : Nat) (O : Nat → Prop) (H0 : A4) (n0 : Nat), Raw true gO lo fin px l cur O H0 n0 → m ≤ 5000 → ¬ O gO → (∀ g, O g → g < n0) →
  Bx O gO g1 H0 n0 (ML m) → Bx O gO g2 H0 n0 (PN px) → Raw false gO lo (EP m cur l fin).2 (.fn 132 [] [.ptr g1 0, .ptr g2 0]) (EP m cur l fin).1 cur (fun g => O g ∨ g = g1 ∨ g = g2) H0 n0 := by
 intro l
 induction l with
 | nil =>
  intro cur m O H0 n0 hr hm noO hbel B1 B2
  cases m with
  | zero => exact take_zero [] cur O H0 n0 noO hbel B1 B2
  | succ m =>
   refine Raw.of fun n H gg cs hn hag hgg hgO hgv => ?_
   replace B1 := B1.to hn (hag g1 (.inr (.inl rfl)))
   have q1 := B1.at_
   have ng1 : gg ≠ g1 := fun h => hgg (.inr (.inl h))
   replace B2 := B2.to hn (hag g2 (.inr (.inr rfl)))
   have q2 := B2.at_
   have ng2 : gg ≠ g2 := fun h => hgg (.inr (.inr h))
   have nog : ¬ O gg := fun h => hgg (.inl h)
   replace hbel : ∀ g, O g → g < n := fun g h => Nat.lt_of_lt_of_le (hbel g h) hn
   replace hr := hr.at_ (fun g hg => hag g (.inl hg)) hn
   refine ⟨Oi, ?_⟩
   have hm0 : ¬ ((m + 1 : Nat) : Int) = 0 := by omega
   have hc := (hr.at_ (H1 := upd H g1 (some (ML m))) (fun g hg => upd_ne (fun h => B1.no (h ▸ hg))) (Nat.le_refl _)).to n _ gg cs (Nat.le_refl _) (fun _ _ => rfl) nog noO (hgv.keep B1.nO ng1)
   have hw : ((m + 1 : Nat) : Int) - 1 = m := by omega
   generalize hR : Om _ _ _ _ _ _ _ _ _ _ _ = R
   generalize ((m + 1 : Nat) : Int) = m1 at *
   refine Ab Tryz.func132 TC rfl fun hs => ?_
   repeat' (first | (simp -implicitDefEqProofs [JS, c132, -getElem?_pos, q1, q2, hm0, hw, n12, Ne.symm n12, splice, -Ar]) | (simp (disch := omega) only [AF]) | (refine FI hc ⟨?_⟩; rintro r n' H' hle hsup ⟨v, O', rfl, ha, _⟩) | (with_reducible first | refine A7 ?_ ?_ ?_ | exact AB | assumption | refine A3 ?_ | refine KM.of ?_ | refine AG ?_ | intro _g _hg | refine AE ?_ ?_ | intro _hc) | omega)
   subst hR
   exact BI (r := .tup [_, _]) rfl (by omega) hsup ⟨v, _, rfl, ((ha).ext (B := fun g => g = g1 ∨ g = g2) (fun g h => by have := B1.lt; have := B2.lt; rcases h with rfl | rfl <;> omega) (fun g h => by rw [upd_ne (fun e => h (.inl e))]) (fun _ _ => rfl) (fun h => h.elim ng1 ng2)), fun h => by cases h⟩
 | cons e l ih =>
  obtain ⟨y, c⟩ := e
  intro cur m O H0 n0 hr hm noO hbel B1 B2
  cases m with
  | zero => exact take_zero _ cur O H0 n0 noO hbel B1 B2
  | succ m =>
   refine Raw.of fun n H gg cs hn hag hgg hgO hgv => ?_
   replace B1 := B1.to hn (hag g1 (.inr (.inl rfl)))
   have q1 := B1.at_
   have ng1 : gg ≠ g1 := fun h => hgg (.inr (.inl h))
   replace B2 := B2.to hn (hag g2 (.inr (.inr rfl)))
   have q2 := B2.at_
   have ng2 : gg ≠ g2 := fun h => hgg (.inr (.inr h))
   have nog : ¬ O gg := fun h => hgg (.inl h)
   replace hbel : ∀ g, O g → g < n := fun g h => Nat.lt_of_lt_of_le (hbel g h) hn
   replace hr := hr.at_ (fun g hg => hag g (.inl hg)) hn
   refine ⟨Oi, ?_⟩
   have hm0 : ¬ ((m + 1 : Nat) : Int) = 0 := by omega
   have B1u := B1.set (ML m)
   have B2u : Bx O gO g2 (upd H g1 (some (ML m))) n _ := B2.keep (Ne.symm n12)
   have hc := (hr.at_ (H1 := upd H g1 (some (ML m))) (fun g hg => upd_ne (fun h => B1.no (h ▸ hg))) (Nat.le_refl _)).to n _ gg cs (Nat.le_refl _) (fun _ _ => rfl) nog noO (hgv.keep B1.nO ng1)
   have hw : ((m + 1 : Nat) : Int) - 1 = m := by omega
   generalize hR : Om _ _ _ _ _ _ _ _ _ _ _ = R
   generalize ((m + 1 : Nat) : Int) = m1 at *
   refine Ab Tryz.func132 TC rfl fun hs => ?_
   repeat' (first | (simp -implicitDefEqProofs [JS, c132, -getElem?_pos, q1, q2, hm0, hw, n12, Ne.symm n12, splice, -Ar]) | (simp (disch := omega) only [AF]) | (refine FI hc ⟨?_⟩; rintro r n' H' hle hsup ⟨O', rfl, ha, hr'⟩) | (with_reducible first | refine A7 ?_ ?_ ?_ | exact AB | assumption | refine A3 ?_ | refine KM.of ?_ | refine AG ?_ | intro _g _hg | refine AE ?_ ?_ | intro _hc) | omega)
   subst hR
   exact BI (r := .tup [_, _]) rfl (by omega) hsup ⟨_, rfl, ((ha).ext (B := fun g => g = g1 ∨ g = g2) (fun g h => by have := B1.lt; have := B2.lt; rcases h with rfl | rfl <;> omega) (fun g h => by rw [upd_ne (fun e => h (.inl e))]) (fun _ _ => rfl) (fun h => h.elim ng1 ng2)), ih c m O' _ n' hr' (by omega) (ha.nO noO (hgv.lt hs).1) ha.bel (B1u.go ng1 ha) (B2u.go ng2 ha)⟩
theorem Sb : CW Tryz.prog 97 = true := by kernel_rfl
theorem T7 {cs : Ai} {lo : Nat} {x : Int} : splice (cs.map aI) lo [aI x] = (EA cs lo [x]).map aI := by simp [splice, EA]
abbrev Pe (x : AV) : AObj := .cells 22 [x]
theorem XO {gO lo : Nat} {g1 g2 g3 z : Nat} {t : Tok} {xs : List Int} (hx : xs.length ≤ 140737488355328) (hz : z = 1 ∨ xs = []) : ∀ (r i : Nat) (O : Nat → Prop) (H0 : A4) (n0 : Nat), i + r = xs.length → ¬ O gO → (∀ g, O g → g < n0) →
  Bx O gO g1 H0 n0 (.cells 72 [.ptr gO 0]) → Bx O gO g2 H0 n0 (ML lo) → Bx O gO g3 H0 n0 (Pe (.sl z (xs.map aI) t)) →
  Raw false gO lo [(xs.length : Int)] (.fn 97 [] [.ptr g1 0, .ptr g2 0, .ptr g3 0]) (Rl i (xs.drop i)) [(i : Int)] (fun g => O g ∨ g = g1 ∨ g = g2 ∨ g = g3) H0 n0 := by
 intro r
 induction r with
 | zero =>
  intro i O H0 n0 hi noO hbel B1 B2 B3
  refine Raw.of fun n H gg cs hn hag hgg hgO hgv => ?_
  replace B1 := B1.to hn (hag g1 (.inr (.inl rfl)))
  have q1 := B1.at_
  have ng1 : gg ≠ g1 := fun h => hgg (.inr (.inl h))
  replace B2 := B2.to hn (hag g2 (.inr (.inr (.inl rfl))))
  have q2 := B2.at_
  have ng2 : gg ≠ g2 := fun h => hgg (.inr (.inr (.inl h)))
  replace B3 := B3.to hn (hag g3 (.inr (.inr (.inr rfl))))
  have q3 := B3.at_
  have ng3 : gg ≠ g3 := fun h => hgg (.inr (.inr (.inr h)))
  have nog : ¬ O gg := fun h => hgg (.inl h)
  replace hbel : ∀ g, O g → g < n := fun g h => Nat.lt_of_lt_of_le (hbel g h) hn
  refine ⟨Sb, ?_⟩
  have e1 : xs.drop i = [] := List.drop_eq_nil_of_le (by omega)
  rw [e1]
  have e2 : i = xs.length := by omega
  subst e2
  have o1 := hgv.opn
  have o2 := hgv.giv
  have hfit := hgv.fit
  simp only [List.length_cons, List.length_nil] at hfit
  have hlo : (cs.map aI)[lo]? = some (aI xs.length) := by
   have h1 := hgv.at_
   have h2 : ((cs.drop lo).take 1)[0]? = some (xs.length : Int) := by rw [show (1 : Nat) = [((xs.length : Nat) : Int)].length from rfl, h1]; rfl
   rw [List.getElem?_take] at h2
   simp only [List.getElem?_drop] at h2
   simpa using h2
  have hl : (lo : Int) < cs.length := by omega
  have hl2 : ((xs.map aI).length : Int) = xs.length := by simp
  have hext := Aft.same hgv hbel
  generalize hR : Om _ _ _ _ _ _ _ _ _ _ _ = R
  generalize cs.map aI = csa at *
  generalize xs.map aI = xsa at *
  refine Ab Tryz.func97 ZB rfl fun hs => ?_
  repeat' (first | (simp -implicitDefEqProofs [Pa, c97, -getElem?_pos, q1, q2, q3, o1, o2, hlo, hl, hl2, splice]) | (simp (disch := omega) only [AF]) | (with_reducible first | refine A7 ?_ ?_ ?_ | exact AB | assumption | refine A3 ?_ | refine KM.of ?_ | refine AG ?_ | intro _g _hg | refine AE ?_ ?_ | intro _hc) | omega)
  subst hR
  exact BI (r := .tup [_, _]) rfl (by omega) hs ⟨0, _, rfl, ((hext).ext (B := fun g => g = g1 ∨ g = g2 ∨ g = g3) (fun g h => by have := B1.lt; have := B2.lt; have := B3.lt; rcases h with rfl | rfl | rfl <;> omega) (fun _ _ => rfl) (fun _ _ => rfl) (fun h => h.elim ng1 (fun h => h.elim ng2 ng3))), fun h => by cases h⟩
 | succ r ih =>
  intro i O H0 n0 hi noO hbel B1 B2 B3
  refine Raw.of fun n H gg cs hn hag hgg hgO hgv => ?_
  replace B1 := B1.to hn (hag g1 (.inr (.inl rfl)))
  have q1 := B1.at_
  have ng1 : gg ≠ g1 := fun h => hgg (.inr (.inl h))
  replace B2 := B2.to hn (hag g2 (.inr (.inr (.inl rfl))))
  have q2 := B2.at_
  have ng2 : gg ≠ g2 := fun h => hgg (.inr (.inr (.inl h)))
  replace B3 := B3.to hn (hag g3 (.inr (.inr (.inr rfl))))
  have q3 := B3.at_
  have ng3 : gg ≠ g3 := fun h => hgg (.inr (.inr (.inr h)))
  have nog : ¬ O gg := fun h => hgg (.inl h)
  replace hbel : ∀ g, O g → g < n := fun g h => Nat.lt_of_lt_of_le (hbel g h) hn
  refine ⟨Sb, ?_⟩
  have hil : i < xs.length := by omega
  have hz1 : z = 1 := hz.elim id (fun h => by subst h; simp at hil)
  subst hz1
  obtain ⟨y, hy⟩ : ∃ y, xs[i]? = some y := ⟨_, List.getElem?_eq_getElem hil⟩
  have e1 : xs.drop i = y :: xs.drop (i + 1) := drop_at hy
  rw [e1]
  have o1 := hgv.opn
  have o2 := hgv.giv
  have hfit := hgv.fit
  simp only [List.length_cons, List.length_nil] at hfit
  have hlo : (cs.map aI)[lo]? = some (aI i) := by
   have h1 := hgv.at_
   have h2 : ((cs.drop lo).take 1)[0]? = some (i : Int) := by rw [show (1 : Nat) = [((i : Nat) : Int)].length from rfl, h1]; rfl
   rw [List.getElem?_take] at h2
   simp only [List.getElem?_drop] at h2
   simpa using h2
  have hl : (lo : Int) < cs.length := by omega
  have hl2 : ((xs.map aI).length : Int) = xs.length := by simp
  have hcl : (cs.map aI).length = cs.length := by simp
  have hcl2 : lo + 1 ≤ (cs.map aI).length := by omega
  have hne : ¬ (i : Int) = xs.length := by omega
  have hya := JL (f := aI) hy
  have hsp := T7 (cs := cs) (lo := lo) (x := ((i + 1 : Nat) : Int))
  have hw : IntKind.i64.wrap ((i : Int) + 1) = ((i + 1 : Nat) : Int) := by rw [IntWalk.i64_in _ (by omega)]; omega
  have hlt := hgv.lt (n := n)
  have hput := fun (H' : A4) => hgv.put (c' := [((i + 1 : Nat) : Int)]) (H' := H') rfl
  have hgo := hgv.ne
  generalize hR : Om _ _ _ _ _ _ _ _ _ _ _ = R
  generalize hcsa : cs.map aI = csa at *
  generalize xs.map aI = xsa at *
  generalize hi1 : ((i + 1 : Nat) : Int) = i1 at *
  refine Ab Tryz.func97 ZB rfl fun hs => ?_
  repeat' (first | (simp -implicitDefEqProofs [Pa, c97, -getElem?_pos, q1, q2, q3, o1, o2, hlo, hl, hl2, hne, hw, hcl2, hya]) | (simp (disch := omega) only [AF]) | (with_reducible first | refine A7 ?_ ?_ ?_ | exact AB | assumption | refine A3 ?_ | refine KM.of ?_ | refine AG ?_ | intro _g _hg | refine AE ?_ ?_ | intro _hc) | omega)
  subst hR hi1
  have hb : Aft lo gg cs [((i + 1 : Nat) : Int)] O n H n (upd H gg (some (AObj.grow 3 (splice csa lo [aI ((i + 1 : Nat) : Int)])))) O :=
   ⟨Nat.le_refl _, fun g h => .inl h, hbel, fun g h1 h2 h3 => upd_ne h3, by rw [AX, hsp]⟩
  have hgl := (hlt hs).2
  exact BI (r := .tup [_, _]) rfl (by omega) (fun k hk => by rw [upd_ne (by omega)]; exact hs k hk) ⟨_, rfl, ((hb).ext (B := fun g => g = g1 ∨ g = g2 ∨ g = g3) (fun g h => by have := B1.lt; have := B2.lt; have := B3.lt; rcases h with rfl | rfl | rfl <;> omega) (fun _ _ => rfl) (fun _ _ => rfl) (fun h => h.elim ng1 (fun h => h.elim ng2 ng3))), ih (i + 1) O _ n (by omega) noO hbel (B1.keep (Ne.symm ng1)) (B2.keep (Ne.symm ng2)) (B3.keep (Ne.symm ng3))⟩
structure Pt where
 x : AV
 l : Option Bc
 cur : Ai
 fin : Ai
 O : Nat → Prop
def PtOk (gO lo : Nat) (p : Pt) (H : A4) (n : Nat) : Prop := match p.l with
 | some l => Raw true gO lo p.fin p.x l p.cur p.O H n ∧ monL p.cur l p.fin
 | none => Ended gO lo p.fin p.x p.O H n ∧ p.cur = p.fin
def Ap : List Pt → Ai
 | [] => []
 | p :: ps => p.cur ++ Ap ps
def OU : List Pt → Nat → Prop
 | [], _ => False
 | p :: ps, g => p.O g ∨ OU ps g
def Pts (gO lo : Nat) : List Pt → A4 → Nat → Prop
 | [], _, _ => True
 | p :: ps, H, n => PtOk gO lo p H n ∧ (∀ g, p.O g → g < n) ∧ (∀ g, p.O g → ¬ OU ps g) ∧ Pts gO (lo + p.cur.length) ps H n
theorem Gd : ∀ a b : List Pt, Ap (a ++ b) = Ap a ++ Ap b
 | [], b => rfl
 | p :: a, b => by simp [Ap, Gd a b]
theorem En : ∀ (a b : List Pt) (g : Nat), OU (a ++ b) g ↔ OU a g ∨ OU b g
 | [], b, g => by simp [OU]
 | p :: a, b, g => by simp [OU, En a b g, or_assoc]
theorem PtOk.at_ {gO lo : Nat} {p : Pt} {H H1 : A4} {n n1 : Nat} (h : PtOk gO lo p H n) (hH : ∀ g, p.O g → H1 g = H g) (hn : n ≤ n1) : PtOk gO lo p H1 n1 := by
 unfold PtOk at h ⊢
 split at h
 ·exact ⟨h.1.at_ hH hn, h.2⟩
 ·exact ⟨h.1.at_ hH hn, h.2⟩
theorem Pts.at_ : ∀ {ps : List Pt} {gO lo : Nat} {H H1 : A4} {n n1 : Nat}, Pts gO lo ps H n → (∀ g, OU ps g → H1 g = H g) → n ≤ n1 → Pts gO lo ps H1 n1
 | [], _, _, _, _, _, _, _, _, _ => trivial
 | p :: ps, _, _, _, _, _, _, h, hH, hn => ⟨h.1.at_ (fun g hg => hH g (.inl hg)) hn, fun g hg => Nat.lt_of_lt_of_le (h.2.1 g hg) hn, h.2.2.1, h.2.2.2.at_ (fun g hg => hH g (.inr hg)) hn⟩
theorem Pts.bel : ∀ {ps : List Pt} {gO lo : Nat} {H : A4} {n : Nat}, Pts gO lo ps H n → ∀ g, OU ps g → g < n
 | [], _, _, _, _, _, g, hg => hg.elim
 | p :: ps, _, _, _, _, h, g, hg => hg.elim (h.2.1 g) (h.2.2.2.bel g)
theorem Giv.cut {gO lo gg : Nat} {c cs : Ai} {H : A4} (h : Giv gO lo c H gg cs) : ∃ X Y, cs = X ++ (c ++ Y) ∧ X.length = lo := by
 refine ⟨cs.take lo, cs.drop (lo + c.length), ?_, ?_⟩
 ·have h1 := N9 h
  unfold EA at h1
  rw [List.append_assoc] at h1
  exact h1.symm
 ·have := h.fit; simp; omega
theorem UV {X Y c c' : Ai} (h : c'.length = c.length) : EA (X ++ (c ++ Y)) X.length c' = X ++ (c' ++ Y) := by
 unfold EA
 rw [List.take_left, List.append_assoc, ← List.append_assoc X c Y, List.drop_left' (by simp; omega)]
theorem Giv.mid {gO lo gg : Nat} {p a s cs : Ai} {H : A4} (h : Giv gO lo (p ++ (a ++ s)) H gg cs) : Giv gO (lo + p.length) a H gg cs := by
 obtain ⟨X, Y, rfl, rfl⟩ := h.cut
 refine ⟨h.opn, h.giv, by simp; omega, ?_⟩
 have : X ++ (p ++ (a ++ s) ++ Y) = (X ++ p) ++ (a ++ (s ++ Y)) := by simp
 rw [this, List.drop_left' (by simp), List.take_left]
theorem Wb {gO lo gg : Nat} {p a a' s cs : Ai} {H : A4} (h : Giv gO lo (p ++ (a ++ s)) H gg cs) (hl : a'.length = a.length) : EA cs (lo + p.length) a' = EA cs lo (p ++ (a' ++ s)) := by
 obtain ⟨X, Y, rfl, rfl⟩ := h.cut
 rw [UV (by simp; omega)]
 have h1 : X ++ (p ++ (a ++ s) ++ Y) = (X ++ p) ++ (a ++ (s ++ Y)) := by simp
 rw [h1, show X.length + p.length = (X ++ p).length by simp, UV hl]
 simp
theorem Aft.mid {gO lo gg n n' : Nat} {p a a' s cs : Ai} {H H' : A4} {O O' : Nat → Prop} (h : Giv gO lo (p ++ (a ++ s)) H gg cs) (hl : a'.length = a.length) (ha : Aft (lo + p.length) gg cs a' O n H n' H' O') : Aft lo gg cs (p ++ (a' ++ s)) O n H n' H' O' :=
 ⟨ha.le, ha.sub, ha.bel, ha.fr, by rw [← Wb h hl]; exact ha.giv⟩
theorem Aft.congr {lo gg n n' : Nat} {c cs : Ai} {H H' : A4} {O O' P P' : Nat → Prop} (ha : Aft lo gg cs c O n H n' H' O') (h : ∀ g, O g ↔ P g) (h' : ∀ g, O' g ↔ P' g) : Aft lo gg cs c P n H n' H' P' :=
 ⟨ha.le, fun g hg => (ha.sub g ((h' g).2 hg)).elim (fun k => .inl ((h g).1 k)) .inr, fun g hg => ha.bel g ((h' g).2 hg), fun g h1 h2 h3 => ha.fr g h1 (fun k => h2 ((h g).1 k)) h3, ha.giv⟩
theorem Pts.repl : ∀ {qs bs : List Pt} {p p' : Pt} {gO lo n n' : Nat} {H H' : A4}, Pts gO lo (qs ++ p :: bs) H n → p'.cur.length = p.cur.length → n ≤ n' → (∀ g, p'.O g → p.O g ∨ n ≤ g) → (∀ g, p'.O g → g < n') → (∀ g, g < n → ¬ p.O g → OU (qs ++ p :: bs) g → H' g = H g) →
  PtOk gO (lo + (Ap qs).length) p' H' n' → Pts gO lo (qs ++ p' :: bs) H' n'
 | [], bs, p, p', gO, lo, n, n', H, H', h, hl, hn, hsub, hbel, hfr, hk => by
  refine ⟨by simpa [Ap] using hk, hbel, fun g hg => ?_, ?_⟩
  ·rcases hsub g hg with h1 | h1
   ·exact h.2.2.1 g h1
   ·intro h2; have := h.2.2.2.bel g h2; omega
  ·rw [hl]
   refine h.2.2.2.at_ (fun g hg => hfr g (h.2.2.2.bel g hg) (fun h1 => h.2.2.1 g h1 hg) (.inr hg)) hn
 | q :: qs, bs, p, p', gO, lo, n, n', H, H', h, hl, hn, hsub, hbel, hfr, hk => by
  obtain ⟨h1, h2, h3, h4⟩ := h
  have hd : ∀ g, q.O g → ¬ p.O g := fun g hg hp => h3 g hg ((En qs (p :: bs) g).2 (.inr (.inl hp)))
  refine ⟨h1.at_ (fun g hg => hfr g (h2 g hg) (hd g hg) (.inl hg)) hn, fun g hg => Nat.lt_of_lt_of_le (h2 g hg) hn, fun g hg hg' => ?_, ?_⟩
  ·rcases (En qs (p' :: bs) g).1 hg' with h5 | h5 | h5
   ·exact h3 g hg ((En qs (p :: bs) g).2 (.inl h5))
   ·rcases hsub g h5 with h6 | h6
    ·exact hd g hg h6
    ·have := h2 g hg; omega
   ·exact h3 g hg ((En qs (p :: bs) g).2 (.inr (.inr h5)))
  ·exact h4.repl hl hn hsub hbel (fun g h5 h6 h7 => hfr g h5 h6 (.inr h7)) (by simpa [Ap, Nat.add_assoc] using hk)
def PtR (p : Pt) (r : AV) (p' : Pt) : Prop := p'.x = p.x ∧ p'.fin = p.fin ∧ match p.l with
 | none => r = .tup [aI 0, .bool false] ∧ p'.l = none ∧ p'.cur = p.cur
 | some [] => (∃ v : Int, r = .tup [aI v, .bool false]) ∧ p'.l = none ∧ p'.cur = p.fin
 | some ((y, c) :: l) => r = .tup [aI y, .bool true] ∧ p'.l = some l ∧ p'.cur = c
theorem Pts.part : ∀ {qs bs : List Pt} {p : Pt} {gO lo n : Nat} {H : A4}, Pts gO lo (qs ++ p :: bs) H n → PtOk gO (lo + (Ap qs).length) p H n
 | [], bs, p, gO, lo, n, H, h => by simpa [Ap] using h.1
 | q :: qs, bs, p, gO, lo, n, H, h => by
  have := h.2.2.2.part
  simpa [Ap, Nat.add_assoc] using this
theorem Pts.call {qs bs : List Pt} {p : Pt} {gO lo gg n : Nat} {cs : Ai} {H : A4} {d : Option Nat} {K : AS → Prop} {en : AT} (h : Pts gO lo (qs ++ p :: bs) H n) (hg : Giv gO lo (Ap (qs ++ p :: bs)) H gg cs) (h1 : ¬ OU (qs ++ p :: bs) gg) (h2 : ¬ OU (qs ++ p :: bs) gO)
  (hk : ∀ r n' H' p', n ≤ n' → (∀ g, n' ≤ g → H' g = none) → PtR p r p' → Pts gO lo (qs ++ p' :: bs) H' n' → Aft lo gg cs (Ap (qs ++ p' :: bs)) (OU (qs ++ p :: bs)) n H n' H' (OU (qs ++ p' :: bs)) → K ⟨AP en d r, n', H'⟩) :
  Ar Tryz.prog d K en n H [] p.x := by
 have hpO : ∀ g, p.O g → OU (qs ++ p :: bs) g := fun g hg => (En qs (p :: bs) g).2 (.inr (.inl hg))
 have hgw : Giv gO lo (Ap qs ++ (p.cur ++ Ap bs)) H gg cs := by rw [Gd] at hg; exact hg
 have hgp := hgw.mid
 have main : ∀ (n' : Nat) (H' : A4) (p' : Pt), Aft (lo + (Ap qs).length) gg cs p'.cur p.O n H n' H' p'.O → p'.cur.length = p.cur.length → PtOk gO (lo + (Ap qs).length) p' H' n' → Pts gO lo (qs ++ p' :: bs) H' n' ∧ Aft lo gg cs (Ap (qs ++ p' :: bs)) (OU (qs ++ p :: bs)) n H n' H' (OU (qs ++ p' :: bs)) := by
  intro n' H' p' ha hl hok
  refine ⟨h.repl hl ha.le ha.sub ha.bel (fun g k1 k2 k3 => ha.fr g k1 k2 (fun e => h1 (e ▸ k3))) hok, ?_⟩
  have h3 := Aft.mid hgw hl ha
  have h4 := h3.ext (B := fun g => OU qs g ∨ OU bs g) (H := H) (H2 := H') (fun g hb => h.bel g ((En qs (p :: bs) g).2 (hb.elim .inl fun k => .inr (.inr k)))) (fun _ _ => rfl) (fun _ _ => rfl) (fun hb => h1 ((En qs (p :: bs) gg).2 (hb.elim .inl fun k => .inr (.inr k))))
  have h5 : Ap (qs ++ p' :: bs) = Ap qs ++ (p'.cur ++ Ap bs) := by rw [Gd]; rfl
  rw [h5]
  refine h4.congr (fun g => ?_) (fun g => ?_)
  ·rw [En]; simp only [OU]; grind
  ·rw [En]; simp only [OU]; grind
 have hok := h.part
 obtain ⟨x, l, cur, fin, O⟩ := p
 cases l with
 | none =>
  obtain ⟨h3, h4⟩ := hok
  simp only at h4 hgp h3 hgw
  subst h4
  have hc := h3 n H gg cs (Nat.le_refl _) (fun _ _ => rfl) (fun k => h1 (hpO _ k)) (fun k => h2 (hpO _ k)) hgp
  refine FI hc ⟨?_⟩
  rintro r n' H' hle hsup ⟨rfl, rfl, rfl⟩
  have hb : Aft (lo + (Ap qs).length) gg cs cur O n' H' n' H' O := Aft.same hgp fun g k => h.bel g (hpO g k)
  obtain ⟨m1, m2⟩ := main n' H' ⟨x, none, cur, cur, O⟩ hb rfl ⟨h3, rfl⟩
  exact hk _ _ _ _ hle hsup ⟨rfl, rfl, rfl, rfl, rfl⟩ m1 m2
 | some l =>
  obtain ⟨h3, h4⟩ := hok
  simp only at h4 hgp h3 hgw
  have hc := h3.to n H gg cs (Nat.le_refl _) (fun _ _ => rfl) (fun k => h1 (hpO _ k)) (fun k => h2 (hpO _ k)) hgp
  refine FI hc ⟨?_⟩
  cases l with
  | nil =>
   rintro r n' H' hle hsup ⟨v, O', rfl, ha, he⟩
   obtain ⟨m1, m2⟩ := main n' H' ⟨x, none, fin, fin, O'⟩ ha h4.1.symm ⟨he rfl, rfl⟩
   exact hk _ _ _ ⟨x, none, fin, fin, O'⟩ hle hsup ⟨rfl, rfl, ⟨v, rfl⟩, rfl, rfl⟩ m1 m2
  | cons e l =>
   obtain ⟨y, c⟩ := e
   rintro r n' H' hle hsup ⟨O', rfl, ha, hr⟩
   obtain ⟨m1, m2⟩ := main n' H' ⟨x, some l, c, fin, O'⟩ ha h4.1.1.symm ⟨hr, h4.2⟩
   exact hk _ _ _ ⟨x, some l, c, fin, O'⟩ hle hsup ⟨rfl, rfl, rfl, rfl, rfl⟩ m1 m2
theorem PtOk.len {gO lo n : Nat} {p : Pt} {H : A4} (h : PtOk gO lo p H n) : p.fin.length = p.cur.length := by
 unfold PtOk at h
 split at h
 ·exact (monL.fin h.2).1.symm
 ·rw [h.2]
theorem PtR.len {gO lo n n' lo' : Nat} {p p' : Pt} {H H' : A4} {r : AV} (h : PtR p r p') (k : PtOk gO lo p H n) : p'.cur.length = p.cur.length := by
 obtain ⟨x, l, cur, fin, O⟩ := p
 have h1 := k.len
 unfold PtR at h
 unfold PtOk at k
 match l, h, k with
 | none, h, k => rw [h.2.2.2.2]
 | some [], h, k => rw [h.2.2.2.2]; exact h1
 | some ((y, c) :: l), h, k => rw [h.2.2.2.2]; exact k.2.1.1.symm
structure Sit (gO lo : Nat) (ps : List Pt) (H : A4) (n gg : Nat) (cs : Ai) : Prop where
 pts : Pts gO lo ps H n
 giv : Giv gO lo (Ap ps) H gg cs
 ngg : ¬ OU ps gg
 ngO : ¬ OU ps gO
 sup : ∀ g, n ≤ g → H g = none
theorem Sit.call {qs bs : List Pt} {p : Pt} {gO lo gg n : Nat} {cs : Ai} {H : A4} {d : Option Nat} {K : AS → Prop} {en : AT} (h : Sit gO lo (qs ++ p :: bs) H n gg cs)
  (hk : ∀ r n' H' p', n ≤ n' → PtR p r p' → (Ap (qs ++ p' :: bs)).length = (Ap (qs ++ p :: bs)).length → Sit gO lo (qs ++ p' :: bs) H' n' gg (EA cs lo (Ap (qs ++ p' :: bs))) → Aft lo gg cs (Ap (qs ++ p' :: bs)) (OU (qs ++ p :: bs)) n H n' H' (OU (qs ++ p' :: bs)) → K ⟨AP en d r, n', H'⟩) :
  Ar Tryz.prog d K en n H [] p.x := by
 have hlt := h.giv.lt h.sup
 refine h.pts.call h.giv h.ngg h.ngO (fun r n' H' p' hle hsup hr hP ha => ?_)
 have hl : (Ap (qs ++ p' :: bs)).length = (Ap (qs ++ p :: bs)).length := by
  have := hr.len (n' := n') (lo' := lo) (H' := H') h.pts.part
  simp only [Gd, Ap, List.length_append]; omega
 refine hk r n' H' p' hle hr hl ⟨hP, ha.gv h.giv h.sup h.ngO hl, fun k => (ha.sub gg k).elim h.ngg (fun k => by omega), ha.nO h.ngO hlt.1, hsup⟩ ha
theorem Sit.keep {ps : List Pt} {gO lo gg n g : Nat} {cs : Ai} {H : A4} {x : Option AObj} (h : Sit gO lo ps H n gg cs) (h1 : ¬ OU ps g) (h2 : gO ≠ g) (h3 : gg ≠ g) (h4 : g < n) : Sit gO lo ps (upd H g x) n gg cs :=
 ⟨h.pts.at_ (fun k hk => upd_ne (fun e => h1 (e ▸ hk))) (Nat.le_refl _), h.giv.keep h2 h3, h.ngg, h.ngO, fun k hk => by rw [upd_ne (by omega)]; exact h.sup k hk⟩
theorem Sit.start {ps : List Pt} {gO lo gg n n0 : Nat} {cs : Ai} {H H0 : A4} (h : Pts gO lo ps H0 n0) (hn : n0 ≤ n) (hag : ∀ g, OU ps g → H g = H0 g) (h1 : ¬ OU ps gg) (h2 : ¬ OU ps gO) (hg : Giv gO lo (Ap ps) H gg cs) (hs : ∀ g, n ≤ g → H g = none) : Sit gO lo ps H n gg cs :=
 ⟨h.at_ hag hn, hg, h1, h2, hs⟩
theorem Aft.eqc {lo gg n n' : Nat} {c c' cs : Ai} {H H' : A4} {O O' : Nat → Prop} (ha : Aft lo gg cs c O n H n' H' O') (h : c = c') : Aft lo gg cs c' O n H n' H' O' := h ▸ ha
theorem Aft.box {lo gg n n' g : Nat} {c cs : Ai} {H H' : A4} {O O' : Nat → Prop} {x : Option AObj} (ha : Aft lo gg cs c O n H n' H' O') (h1 : O g) (h2 : gg ≠ g) : Aft lo gg cs c O n H n' (upd H' g x) O' :=
 ⟨ha.le, ha.sub, ha.bel, fun k k1 k2 k3 => by rw [upd_ne (fun e => k2 (by rw [e]; exact h1))]; exact ha.fr k k1 k2 k3, by rw [upd_ne h2]; exact ha.giv⟩
def Pt.fut (p : Pt) : Fut := ⟨p.cur, p.l.getD [], p.fin⟩
def Ox (x : AV) : Prop := ∃ f a b, x = .fn f a b
def Yi (ps : List Pt) : Prop := ∀ p ∈ ps, (∃ l, p.l = some l) ∧ Ox p.x
section
variable {e sz by_ : Nat} {d : Option Nat} {K : AS → Prop} {en : AT} {n : Nat} {H : A4}
theorem Qh {l m : List AV} {t : Tok} {g0 : Nat} (hg : H g0 = some (.row e l.length)) (h1 : (l.length + m.length) * by_ ≤ 140737488355328) (h2 : l.length + m.length ≤ maxLen)
  (hk : ∀ g n', (g = g0 ∨ n ≤ g) → n ≤ n' → g < n' → K ⟨AP en d (.sl sz (l ++ m) (.own g)), n', upd (upd H g0 none) g (some (.row e (l.length + m.length)))⟩) : appKS e sz by_ d K ⟨en, n, H⟩ (.sl sz l (.own g0)) (.sl sz m t) :=
 ⟨.inl rfl, m, A0 m, h1, h2, rfl, hg, hk⟩
theorem Qw {z : Nat} {m : List AV} {t : Tok} (hm : m ≠ []) (h1 : (0 + m.length) * by_ ≤ 140737488355328) (h2 : 0 + m.length ≤ maxLen)
  (hk : ∀ g, n ≤ g → K ⟨AP en d (.sl sz m (.own g)), g + 1, upd H g (some (.row e m.length))⟩) : appKS e sz by_ d K ⟨en, n, H⟩ (.sl z [] .nil) (.sl sz m t) :=
 ⟨.inl rfl, m, A0 m, h1, h2, fun h => absurd h hm, fun _ => .inl hk⟩
end
theorem Sit.more {ps : List Pt} {gO lo gg n n' : Nat} {cs : Ai} {H H' : A4} (h : Sit gO lo ps H n gg cs) (hn : n ≤ n') (hs : SameB n H H') (hsup : ∀ g, n' ≤ g → H' g = none) : Sit gO lo ps H' n' gg cs := by
 have hlt := h.giv.lt h.sup
 exact ⟨h.pts.at_ (fun k hk => hs k (h.pts.bel k hk)) hn, ⟨by rw [hs gO hlt.1]; exact h.giv.opn, by rw [hs gg hlt.2]; exact h.giv.giv, h.giv.fit, h.giv.at_⟩, h.ngg, h.ngO, hsup⟩
theorem Bx.more {gO g : Nat} {O : Nat → Prop} {n n' : Nat} {H H' : A4} {ob : AObj} (h : Bx O gO g H n ob) (hn : n ≤ n') (hs : SameB n H H') : Bx O gO g H' n' ob := ⟨h.no, h.nO, Nat.lt_of_lt_of_le h.lt hn, (hs g h.lt).trans h.at_⟩
theorem Aft.more {lo gg n n' n2 : Nat} {c cs : Ai} {H H' H2 : A4} {O O' : Nat → Prop} (ha : Aft lo gg cs c O n H n' H' O') (hn : n' ≤ n2) (hs : SameB n' H' H2) (hg : gg < n') : Aft lo gg cs c O n H n2 H2 O' :=
 ⟨Nat.le_trans ha.le hn, ha.sub, fun g h => Nat.lt_of_lt_of_le (ha.bel g h) hn, fun g h1 h2 h3 => (hs g (Nat.lt_of_lt_of_le h1 ha.le)).trans (ha.fr g h1 h2 h3), (hs gg hg).trans ha.giv⟩
def ent (ps : List Pt) (i : Nat) : Nat × Bc × Ai := (i, (ps[i]?.bind Pt.l).getD [], (ps[i]?.map Pt.fin).getD [])
theorem Sit.hd {bs : List Pt} {p : Pt} {gO lo gg n : Nat} {cs : Ai} {H : A4} {d : Option Nat} {K : AS → Prop} {en : AT} (h : Sit gO lo (p :: bs) H n gg cs)
  (hk : ∀ r n' H' p', n ≤ n' → PtR p r p' → (Ap (p' :: bs)).length = (Ap (p :: bs)).length → Sit gO lo (p' :: bs) H' n' gg (EA cs lo (Ap (p' :: bs))) → Aft lo gg cs (Ap (p' :: bs)) (OU (p :: bs)) n H n' H' (OU (p' :: bs)) → K ⟨AP en d r, n', H'⟩) :
  Ar Tryz.prog d K en n H [] p.x := Sit.call (qs := []) h hk
def PSe (gO lo : Nat) (p : Pt) (l : Bc) (gg : Nat) (cs : Ai) (n : Nat) (H : A4) : Bi := fun r n' H' => ∃ p', n ≤ n' ∧ PtR ⟨p.x, some l, p.cur, p.fin, p.O⟩ r p' ∧ (Ap [p']).length = (Ap [p]).length ∧ Sit gO lo [p'] H' n' gg (EA cs lo (Ap [p'])) ∧ Aft lo gg cs (Ap [p']) (OU [p]) n H n' H' (OU [p'])
abbrev Sd (pd : Int → Bool) (l : Bc) : Bc := l.dropWhile fun e => !pd e.1
theorem X5 {gO lo gg gs f : Nat} {px : AV} {fin : Ai} {ob : AObj} {pd : Int → Bool} (hcal : CW Tryz.prog f = true) (hpd : ∀ (x : Int) (n : Nat) (H : A4), IX x → H gs = some ob → APureAt Tryz.prog f [aI x, .ptr gs 0] n H (.bool (pd x))) (hxf : Ox px) (ng : gg ≠ gs) (l : Bc) (cur cs : Ai) (O : Nat → Prop) (n : Nat) (H : A4)
  (hS : Sit gO lo [⟨px, some l, cur, fin, O⟩] H n gg cs) (hrg : rgE l) (B : Bx (OU [⟨px, some l, cur, fin, O⟩]) gO gs H n ob) : ACalls Tryz.prog 106 [px, .fn f [] [.ptr gs 0]] n H (PSe gO lo ⟨px, some l, cur, fin, O⟩ (Sd pd l) gg cs n H) := by
 generalize hR : PSe _ _ _ _ _ _ _ _ = R
 refine Ab Tryz.func106 ZM rfl fun hs => ?_
 repeat' (first | (simp -implicitDefEqProofs [c106, Gz, c106, -getElem?_pos, -Ar]) | (simp (disch := omega) only [AF]) | (with_reducible first | refine A7 ?_ ?_ ?_ | exact AB | assumption | refine A3 ?_ | refine KM.of ?_ | refine AG ?_ | intro _g _hg | refine AE ?_ ?_ | intro _hc) | omega)
 refine LoopK.go (fun r st => ∃ (l1 : Bc) (cur1 : Ai) (O1 : Nat → Prop) (n1 : Nat) (H1 : A4), r = l1.length ∧ st = ⟨[(0, px), (1, .fn f [] [.ptr gs 0])], n1, H1⟩ ∧ n ≤ n1 ∧ Sit gO lo [⟨px, some l1, cur1, fin, O1⟩] H1 n1 gg (EA cs lo (Ap [⟨px, some l1, cur1, fin, O1⟩])) ∧ (Ap [⟨px, some l1, cur1, fin, O1⟩]).length = (Ap [⟨px, some l, cur, fin, O⟩]).length ∧ rgE l1 ∧
  Aft lo gg cs (Ap [⟨px, some l1, cur1, fin, O1⟩]) (OU [⟨px, some l, cur, fin, O⟩]) n H n1 H1 (OU [⟨px, some l1, cur1, fin, O1⟩]) ∧ Bx (OU [⟨px, some l1, cur1, fin, O1⟩]) gO gs H1 n1 ob ∧ Sd pd l1 = Sd pd l) l.length ?_ ?_
 ·refine ⟨l, cur, O, n, H, rfl, rfl, Nat.le_refl _, ?_, rfl, hrg, Aft.same hS.giv hS.pts.bel, B, rfl⟩
  rw [N9 hS.giv]; exact hS
 rintro r st ⟨l1, cur1, O1, n1, H1, rfl, rfl, hn1, hS1, hl1, hrg1, ha1, B1, hE⟩ J hJ
 obtain ⟨ff, fa, fb, rfl⟩ := hxf
 cases l1 with
 | nil =>
  repeat' (first | (simp -implicitDefEqProofs [Gz, c106, -getElem?_pos, -Ar]) | (simp (disch := omega) only [AF]) | (refine hS1.hd (fun r n' H' p' hle hr hl hS2 ha => ?_); obtain ⟨x', l', cur', fin', O2⟩ := p'; dsimp only [PtR] at hr; obtain ⟨rfl, rfl, ⟨v, rfl⟩, rfl, rfl⟩ := hr) | (with_reducible first | refine A7 ?_ ?_ ?_ | exact AB | assumption | refine A3 ?_ | refine KM.of ?_ | refine AG ?_ | intro _g _hg | refine AE ?_ ?_ | intro _hc) | omega)
  subst hR
  have hat := Aft.tr hS.giv ha1 ha hl1 (hl.trans hl1)
  have e0 : Sd pd l = [] := by rw [← hE]; rfl
  rw [Hl (by have := hS.giv.fit; omega) hl] at hS2
  rw [e0]
  exact BI (r := .tup [aI v, .bool false]) rfl (by omega) hS2.sup ⟨⟨.fn ff fa fb, none, cur', cur', O2⟩, by omega, ⟨rfl, rfl, ⟨v, rfl⟩, rfl, rfl⟩, hl.trans hl1, hS2, hat⟩
 | cons e l1 =>
  obtain ⟨y, c⟩ := e
  cases hpy : pd y with
  | true =>
   repeat' (first | (simp -implicitDefEqProofs [Gz, c106, -getElem?_pos, hcal, PW (f := f), -Ar]) | (simp (disch := omega) only [AF]) | (refine hS1.hd (fun r n' H' p' hle hr hl hS2 ha => ?_); obtain ⟨x', l', cur', fin', O2⟩ := p'; dsimp only [PtR] at hr; obtain ⟨rfl, rfl, rfl, rfl, rfl⟩ := hr; have B2 := B1.go ng ha; have hap := hpd y n' H' hrg1.hd B2.at_; rw [hpy] at hap) | ((with_reducible refine CallK.chk (f := _) ?_); (refine' CallK.sfAt ?_ (hap) ?_); (focus first | (with_reducible exact A0 _) | (simp [AC, A8, A1, A0]; done))) | (with_reducible first | refine A7 ?_ ?_ ?_ | exact AB | assumption | refine A3 ?_ | refine KM.of ?_ | refine AG ?_ | intro _g _hg | refine AE ?_ ?_ | intro _hc) | omega)
   subst hR
   have hat := Aft.tr hS.giv ha1 ha hl1 (hl.trans hl1)
   have e0 : Sd pd l = (y, cur') :: l1 := by rw [← hE]; simp [Sd, List.dropWhile, hpy]
   rw [Hl (by have := hS.giv.fit; omega) hl] at hS2
   rw [e0]
   exact BI (r := .tup [aI y, .bool true]) rfl (by omega) hS2.sup ⟨⟨.fn ff fa fb, some l1, cur', fin', O2⟩, by omega, ⟨rfl, rfl, rfl, rfl, rfl⟩, hl.trans hl1, hS2, hat⟩
  | false =>
   repeat' (first | (simp -implicitDefEqProofs [Gz, c106, -getElem?_pos, hcal, PW (f := f), -Ar]) | (simp (disch := omega) only [AF]) | (refine hS1.hd (fun r n' H' p' hle hr hl hS2 ha => ?_); obtain ⟨x', l', cur', fin', O2⟩ := p'; dsimp only [PtR] at hr; obtain ⟨rfl, rfl, rfl, rfl, rfl⟩ := hr; have B2 := B1.go ng ha; have hap := hpd y n' H' hrg1.hd B2.at_; rw [hpy] at hap) | ((with_reducible refine CallK.chk (f := _) ?_); (refine' CallK.sfAt ?_ (hap) ?_); (focus first | (with_reducible exact A0 _) | (simp [AC, A8, A1, A0]; done))) | (with_reducible first | refine A7 ?_ ?_ ?_ | exact AB | assumption | refine A3 ?_ | refine KM.of ?_ | refine AG ?_ | intro _g _hg | refine AE ?_ ?_ | intro _hc) | omega)
   have hat := Aft.tr hS.giv ha1 ha hl1 (hl.trans hl1)
   have e0 : Sd pd ((y, cur') :: l1) = Sd pd l1 := by simp [Sd, List.dropWhile, hpy]
   rw [Hl (by have := hS.giv.fit; omega) hl] at hS2
   exact hJ l1.length _ (by simp) ⟨l1, cur', O2, n', H', rfl, rfl, by omega, hS2, hl.trans hl1, hrg1.tl, hat, B1.go ng ha, e0 ▸ hE⟩
theorem TK : CW Tryz.prog 105 = true := by kernel_rfl
theorem SK : CW Tryz.prog 107 = true := by kernel_rfl
theorem V6 {gs : Nat} {k op m : Int} {a b : AV} (hop : 1 ≤ op ∧ op ≤ 3) (hm : IX m) (h3 : op = 3 → 1 ≤ m) (x : Int) (n : Nat) (H : A4) (hx : IX x) (q : H gs = some (Aj k op m a b)) : APureAt Tryz.prog 107 [aI x, .ptr gs 0] n H (.bool (RJ op x m)) := by
 have hap := Yk op x m hop hx hm h3
 refine D2 Tryz.func107 Zs rfl fun hH => ?_
 repeat' (first | (simp -implicitDefEqProofs [c107, -getElem?_pos, q, A8]) | (simp (disch := omega) only [AF]) | ((with_reducible refine AJ 108 ?_); refine' AZ (hap) ?_) | (with_reducible first | refine A7 ?_ ?_ ?_ | exact AB | refine SameB.upd ?_ ?_ _ | assumption | refine A3 ?_ | refine KM.of ?_ | refine AG ?_ | intro _g _hg | refine AE ?_ ?_ | intro _hc) | omega)
theorem YI (pd : Int → Bool) (l : Bc) : (Sd pd l).length ≤ l.length := (List.dropWhile_sublist _).length_le
theorem Zq {pd : Int → Bool} {l : Bc} (h : rgE l) : rgE (Sd pd l) := h.sub (List.dropWhile_sublist _)
theorem Oz {pd : Int → Bool} : ∀ {l : Bc}, l.filter (fun e => pd e.1) = (match Sd pd l with | [] => [] | e :: r => e :: r.filter fun e => pd e.1)
 | [] => rfl
 | (y, c) :: l => by
  cases h : pd y with
  | true => simp [Sd, List.dropWhile, h]
  | false =>
   have := Oz (pd := pd) (l := l)
   simp only [Sd, List.dropWhile, h] at this ⊢
   simpa [h] using this
theorem TH {gO lo : Nat} {fin : Ai} {px a b : AV} {g1 g2 : Nat} {k op m : Int} (hop : 1 ≤ op ∧ op ≤ 3) (hm : IX m) (h3 : op = 3 → 1 ≤ m) (hxf : Ox px) : ∀ (N : Nat) (l : Bc) (cur : Ai) (O1 O : Nat → Prop) (H0 : A4) (n0 : Nat), l.length ≤ N → Pts gO lo [⟨px, some l, cur, fin, O1⟩] H0 n0 → OU [⟨px, some l, cur, fin, O1⟩] = O → rgE l → ¬ O gO →
  Bx O gO g1 H0 n0 (PN px) → Bx O gO g2 H0 n0 (Aj k op m a b) → Raw false gO lo fin (.fn 105 [] [.ptr g1 0, .ptr g2 0]) (l.filter fun e => RJ op e.1 m) (Ap [⟨px, some l, cur, fin, O1⟩]) (fun g => O g ∨ g = g1 ∨ g = g2) H0 n0 := by
 intro N
 induction N using Nat.strongRecOn with
 | _ N ih =>
  intro l cur O1 O H0 n0 hN hP hO hrg noO B1 B2
  have hbel : ∀ g, O g → g < n0 := fun g hg => hP.bel g (hO ▸ hg)
  refine Raw.of fun n H gg cs hn hag hgg hgO hgv => ?_
  replace B1 := B1.to hn (hag g1 (.inr (.inl rfl)))
  have q1 := B1.at_
  have ng1 : gg ≠ g1 := fun h => hgg (.inr (.inl h))
  replace B2 := B2.to hn (hag g2 (.inr (.inr rfl)))
  have q2 := B2.at_
  have ng2 : gg ≠ g2 := fun h => hgg (.inr (.inr h))
  have nog : ¬ O gg := fun h => hgg (.inl h)
  replace hbel : ∀ g, O g → g < n := fun g h => Nat.lt_of_lt_of_le (hbel g h) hn
  refine ⟨TK, ?_⟩
  subst hO
  have hS := fun hs => Sit.start hP hn (fun g hg => hag g (.inl hg)) nog noO hgv hs
  have hft := Oz (pd := fun x => RJ op x m) (l := l)
  have hrg2 : rgE (Sd (fun x => RJ op x m) l) := Zq hrg
  have htl := YI (fun x => RJ op x m) l
  have hc := fun hs => X5 (pd := fun x => RJ op x m) SK (V6 (k := k) (a := a) (b := b) hop hm h3) hxf ng2 l cur cs O1 n H (hS hs) hrg B2
  rw [hft]
  generalize Sd (fun x => RJ op x m) l = l2 at *
  obtain ⟨ff, fa, fb, rfl⟩ := hxf
  cases l2 with
  | nil =>
   generalize hR : Om _ _ _ _ _ _ _ _ _ _ _ = R
   refine Ab Tryz.func105 XC rfl fun hs => ?_
   have hc := hc hs
   repeat' (first | (simp -implicitDefEqProofs [c105, -getElem?_pos, q1, q2, -Ar]) | (simp (disch := omega) only [AF]) | ((with_reducible refine Ay 106 ?_); refine ⟨_, hc, ?_⟩; rintro r n' H' hle hsup ⟨p', (hle : n ≤ n'), hr, hl, hS2, ha⟩; obtain ⟨x', l', cur', fin', O2⟩ := p'; dsimp only [PtR] at hr; obtain ⟨rfl, rfl, ⟨v, rfl⟩, rfl, rfl⟩ := hr) | (with_reducible first | refine A7 ?_ ?_ ?_ | exact AB | assumption | refine A3 ?_ | refine KM.of ?_ | refine AG ?_ | intro _g _hg | refine AE ?_ ?_ | intro _hc) | omega)
   subst hR
   replace ha := ha.eqc (c' := cur') (by simp [Ap])
   exact BI (r := .tup [_, _]) rfl (by omega) hsup ⟨v, _, rfl, ((ha).ext (B := fun g => g = g1 ∨ g = g2) (fun g h => by have := B1.lt; have := B2.lt; rcases h with rfl | rfl <;> omega) (fun _ _ => rfl) (fun _ _ => rfl) (fun h => h.elim ng1 ng2)), fun h => by cases h⟩
  | cons e l2 =>
   obtain ⟨y, c⟩ := e
   generalize hR : Om _ _ _ _ _ _ _ _ _ _ _ = R
   refine Ab Tryz.func105 XC rfl fun hs => ?_
   have hc := hc hs
   repeat' (first | (simp -implicitDefEqProofs [c105, -getElem?_pos, q1, q2, -Ar]) | (simp (disch := omega) only [AF]) | ((with_reducible refine Ay 106 ?_); refine ⟨_, hc, ?_⟩; rintro r n' H' hle hsup ⟨p', (hle : n ≤ n'), hr, hl, hS2, ha⟩; obtain ⟨x', l', cur', fin', O2⟩ := p'; dsimp only [PtR] at hr; obtain ⟨rfl, rfl, rfl, rfl, rfl⟩ := hr) | (with_reducible first | refine A7 ?_ ?_ ?_ | exact AB | assumption | refine A3 ?_ | refine KM.of ?_ | refine AG ?_ | intro _g _hg | refine AE ?_ ?_ | intro _hc) | omega)
   subst hR
   have ha1 := ha.eqc (c' := cur') (by simp [Ap])
   have := ih l2.length (by simp at htl; omega) l2 cur' O2 _ H' n' (Nat.le_refl _) hS2.pts rfl hrg2.tl hS2.ngO (B1.go ng1 ha) (B2.go ng2 ha)
   simp only [Ap, List.append_nil] at this
   exact BI (r := .tup [_, _]) rfl (by omega) hsup ⟨_, rfl, ((ha1).ext (B := fun g => g = g1 ∨ g = g2) (fun g h => by have := B1.lt; have := B2.lt; rcases h with rfl | rfl <;> omega) (fun _ _ => rfl) (fun _ _ => rfl) (fun h => h.elim ng1 ng2)), this⟩
end Go.Proofs.YtjdccdelcnmocaaGreatDoor

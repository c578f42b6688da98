/- Streams: what stands ahead of the parts is read; no condition. -/
import Derived.Test.YtjdccdelcnmocaaGreatDoorMdP
import Derived.Test.YtjdccdelcnmocaaGreatDoorMgJ
set_option linter.all false
set_option linter.unusedSimpArgs false
set_option linter.unusedVariables false
set_option maxHeartbeats 4000000
namespace Go.Proofs.YtjdccdelcnmocaaGreatDoor
structure Ahd where
 sm : Bool
 o : Int
 m : Int
 vs : List Int
 r : AW
def Nn (o : Int) (r : AW) : Option Ahd := if (ER (r.takeWhile Af)).2 = true then some ⟨true, o, (ER (r.takeWhile Af)).1, [], r.dropWhile Af⟩ else none
def Eh (k : Int) (x : Shq) (r : AW) : Option Ahd :=
 if x.vs = true then (Es r).map fun y => ⟨false, 0, 0, y.1, y.2⟩
 else if x.fn = true ∨ x.cd = true then
  if (Se (r.takeWhile Ak) (if x.fn = true then fnW else cdW)).2 = true then
   if k = 15 then some ⟨true, (Se (r.takeWhile Ak) (if x.fn = true then fnW else cdW)).1, 0, [], r.dropWhile Ak⟩
   else if (acc 32 (r.dropWhile Ak)).2 = true then Nn (Se (r.takeWhile Ak) (if x.fn = true then fnW else cdW)).1 (acc 32 (r.dropWhile Ak)).1 else none
  else none
 else if x.n1 = 0 then some ⟨false, 0, 0, [], r⟩
 else Nn 0 r
abbrev Bv : AV := .sl 0 [] .nil
def A0f (n : Nat) (H : A4) (gp gS gm : Nat) (k : Int) (ps : AV) (res : Option Ahd) : Bi := fun b n' H' => n ≤ n' ∧ (∀ g, n' ≤ g → H' g = none) ∧ (∀ g, g < n → g ≠ gp → g ≠ gS → H' g = H g) ∧ match res with
 | some a => b = .tup [.bool a.sm, .bool true] ∧ H' gp = some (An a.r gm) ∧ ∃ (z : Nat) (t : Tok), (z = 1 ∨ a.vs = []) ∧ H' gS = some (Aj k a.o a.m (.sl z (a.vs.map aI) t) ps)
 | none => (∃ sm : Bool, b = .tup [.bool sm, .bool false]) ∧ (∃ r', H' gp = some (An r' gm)) ∧ ∃ o m w, H' gS = some (Aj k o m w ps)
attribute [local simp] Kz De DC Kv Lp Je Jw Dj DK Fe Fi KJ JN LL KL Ig JX Ix L9 Kn K6 Kk LJ K3 Ji RM pe KK Io Iu JW JI Kf Ir L7 Jx LH J5 L8 Is DT J0 Ju Jg Ih Li Lf K5 KN Js LO Ks LC La Im Ip Ln JQ Kt Jt JF L4 DG Lv DY Kq JZ Ky LB LG Lk KH JM LE Jr LF KA JU L0 JY JB Lo JJ Ly Jl Lm Ik Jm Jf Kw DJ KO Lj JG Ld Jn Lh Kj J9 Kp Kb Lc K2 KE LR Il Lq JC L3 Km JR Lz Jd LN L2 M1 LM Lr KG Iv JO L1 LK List.mem_cons guardK CR Ez F6 Fa Lx DX DF DL Dd DP DM DN Dh D9 M0 Ki Dg KF LP JV Jp Kc K8 DR KX LV J1 JA LW LQ Fj DQ DS DH DA Lw Ja DW Ii DD L6 Db DE Ku DO DU LZ LD KR Lg Kl J7 L5 J4 RL IR IV Gt IN IS IL Cx FB FA KV FC F8 Cv CY Sc IH II F9 IK IT D0 D4 Bg BG C3 CK Ar ev get put GQ AP Cr Jc K4 Kd LI JT Jh EF part BZ HA Jy Gx isNil CA CG EL CQ C1 Kx JP J3 KI Iq IF Ij JE Jo LU Jq Jv K7 Jz KZ Iz AV.fits AV.cells ones AV.one EK CD EE E2 FV ES Ll GB Fy CH Br C5 F3 Gg AX BY TO Fc Ko Ie List.getElem?_cons_zero List.getElem?_cons_succ Dc Df Di J8 Kg Ls H9 It Kh JK KD Ke LT JH Lu Iw LY JD
theorem YH (k : Int) (x : Shq) (r : AW) (gp gS gm n : Nat) (H : A4) (hr : r.length ≤ 4000) (hp : H gp = some (An r gm)) (hS : H gS = some (Aj k 0 0 (.sl 0 [] .nil) Bv)) (hne : gp ≠ gS) : ACalls Tryz.prog 86 [.ptr gp 0, .ptr gS 0, RK x] n H (A0f n H gp gS gm k Bv (Eh k x r)) := by
 have hfn := PV
 have hcn := Py
 generalize hR : A0f _ _ _ _ _ _ _ _ = R
 refine Ab Tryz.func86 A2v rfl fun hs => ?_
 have hgp : gp < n := by
  rcases Nat.lt_or_ge gp n with h | h
  ·exact h
  ·rw [hs gp h] at hp; cases hp
 have hgS : gS < n := by
  rcases Nat.lt_or_ge gS n with h | h
  ·exact h
  ·rw [hs gS h] at hS; cases hS
 obtain ⟨w, pts, fn, cd, n0, n1, vs⟩ := x
 simp only [Eh] at hR
 -- the number
 have hnum : ∀ (o : Int) (r1 : AW) (e : AT) (g5 n2 : Nat) (H2 : A4), r1.length ≤ 4000 → n ≤ n2 → (∀ g, n2 ≤ g → H2 g = none) → H2 gp = some (An r1 gm) → H2 gS = some (Aj k o 0 (.sl 0 [] .nil) Bv) → (∀ g, g < n → g ≠ gp → g ≠ gS → H2 g = H g) → A0f n H gp gS gm k Bv (Nn o r1) = R → aw Tryz.prog c86_k1 (fin R n [.tmp 6, .tmp 7]) ⟨[(0, .ptr gp 0), (1, .ptr gS 0)], n2, H2⟩ := by
  intro o r1 e g5 n2 H2 h1 h2 h3 h4 h5 h6 h7
  have hnu := Rf r1 gp gm n2 H2 (by omega) h4
  unfold Nn at h7
  generalize ER (r1.takeWhile Af) = d at *
  generalize r1.dropWhile Af = r2 at *
  
  repeat' (first | (simp -implicitDefEqProofs [Cj, -getElem?_pos, h4, h5, hne, Ne.symm hne, splice]) | (simp (disch := omega) only [AF]) | ((with_reducible refine Ay 127 ?_); (refine' CallK.sfU ?_ (hnu) ?_); (focus first | (with_reducible exact A0 _) | (simp [AC, A8, A1, A0]; done))) | (with_reducible first | refine A7 ?_ ?_ ?_ | exact AB | assumption | refine A3 ?_ | refine KM.of ?_ | refine AG ?_ | refine A2 ?_ | refine A5 ?_ | intro _g _hg | refine AE ?_ ?_ | intro _hc) | omega)
  subst h7
  have hfr : ∀ g, g < n → g ≠ gp → g ≠ gS → (upd (upd H2 gp (some (An r2 gm))) gS (some (Aj k o d.1 (.sl 0 [] .nil) Bv))) g = H g := fun g a1 a2 a3 => by rw [upd_ne a3, upd_ne a2]; exact h6 g a1 a2 a3
  have hsp : ∀ g, n2 ≤ g → (upd (upd H2 gp (some (An r2 gm))) gS (some (Aj k o d.1 (.sl 0 [] .nil) Bv))) g = none := fun g a1 => by rw [upd_ne (by omega), upd_ne (by omega)]; exact h3 g a1
  by_cases hd : d.2 = true
  ·rw [if_pos hd]
   refine Ax (x := .tup [.bool true, .bool true]) (by simp -implicitDefEqProofs [-getElem?_pos, hd]) (A1 _) (by omega) hsp ⟨by omega, hsp, hfr, rfl, by rw [upd_ne hne, AX], 0, .nil, .inr rfl, AX _ _ _⟩
  ·rw [if_neg hd]
   rw [Bool.not_eq_true] at hd
   refine Ax (x := .tup [.bool true, .bool false]) (by simp -implicitDefEqProofs [-getElem?_pos, hd]) (A1 _) (by omega) hsp ⟨by omega, hsp, hfr, ⟨true, rfl⟩, ⟨_, by rw [upd_ne hne, AX]⟩, _, _, _, AX _ _ _⟩
 cases vs with
 | true =>
  simp only [if_true] at hR
  have hv := fun (n2 : Nat) (H2 : A4) (h1 : H2 gp = some (An r gm)) (h2 : H2 gS = some (Aj k 0 0 (.sl 0 [] .nil) Bv)) => WE r gp gS gm n2 H2 k 0 0 Bv rfl hr h1 h2 hne rfl
  cases fn <;> repeat' (first | (simp -implicitDefEqProofs [Cj, CM, CO, Cn, C9, CB, c86, -getElem?_pos, splice]) | (simp (disch := omega) only [AF]) | ((with_reducible refine Ay 125 ?_); refine ⟨_, hv _ _ (by simp (disch := omega) only [upd_ne]; exact hp) (by simp (disch := omega) only [upd_ne]; exact hS), ?_⟩; rintro rb n2 H2 hle2 hsup2 hpost) | ((with_reducible refine AJ 118 ?_); refine' AZ (hfn) ?_) | ((with_reducible refine AJ 119 ?_); refine' AZ (hcn) ?_) | (with_reducible first | refine A7 ?_ ?_ ?_ | exact AB | assumption | refine A3 ?_ | refine KM.of ?_ | refine AG ?_ | refine A2 ?_ | refine A5 ?_ | intro _g _hg | refine AE ?_ ?_ | intro _hc) | omega)
  all_goals
   subst hR
   dsimp only at hpost hle2
   obtain ⟨p1, p2, p3, p4⟩ := hpost
   have hfr : ∀ g, g < n → g ≠ gp → g ≠ gS → H2 g = H g := fun g a1 a2 a3 => (p3 g (by omega) a2 a3).trans (upd_ne (by omega))
   cases hvp : Es r with
   | some y =>
    rw [hvp] at p4
    obtain ⟨rfl, q1, z, t, q2, q3⟩ := p4
    exact Ax (x := .tup [.bool false, .bool true]) (by simp -implicitDefEqProofs [-getElem?_pos]) (A1 _) (by omega) hsup2 ⟨by omega, hsup2, hfr, rfl, q1, z, t, q2, q3⟩
   | none =>
    rw [hvp] at p4
    obtain ⟨rfl, ⟨r', q1⟩, w', q3⟩ := p4
    exact Ax (x := .tup [.bool false, .bool false]) (by simp -implicitDefEqProofs [-getElem?_pos]) (A1 _) (by omega) hsup2 ⟨by omega, hsup2, hfr, ⟨false, rfl⟩, ⟨r', q1⟩, _, _, _, q3⟩
 | false =>
  simp only [Bool.false_eq_true, if_false] at hR
  cases fn with
  | true =>
   simp only [true_or, if_true] at hR
   have hop := fun (n2 : Nat) (H2 : A4) (h1 : H2 gp = some (An r gm)) => A2g r fnW gp gm n2 H2 (by omega) (by decide) h1
   have hdl := EM Ak r
   generalize hop1 : Se (r.takeWhile Ak) fnW = op at *
   generalize r.dropWhile Ak = r1 at *
   have hac := fun (n2 : Nat) (H2 : A4) (h1 : H2 gp = some (An r1 gm)) => GM r1 32 gp gm n2 H2 h1
   have hal := D8 32 r1
   generalize acc 32 r1 = a at *
   by_cases ho : op.2 = true
   ·rw [if_pos ho] at hR
    rw [ho] at hop
    by_cases h15 : k = 15
    ·rw [if_pos h15] at hR
     subst h15
     repeat' (first | (simp -implicitDefEqProofs [Cj, CM, CO, Cn, C9, CB, c86, -getElem?_pos, hS, hne, Ne.symm hne, splice]) | (simp (disch := omega) only [AF]) | ((with_reducible refine AJ 118 ?_); refine' AZ (hfn) ?_) | ((with_reducible refine AJ 119 ?_); refine' AZ (hcn) ?_) | ((with_reducible refine Ay 126 ?_); (refine' CallK.sfU ?_ ((hop _ _ (by simp (disch := omega) only [upd_ne]; exact hp))) ?_); (focus first | (with_reducible exact A0 _) | (simp [AC, A8, A1, A0]; done))) | (with_reducible first | refine A7 ?_ ?_ ?_ | exact AB | assumption | refine A3 ?_ | refine KM.of ?_ | refine AG ?_ | refine A2 ?_ | refine A5 ?_ | intro _g _hg | refine AE ?_ ?_ | intro _hc) | omega)
     subst hR
     exact Ax (x := .tup [.bool true, .bool true]) (by simp -implicitDefEqProofs [-getElem?_pos]) (A1 _) (by omega) (fun g hg => by simp (disch := omega) only [upd_ne]; exact hs g (by omega)) ⟨by omega, fun g hg => by simp (disch := omega) only [upd_ne]; exact hs g (by omega), fun g a1 a2 a3 => by rw [upd_ne a3, upd_ne a2, upd_ne (by omega)], rfl, by rw [upd_ne hne, AX], 0, .nil, .inr rfl, AX _ _ _⟩
    ·rw [if_neg h15] at hR
     by_cases ha : a.2 = true
     ·rw [if_pos ha] at hR
      rw [ha] at hac
      repeat' (first | (simp -implicitDefEqProofs [c86, CB, C9, CO, CM, -getElem?_pos, hS, hne, Ne.symm hne, h15, splice]) | (simp (disch := omega) only [AF]) | ((with_reducible refine AJ 118 ?_); refine' AZ (hfn) ?_) | ((with_reducible refine AJ 119 ?_); refine' AZ (hcn) ?_) | ((with_reducible refine Ay 126 ?_); (refine' CallK.sfU ?_ ((hop _ _ (by simp (disch := omega) only [upd_ne]; exact hp))) ?_); (focus first | (with_reducible exact A0 _) | (simp [AC, A8, A1, A0]; done))) | ((with_reducible refine Ay 85 ?_); (refine' CallK.sfU ?_ ((hac _ _ (by rw [upd_ne hne, AX]))) ?_); (focus first | (with_reducible exact A0 _) | (simp [AC, A8, A1, A0]; done))) | (with_reducible first | refine A7 ?_ ?_ ?_ | exact AB | assumption | refine A3 ?_ | refine KM.of ?_ | refine AG ?_ | refine A2 ?_ | refine A5 ?_ | intro _g _hg | refine AE ?_ ?_ | intro _hc) | omega)
      refine hnum op.1 a.1 [] 0 _ _ (by omega) (by omega) (fun g hg => by simp (disch := omega) only [upd_ne]; exact hs g (by omega)) (by simp (disch := assumption) only [upd_ne, AX]) (by rw [upd_ne (Ne.symm hne), AX]) (fun g a1 a2 a3 => by rw [upd_ne a2, upd_ne a3, upd_ne a2, upd_ne (by omega)]) hR
     ·rw [if_neg ha] at hR
      rw [Bool.not_eq_true] at ha
      rw [ha] at hac
      repeat' (first | (simp -implicitDefEqProofs [Cj, CM, CO, Cn, C9, CB, c86, -getElem?_pos, hS, hne, Ne.symm hne, h15, splice]) | (simp (disch := omega) only [AF]) | ((with_reducible refine AJ 118 ?_); refine' AZ (hfn) ?_) | ((with_reducible refine AJ 119 ?_); refine' AZ (hcn) ?_) | ((with_reducible refine Ay 126 ?_); (refine' CallK.sfU ?_ ((hop _ _ (by simp (disch := omega) only [upd_ne]; exact hp))) ?_); (focus first | (with_reducible exact A0 _) | (simp [AC, A8, A1, A0]; done))) | ((with_reducible refine Ay 85 ?_); (refine' CallK.sfU ?_ ((hac _ _ (by rw [upd_ne hne, AX]))) ?_); (focus first | (with_reducible exact A0 _) | (simp [AC, A8, A1, A0]; done))) | (with_reducible first | refine A7 ?_ ?_ ?_ | exact AB | assumption | refine A3 ?_ | refine KM.of ?_ | refine AG ?_ | refine A2 ?_ | refine A5 ?_ | intro _g _hg | refine AE ?_ ?_ | intro _hc) | omega)
      subst hR
      exact Ax (x := .tup [.bool true, .bool false]) (by simp -implicitDefEqProofs [-getElem?_pos]) (A1 _) (by omega) (fun g hg => by simp (disch := omega) only [upd_ne]; exact hs g (by omega)) ⟨by omega, fun g hg => by simp (disch := omega) only [upd_ne]; exact hs g (by omega), fun g a1 a2 a3 => by rw [upd_ne a2, upd_ne a3, upd_ne a2, upd_ne (by omega)], ⟨true, rfl⟩, ⟨_, AX _ _ _⟩, _, _, _, by rw [upd_ne (Ne.symm hne), AX]⟩
   ·rw [if_neg ho] at hR
    rw [Bool.not_eq_true] at ho
    rw [ho] at hop
    repeat' (first | (simp -implicitDefEqProofs [Cj, CM, CO, Cn, C9, CB, c86, -getElem?_pos, hS, hne, Ne.symm hne, splice]) | (simp (disch := omega) only [AF]) | ((with_reducible refine AJ 118 ?_); refine' AZ (hfn) ?_) | ((with_reducible refine AJ 119 ?_); refine' AZ (hcn) ?_) | ((with_reducible refine Ay 126 ?_); (refine' CallK.sfU ?_ ((hop _ _ (by simp (disch := omega) only [upd_ne]; exact hp))) ?_); (focus first | (with_reducible exact A0 _) | (simp [AC, A8, A1, A0]; done))) | (with_reducible first | refine A7 ?_ ?_ ?_ | exact AB | assumption | refine A3 ?_ | refine KM.of ?_ | refine AG ?_ | refine A2 ?_ | refine A5 ?_ | intro _g _hg | refine AE ?_ ?_ | intro _hc) | omega)
    subst hR
    exact Ax (x := .tup [.bool true, .bool false]) (by simp -implicitDefEqProofs [-getElem?_pos]) (A1 _) (by omega) (fun g hg => by simp (disch := omega) only [upd_ne]; exact hs g (by omega)) ⟨by omega, fun g hg => by simp (disch := omega) only [upd_ne]; exact hs g (by omega), fun g a1 a2 a3 => by rw [upd_ne a3, upd_ne a2, upd_ne (by omega)], ⟨true, rfl⟩, ⟨_, by rw [upd_ne hne, AX]⟩, _, _, _, by rw [AX]⟩
  | false =>
   cases cd with
   | true =>
    simp only [Bool.false_eq_true, or_true, if_true, if_false] at hR
    have hop := fun (n2 : Nat) (H2 : A4) (h1 : H2 gp = some (An r gm)) => A2g r cdW gp gm n2 H2 (by omega) (by decide) h1
    have hdl := EM Ak r
    generalize hop1 : Se (r.takeWhile Ak) cdW = op at *
    generalize r.dropWhile Ak = r1 at *
    have hac := fun (n2 : Nat) (H2 : A4) (h1 : H2 gp = some (An r1 gm)) => GM r1 32 gp gm n2 H2 h1
    have hal := D8 32 r1
    generalize acc 32 r1 = a at *
    by_cases ho : op.2 = true
    ·rw [if_pos ho] at hR
     rw [ho] at hop
     by_cases h15 : k = 15
     ·rw [if_pos h15] at hR
      subst h15
      repeat' (first | (simp -implicitDefEqProofs [Cj, CM, CO, Cn, C9, CB, c86, -getElem?_pos, hS, hne, Ne.symm hne, splice]) | (simp (disch := omega) only [AF]) | ((with_reducible refine AJ 118 ?_); refine' AZ (hfn) ?_) | ((with_reducible refine AJ 119 ?_); refine' AZ (hcn) ?_) | ((with_reducible refine Ay 126 ?_); (refine' CallK.sfU ?_ ((hop _ _ (by simp (disch := omega) only [upd_ne]; exact hp))) ?_); (focus first | (with_reducible exact A0 _) | (simp [AC, A8, A1, A0]; done))) | (with_reducible first | refine A7 ?_ ?_ ?_ | exact AB | assumption | refine A3 ?_ | refine KM.of ?_ | refine AG ?_ | refine A2 ?_ | refine A5 ?_ | intro _g _hg | refine AE ?_ ?_ | intro _hc) | omega)
      subst hR
      exact Ax (x := .tup [.bool true, .bool true]) (by simp -implicitDefEqProofs [-getElem?_pos]) (A1 _) (by omega) (fun g hg => by simp (disch := omega) only [upd_ne]; exact hs g (by omega)) ⟨by omega, fun g hg => by simp (disch := omega) only [upd_ne]; exact hs g (by omega), fun g a1 a2 a3 => by rw [upd_ne a3, upd_ne a2, upd_ne (by omega)], rfl, by rw [upd_ne hne, AX], 0, .nil, .inr rfl, AX _ _ _⟩
     ·rw [if_neg h15] at hR
      by_cases ha : a.2 = true
      ·rw [if_pos ha] at hR
       rw [ha] at hac
       repeat' (first | (simp -implicitDefEqProofs [c86, CB, C9, CO, CM, -getElem?_pos, hS, hne, Ne.symm hne, h15, splice]) | (simp (disch := omega) only [AF]) | ((with_reducible refine AJ 118 ?_); refine' AZ (hfn) ?_) | ((with_reducible refine AJ 119 ?_); refine' AZ (hcn) ?_) | ((with_reducible refine Ay 126 ?_); (refine' CallK.sfU ?_ ((hop _ _ (by simp (disch := omega) only [upd_ne]; exact hp))) ?_); (focus first | (with_reducible exact A0 _) | (simp [AC, A8, A1, A0]; done))) | ((with_reducible refine Ay 85 ?_); (refine' CallK.sfU ?_ ((hac _ _ (by rw [upd_ne hne, AX]))) ?_); (focus first | (with_reducible exact A0 _) | (simp [AC, A8, A1, A0]; done))) | (with_reducible first | refine A7 ?_ ?_ ?_ | exact AB | assumption | refine A3 ?_ | refine KM.of ?_ | refine AG ?_ | refine A2 ?_ | refine A5 ?_ | intro _g _hg | refine AE ?_ ?_ | intro _hc) | omega)
       refine hnum op.1 a.1 [] 0 _ _ (by omega) (by omega) (fun g hg => by simp (disch := omega) only [upd_ne]; exact hs g (by omega)) (by simp (disch := assumption) only [upd_ne, AX]) (by rw [upd_ne (Ne.symm hne), AX]) (fun g a1 a2 a3 => by rw [upd_ne a2, upd_ne a3, upd_ne a2, upd_ne (by omega)]) hR
      ·rw [if_neg ha] at hR
       rw [Bool.not_eq_true] at ha
       rw [ha] at hac
       repeat' (first | (simp -implicitDefEqProofs [Cj, CM, CO, Cn, C9, CB, c86, -getElem?_pos, hS, hne, Ne.symm hne, h15, splice]) | (simp (disch := omega) only [AF]) | ((with_reducible refine AJ 118 ?_); refine' AZ (hfn) ?_) | ((with_reducible refine AJ 119 ?_); refine' AZ (hcn) ?_) | ((with_reducible refine Ay 126 ?_); (refine' CallK.sfU ?_ ((hop _ _ (by simp (disch := omega) only [upd_ne]; exact hp))) ?_); (focus first | (with_reducible exact A0 _) | (simp [AC, A8, A1, A0]; done))) | ((with_reducible refine Ay 85 ?_); (refine' CallK.sfU ?_ ((hac _ _ (by rw [upd_ne hne, AX]))) ?_); (focus first | (with_reducible exact A0 _) | (simp [AC, A8, A1, A0]; done))) | (with_reducible first | refine A7 ?_ ?_ ?_ | exact AB | assumption | refine A3 ?_ | refine KM.of ?_ | refine AG ?_ | refine A2 ?_ | refine A5 ?_ | intro _g _hg | refine AE ?_ ?_ | intro _hc) | omega)
       subst hR
       exact Ax (x := .tup [.bool true, .bool false]) (by simp -implicitDefEqProofs [-getElem?_pos]) (A1 _) (by omega) (fun g hg => by simp (disch := omega) only [upd_ne]; exact hs g (by omega)) ⟨by omega, fun g hg => by simp (disch := omega) only [upd_ne]; exact hs g (by omega), fun g a1 a2 a3 => by rw [upd_ne a2, upd_ne a3, upd_ne a2, upd_ne (by omega)], ⟨true, rfl⟩, ⟨_, AX _ _ _⟩, _, _, _, by rw [upd_ne (Ne.symm hne), AX]⟩
    ·rw [if_neg ho] at hR
     rw [Bool.not_eq_true] at ho
     rw [ho] at hop
     repeat' (first | (simp -implicitDefEqProofs [Cj, CM, CO, Cn, C9, CB, c86, -getElem?_pos, hS, hne, Ne.symm hne, splice]) | (simp (disch := omega) only [AF]) | ((with_reducible refine AJ 118 ?_); refine' AZ (hfn) ?_) | ((with_reducible refine AJ 119 ?_); refine' AZ (hcn) ?_) | ((with_reducible refine Ay 126 ?_); (refine' CallK.sfU ?_ ((hop _ _ (by simp (disch := omega) only [upd_ne]; exact hp))) ?_); (focus first | (with_reducible exact A0 _) | (simp [AC, A8, A1, A0]; done))) | (with_reducible first | refine A7 ?_ ?_ ?_ | exact AB | assumption | refine A3 ?_ | refine KM.of ?_ | refine AG ?_ | refine A2 ?_ | refine A5 ?_ | intro _g _hg | refine AE ?_ ?_ | intro _hc) | omega)
     subst hR
     exact Ax (x := .tup [.bool true, .bool false]) (by simp -implicitDefEqProofs [-getElem?_pos]) (A1 _) (by omega) (fun g hg => by simp (disch := omega) only [upd_ne]; exact hs g (by omega)) ⟨by omega, fun g hg => by simp (disch := omega) only [upd_ne]; exact hs g (by omega), fun g a1 a2 a3 => by rw [upd_ne a3, upd_ne a2, upd_ne (by omega)], ⟨true, rfl⟩, ⟨_, by rw [upd_ne hne, AX]⟩, _, _, _, by rw [AX]⟩
   | false =>
    simp only [Bool.false_eq_true, or_self, if_false] at hR
    by_cases h1 : n1 = 0
    ·rw [if_pos h1] at hR
     repeat' (first | (simp -implicitDefEqProofs [Cj, CM, CO, Cn, C9, CB, c86, -getElem?_pos, h1, splice]) | (simp (disch := omega) only [AF]) | ((with_reducible refine AJ 118 ?_); refine' AZ (hfn) ?_) | ((with_reducible refine AJ 119 ?_); refine' AZ (hcn) ?_) | (with_reducible first | refine A7 ?_ ?_ ?_ | exact AB | assumption | refine A3 ?_ | refine KM.of ?_ | refine AG ?_ | refine A2 ?_ | refine A5 ?_ | intro _g _hg | refine AE ?_ ?_ | intro _hc) | omega)
     subst hR
     exact Ax (x := .tup [.bool false, .bool true]) (by simp -implicitDefEqProofs [-getElem?_pos]) (A1 _) (by omega) (fun g hg => by rw [upd_ne (by omega)]; exact hs g (by omega)) ⟨by omega, fun g hg => by rw [upd_ne (by omega)]; exact hs g (by omega), fun g a1 a2 a3 => upd_ne (by omega), rfl, by rw [upd_ne (by omega)]; exact hp, 0, .nil, .inr rfl, by rw [upd_ne (by omega)]; exact hS⟩
    ·rw [if_neg h1] at hR
     repeat' (first | (simp -implicitDefEqProofs [c86, CB, C9, Cn, -getElem?_pos, h1, splice]) | (simp (disch := omega) only [AF]) | ((with_reducible refine AJ 118 ?_); refine' AZ (hfn) ?_) | ((with_reducible refine AJ 119 ?_); refine' AZ (hcn) ?_) | (with_reducible first | refine A7 ?_ ?_ ?_ | exact AB | assumption | refine A3 ?_ | refine KM.of ?_ | refine AG ?_ | refine A2 ?_ | refine A5 ?_ | intro _g _hg | refine AE ?_ ?_ | intro _hc) | omega)
     exact hnum 0 r [] 0 _ _ hr (by omega) (fun g hg => by rw [upd_ne (by omega)]; exact hs g (by omega)) (by rw [upd_ne (by omega)]; exact hp) (by rw [upd_ne (by omega)]; exact hS) (fun g a1 a2 a3 => upd_ne (by omega)) hR
abbrev QE (ps : List St) : AObj := .grow 25 (Aa (Ae ps))
theorem WX (a b : List AV) : Aa (a ++ b) = Aa a ++ Aa b := by simp [Aa]
theorem Oh : ∀ a b : List St, Ae (a ++ b) = Ae a ++ Ae b
 | [], b => by simp [Ae]
 | x :: a, b => by simp [Ae, Oh a b]
theorem OO : ∀ ps : List St, (Aa (Ae ps)).length = ps.length * 5
 | [] => by simp [Ae, Aa]
 | x :: r => by
  have h := OO r
  obtain ⟨k, o, m, v, p⟩ := x
  have e : Aa (Ae (.mk k o m v p :: r)) = (encS (.mk k o m v p)).cells ++ Aa (Ae r) := by simp [Ae, Aa]
  rw [e, List.length_append, h, AQ]
  simp [AV.cells]; omega
theorem T5 {cs z v : List AV} (h : v.length = z.length) : splice (cs ++ z) cs.length v = cs ++ v := by
 unfold splice
 rw [List.take_left' rfl, List.drop_eq_nil_of_le (by simp; omega), List.append_nil]
def PsB (H : A4) (n0 n1 : Nat) (w : AV) (ps : List St) : Prop := (ps = [] ∧ w = Bv) ∨ ∃ gg, ps ≠ [] ∧ n0 ≤ gg ∧ gg < n1 ∧ w = .slg 5 gg ps.length ∧ H gg = some (QE ps)
theorem PsB.one {H : A4} {n0 n1 : Nat} {w : AV} {ps : List St} (h : PsB H n0 n1 w ps) : w.one = true ∧ w.fits none = true := by
 rcases h with ⟨_, rfl⟩ | ⟨gg, _, _, _, rfl, _⟩ <;> exact ⟨rfl, rfl⟩
theorem PsB.to {H H' : A4} {n0 n1 n0' n1' : Nat} {w : AV} {ps : List St} (h : PsB H n0 n1 w ps) (h0 : n0' ≤ n0) (h1 : n1 ≤ n1') (hH : ∀ g, n0 ≤ g → g < n1 → H' g = H g) : PsB H' n0' n1' w ps := by
 rcases h with ⟨rfl, rfl⟩ | ⟨gg, a0, a1, a2, rfl, a3⟩
 ·exact .inl ⟨rfl, rfl⟩
 ·exact .inr ⟨gg, a0, by omega, by omega, rfl, by rw [hH gg a1 a2, a3]⟩
def Yt (Q : AExit → AS → Prop) (gp gS g6 n0 n : Nat) (H : A4) (i k o m : Int) (w b : AV) (ps : List St) : Prop := ∀ (n' : Nat) (H' : A4) (w' : AV), n ≤ n' → (∀ g, n' ≤ g → H' g = none) → (∀ g, g < n0 → g ≠ gS → H' g = H g) → H' gS = some (Aj k o m w w') → PsB H' n0 n' w' ps → ∀ e : AT, get e 0 = .ptr gp 0 → get e 1 = .ptr gS 0 → get e 3 = b → get e 6 = .ptr g6 0 → get e 9 = aI i → Q .normal ⟨e, n', H'⟩
theorem QM {z g k : Nat} : Az none (.slg z g k) = True := by simp [Az, AV.fits, ones, AV.cells, AV.one]
theorem YU {Q : AExit → AS → Prop} {gp gS g6 g10 n0 n : Nat} {H : A4} {i k o m k' o' m' : Int} {w : AV} {b : AV} {v' : List Int} {p' : List St} (hs : ∀ g, n ≤ g → H g = none) (hS : H gS = some (Aj k o m w Bv)) (h10 : H g10 = some (Aj k' o' m' (.sl 1 (v'.map aI) .ro) (.sl 5 (Ae p') .ro))) (hgS : gS < n0) (h0 : n0 ≤ g10) (h10n : g10 < n)
  (hk : Yt Q gp gS g6 n0 n H i k o m w b [.mk k' o' m' v' p']) :
  aw Tryz.prog c87_k3 Q ⟨[(0, .ptr gp 0), (1, .ptr gS 0), (3, b), (6, .ptr g6 0), (9, aI i), (10, .ptr g10 0), (56, .bool false)], n, H⟩ := by
 have hne : gS ≠ g10 := by omega
 have hgn : gS < n := by omega
 have hfl : Aa (Ae [.mk k' o' m' v' p']) = [aI k', aI o', aI m', .sl 1 (v'.map aI) .ro, .sl 5 (Ae p') .ro] := by simp [Ae, Aa, AQ, AV.cells]
 unfold Yt PsB QE at hk
 rw [hfl] at hk
 generalize v'.map aI = va at *
 
 repeat' (first | (simp -implicitDefEqProofs [Ec, -getElem?_pos, hS, h10, hne, QM, splice]) | (simp (disch := omega) only [AF]) | (refine QI (.inl rfl) (A0 _) (by simp) (by simp) (by simp [maxLen]) (fun g hg => ?_)) | (with_reducible first | refine A7 ?_ ?_ ?_ | exact AB | assumption | refine A3 ?_ | refine KM.of ?_ | refine AG ?_ | refine A2 ?_ | refine A6 ?_ | refine A5 ?_ | refine AH ?_ | refine AA ?_ | intro _g _hg | refine AE ?_ ?_ | intro _hc) | omega)
 exact hk (g + 1) _ _ (by omega) (fun k hk => by simp (disch := omega) only [upd_ne]; exact hs k (by omega)) (fun k h1 h2 => by simp (disch := omega) only [upd_ne]) (AX _ _ _) (.inr ⟨g, by simp, by omega, by omega, rfl, by simp (disch := omega) only [upd_ne, AX]⟩) _ rfl rfl rfl rfl rfl
theorem XE {Q : AExit → AS → Prop} {gp gS g6 g10 gg n0 n : Nat} {H : A4} {i k o m k' o' m' : Int} {w : AV} {b : AV} {v' : List Int} {p' ps : List St} (hs : ∀ g, n ≤ g → H g = none) (hS : H gS = some (Aj k o m w (.slg 5 gg ps.length))) (hgr : H gg = some (QE ps)) (h10 : H g10 = some (Aj k' o' m' (.sl 1 (v'.map aI) .ro) (.sl 5 (Ae p') .ro))) (hgS : gS < n0) (h0 : n0 ≤ g10) (h10n : g10 < n) (hgg : n0 ≤ gg) (hne2 : gg ≠ g10) (hpl : ps.length ≤ 4000)
  (hk : Yt Q gp gS g6 n0 n H i k o m w b (ps ++ [.mk k' o' m' v' p'])) :
  aw Tryz.prog c87_k3 Q ⟨[(0, .ptr gp 0), (1, .ptr gS 0), (3, b), (6, .ptr g6 0), (9, aI i), (10, .ptr g10 0), (56, .bool false)], n, H⟩ := by
 have hne : gS ≠ g10 := by omega
 have hgn : gS < n := by omega
 have hggn : gg < n := by
  rcases Nat.lt_or_ge gg n with h | h
  ·exact h
  ·rw [hs gg h] at hgr; cases hgr
 have hne3 : gS ≠ gg := by omega
 have hfl : Aa (Ae (ps ++ [.mk k' o' m' v' p'])) = Aa (Ae ps) ++ [aI k', aI o', aI m', .sl 1 (v'.map aI) .ro, .sl 5 (Ae p') .ro] := by rw [Oh, WX]; simp [Ae, Aa, AQ, AV.cells]
 have hll := OO ps
 unfold Yt PsB QE at hk
 rw [hfl] at hk
 rw [List.length_append, List.length_singleton] at hk
 generalize v'.map aI = va at *
 unfold QE at hgr
 generalize Aa (Ae ps) = cs at *
 have hsp : ∀ v : List AV, v.length = 5 → splice (cs ++ [aI 0, aI 0, aI 0, .sl 0 [] .nil, .sl 0 [] .nil]) (ps.length * 5) v = cs ++ v := fun v h => by rw [← hll]; exact T5 h
 have hil : (ps.length : Int) < ps.length + 1 := by omega
 
 repeat' (first | (simp -implicitDefEqProofs [Ec, -getElem?_pos, hS, h10, hne, Ne.symm hne, hne3, Ne.symm hne3, hne2, Ne.symm hne2, QM, hil, hsp]) | (simp (disch := omega) only [AF]) | (with_reducible refine NA [gg] ?_) | (refine QB (.inl rfl) (A0 _) (by simp (disch := omega) only [upd_ne]; exact hgr) hll (by simp; omega) (by simp [maxLen]; omega) (fun g n' hg h1 h2 => ?_)) | (with_reducible first | refine A7 ?_ ?_ ?_ | exact AB | assumption | refine A3 ?_ | refine KM.of ?_ | refine AG ?_ | refine A2 ?_ | refine A6 ?_ | refine A5 ?_ | refine AH ?_ | refine AA ?_ | intro _g _hg | refine AE ?_ ?_ | intro _hc) | omega)
 have hgS2 : g ≠ gS := by omega
 refine hk n' _ _ (by omega) (fun k hk => ?_) (fun k h1 h2 => by simp (disch := omega) only [upd_ne]) (AX _ _ _) (.inr ⟨g, by simp, by omega, by omega, rfl, by simp (disch := omega) only [upd_ne, AX]⟩) _ rfl rfl rfl rfl rfl
 simp (disch := omega) only [upd_ne]; exact hs k (by omega)
def T0 (n : Nat) (H : A4) (gp gm : Nat) (res : Option (St × AW)) : Bi := fun b n' H' => n ≤ n' ∧ (∀ g, n' ≤ g → H' g = none) ∧ (∀ g, g < n → g ≠ gp → H' g = H g) ∧ match res with
 | some (s, r') => b = .tup [encS s, .bool true] ∧ H' gp = some (An r' gm)
 | none => (∃ k o m : Int, ∃ w w' : AV, b = .tup [.agg [aI k, aI o, aI m, w, w'], .bool false] ∧ w.one = true ∧ w'.one = true) ∧ ∃ r', H' gp = some (An r' gm)
theorem Yu {Q : AExit → AS → Prop} {gp gS g6 gm n0 n : Nat} {H : A4} {i k o m : Int} {w w1 : AV} {b : AV} {ps : List St} {res : Option (St × AW)} (hs : ∀ g, n ≤ g → H g = none) (hst : ACalls Tryz.prog 61 [.ptr gp 0] n H (T0 n H gp gm res)) (hS : H gS = some (Aj k o m w w1)) (hP : PsB H n0 n w1 ps) (hpl : ps.length ≤ 4000) (hgS : gS < n0) (hgp : gp < n0) (hn0 : n0 ≤ n) (hne : gp ≠ gS)
  (hbad : res = none → ∀ (n' : Nat) (H' : A4) (r' : AW), n ≤ n' → (∀ g, n' ≤ g → H' g = none) → (∀ g, g < n0 → g ≠ gp → g ≠ gS → H' g = H g) → H' gp = some (An r' gm) → H' gS = some (Aj k o m w w1) → ∀ e : AT, get e 8 = .bool false → Q .ret ⟨e, n', H'⟩)
  (hok : ∀ (t : St) (r2 : AW), res = some (t, r2) → ∀ (n' : Nat) (H' : A4) (w' : AV), n ≤ n' → (∀ g, n' ≤ g → H' g = none) → (∀ g, g < n0 → g ≠ gp → g ≠ gS → H' g = H g) → H' gp = some (An r2 gm) → H' gS = some (Aj k o m w w') → PsB H' n0 n' w' (ps ++ [t]) → ∀ e : AT, get e 0 = .ptr gp 0 → get e 1 = .ptr gS 0 → get e 3 = b → get e 6 = .ptr g6 0 → get e 9 = aI i → Q .normal ⟨e, n', H'⟩) :
  aw Tryz.prog c87_k4 Q ⟨[(0, .ptr gp 0), (1, .ptr gS 0), (3, b), (6, .ptr g6 0), (9, aI i), (46, .bool false)], n, H⟩ := by
 
 cases res with
 | none =>
  repeat' (first | (simp -implicitDefEqProofs [Ee, -getElem?_pos, splice]) | (simp (disch := omega) only [AF]) | ((with_reducible refine Ay 61 ?_); refine ⟨_, hst, ?_⟩; rintro rb n2 H2 (hle2 : n ≤ n2) hsup2 ⟨_, _, hfr, ⟨k', o', m', v1, v2, rfl, ho1, ho2⟩, r', hgp'⟩) | (with_reducible first | refine A7 ?_ ?_ ?_ | exact AB | assumption | refine A3 ?_ | refine KM.of ?_ | refine AG ?_ | refine A2 ?_ | refine A6 ?_ | refine A5 ?_ | refine AH ?_ | refine AA ?_ | intro _g _hg | refine AE ?_ ?_ | intro _hc) | omega)
  ·cases v1 <;> first | rfl | cases ho1
  ·cases v2 <;> first | rfl | cases ho2
  ·exact hbad rfl (_g + 1) _ r' (by omega) (fun g h => by simp (disch := omega) only [upd_ne]; exact hsup2 g (by omega)) (fun g h1 h2 h3 => by simp (disch := omega) only [upd_ne]; exact hfr g (by omega) h2) (by simp (disch := omega) only [upd_ne]; exact hgp') (by simp (disch := omega) only [upd_ne]; exact (hfr gS (by omega) (Ne.symm hne)).trans hS) _ rfl
 | some tr =>
  obtain ⟨t, r2⟩ := tr
  obtain ⟨k', o', m', v', p'⟩ := t
  unfold T0 at hst
  dsimp only at hst
  rw [AQ] at hst
  repeat' (first | (simp -implicitDefEqProofs [Ee, -getElem?_pos, splice]) | (simp (disch := omega) only [AF]) | ((with_reducible refine Ay 61 ?_); refine ⟨_, hst, ?_⟩; rintro rb n2 H2 (hle2 : n ≤ n2) hsup2 ⟨_, _, hfr, rfl, hgp'⟩) | (with_reducible first | refine A7 ?_ ?_ ?_ | exact AB | assumption | refine A3 ?_ | refine KM.of ?_ | refine AG ?_ | refine A2 ?_ | refine A6 ?_ | refine A5 ?_ | refine AH ?_ | refine AA ?_ | intro _g _hg | refine AE ?_ ?_ | intro _hc) | omega)
  have hg : _g < _g + 1 := by omega
  have hS2 : H2 gS = _ := (hfr gS (by omega) (Ne.symm hne)).trans hS
  have hP2 : PsB H2 n0 n w1 ps := hP.to (Nat.le_refl _) (Nat.le_refl _) fun g h1 h2 => hfr g h2 (by omega)
  have hA : ∀ n' H' w', _g + 1 ≤ n' → (∀ g, n' ≤ g → H' g = none) → (∀ g, g < n0 → g ≠ gS → H' g = upd (upd H2 _g none) _g (some (Aj k' o' m' (.sl 1 (v'.map aI) .ro) (.sl 5 (Ae p') .ro))) g) → H' gS = some (Aj k o m w w') → PsB H' n0 n' w' (ps ++ [.mk k' o' m' v' p']) → ∀ e : AT, get e 0 = .ptr gp 0 → get e 1 = .ptr gS 0 → get e 3 = b → get e 6 = .ptr g6 0 → get e 9 = aI i → Q .normal ⟨e, n', H'⟩ := fun n' H' w' a1 a2 a3 a4 a5 e b0 b1 b3 b6 b9 =>
   hok _ _ rfl n' H' w' (by omega) a2 (fun g c1 c2 c3 => by rw [a3 g c1 c3, upd_ne (by omega), upd_ne (by omega)]; exact hfr g (by omega) c2) (by rw [a3 gp hgp hne, upd_ne (by omega), upd_ne (by omega)]; exact hgp') a4 a5 e b0 b1 b3 b6 b9
  rcases hP2 with ⟨rfl, rfl⟩ | ⟨gg, a0, a1, a2, rfl, a3⟩
  ·exact YU (n0 := n0) (fun g h => by simp (disch := omega) only [upd_ne]; exact hsup2 g (by omega)) (by simp (disch := omega) only [upd_ne]; exact hS2) (AX _ _ _) hgS (by omega) (by omega) (fun n' H' w' a1 a2 a3 => hA n' H' w' a1 a2 (fun g c1 c2 => by rw [a3 g c1 c2]; simp (disch := omega) only [upd_ne]))
  ·exact XE (n0 := n0) (gg := gg) (fun g h => by simp (disch := omega) only [upd_ne]; exact hsup2 g (by omega)) (by simp (disch := omega) only [upd_ne]; exact hS2) (by simp (disch := omega) only [upd_ne]; exact a3) (AX _ _ _) hgS (by omega) (by omega) a1 (by omega) hpl (fun n' H' w' a1 a2 a3 => hA n' H' w' a1 a2 (fun g c1 c2 => by rw [a3 g c1 c2]; simp (disch := omega) only [upd_ne]))
def EV (pr : AW → Option (St × AW)) (P : Int) : Nat → Nat → Bool → AW → List St → Option (List St × AW)
 | 0, _, _, _, _ => none
 | f + 1, i, c, r, ps => if (i : Int) < P ∨ P < 0 then
   (if c = true then (if (acc 44 r).2 = true then (match pr (acc 44 r).1 with
     | none => none
     | some tr => EV pr P f (i + 1) true tr.2 (ps ++ [tr.1]))
    else (if P < 0 then some (ps, r) else none))
   else match pr r with
    | none => none
    | some tr => EV pr P f (i + 1) true tr.2 (ps ++ [tr.1]))
  else some (ps, r)
def F5 (pr : AW → Option (St × AW)) (x : Shq) (sm : Bool) (r : AW) : Option (List St × AW) :=
 if x.vs = true ∨ (x.parts < 0 ∧ [41] <+: r) then some ([], r) else EV pr x.parts (r.length + 1) 0 sm r []
def A2h (n : Nat) (H : A4) (gp gS gm : Nat) (k o m : Int) (w : AV) (res : Option (List St × AW)) : Bi := fun b n' H' => n ≤ n' ∧ (∀ g, n' ≤ g → H' g = none) ∧ (∀ g, g < n → g ≠ gp → g ≠ gS → H' g = H g) ∧ match res with
 | some (ps, r') => b = .bool true ∧ H' gp = some (An r' gm) ∧ ∃ w', H' gS = some (Aj k o m w w') ∧ PsB H' n n' w' ps
 | none => b = .bool false ∧ (∃ r', H' gp = some (An r' gm)) ∧ ∃ w', H' gS = some (Aj k o m w w')
theorem Yc (x : Shq) (sm : Bool) (r : AW) (pr : AW → Option (St × AW)) (gp gS gm n : Nat) (H : A4) (k o m : Int) (w : AV) (hr : r.length ≤ 4000) (hp : H gp = some (An r gm)) (hS : H gS = some (Aj k o m w Bv)) (hgm : H gm = some (.map (some .i64) shpMap)) (hne : gp ≠ gS)
  (hpr : ∀ r1 : AW, r1.length ≤ r.length → (∀ t r2, pr r1 = some (t, r2) → r2.length < r1.length) ∧ ∀ (n1 : Nat) (H1 : A4), H1 gp = some (An r1 gm) → H1 gm = some (.map (some .i64) shpMap) → ACalls Tryz.prog 61 [.ptr gp 0] n1 H1 (T0 n1 H1 gp gm (pr r1))) :
  ACalls Tryz.prog 87 [.ptr gp 0, .ptr gS 0, RK x, .bool sm] n H (A2h n H gp gS gm k o m w (F5 pr x sm r)) := by
 have hh := Ri r [41]
 have hmp : gm ≠ gp := fun e => by rw [e, hp] at hgm; cases hgm
 have hmS : gm ≠ gS := fun e => by rw [e, hS] at hgm; cases hgm
 unfold F5
 obtain ⟨xw, P, fn, cd, n0, n1, vs⟩ := x
 dsimp only
 generalize hR : A2h _ _ _ _ _ _ _ _ _ _ = R
 refine Ab Tryz.func87 A2q rfl fun hs => ?_
 have hgp : gp < n := by
  rcases Nat.lt_or_ge gp n with h | h
  ·exact h
  ·rw [hs gp h] at hp; cases hp
 have hgS : gS < n := by
  rcases Nat.lt_or_ge gS n with h | h
  ·exact h
  ·rw [hs gS h] at hS; cases hS
 have hgmn : gm < n := by
  rcases Nat.lt_or_ge gm n with h | h
  ·exact h
  ·rw [hs gm h] at hgm; cases hgm
 by_cases h0 : vs = true ∨ (P < 0 ∧ [41] <+: r)
 ·rw [if_pos h0] at hR
  have key : ∀ g6, n ≤ g6 → R (.bool true) (g6 + 1) (upd H g6 (some (.cells 101 (RK ⟨xw, P, fn, cd, n0, n1, vs⟩).cells))) := fun g6 h6 => by
   subst hR
   exact ⟨by omega, fun g hg => by simp (disch := omega) only [upd_ne]; exact hs g (by omega), fun g a1 a2 a3 => by simp (disch := omega) only [upd_ne], rfl, by simp (disch := omega) only [upd_ne]; exact hp, Bv, by simp (disch := omega) only [upd_ne]; exact hS, .inl ⟨rfl, rfl⟩⟩
  rcases h0 with rfl | ⟨h1, h2⟩
  ·repeat' (first | (simp -implicitDefEqProofs [FQ, FR, Ec, Ee, Bl, Be, FN, c87, -getElem?_pos, hp]) | (simp (disch := omega) only [AF]) | ((with_reducible refine AJ 128 ?_); refine' AZ (hh) ?_) | (with_reducible first | refine A7 ?_ ?_ ?_ | exact AB | assumption | refine A3 ?_ | refine KM.of ?_ | refine AG ?_ | refine A2 ?_ | refine A6 ?_ | refine A5 ?_ | refine AH ?_ | refine AA ?_ | intro _g _hg | refine AE ?_ ?_ | intro _hc) | omega)
   exact Ax (x := .bool true) (by simp -implicitDefEqProofs [-getElem?_pos]) (A1 _) (by omega) (fun g hg => by simp (disch := omega) only [upd_ne]; exact hs g (by omega)) (key _ (by omega))
  ·rw [decide_eq_true h2] at hh
   cases vs
   ·repeat' (first | (simp -implicitDefEqProofs [FQ, FR, Ec, Ee, Bl, Be, FN, c87, -getElem?_pos, hp, h1]) | (simp (disch := omega) only [AF]) | ((with_reducible refine AJ 128 ?_); refine' AZ (hh) ?_) | (with_reducible first | refine A7 ?_ ?_ ?_ | exact AB | assumption | refine A3 ?_ | refine KM.of ?_ | refine AG ?_ | refine A2 ?_ | refine A6 ?_ | refine A5 ?_ | refine AH ?_ | refine AA ?_ | intro _g _hg | refine AE ?_ ?_ | intro _hc) | omega)
    exact Ax (x := .bool true) (by simp -implicitDefEqProofs [-getElem?_pos]) (A1 _) (by omega) (fun g hg => by simp (disch := omega) only [upd_ne]; exact hs g (by omega)) (key _ (by omega))
   ·repeat' (first | (simp -implicitDefEqProofs [FQ, FR, Ec, Ee, Bl, Be, FN, c87, -getElem?_pos, hp, h1]) | (simp (disch := omega) only [AF]) | ((with_reducible refine AJ 128 ?_); refine' AZ (hh) ?_) | (with_reducible first | refine A7 ?_ ?_ ?_ | exact AB | assumption | refine A3 ?_ | refine KM.of ?_ | refine AG ?_ | refine A2 ?_ | refine A6 ?_ | refine A5 ?_ | refine AH ?_ | refine AA ?_ | intro _g _hg | refine AE ?_ ?_ | intro _hc) | omega)
    exact Ax (x := .bool true) (by simp -implicitDefEqProofs [-getElem?_pos]) (A1 _) (by omega) (fun g hg => by simp (disch := omega) only [upd_ne]; exact hs g (by omega)) (key _ (by omega))
 ·rw [if_neg h0] at hR
  have hv : vs = false := by cases vs with
   | true => exact absurd (.inl rfl) h0
   | false => rfl
  subst hv
  have h1 : ∀ h : P < 0, ¬ [41] <+: r := fun h h' => h0 (.inr ⟨h, h'⟩)
  have hk7 : ∀ (e : AT) (g6 : Nat), n ≤ g6 → get e 0 = .ptr gp 0 → get e 1 = .ptr gS 0 → get e 3 = .bool sm → get e 6 = .ptr g6 0 → aw Tryz.prog c87_k7 (fin R n [.tmp 8]) ⟨e, g6 + 1, upd H g6 (some (.cells 101 (RK ⟨xw, P, fn, cd, n0, n1, false⟩).cells))⟩ := by
   intro e g6 h6 b0 b1 b3 b6
   repeat' (first | (simp -implicitDefEqProofs [FN, -getElem?_pos, b0, b1, b3, b6]) | (simp (disch := omega) only [AF]) | (with_reducible first | refine A7 ?_ ?_ ?_ | exact AB | assumption | refine A3 ?_ | refine KM.of ?_ | refine AG ?_ | refine A2 ?_ | refine A6 ?_ | refine A5 ?_ | refine AH ?_ | refine AA ?_ | intro _g _hg | refine AE ?_ ?_ | intro _hc) | omega)
   have hsame : ∀ g, g < n → upd H g6 (some (.cells 101 (RK ⟨xw, P, fn, cd, n0, n1, false⟩).cells)) g = H g := fun g h => upd_ne (by omega)
   refine LoopK.go (fun f st => ∃ (i : Nat) (c : Bool) (r1 : AW) (ps : List St) (n2 : Nat) (H1 : A4) (w1 : AV), st = ⟨[(0, .ptr gp 0), (1, .ptr gS 0), (3, .bool sm), (6, .ptr g6 0), (9, aI i)], n2, H1⟩ ∧ c = (decide (0 < i) || sm) ∧ g6 < n2 ∧ (∀ g, n2 ≤ g → H1 g = none) ∧ (∀ g, g < n → g ≠ gp → g ≠ gS → H1 g = H g) ∧ H1 gp = some (An r1 gm) ∧ H1 gS = some (Aj k o m w w1) ∧ H1 g6 = some (.cells 101 (RK ⟨xw, P, fn, cd, n0, n1, false⟩).cells) ∧ PsB H1 (g6 + 1) n2 w1 ps ∧ EV pr P f i c r1 ps = EV pr P (r.length + 1) 0 sm r [] ∧ r1.length < f ∧ r1.length + ps.length ≤ r.length ∧ ps.length = i) (r.length + 1) ⟨0, sm, r, [], _, _, Bv, rfl, by simp, by omega, fun g h => by rw [upd_ne (by omega)]; exact hs g (by omega), fun g a1 a2 a3 => hsame g a1, (hsame gp hgp).trans hp, (hsame gS hgS).trans hS, AX _ _ _, .inl ⟨rfl, rfl⟩, rfl, by omega, by simp, rfl⟩ ?_
   rintro f st ⟨i, c, r1, ps, n2, H1, w1, rfl, hc, hg6, hs1, hfr, q1, q2, q6, hP, hE, hlf, hpl, hpi⟩ J hJ
   obtain ⟨f, rfl⟩ : ∃ f', f = f' + 1 := ⟨f - 1, by omega⟩
   have q3 : H1 gm = some (.map (some .i64) shpMap) := by rw [hfr gm hgmn hmp hmS]; exact hgm
   have hlt : ∀ (r2 : AW) (R2 : AV) (n' : Nat) (H' : A4), True := fun _ _ _ _ => trivial
   rw [EV] at hE
   by_cases hcd : (i : Int) < P ∨ P < 0
   ·rw [if_pos hcd] at hE
    have hac := fun (n3 : Nat) (H3 : A4) (h1 : H3 gp = some (An r1 gm)) => GM r1 44 gp gm n3 H3 h1
    have hal := D8 44 r1
    have han : (acc 44 r1).2 = false → (acc 44 r1).1 = r1 := Ta
    generalize acc 44 r1 = a at *
    have hk4 : ∀ (r3 : AW) (H3 : A4), H3 gp = some (An r3 gm) → (∀ g, g ≠ gp → H3 g = H1 g) → r3.length ≤ r1.length → (match pr r3 with | none => none | some tr => EV pr P f (i + 1) true tr.2 (ps ++ [tr.1])) = EV pr P (r.length + 1) 0 sm r [] → aw Tryz.prog c87_k4 (Cy 1 (Bz (aw Tryz.prog c87_k2 (Oj [0, 1, 3, 6, 9] (Bz J (Cy 0 (Bz (aw Tryz.prog c87_k1 (fin R n [.tmp 8])) (fin R n [.tmp 8])))))) (Oj [0, 1, 3, 6, 9] (Bz J (Cy 0 (Bz (aw Tryz.prog c87_k1 (fin R n [.tmp 8])) (fin R n [.tmp 8]))))))) ⟨[(0, .ptr gp 0), (1, .ptr gS 0), (3, .bool sm), (6, .ptr g6 0), (9, aI i), (46, .bool false)], n2, H3⟩ := by
     intro r3 H3 b1 b2 b3 b4
     have hpr3 := hpr r3 (by omega)
     refine Yu (n0 := g6 + 1) (gm := gm) (ps := ps) (fun g h => by rw [b2 g (by omega)]; exact hs1 g h) (hpr3.2 n2 H3 b1 (by rw [b2 gm hmp]; exact q3)) (by rw [b2 gS (Ne.symm hne)]; exact q2) (hP.to (Nat.le_refl _) (Nat.le_refl _) fun g h1 h2 => b2 g (by omega)) (by omega) (by omega) (by omega) (by omega) hne ?_ ?_
     ·intro hn n' H' r' c1 c2 c3 c4 c5 e c6
      rw [hn] at b4
      rw [← b4] at hR
      repeat' (first | (simp -implicitDefEqProofs [c87, -getElem?_pos, c6]) | (simp (disch := omega) only [AF]) | (with_reducible first | refine A7 ?_ ?_ ?_ | exact AB | assumption | refine A3 ?_ | refine KM.of ?_ | refine AG ?_ | refine A2 ?_ | refine A6 ?_ | refine A5 ?_ | refine AH ?_ | refine AA ?_ | intro _g _hg | refine AE ?_ ?_ | intro _hc) | omega)
      subst hR
      exact Ax (x := .bool false) (by simp -implicitDefEqProofs [-getElem?_pos, c6]) (A1 _) (by omega) c2 ⟨by omega, c2, fun g a1 a2 a3 => by rw [c3 g (by omega) a2 a3, b2 g a2]; exact hfr g a1 a2 a3, rfl, ⟨r', c4⟩, w1, c5⟩
     ·intro t r2 hn n' H' w' c1 c2 c3 c4 c5 c6 e d0 d1 d3 d6 d9
      rw [hn] at b4
      have hsh := hpr3.1 t r2 hn
      repeat' (first | (simp -implicitDefEqProofs [FR, -getElem?_pos, d0, d1, d3, d6, d9]) | (simp (disch := omega) only [AF]) | (with_reducible first | refine A7 ?_ ?_ ?_ | exact AB | assumption | refine A3 ?_ | refine KM.of ?_ | refine AG ?_ | refine A2 ?_ | refine A6 ?_ | refine A5 ?_ | refine AH ?_ | refine AA ?_ | intro _g _hg | refine AE ?_ ?_ | intro _hc) | omega)
      refine hJ f _ (by omega) ⟨i + 1, true, r2, ps ++ [t], n', H', w', by simp (disch := omega) [IntWalk.i64_in], by simp, by omega, c2, fun g a1 a2 a3 => by rw [c3 g (by omega) a2 a3, b2 g a2]; exact hfr g a1 a2 a3, c4, c5, by rw [c3 g6 (by omega) (by omega) (by omega), b2 g6 (by omega)]; exact q6, c6, b4, by omega, by simp; omega, by simp; omega⟩
    have hbb : a.1.length ≤ r1.length := hal.1
    cases c with
    | true =>
     rw [if_pos rfl] at hE
     by_cases ha : a.2 = true
     ·rw [if_pos ha] at hE
      rw [ha] at hac
      have hgo := hk4 a.1 (upd H1 gp (some (An a.1 gm))) (AX _ _ _) (fun g h => upd_ne h) hbb hE
      by_cases h3 : (i : Int) < P
      ·by_cases hi : i = 0
       ·subst hi
        have hsm : sm = true := by simpa using hc.symm
        subst hsm
        
        repeat' (first | (simp -implicitDefEqProofs [Be, Bl, -getElem?_pos, q6, h3]) | (simp (disch := omega) only [AF]) | ((with_reducible refine Ay 85 ?_); (refine' CallK.sfU ?_ ((hac _ _ q1)) ?_); (focus first | (with_reducible exact A0 _) | (simp [AC, A8, A1, A0]; done))) | (with_reducible first | refine A7 ?_ ?_ ?_ | exact AB | assumption | refine A3 ?_ | refine KM.of ?_ | refine AG ?_ | refine A2 ?_ | refine A6 ?_ | refine A5 ?_ | refine AH ?_ | refine AA ?_ | intro _g _hg | refine AE ?_ ?_ | intro _hc) | omega)
       ·have hi' : (0 : Int) < i := by omega
        
        repeat' (first | (simp -implicitDefEqProofs [Be, Bl, -getElem?_pos, q6, h3, hi']) | (simp (disch := omega) only [AF]) | ((with_reducible refine Ay 85 ?_); (refine' CallK.sfU ?_ ((hac _ _ q1)) ?_); (focus first | (with_reducible exact A0 _) | (simp [AC, A8, A1, A0]; done))) | (with_reducible first | refine A7 ?_ ?_ ?_ | exact AB | assumption | refine A3 ?_ | refine KM.of ?_ | refine AG ?_ | refine A2 ?_ | refine A6 ?_ | refine A5 ?_ | refine AH ?_ | refine AA ?_ | intro _g _hg | refine AE ?_ ?_ | intro _hc) | omega)
      ·have h4 : P < 0 := hcd.resolve_left h3
       by_cases hi : i = 0
       ·subst hi
        have hsm : sm = true := by simpa using hc.symm
        subst hsm
        
        repeat' (first | (simp -implicitDefEqProofs [Be, Bl, -getElem?_pos, q6, h3, h4]) | (simp (disch := omega) only [AF]) | ((with_reducible refine Ay 85 ?_); (refine' CallK.sfU ?_ ((hac _ _ q1)) ?_); (focus first | (with_reducible exact A0 _) | (simp [AC, A8, A1, A0]; done))) | (with_reducible first | refine A7 ?_ ?_ ?_ | exact AB | assumption | refine A3 ?_ | refine KM.of ?_ | refine AG ?_ | refine A2 ?_ | refine A6 ?_ | refine A5 ?_ | refine AH ?_ | refine AA ?_ | intro _g _hg | refine AE ?_ ?_ | intro _hc) | omega)
       ·have hi' : (0 : Int) < i := by omega
        
        repeat' (first | (simp -implicitDefEqProofs [Be, Bl, -getElem?_pos, q6, h3, h4, hi']) | (simp (disch := omega) only [AF]) | ((with_reducible refine Ay 85 ?_); (refine' CallK.sfU ?_ ((hac _ _ q1)) ?_); (focus first | (with_reducible exact A0 _) | (simp [AC, A8, A1, A0]; done))) | (with_reducible first | refine A7 ?_ ?_ ?_ | exact AB | assumption | refine A3 ?_ | refine KM.of ?_ | refine AG ?_ | refine A2 ?_ | refine A6 ?_ | refine A5 ?_ | refine AH ?_ | refine AA ?_ | intro _g _hg | refine AE ?_ ?_ | intro _hc) | omega)
     ·rw [if_neg ha] at hE
      rw [Bool.not_eq_true] at ha
      rw [ha] at hac
      rw [han ha] at hac
      have hqp : ∀ g6', g6' ≠ gp → upd H1 gp (some (An r1 gm)) g6' = H1 g6' := fun g h => upd_ne h
      have hout : ∀ bb : Bool, bb = decide (P < 0) → fin R n [.tmp 8] .ret ⟨[(8, .bool bb)], n2, upd H1 gp (some (An r1 gm))⟩ := fun bb hbb => by
       rw [← hE] at hR
       subst hR
       refine Ax (x := .bool bb) (by simp -implicitDefEqProofs [-getElem?_pos]) (A1 _) (by omega) (fun g h => by rw [upd_ne (by omega)]; exact hs1 g h) ?_
       by_cases h4 : P < 0
       ·rw [if_pos h4]
        exact ⟨by omega, fun g h => by rw [upd_ne (by omega)]; exact hs1 g h, fun g a1 a2 a3 => by rw [upd_ne a2]; exact hfr g a1 a2 a3, by rw [hbb, decide_eq_true h4], AX _ _ _, w1, by rw [upd_ne (Ne.symm hne)]; exact q2, hP.to (by omega) (Nat.le_refl _) fun g h1 h2 => upd_ne (by omega)⟩
       ·rw [if_neg h4]
        exact ⟨by omega, fun g h => by rw [upd_ne (by omega)]; exact hs1 g h, fun g a1 a2 a3 => by rw [upd_ne a2]; exact hfr g a1 a2 a3, by rw [hbb, decide_eq_false h4], ⟨r1, AX _ _ _⟩, w1, by rw [upd_ne (Ne.symm hne)]; exact q2⟩
      have h66 : g6 ≠ gp := by omega
      have hfin : ∀ e : AT, get e 8 = .bool (decide (P < 0)) → fin R n [.tmp 8] .ret ⟨e, n2, upd H1 gp (some (An r1 gm))⟩ := fun e he => by
       obtain ⟨r0, m0, H0, ⟨x0, k1, k2⟩, k3⟩ := hout _ rfl
       exact ⟨r0, m0, H0, ⟨x0, by simp [Br, F3, C5, he, get] at k1 ⊢; exact k1, k2⟩, k3⟩
      by_cases h3 : (i : Int) < P
      ·by_cases hi : i = 0
       ·subst hi
        have hsm : sm = true := by simpa using hc.symm
        subst hsm
        
        repeat' (first | (simp -implicitDefEqProofs [FQ, FR, Ec, Ee, Bl, Be, FN, c87, -getElem?_pos, q6, h3, h66]) | (simp (disch := omega) only [AF]) | ((with_reducible refine Ay 85 ?_); (refine' CallK.sfU ?_ ((hac _ _ q1)) ?_); (focus first | (with_reducible exact A0 _) | (simp [AC, A8, A1, A0]; done))) | (with_reducible first | refine A7 ?_ ?_ ?_ | exact AB | assumption | refine A3 ?_ | refine KM.of ?_ | refine AG ?_ | refine A2 ?_ | refine A6 ?_ | refine A5 ?_ | refine AH ?_ | refine AA ?_ | intro _g _hg | refine AE ?_ ?_ | intro _hc) | omega)
        exact hfin _ rfl
       ·have hi' : (0 : Int) < i := by omega
        
        repeat' (first | (simp -implicitDefEqProofs [FQ, FR, Ec, Ee, Bl, Be, FN, c87, -getElem?_pos, q6, h3, hi', h66]) | (simp (disch := omega) only [AF]) | ((with_reducible refine Ay 85 ?_); (refine' CallK.sfU ?_ ((hac _ _ q1)) ?_); (focus first | (with_reducible exact A0 _) | (simp [AC, A8, A1, A0]; done))) | (with_reducible first | refine A7 ?_ ?_ ?_ | exact AB | assumption | refine A3 ?_ | refine KM.of ?_ | refine AG ?_ | refine A2 ?_ | refine A6 ?_ | refine A5 ?_ | refine AH ?_ | refine AA ?_ | intro _g _hg | refine AE ?_ ?_ | intro _hc) | omega)
        exact hfin _ rfl
      ·have h4 : P < 0 := hcd.resolve_left h3
       by_cases hi : i = 0
       ·subst hi
        have hsm : sm = true := by simpa using hc.symm
        subst hsm
        
        repeat' (first | (simp -implicitDefEqProofs [Be, Bl, -getElem?_pos, q6, h3, h4, h66]) | (simp (disch := omega) only [AF]) | ((with_reducible refine Ay 85 ?_); (refine' CallK.sfU ?_ ((hac _ _ q1)) ?_); (focus first | (with_reducible exact A0 _) | (simp [AC, A8, A1, A0]; done))) | (with_reducible first | refine A7 ?_ ?_ ?_ | exact AB | assumption | refine A3 ?_ | refine KM.of ?_ | refine AG ?_ | refine A2 ?_ | refine A6 ?_ | refine A5 ?_ | refine AH ?_ | refine AA ?_ | intro _g _hg | refine AE ?_ ?_ | intro _hc) | omega)
        exact hfin _ (by simp [get, h4])
       ·have hi' : (0 : Int) < i := by omega
        
        repeat' (first | (simp -implicitDefEqProofs [Be, Bl, -getElem?_pos, q6, h3, h4, hi', h66]) | (simp (disch := omega) only [AF]) | ((with_reducible refine Ay 85 ?_); (refine' CallK.sfU ?_ ((hac _ _ q1)) ?_); (focus first | (with_reducible exact A0 _) | (simp [AC, A8, A1, A0]; done))) | (with_reducible first | refine A7 ?_ ?_ ?_ | exact AB | assumption | refine A3 ?_ | refine KM.of ?_ | refine AG ?_ | refine A2 ?_ | refine A6 ?_ | refine A5 ?_ | refine AH ?_ | refine AA ?_ | intro _g _hg | refine AE ?_ ?_ | intro _hc) | omega)
        exact hfin _ (by simp [get, h4])
    | false =>
     rw [if_neg (by decide)] at hE
     have hi0 : i = 0 ∧ sm = false := by simpa using hc.symm
     obtain ⟨rfl, rfl⟩ := hi0
     have hgo := hk4 r1 H1 q1 (fun g h => rfl) (Nat.le_refl _) hE
     by_cases h3 : ((0 : Nat) : Int) < P
     ·
      repeat' (first | (simp -implicitDefEqProofs [Be, Bl, -getElem?_pos, q6, h3]) | (simp (disch := omega) only [AF]) | (with_reducible first | refine A7 ?_ ?_ ?_ | exact AB | assumption | refine A3 ?_ | refine KM.of ?_ | refine AG ?_ | refine A2 ?_ | refine A6 ?_ | refine A5 ?_ | refine AH ?_ | refine AA ?_ | intro _g _hg | refine AE ?_ ?_ | intro _hc) | omega)
     ·have h4 : P < 0 := hcd.resolve_left h3
      
      repeat' (first | (simp -implicitDefEqProofs [Be, Bl, -getElem?_pos, q6, h3, h4]) | (simp (disch := omega) only [AF]) | (with_reducible first | refine A7 ?_ ?_ ?_ | exact AB | assumption | refine A3 ?_ | refine KM.of ?_ | refine AG ?_ | refine A2 ?_ | refine A6 ?_ | refine A5 ?_ | refine AH ?_ | refine AA ?_ | intro _g _hg | refine AE ?_ ?_ | intro _hc) | omega)
   ·rw [if_neg hcd] at hE
    have h3 : ¬ (i : Int) < P := fun h => hcd (.inl h)
    have h4 : ¬ P < 0 := fun h => hcd (.inr h)
    
    repeat' (first | (simp -implicitDefEqProofs [Be, FQ, -getElem?_pos, q6, h3, h4]) | (simp (disch := omega) only [AF]) | (with_reducible first | refine A7 ?_ ?_ ?_ | exact AB | assumption | refine A3 ?_ | refine KM.of ?_ | refine AG ?_ | refine A2 ?_ | refine A6 ?_ | refine A5 ?_ | refine AH ?_ | refine AA ?_ | intro _g _hg | refine AE ?_ ?_ | intro _hc) | omega)
    rw [← hE] at hR
    subst hR
    exact Ax (x := .bool true) (by simp -implicitDefEqProofs [-getElem?_pos]) (A1 _) (by omega) hs1 ⟨by omega, hs1, hfr, rfl, q1, w1, q2, hP.to (by omega) (Nat.le_refl _) fun _ _ _ => rfl⟩
  by_cases h2 : P < 0
  ·rw [decide_eq_false (h1 h2)] at hh
   repeat' (first | (simp -implicitDefEqProofs [c87, -getElem?_pos, hp, h2]) | (simp (disch := omega) only [AF]) | ((with_reducible refine AJ 128 ?_); refine' AZ (hh) ?_) | (with_reducible first | refine A7 ?_ ?_ ?_ | exact AB | assumption | refine A3 ?_ | refine KM.of ?_ | refine AG ?_ | refine A2 ?_ | refine A6 ?_ | refine A5 ?_ | refine AH ?_ | refine AA ?_ | intro _g _hg | refine AE ?_ ?_ | intro _hc) | omega)
   exact hk7 _ _ (by omega) rfl rfl rfl rfl
  ·repeat' (first | (simp -implicitDefEqProofs [c87, -getElem?_pos, hp, h2]) | (simp (disch := omega) only [AF]) | ((with_reducible refine AJ 128 ?_); refine' AZ (hh) ?_) | (with_reducible first | refine A7 ?_ ?_ ?_ | exact AB | assumption | refine A3 ?_ | refine KM.of ?_ | refine AG ?_ | refine A2 ?_ | refine A6 ?_ | refine A5 ?_ | refine AH ?_ | refine AA ?_ | intro _g _hg | refine AE ?_ ?_ | intro _hc) | omega)
   exact hk7 _ _ (by omega) rfl rfl rfl rfl
def shqW : List AW := shqs.map Shq.w
theorem FU {w : AW} : ∀ {l : List AW} {j : Nat}, EO w l = some j → l[j]? = some w
 | [], j, h => by cases h
 | x :: r, j, h => by
  simp only [EO] at h
  split at h
  ·rename_i hx; injection h with h; subst h; simp [hx]
  ·obtain ⟨i, h1, rfl⟩ := Option.map_eq_some_iff.1 h
   simpa using FU h1
theorem Nr {w : AW} : ∀ {l : List AW} {j : Nat}, l.Nodup → l[j]? = some w → EO w l = some j
 | [], j, _, h => by simp at h
 | x :: r, 0, _, h => by simp at h; simp [EO, h]
 | x :: r, j + 1, hn, h => by
  have hx : x ≠ w := fun e => by
   have := (List.nodup_cons.1 hn).1
   exact this (e ▸ List.mem_of_getElem? (by simpa using h))
  have := Nr (List.nodup_cons.1 hn).2 (show r[j]? = some w by simpa using h)
  simp [EO, hx, this]
theorem Yr : shqW.Nodup := by decide
theorem K9 {w : AW} {j : Nat} {x : Shq} (h : shqs[j]? = some x) : x.w = w ↔ EO w shqW = some j := by
 have e : shqW[j]? = some x.w := by rw [shqW, List.getElem?_map, h]; rfl
 exact ⟨fun hw => Nr Yr (hw ▸ e), fun hi => by have := FU hi; rw [e] at this; injection this⟩
theorem A1g {j : Nat} {k v : AV} (h : shpMap[j]? = some (k, v)) : ∃ x, shqs[j]? = some x ∧ k = aI ((j : Int) + 1) ∧ v = RK x := by
 have hl : j < 16 := (List.getElem?_eq_some_iff.1 h).1
 have key : ∀ j : Nat, j < 16 → ∃ x, shqs[j]? = some x ∧ shpMap[j]? = some (aI ((j : Int) + 1), RK x) := by
  intro j hj
  iterate 16 (rcases j with _ | j; · exact ⟨_, rfl, rfl⟩)
  omega
 obtain ⟨x, h1, h2⟩ := key j hl
 rw [h2] at h
 injection h with h; injection h with h3 h4
 exact ⟨x, h1, h3.symm, h4.symm⟩
abbrev UP : Shq := ⟨[], 0, false, false, 0, 0, false⟩
abbrev PB (x : Shq) : AObj := .cells 101 (RK x).cells
def A0t (w : AW) (left : List Nat) (kk : Int) (x : Shq) : Prop := (kk = 0 ∧ x = UP ∧ ∀ j, EO w shqW = some j → j ∈ left) ∨ ∃ j, EO w shqW = some j ∧ j ∉ left ∧ kk = (j : Int) + 1 ∧ shqs[j]? = some x
theorem Zl {Q : AExit → AS → Prop} (w : AW) (gp gS g5 gi gm n n1 : Nat) (H1 : A4) (q2 : H1 gS = some (Aj 0 0 0 (.sl 0 [] .nil) Bv)) (q5 : H1 g5 = some (PB UP)) (qm : H1 gm = some (.map (some .i64) shpMap)) (qi : H1 gi = some (.iter gm 16 (List.range 16) none))
  (o1 : n ≤ gS) (o2 : gS < g5) (o3 : g5 < gi) (o4 : gi < n1) (o5 : gm < n) (hsup : ∀ k, n1 ≤ k → H1 k = none)
  (hq : ∀ (e : AT) (n2 : Nat) (H2 : A4) (kk : Int) (x : Shq), n1 ≤ n2 → (∀ k, n2 ≤ k → H2 k = none) → (∀ k, k < n → H2 k = H1 k) → H2 gS = some (Aj kk 0 0 (.sl 0 [] .nil) Bv) → H2 g5 = some (PB x) → A0t w [] kk x → get e 0 = .ptr gp 0 → get e 2 = .ptr gS 0 → get e 5 = .ptr g5 0 → Q (.exit 0) ⟨e, n2, H2⟩) :
  LoopK (fun Q s => aw Tryz.prog c61_L5 Q s) Q ⟨[(0, .ptr gp 0), (2, .ptr gS 0), (4, .str w), (5, .ptr g5 0), (15, .ptr gi 0)], n1, H1⟩ := by
 refine LoopK.go (fun q st => ∃ (left : List Nat) (cur : Option Nat) (n2 : Nat) (H2 : A4) (kk : Int) (x : Shq), left.length = q ∧ left.Nodup ∧ st = ⟨[(0, .ptr gp 0), (2, .ptr gS 0), (4, .str w), (5, .ptr g5 0), (15, .ptr gi 0)], n2, H2⟩ ∧ n1 ≤ n2 ∧ (∀ k, n2 ≤ k → H2 k = none) ∧ (∀ k, k < n → H2 k = H1 k) ∧ H2 gS = some (Aj kk 0 0 (.sl 0 [] .nil) Bv) ∧ H2 g5 = some (PB x) ∧ H2 gi = some (.iter gm 16 left cur) ∧ A0t w left kk x) 16
  ⟨List.range 16, none, n1, H1, 0, UP, by simp, List.nodup_range, rfl, by omega, hsup, fun _ _ => rfl, q2, q5, qi, .inl ⟨rfl, rfl, fun j hj => by have := (List.getElem?_eq_some_iff.1 (FU hj)).1; exact List.mem_range.2 this⟩⟩ ?_
 rintro q st ⟨left, cur, n2, H2, kk, x, hq2, hnd, rfl, hn2, hs2, hfr, a2, a5, ai, hI⟩ J hJ
 have am : H2 gm = some (.map (some .i64) shpMap) := by rw [hfr gm o5]; exact qm
 have hEl : shpMap.length = 16 := rfl
 
 simp -implicitDefEqProofs [Q6, -getElem?_pos, ai, am]
 refine YS hEl (fun h0 => ?_) (fun j hj k v hv => ?_)
 ·subst h0
  repeat' (first | (simp -implicitDefEqProofs [PU, E8, GD, Mw, Q6, c61, -getElem?_pos, hq]) | (simp (disch := omega) only [AF]) | (with_reducible first | refine A7 ?_ ?_ ?_ | exact AB | assumption | refine A3 ?_ | refine KM.of ?_ | refine AG ?_ | refine A2 ?_ | refine A5 ?_ | refine C4 ?_ | intro _g _hg | refine AE ?_ ?_ | intro _hc) | omega)
  exact hq _ n2 H2 kk x hn2 hs2 hfr a2 a5 hI rfl rfl rfl
 ·obtain ⟨y, hy, rfl, rfl⟩ := A1g hv
  have hjl : (left.erase j).length < q := by
   have := List.length_erase_of_mem hj
   have := List.length_pos_of_mem hj
   omega
  have hw := K9 (w := w) hy
  generalize hsm : shpMap = sm at *
  have hjn : j ∉ left.erase j := fun h => (List.Nodup.mem_erase_iff hnd).1 h |>.1 rfl
  obtain ⟨yw, P, fn, cd, m0, m1, vs⟩ := y
  by_cases hyw : yw = w
  ·
   repeat' (first | (simp -implicitDefEqProofs [Mw, -getElem?_pos, a2, a5, ai, am, hEl, hv, hyw, splice]) | (simp (disch := omega) only [AF]) | (with_reducible first | refine NA [gS] ?_ | refine A7 ?_ ?_ ?_ | exact AB | assumption | refine A3 ?_ | refine KM.of ?_ | refine AG ?_ | refine A2 ?_ | refine A5 ?_ | refine C4 ?_ | intro _g _hg | refine AE ?_ ?_ | intro _hc) | omega)
   refine hJ _ _ hjl ⟨left.erase j, some j, _, _, _, _, rfl, hnd.erase j, rfl, by omega, fun k h => by simp (disch := omega) only [upd_ne]; exact hs2 k (by omega), fun k h => by simp (disch := omega) only [upd_ne]; exact hfr k h, by simp (disch := omega) only [upd_ne, AX], AX _ _ _, by simp (disch := omega) only [upd_ne, AX], .inr ⟨j, hw.1 hyw, hjn, rfl, by rw [hy, hyw]⟩⟩
  ·
   repeat' (first | (simp -implicitDefEqProofs [Mw, -getElem?_pos, a2, a5, ai, am, hEl, hv, hyw, splice]) | (simp (disch := omega) only [AF]) | (with_reducible first | refine NA [gS] ?_ | refine A7 ?_ ?_ ?_ | exact AB | assumption | refine A3 ?_ | refine KM.of ?_ | refine AG ?_ | refine A2 ?_ | refine A5 ?_ | refine C4 ?_ | intro _g _hg | refine AE ?_ ?_ | intro _hc) | omega)
   refine hJ _ _ hjl ⟨left.erase j, some j, _, _, kk, x, rfl, hnd.erase j, rfl, by omega, fun k h => by simp (disch := omega) only [upd_ne]; exact hs2 k (by omega), fun k h => by simp (disch := omega) only [upd_ne]; exact hfr k h, by simp (disch := omega) only [upd_ne]; exact a2, by simp (disch := omega) only [upd_ne]; exact a5, by simp (disch := omega) only [upd_ne, AX], ?_⟩
   rcases hI with ⟨h1, h2, h3⟩ | ⟨i, h1, h2, h3, h4⟩
   ·refine .inl ⟨h1, h2, fun i hi => ?_⟩
    have hij : i ≠ j := fun e => hyw (hw.2 (e ▸ hi))
    exact (List.mem_erase_of_ne hij).2 (h3 i hi)
   ·exact .inr ⟨i, h1, fun h => h2 (List.mem_of_mem_erase h), h3, h4⟩
def FD : Nat → AW → Option (St × AW)
 | 0, _ => none
 | f + 1, r => match EO (r.takeWhile Ak) shqW with
  | none => none
  | some j => match shqs[j]? with
   | none => none
   | some x => if (acc 40 (r.dropWhile Ak)).2 = true then (match Eh ((j : Int) + 1) x (acc 40 (r.dropWhile Ak)).1 with
     | none => none
     | some a => match F5 (FD f) x a.sm a.r with
      | none => none
      | some p => if (acc 41 p.2).2 = true then some (.mk ((j : Int) + 1) a.o a.m a.vs p.1, (acc 41 p.2).1) else none)
    else none
theorem S3 {o : Int} {r : AW} {a : Ahd} (h : Nn o r = some a) : a.r.length ≤ r.length := by
 unfold Nn at h
 split at h
 ·injection h with h; subst h; exact EM Af r
 ·cases h
theorem Ru : ∀ {f : Nat} {r : AW} {vs : List Int} {y : List Int × AW}, NB f r vs = some y → y.2.length ≤ r.length
 | 0, _, _, _, h => by cases h
 | f + 1, r, vs, y, h => by
  have h1 := EM Af r
  have h2 := (D8 44 (r.dropWhile Af)).1
  rw [NB] at h
  split at h
  ·split at h
   ·have := Ru h; omega
   ·injection h with h; subst h; dsimp only; omega
  ·cases h
theorem LX {k : Int} {x : Shq} {r : AW} {a : Ahd} (h : Eh k x r = some a) : a.r.length ≤ r.length := by
 have h1 := EM Ak r
 have h2 := (D8 32 (r.dropWhile Ak)).1
 unfold Eh at h
 generalize (if x.fn = true then fnW else cdW) = l at h
 split at h
 ·obtain ⟨y, h3, rfl⟩ := Option.map_eq_some_iff.1 h
  unfold Es at h3
  split at h3
  ·injection h3 with h3; subst h3; exact Nat.le_refl _
  ·exact Ru h3
 ·split at h
  ·split at h
   ·split at h
    ·injection h with h; subst h; exact h1
    ·split at h
     ·have := S3 h; omega
     ·cases h
   ·cases h
  ·split at h
   ·injection h with h; subst h; exact Nat.le_refl _
   ·exact S3 h
theorem NK {pr : AW → Option (St × AW)} (hpr : ∀ r t r2, pr r = some (t, r2) → r2.length < r.length) {P : Int} : ∀ {f i : Nat} {c : Bool} {r : AW} {ps : List St} {y : List St × AW}, EV pr P f i c r ps = some y → y.2.length ≤ r.length
 | 0, _, _, _, _, _, h => by cases h
 | f + 1, i, c, r, ps, y, h => by
  have h2 := (D8 44 r).1
  rw [EV] at h
  split at h
  ·split at h
   ·split at h
    ·split at h
     ·cases h
     ·rename_i tr htr
      have := hpr _ tr.1 tr.2 htr
      have := NK hpr h
      omega
    ·split at h
     ·injection h with h; subst h; exact Nat.le_refl _
     ·cases h
   ·split at h
    ·cases h
    ·rename_i tr htr
     have := hpr _ tr.1 tr.2 htr
     have := NK hpr h
     omega
  ·injection h with h; subst h; exact Nat.le_refl _
theorem O7 {pr : AW → Option (St × AW)} (hpr : ∀ r t r2, pr r = some (t, r2) → r2.length < r.length) {x : Shq} {sm : Bool} {r : AW} {y : List St × AW} (h : F5 pr x sm r = some y) : y.2.length ≤ r.length := by
 unfold F5 at h
 split at h
 ·injection h with h; subst h; exact Nat.le_refl _
 ·exact NK hpr h
theorem M8 : ∀ {f : Nat} {r : AW} {t : St} {r2 : AW}, FD f r = some (t, r2) → r2.length < r.length
 | 0, _, _, _, h => by cases h
 | f + 1, r, t, r2, h => by
  have h1 := EM Ak r
  have h2 := D8 40 (r.dropWhile Ak)
  rw [FD] at h
  split at h
  ·cases h
  ·split at h
   ·cases h
   ·split at h
    ·rename_i hb
     have h3 := h2.2 hb
     split at h
     ·cases h
     ·rename_i a ha
      have h4 := LX ha
      split at h
      ·cases h
      ·rename_i p hp
       have h5 := O7 (fun r t r2 h => M8 h) hp
       have h6 := (D8 41 p.2).1
       split at h
       ·injection h with h; injection h with h7 h8; subst h8; omega
       ·cases h
    ·cases h
def W9 (n : Nat) (H : A4) (gp gm : Nat) (res : Option (St × AW)) : Bi := fun b n' H' => n ≤ n' ∧ (∀ g, n' ≤ g → H' g = none) ∧ (∀ g, g < n → g ≠ gp → H' g = H g) ∧ match res with
 | some (.mk k o m v p, r') => H' gp = some (An r' gm) ∧ ((p = [] ∧ b = .tup [encS (.mk k o m v []), .bool true]) ∨ (p ≠ [] ∧ ∃ gg, n ≤ gg ∧ H' gg = some (QE p) ∧ b = .tup [.agg [aI k, aI o, aI m, .sl 1 (v.map aI) .ro, .slg 5 gg p.length], .bool true]))
 | none => (∃ k o m : Int, ∃ w w' : AV, b = .tup [.agg [aI k, aI o, aI m, w, w'], .bool false] ∧ w.one = true ∧ w'.one = true) ∧ ∃ r', H' gp = some (An r' gm)
theorem OJ : ∀ (ps : List St), ∀ x ∈ Ae ps, x.cells.length = 5
 | [], x, h => by simp [Ae] at h
 | .mk k o m v p :: r, x, h => by
  simp only [Ae, List.mem_cons] at h
  rcases h with rfl | h
  ·rw [AQ]; rfl
  ·exact OJ r x h
theorem A2s {P : Program} {f : Nat} {args : List AV} {n : Nat} {H : A4} {R R' : Bi} (h : ACalls P f args n H R) (k : ∀ r n' H', R r n' H' → R' r n' H') : ACalls P f args n H R' :=
 fun hs w0 G w vs hl hr hv => (h hs w0 G w vs hl hr hv).mono fun e w' ⟨v, r, G', n', H', e1, e2, e3⟩ => ⟨v, r, G', n', H', e1, k _ _ _ e2, e3⟩
theorem Sx {n : Nat} {H : A4} {gp gm : Nat} {res : Option (St × AW)} (hg : gp < n) (h : ACalls Tryz.prog 61 [.ptr gp 0] n H (W9 n H gp gm res)) : ACalls Tryz.prog 61 [.ptr gp 0] n H (T0 n H gp gm res) := by
 cases res with
 | none => exact h
 | some tr =>
  obtain ⟨⟨k, o, m, v, p⟩, r'⟩ := tr
  by_cases hp : p = []
  ·subst hp
   refine A2s h fun b n' H' h1 => ?_
   obtain ⟨a1, a2, a3, a4, ⟨_, a5⟩ | ⟨a5, _⟩⟩ := h1
   ·exact ⟨a1, a2, a3, a5, a4⟩
   ·exact absurd rfl a5
  ·refine ACalls.frz h fun b n' H' hn h1 => ?_
   obtain ⟨a1, a2, a3, a4, ⟨a5, _⟩ | ⟨_, gg, a5, a6, rfl⟩⟩ := h1
   ·exact absurd a5 hp
   ·have hl : (Ae p).length = p.length := by have := OO p; exact BB p
    refine ⟨gg, _, 5, Ae p, a6, by kernel_rfl, by omega, OJ p, a1, fun g h => ?_, fun g h1 h2 => ?_, ?_, ?_⟩
    ·simp only [upd]; split
     ·rfl
     ·exact a2 g h
    ·rw [upd_ne (by omega)]; exact a3 g h1 h2
    ·simp [Nj, RE, hl, AQ]
    ·rw [upd_ne (by omega)]; exact a4
theorem Ov {n n3 gp gS gm : Nat} {H H3 : A4} {e : AT} {r' : AW} {k o m : Int} {w w' : AV} (hn : n ≤ n3) (hs : ∀ k, n3 ≤ k → H3 k = none) (hfr : ∀ g, g < n → g ≠ gp → H3 g = H g) (q1 : H3 gp = some (An r' gm)) (q2 : H3 gS = some (Aj k o m w w')) (o1 : w.one = true) (o2 : w'.one = true) (e2 : get e 2 = .ptr gS 0) (e3 : get e 3 = .bool false) : fin (W9 n H gp gm none) n [.cell 2 (some 5), .tmp 3] .ret ⟨e, n3, H3⟩ :=
 Ax (x := .tup [.agg [aI k, aI o, aI m, w, w'], .bool false]) (by simp [Br, F3, C5, e2, e3, q2, BZ, part]) (A1 _) hn hs ⟨hn, hs, hfr, ⟨k, o, m, w, w', rfl, o1, o2⟩, r', q1⟩
theorem A19 {n n3 gp gS gm : Nat} {H H3 : A4} {e : AT} {r' : AW} {k o m : Int} {z : Nat} {vs : List Int} {t : Tok} {w' : AV} {p : List St} (hn : n ≤ n3) (hs : ∀ k, n3 ≤ k → H3 k = none) (hfr : ∀ g, g < n → g ≠ gp → H3 g = H g) (q1 : H3 gp = some (An r' gm)) (q2 : H3 gS = some (Aj k o m (.sl z (vs.map aI) t) w')) (hz : z = 1 ∨ vs = []) (hP : PsB H3 n n3 w' p) (e2 : get e 2 = .ptr gS 0) (e3 : get e 3 = .bool true) : fin (W9 n H gp gm (some (.mk k o m vs p, r'))) n [.cell 2 (some 5), .tmp 3] .ret ⟨e, n3, H3⟩ := by
 have hzz : z = 1 ∨ vs.map aI = [] := hz.imp id fun h => by rw [h]; rfl
 have hx : Br ⟨e, n3, H3⟩ [.cell 2 (some 5), .tmp 3] = some (.tup [.agg [aI k, aI o, aI m, .sl z (vs.map aI) t, w'], .bool true]) := by simp [Br, F3, C5, e2, e3, q2, BZ, part]
 have hI : ∀ i : Int, A8 (aI i) (aI i) := fun i => A1 _
 rcases hP with ⟨rfl, rfl⟩ | ⟨gg, a0, a1, a2, rfl, a3⟩
 ·refine Ax hx ?_ hn hs ⟨hn, hs, hfr, q1, .inl ⟨rfl, rfl⟩⟩
  rw [AQ]
  exact Ew (AL (CI (AL (hI _) (AL (hI _) (AL (hI _) (AL (EG hzz) (AL Bq (A0 _))))))) (A0 _))
 ·refine Ax hx ?_ hn hs ⟨hn, hs, hfr, q1, .inr ⟨a0, gg, a1, a3, rfl⟩⟩
  exact Ew (AL (CI (AL (hI _) (AL (hI _) (AL (hI _) (AL (EG hzz) (A0 _)))))) (A0 _))
theorem V3 {n gp gS g5 gm n1 : Nat} {H H1 : A4} {R : Bi} {e : AT} (f : Nat) (ih : ∀ r1 : AW, r1.length < f → r1.length ≤ 4000 → ∀ (gp gm n : Nat) (H : A4), H gp = some (An r1 gm) → H gm = some (.map (some .i64) shpMap) → ACalls Tryz.prog 61 [.ptr gp 0] n H (T0 n H gp gm (FD f r1)))
  (w r : AW) (hrf : r.length ≤ f) (hr : r.length ≤ 4000) (kk : Int) (x : Shq) (hk : A0t w [] kk x) (hs1 : ∀ k, n1 ≤ k → H1 k = none) (hfr : ∀ k, k < n → k ≠ gp → H1 k = H k) (q1 : H1 gp = some (An r gm)) (qm : H1 gm = some (.map (some .i64) shpMap)) (q2 : H1 gS = some (Aj kk 0 0 (.sl 0 [] .nil) Bv)) (q5 : H1 g5 = some (PB x)) (o0 : gp < n) (om : gm < n) (o1 : n ≤ gS) (o2 : gS < g5) (o3 : g5 < n1)
  (e0 : get e 0 = .ptr gp 0) (e2 : get e 2 = .ptr gS 0) (e5 : get e 5 = .ptr g5 0)
  (hR : R = W9 n H gp gm (match EO w shqW with
  | none => none
  | some j => match shqs[j]? with
   | none => none
   | some x => if (acc 40 r).2 = true then (match Eh ((j : Int) + 1) x (acc 40 r).1 with
     | none => none
     | some a => match F5 (FD f) x a.sm a.r with
      | none => none
      | some p => if (acc 41 p.2).2 = true then some (.mk ((j : Int) + 1) a.o a.m a.vs p.1, (acc 41 p.2).1) else none)
    else none)) :
  aw Tryz.prog c61_k3 (fin R n [.cell 2 (some 5), .tmp 3]) ⟨e, n1, H1⟩ := by
 have hne : gp ≠ gS := by omega
 have hac := fun (n3 : Nat) (H3 : A4) (h1 : H3 gp = some (An r gm)) => GM r 40 gp gm n3 H3 h1
 have hal := D8 40 r
 generalize acc 40 r = a1 at *
 cases hix : EO w shqW with
 | none =>
  rw [hix] at hR
  have hk0 : kk = 0 := by
   rcases hk with ⟨h, _⟩ | ⟨j, h, _⟩
   ·exact h
   ·rw [hix] at h; cases h
  subst hk0
  
  repeat' (first | (simp -implicitDefEqProofs [GD, -getElem?_pos, e0, e2, e5, q2, splice]) | (simp (disch := omega) only [AF]) | (with_reducible first | refine A7 ?_ ?_ ?_ | exact AB | assumption | refine A3 ?_ | refine KM.of ?_ | refine AG ?_ | refine A2 ?_ | refine A5 ?_ | refine C4 ?_ | intro _g _hg | refine AE ?_ ?_ | intro _hc) | omega)
  subst hR
  exact Ov (k := 0) (o := 0) (m := 0) (by omega) (fun k hk => by simp (disch := omega) only [upd_ne]; exact hs1 k hk) (fun g h1 h2 => by simp (disch := omega) only [upd_ne]; exact hfr g h1 h2) (by simp (disch := omega) only [upd_ne]; exact q1) (AX _ _ _) rfl rfl rfl rfl
 | some j =>
  rw [hix] at hR
  obtain ⟨hkk, hx⟩ : kk = (j : Int) + 1 ∧ shqs[j]? = some x := by
   rcases hk with ⟨_, _, h⟩ | ⟨i, h, _, h1, h2⟩
   ·exact absurd (h j hix) (by simp)
   ·rw [hix] at h; injection h with h; subst h; exact ⟨h1, h2⟩
  dsimp only at hR
  rw [hx] at hR
  dsimp only at hR
  rw [← hkk] at hR
  have hk0 : kk ≠ 0 := by omega
  by_cases ha : a1.2 = true
  ·rw [if_pos ha] at hR
   rw [ha] at hac
   have hah := fun (n3 : Nat) (H3 : A4) (h1 : H3 gp = some (An a1.1 gm)) (h2 : H3 gS = some (Aj kk 0 0 (.sl 0 [] .nil) Bv)) => (YH kk x a1.1 gp gS gm n3 H3 (by omega) h1 h2 hne).onesH
   have hahl := @LX kk x a1.1
   generalize Eh kk x a1.1 = ah at *
   cases ah with
   | none =>
    dsimp only at hR
    
    repeat' (first | (simp -implicitDefEqProofs [GD, -getElem?_pos, e0, e2, e5, q2, q5, hk0, hne, Ne.symm hne, splice]) | (simp (disch := omega) only [AF]) | ((with_reducible refine Ay 85 ?_); (refine' CallK.sfU ?_ ((hac _ _ q1)) ?_); (focus first | (with_reducible exact A0 _) | (simp [AC, A8, A1, A0]; done))) | (with_reducible first | refine A7 ?_ ?_ ?_ | exact AB | assumption | refine A3 ?_ | refine KM.of ?_ | refine AG ?_ | refine A2 ?_ | refine A5 ?_ | refine C4 ?_ | intro _g _hg | refine AE ?_ ?_ | intro _hc) | omega)
    repeat' (first | (simp -implicitDefEqProofs [E8, -getElem?_pos, q5, hne, Ne.symm hne, splice]) | (simp (disch := omega) only [AF]) | ((with_reducible refine Ay 86 ?_); refine ⟨_, hah _ _ (AX _ _ _) (by simp (disch := omega) only [upd_ne]; exact q2), ?_⟩; rintro rb n2 H2 (hle2 : n1 ≤ n2) hsup2 ⟨⟨_, _, hfr2, ⟨smb, rfl⟩, ⟨r', hgp'⟩, o', m', w', hS'⟩, hones⟩) | (with_reducible first | refine A7 ?_ ?_ ?_ | exact AB | assumption | refine A3 ?_ | refine KM.of ?_ | refine AG ?_ | refine A2 ?_ | refine A5 ?_ | refine C4 ?_ | intro _g _hg | refine AE ?_ ?_ | intro _hc) | omega)
    have ho := hones gS _ _ hS'
    have how : w'.one = true := ho w' (by simp)
    have hfr2' : ∀ g, g < n1 → g ≠ gp → g ≠ gS → H2 g = upd H1 gp (some (An a1.1 gm)) g := hfr2
    repeat' (first | (simp -implicitDefEqProofs [E8, -getElem?_pos, hS', Az, AV.fits, how, splice]) | (simp (disch := omega) only [AF]) | (with_reducible first | refine A7 ?_ ?_ ?_ | exact AB | assumption | refine A3 ?_ | refine KM.of ?_ | refine AG ?_ | refine A2 ?_ | refine A5 ?_ | refine C4 ?_ | intro _g _hg | refine AE ?_ ?_ | intro _hc) | omega)
    ·cases w' <;> first | rfl | cases how
    ·subst hR
     exact Ov (by omega) (fun k hk => by rw [upd_ne (by omega)]; exact hsup2 k hk) (fun g h1 h2 => by rw [upd_ne (by omega), hfr2' g (by omega) h2 (by omega), upd_ne h2]; exact hfr g h1 h2) (by rw [upd_ne hne]; exact hgp') (AX _ _ _) how rfl rfl rfl
   | some a =>
    dsimp only at hR
    obtain ⟨sm, o', m', vs, r3⟩ := a
    dsimp only at hR
    have hahl' := hahl rfl
    dsimp only at hahl'
    
    repeat' (first | (simp -implicitDefEqProofs [GD, -getElem?_pos, e0, e2, e5, q2, q5, hk0, hne, Ne.symm hne, splice]) | (simp (disch := omega) only [AF]) | ((with_reducible refine Ay 85 ?_); (refine' CallK.sfU ?_ ((hac _ _ q1)) ?_); (focus first | (with_reducible exact A0 _) | (simp [AC, A8, A1, A0]; done))) | (with_reducible first | refine A7 ?_ ?_ ?_ | exact AB | assumption | refine A3 ?_ | refine KM.of ?_ | refine AG ?_ | refine A2 ?_ | refine A5 ?_ | refine C4 ?_ | intro _g _hg | refine AE ?_ ?_ | intro _hc) | omega)
    repeat' (first | (simp -implicitDefEqProofs [E8, -getElem?_pos, q5, hne, Ne.symm hne, splice]) | (simp (disch := omega) only [AF]) | ((with_reducible refine Ay 86 ?_); refine ⟨_, hah _ _ (AX _ _ _) (by simp (disch := omega) only [upd_ne]; exact q2), ?_⟩; rintro rb n2 H2 (hle2 : n1 ≤ n2) hsup2 ⟨⟨_, _, hfr2, rfl, hgp', z, t, hz, hS'⟩, hones⟩) | (with_reducible first | refine A7 ?_ ?_ ?_ | exact AB | assumption | refine A3 ?_ | refine KM.of ?_ | refine AG ?_ | refine A2 ?_ | refine A5 ?_ | refine C4 ?_ | intro _g _hg | refine AE ?_ ?_ | intro _hc) | omega)
    have hgmp : gm ≠ gp := fun e => by rw [e, q1] at qm; cases qm
    have hfr2' : ∀ g, g < n1 → g ≠ gp → g ≠ gS → H2 g = H1 g := fun g h1 h2 h3 => (hfr2 g h1 h2 h3).trans (upd_ne h2)
    have hle2' : n1 ≤ n2 := hle2
    have q5' : H2 g5 = some (PB x) := by rw [hfr2' g5 (by omega) (by omega) (by omega)]; exact q5
    have qm' : H2 gm = some (.map (some .i64) shpMap) := by rw [hfr2' gm (by omega) hgmp (by omega)]; exact qm
    have hpa := (Yc x sm r3 (FD f) gp gS gm n2 H2 kk o' m' (.sl z (vs.map aI) t) (by omega) hgp' hS' qm' hne (fun r1 h1 => ⟨fun t r2 h => M8 h, fun n1 H1 h2 h3 => ih r1 (by have := hal.2 ha; omega) (by omega) gp gm n1 H1 h2 h3⟩)).onesH
    have hpl := @O7 (FD f) (fun r t r2 h => M8 h) x sm r3
    generalize F5 (FD f) x sm r3 = pp at *
    cases pp with
    | none =>
     dsimp only at hR
     repeat' (first | (simp -implicitDefEqProofs [E8, -getElem?_pos, q5', splice]) | (simp (disch := omega) only [AF]) | ((with_reducible refine Ay 87 ?_); refine ⟨_, hpa, ?_⟩; rintro rb n3 H3 (hle3 : n2 ≤ n3) hsup3 ⟨⟨_, _, hfr3, rfl, ⟨r', hgp3⟩, w', hS3⟩, hones⟩) | (with_reducible first | refine A7 ?_ ?_ ?_ | exact AB | assumption | refine A3 ?_ | refine KM.of ?_ | refine AG ?_ | refine A2 ?_ | refine A5 ?_ | refine C4 ?_ | intro _g _hg | refine AE ?_ ?_ | intro _hc) | omega)
     have ho := hones gS _ _ hS3
     have how : w'.one = true := ho w' (by simp)
     repeat' (first | (simp -implicitDefEqProofs [E8, -getElem?_pos, hS3, Az, AV.fits, how, splice]) | (simp (disch := omega) only [AF]) | (with_reducible first | refine A7 ?_ ?_ ?_ | exact AB | assumption | refine A3 ?_ | refine KM.of ?_ | refine AG ?_ | refine A2 ?_ | refine A5 ?_ | refine C4 ?_ | intro _g _hg | refine AE ?_ ?_ | intro _hc) | omega)
     ·cases w' <;> first | rfl | cases how
     ·subst hR
      exact Ov (by omega) (fun k hk => by rw [upd_ne (by omega)]; exact hsup3 k hk) (fun g h1 h2 => by rw [upd_ne (by omega), hfr3 g (by omega) h2 (by omega), hfr2' g (by omega) h2 (by omega)]; exact hfr g h1 h2) (by rw [upd_ne hne]; exact hgp3) (AX _ _ _) rfl how rfl rfl
    | some pr =>
     dsimp only at hR
     obtain ⟨ps, r4⟩ := pr
     dsimp only at hR
     have hpl' := hpl rfl
     dsimp only at hpl'
     repeat' (first | (simp -implicitDefEqProofs [E8, -getElem?_pos, q5', splice]) | (simp (disch := omega) only [AF]) | ((with_reducible refine Ay 87 ?_); refine ⟨_, hpa, ?_⟩; rintro rb n3 H3 (hle3 : n2 ≤ n3) hsup3 ⟨⟨_, _, hfr3, rfl, hgp3, w', hS3, hP3⟩, hones⟩) | (with_reducible first | refine A7 ?_ ?_ ?_ | exact AB | assumption | refine A3 ?_ | refine KM.of ?_ | refine AG ?_ | refine A2 ?_ | refine A5 ?_ | refine C4 ?_ | intro _g _hg | refine AE ?_ ?_ | intro _hc) | omega)
     have hac4 := fun (n3 : Nat) (H3 : A4) (h1 : H3 gp = some (An r4 gm)) => GM r4 41 gp gm n3 H3 h1
     generalize acc 41 r4 = a4 at *
     have how := hP3.one.1
     have hwf := hP3.one.2
     repeat' (first | (simp -implicitDefEqProofs [E8, PU, -getElem?_pos, hS3, hne, Ne.symm hne, Az, AV.fits, how, splice]) | (simp (disch := omega) only [AF]) | (with_reducible refine NA [gp] ?_) | ((with_reducible refine KC.of (KeepM.upd (fun ob _ h => by simp [Bf] at h)) ?_)) | ((with_reducible refine Ay 85 ?_); (refine' CallK.sfU ?_ ((hac4 _ _ hgp3)) ?_); (focus first | (with_reducible exact A0 _) | (simp [AC, A8, A1, A0]; done))) | (with_reducible first | refine A7 ?_ ?_ ?_ | exact AB | assumption | refine A3 ?_ | refine KM.of ?_ | refine AG ?_ | refine A2 ?_ | refine A5 ?_ | refine C4 ?_ | intro _g _hg | refine AE ?_ ?_ | intro _hc) | omega)
     ·cases w' <;> first | rfl | cases how
     ·have hs4 : ∀ k, n3 ≤ k → upd (upd H3 gp (some (An a4.1 gm))) gS (some (Aj kk o' m' (.sl z (vs.map aI) t) w')) k = none := fun k hk => by rw [upd_ne (by omega), upd_ne (by omega)]; exact hsup3 k hk
      have hfr4 : ∀ g, g < n → g ≠ gp → upd (upd H3 gp (some (An a4.1 gm))) gS (some (Aj kk o' m' (.sl z (vs.map aI) t) w')) g = H g := fun g h1 h2 => by rw [upd_ne (by omega), upd_ne h2, hfr3 g (by omega) h2 (by omega), hfr2' g (by omega) h2 (by omega)]; exact hfr g h1 h2
      by_cases h4 : a4.2 = true
      ·rw [if_pos h4] at hR
       subst hR
       refine A19 (z := z) (t := t) (by omega) hs4 hfr4 (by rw [upd_ne hne, AX]) (AX _ _ _) hz (hP3.to (by omega) (Nat.le_refl _) fun g h1 h2 => by rw [upd_ne (by omega), upd_ne (by omega)]) rfl (by rw [h4]; rfl)
      ·rw [if_neg h4] at hR
       rw [Bool.not_eq_true] at h4
       subst hR
       exact Ov (by omega) hs4 hfr4 (by rw [upd_ne hne, AX]) (AX _ _ _) rfl how rfl (by rw [h4]; rfl)
  ·rw [if_neg ha] at hR
   rw [Bool.not_eq_true] at ha
   rw [ha] at hac
   
   repeat' (first | (simp -implicitDefEqProofs [GD, -getElem?_pos, e0, e2, e5, q2, hk0, hne, Ne.symm hne, splice]) | (simp (disch := omega) only [AF]) | ((with_reducible refine Ay 85 ?_); (refine' CallK.sfU ?_ ((hac _ _ q1)) ?_); (focus first | (with_reducible exact A0 _) | (simp [AC, A8, A1, A0]; done))) | (with_reducible first | refine A7 ?_ ?_ ?_ | exact AB | assumption | refine A3 ?_ | refine KM.of ?_ | refine AG ?_ | refine A2 ?_ | refine A5 ?_ | refine C4 ?_ | intro _g _hg | refine AE ?_ ?_ | intro _hc) | omega)
   subst hR
   exact Ov (by omega) (fun k hk => by simp (disch := omega) only [upd_ne]; exact hs1 k hk) (fun g h1 h2 => by simp (disch := omega) only [upd_ne]; exact hfr g h1 h2) (by rw [upd_ne hne, AX]) (AX _ _ _) rfl rfl rfl rfl
theorem Wh (f : Nat) : ∀ r : AW, r.length < f → r.length ≤ 4000 → ∀ (gp gm n : Nat) (H : A4), H gp = some (An r gm) → H gm = some (.map (some .i64) shpMap) → ACalls Tryz.prog 61 [.ptr gp 0] n H (T0 n H gp gm (FD f r)) := by
 induction f with
 | zero => intro r h; omega
 | succ f ih =>
  intro r hlf hr gp gm n H hp hgm hs0
  have hgp : gp < n := by
   rcases Nat.lt_or_ge gp n with h | h
   ·exact h
   ·rw [hs0 gp h] at hp; cases hp
  have hgmn : gm < n := by
   rcases Nat.lt_or_ge gm n with h | h
   ·exact h
   ·rw [hs0 gm h] at hgm; cases hgm
  have hmp : gm ≠ gp := fun e => by rw [e, hp] at hgm; cases hgm
  refine Sx hgp ?_ hs0
  clear hs0
  rw [FD]
  have hw := fun (n2 : Nat) (H2 : A4) (h : H2 gp = some (An r gm)) => WY r gp gm n2 H2 (by omega) h
  have hdl := EM Ak r
  generalize r.takeWhile Ak = w at *
  generalize r.dropWhile Ak = r1 at *
  generalize hR : W9 n H gp gm _ = R
  refine Ab Tryz.func61 A27 rfl fun hs => ?_
  repeat' (first | (simp -implicitDefEqProofs [c61, -getElem?_pos, hp, hmp, hgm]) | (simp (disch := omega) only [AF]) | ((with_reducible refine Ay 84 ?_); (refine' CallK.sfU ?_ ((hw _ _ (by rw [upd_ne (by omega)]; exact hp))) ?_); (focus first | (with_reducible exact A0 _) | (simp [AC, A8, A1, A0]; done))) | (with_reducible first | refine A7 ?_ ?_ ?_ | exact AB | assumption | refine A3 ?_ | refine KM.of ?_ | refine AG ?_ | refine A2 ?_ | refine A5 ?_ | refine C4 ?_ | intro _g _hg | refine AE ?_ ?_ | intro _hc) | omega)
  rename_i gS hgS g5 hg5
  have hgS' : n ≤ gS := hgS
  refine Zl w gp gS g5 _g gm n (_g + 1) _ (by simp (disch := omega) only [upd_ne, AX] <;> rfl) (by simp (disch := omega) only [upd_ne, AX] <;> rfl) (by simp (disch := omega) only [upd_ne]; exact hgm) (by simp (disch := omega) only [AX]; rfl) hgS' (by omega) (by omega) (by omega) hgmn (fun k hk => by simp (disch := omega) only [upd_ne]; exact hs k (by omega)) ?_
  intro e n2 H2 kk x hn2 hs2 hfr2 a2 a5 hk e0 e2 e5
  have q1 : H2 gp = some (An r1 gm) := by rw [hfr2 gp hgp]; simp (disch := omega) only [upd_ne, AX]
  have qm : H2 gm = some (.map (some .i64) shpMap) := by rw [hfr2 gm hgmn]; simp (disch := omega) only [upd_ne]; exact hgm
  have hk3 := V3 (R := R) (n := n) (H := H) (e := e) f ih w r1 (by omega) (by omega) kk x hk hs2 (fun k h1 h2 => by rw [hfr2 k h1]; simp (disch := omega) only [upd_ne]) q1 qm a2 a5 hgp hgmn hgS' (by omega) (by omega) e0 e2 e5 hR.symm
  repeat' (first | (simp -implicitDefEqProofs [c61, -getElem?_pos]) | (simp (disch := omega) only [AF]) | (with_reducible first | refine A7 ?_ ?_ ?_ | exact AB | assumption | refine A3 ?_ | refine KM.of ?_ | refine AG ?_ | refine A2 ?_ | refine A5 ?_ | refine C4 ?_ | intro _g _hg | refine AE ?_ ?_ | intro _hc) | omega)
theorem Rv : ∀ {f : Nat} {r : AW} {vs : List Int} {y : List Int × AW}, NB f r vs = some y → y.1.length ≤ vs.length + f
 | 0, _, _, _, h => by cases h
 | f + 1, r, vs, y, h => by
  rw [NB] at h
  split at h
  ·split at h
   ·have := Rv h; simp at this; omega
   ·injection h with h; subst h; simp
  ·cases h
theorem TT {k : Int} {x : Shq} {r : AW} {a : Ahd} (h : Eh k x r = some a) : a.vs.length ≤ r.length + 1 := by
 have key : ∀ {o : Int} {r : AW} {a : Ahd}, Nn o r = some a → a.vs = [] := fun {o r a} h => by
  unfold Nn at h
  split at h
  ·injection h with h; subst h; rfl
  ·cases h
 unfold Eh at h
 generalize (if x.fn = true then fnW else cdW) = l at h
 split at h
 ·obtain ⟨y, h3, rfl⟩ := Option.map_eq_some_iff.1 h
  unfold Es at h3
  split at h3
  ·injection h3 with h3; subst h3; simp
  ·have h4 := Rv h3; simp only [List.length_nil, Nat.zero_add] at h4; exact h4
 ·split at h
  ·split at h
   ·split at h
    ·injection h with h; subst h; simp
    ·split at h
     ·rw [key h]; simp
     ·cases h
   ·cases h
  ·split at h
   ·injection h with h; subst h; simp
   ·rw [key h]; simp
theorem Oa : ∀ {p q : List St}, Ng p → Ng q → Ng (p ++ q)
 | [], _, _, h => h
 | x :: p, q, h, k => ⟨h.1, Oa h.2 k⟩
theorem Mv {pr : AW → Option (St × AW)} {L : Nat} (hpr : ∀ r t r2, r.length ≤ L → pr r = some (t, r2) → r2.length < r.length ∧ EN t) {P : Int} : ∀ {f i : Nat} {c : Bool} {r : AW} {ps : List St} {y : List St × AW}, r.length ≤ L → Ng ps → EV pr P f i c r ps = some y → Ng y.1 ∧ y.1.length + y.2.length ≤ ps.length + r.length
 | 0, _, _, _, _, _, _, _, h => by cases h
 | f + 1, i, c, r, ps, y, hL, hps, h => by
  have h2 := (D8 44 r).1
  rw [EV] at h
  split at h
  ·split at h
   ·split at h
    ·split at h
     ·cases h
     ·rename_i tr htr
      obtain ⟨h3, h4⟩ := hpr _ tr.1 tr.2 (by omega) htr
      obtain ⟨h5, h6⟩ := Mv hpr (by omega) (Oa hps (show Ng [tr.1] from ⟨h4, trivial⟩)) h
      simp at h6
      exact ⟨h5, by omega⟩
    ·split at h
     ·injection h with h; subst h; exact ⟨hps, Nat.le_refl _⟩
     ·cases h
   ·split at h
    ·cases h
    ·rename_i tr htr
     obtain ⟨h3, h4⟩ := hpr _ tr.1 tr.2 (by omega) htr
     obtain ⟨h5, h6⟩ := Mv hpr (by omega) (Oa hps (show Ng [tr.1] from ⟨h4, trivial⟩)) h
     simp at h6
     exact ⟨h5, by omega⟩
  ·injection h with h; subst h; exact ⟨hps, Nat.le_refl _⟩
theorem Od : ∀ {f : Nat} {r : AW} {t : St} {r2 : AW}, r.length ≤ 4000 → FD f r = some (t, r2) → EN t
 | 0, _, _, _, _, h => by cases h
 | f + 1, r, t, r2, hr, h => by
  have h1 := EM Ak r
  have h2 := D8 40 (r.dropWhile Ak)
  rw [FD] at h
  split at h
  ·cases h
  ·split at h
   ·cases h
   ·split at h
    ·rename_i hb
     have h3 := h2.2 hb
     split at h
     ·cases h
     ·rename_i a ha
      have h4 := LX ha
      have h7 := TT ha
      split at h
      ·cases h
      ·rename_i p hp
       have h5 : Ng p.1 ∧ p.1.length + p.2.length ≤ a.r.length := by
        unfold F5 at hp
        split at hp
        ·injection hp with hp; subst hp; exact ⟨trivial, by simp⟩
        ·have := Mv (L := 4000) (fun r t r2 h1 h2 => ⟨M8 h2, Od h1 h2⟩) (by omega) (show Ng [] from trivial) hp
         simpa using this
       split at h
       ·injection h with h; injection h with h7 h8; subst h7; exact ⟨by omega, by omega, h5.1⟩
       ·cases h
    ·cases h
abbrev Ev : St := .mk 0 0 0 [] []
def PM (t : AW) : St × (Int × Int) := if 4000 < t.length then (Ev, (3, -1)) else match FD (t.length + 1) t with
 | some (s, r) => if r = [] then (if (Cl s).1 ≠ 0 then (Ev, Cl s) else (s, (0, 0))) else (Ev, (1, -1))
 | none => (Ev, (1, -1))
theorem Ry {k o m : Int} {d : AV} : A8 (.tup [.agg [aI k, aI o, aI m, .sl 0 [] .nil, .sl 0 [] .nil], d]) (.tup [encS (.mk k o m [] []), d]) := by
 have hI : ∀ i : Int, A8 (aI i) (aI i) := fun i => A1 _
 rw [AQ]
 exact Ew (AL (CI (AL (hI _) (AL (hI _) (AL (hI _) (AL Bq (AL Bq (A0 _))))))) (A0 _))
theorem UH (t : AW) : APure Tryz.prog 25 [.str t] (.tup [encS (PM t).1, aF (PM t).2]) := by
 unfold PM
 by_cases h4 : 4000 < t.length
 ·rw [if_pos h4]
  have h4' : (4000 : Int) < t.length := by omega
  
  refine A9 Tryz.func25 SY rfl fun n H hH => ?_
  repeat' (first | (simp -implicitDefEqProofs [c25, -getElem?_pos, h4', splice]) | (simp (disch := omega) only [AF]) | (with_reducible first | refine A7 ?_ ?_ ?_ | exact AB | assumption | refine A3 ?_ | refine KM.of ?_ | refine AG ?_ | refine A2 ?_ | refine A5 ?_ | intro _g _hg | refine AE ?_ ?_ | intro _hc) | omega)
  ·exact Ry
  ·intro g hg; simp (disch := omega) only [upd_ne]
 ·rw [if_neg h4]
  have h4' : ¬ (4000 : Int) < t.length := by omega
  have hst := Wh (t.length + 1) t (by omega) (by omega)
  have hval := fun (s : St) (r : AW) (h : FD (t.length + 1) t = some (s, r)) => Fm s (Od (by omega) h)
  generalize FD (t.length + 1) t = res at *
  cases res with
  | none =>
   dsimp only
   
   refine A9 Tryz.func25 SY rfl fun n H hH => ?_
   repeat' (first | (simp -implicitDefEqProofs [c25, Ht, Dt, -getElem?_pos, h4', splice]) | (simp (disch := omega) only [AF]) | ((with_reducible refine Ay 39 ?_); refine ⟨_, Ex _ _, ?_⟩; rintro r n' H' hle hsup ⟨gm, rfl, hg1, rfl, rfl⟩; dsimp only at hg1 hle) | (with_reducible first | refine A7 ?_ ?_ ?_ | exact AB | assumption | refine A3 ?_ | refine KM.of ?_ | refine AG ?_ | refine A2 ?_ | refine A5 ?_ | intro _g _hg | refine AE ?_ ?_ | intro _hc) | omega)
   refine ⟨_, hst _ gm _ _ (by simp (disch := omega) only [upd_ne, AX] <;> rfl) (by simp (disch := omega) only [upd_ne, AX] <;> rfl), ?_⟩
   rintro rb n2 H2 (hle2 : _g + 1 ≤ n2) hsup2 ⟨_, _, hfr2, ⟨k', o', m', w, w', rfl, o1, o2⟩, r', hgp2⟩
   rename_i g2 hg2 g3 hg3 g4 hg4
   have q2 : H2 g2 = some (Aj 0 0 0 (.sl 0 [] .nil) Bv) := (hfr2 g2 (show g2 < _g + 1 by omega) (by omega)).trans (by simp (disch := omega) only [upd_ne, AX])
   have q3 : H2 g3 = some (.cells 27 [aI 0, aI 0]) := (hfr2 g3 (show g3 < _g + 1 by omega) (by omega)).trans (by simp (disch := omega) only [upd_ne, AX])
   have hsm : ∀ g, g < n → H2 g = H g := fun g hg => (hfr2 g (show g < _g + 1 by omega) (by omega)).trans (by simp (disch := omega) only [upd_ne])
   repeat' (first | (simp -implicitDefEqProofs [Dt, -getElem?_pos, hgp2, q2, q3, splice]) | (simp (disch := omega) only [AF]) | (with_reducible first | refine A7 ?_ ?_ ?_ | exact AB | assumption | refine A3 ?_ | refine KM.of ?_ | refine AG ?_ | refine A2 ?_ | refine A5 ?_ | intro _g _hg | refine AE ?_ ?_ | intro _hc) | omega)
   ·cases w <;> first | rfl | cases o1
   ·cases w' <;> first | rfl | cases o2
   ·exact Ry
   ·intro g hg; simp (disch := omega) only [upd_ne]; exact hsm g hg
  | some sr =>
   obtain ⟨s, r⟩ := sr
   have hv := hval s r rfl
   obtain ⟨k, o, m, v, p⟩ := s
   unfold T0 at hst
   dsimp only at hst ⊢
   generalize Cl (.mk k o m v p) = sf at *
   rw [AQ] at hv hst
   by_cases hr0 : r = []
   ·subst hr0
    rw [if_pos rfl]
    by_cases hf0 : sf.1 = 0
    ·rw [if_neg (fun h => h hf0)]
     dsimp only
     rw [AQ]
     
     refine A9 Tryz.func25 SY rfl fun n H hH => ?_
     repeat' (first | (simp -implicitDefEqProofs [c25, Ht, Dt, -getElem?_pos, h4', splice]) | (simp (disch := omega) only [AF]) | ((with_reducible refine Ay 39 ?_); refine ⟨_, Ex _ _, ?_⟩; rintro r n' H' hle hsup ⟨gm, rfl, hg1, rfl, rfl⟩; dsimp only at hg1 hle) | (with_reducible first | refine A7 ?_ ?_ ?_ | exact AB | assumption | refine A3 ?_ | refine KM.of ?_ | refine AG ?_ | refine A2 ?_ | refine A5 ?_ | intro _g _hg | refine AE ?_ ?_ | intro _hc) | omega)
     refine ⟨_, hst _ gm _ _ (by simp (disch := omega) only [upd_ne, AX] <;> rfl) (by simp (disch := omega) only [upd_ne, AX] <;> rfl), ?_⟩
     rintro rb n2 H2 (hle2 : _g + 1 ≤ n2) hsup2 ⟨_, _, hfr2, rfl, hgp2⟩
     rename_i g2 hg2 g3 hg3 g4 hg4
     have q2 : H2 g2 = some (Aj 0 0 0 (.sl 0 [] .nil) Bv) := (hfr2 g2 (show g2 < _g + 1 by omega) (by omega)).trans (by simp (disch := omega) only [upd_ne, AX])
     have q3 : H2 g3 = some (.cells 27 [aI 0, aI 0]) := (hfr2 g3 (show g3 < _g + 1 by omega) (by omega)).trans (by simp (disch := omega) only [upd_ne, AX])
     have hsm : ∀ g, g < n → H2 g = H g := fun g hg => (hfr2 g (show g < _g + 1 by omega) (by omega)).trans (by simp (disch := omega) only [upd_ne])
     repeat' (first | (simp -implicitDefEqProofs [Dt, QH, -getElem?_pos, hgp2, q2, q3, hf0, splice]) | (simp (disch := omega) only [AF]) | ((with_reducible refine AJ 15 ?_); refine' AZ (hv) ?_) | (with_reducible first | refine A7 ?_ ?_ ?_ | exact AB | assumption | refine A3 ?_ | refine KM.of ?_ | refine AG ?_ | refine A2 ?_ | refine A5 ?_ | intro _g _hg | refine AE ?_ ?_ | intro _hc) | omega)
     ·exact A1 _
     ·intro g hg; simp (disch := omega) only [upd_ne]; exact hsm g hg
    ·rw [if_pos hf0]
     
     refine A9 Tryz.func25 SY rfl fun n H hH => ?_
     repeat' (first | (simp -implicitDefEqProofs [c25, Ht, Dt, -getElem?_pos, h4', splice]) | (simp (disch := omega) only [AF]) | ((with_reducible refine Ay 39 ?_); refine ⟨_, Ex _ _, ?_⟩; rintro r n' H' hle hsup ⟨gm, rfl, hg1, rfl, rfl⟩; dsimp only at hg1 hle) | (with_reducible first | refine A7 ?_ ?_ ?_ | exact AB | assumption | refine A3 ?_ | refine KM.of ?_ | refine AG ?_ | refine A2 ?_ | refine A5 ?_ | intro _g _hg | refine AE ?_ ?_ | intro _hc) | omega)
     refine ⟨_, hst _ gm _ _ (by simp (disch := omega) only [upd_ne, AX] <;> rfl) (by simp (disch := omega) only [upd_ne, AX] <;> rfl), ?_⟩
     rintro rb n2 H2 (hle2 : _g + 1 ≤ n2) hsup2 ⟨_, _, hfr2, rfl, hgp2⟩
     rename_i g2 hg2 g3 hg3 g4 hg4
     have q2 : H2 g2 = some (Aj 0 0 0 (.sl 0 [] .nil) Bv) := (hfr2 g2 (show g2 < _g + 1 by omega) (by omega)).trans (by simp (disch := omega) only [upd_ne, AX])
     have q3 : H2 g3 = some (.cells 27 [aI 0, aI 0]) := (hfr2 g3 (show g3 < _g + 1 by omega) (by omega)).trans (by simp (disch := omega) only [upd_ne, AX])
     have hsm : ∀ g, g < n → H2 g = H g := fun g hg => (hfr2 g (show g < _g + 1 by omega) (by omega)).trans (by simp (disch := omega) only [upd_ne])
     repeat' (first | (simp -implicitDefEqProofs [Dt, QH, -getElem?_pos, hgp2, q2, q3, hf0, splice]) | (simp (disch := omega) only [AF]) | (with_reducible refine NA [g2, g3] ?_) | ((with_reducible refine AJ 15 ?_); refine' AZ (hv) ?_) | (with_reducible first | refine A7 ?_ ?_ ?_ | exact AB | assumption | refine A3 ?_ | refine KM.of ?_ | refine AG ?_ | refine A2 ?_ | refine A5 ?_ | intro _g _hg | refine AE ?_ ?_ | intro _hc) | omega)
     ·exact Ry
     ·intro g hg; simp (disch := omega) only [upd_ne]; exact hsm g hg
   ·rw [if_neg hr0]
    
    refine A9 Tryz.func25 SY rfl fun n H hH => ?_
    repeat' (first | (simp -implicitDefEqProofs [c25, Ht, Dt, -getElem?_pos, h4', splice]) | (simp (disch := omega) only [AF]) | ((with_reducible refine Ay 39 ?_); refine ⟨_, Ex _ _, ?_⟩; rintro r n' H' hle hsup ⟨gm, rfl, hg1, rfl, rfl⟩; dsimp only at hg1 hle) | (with_reducible first | refine A7 ?_ ?_ ?_ | exact AB | assumption | refine A3 ?_ | refine KM.of ?_ | refine AG ?_ | refine A2 ?_ | refine A5 ?_ | intro _g _hg | refine AE ?_ ?_ | intro _hc) | omega)
    refine ⟨_, hst _ gm _ _ (by simp (disch := omega) only [upd_ne, AX] <;> rfl) (by simp (disch := omega) only [upd_ne, AX] <;> rfl), ?_⟩
    rintro rb n2 H2 (hle2 : _g + 1 ≤ n2) hsup2 ⟨_, _, hfr2, rfl, hgp2⟩
    rename_i g2 hg2 g3 hg3 g4 hg4
    have q2 : H2 g2 = some (Aj 0 0 0 (.sl 0 [] .nil) Bv) := (hfr2 g2 (show g2 < _g + 1 by omega) (by omega)).trans (by simp (disch := omega) only [upd_ne, AX])
    have q3 : H2 g3 = some (.cells 27 [aI 0, aI 0]) := (hfr2 g3 (show g3 < _g + 1 by omega) (by omega)).trans (by simp (disch := omega) only [upd_ne, AX])
    have hsm : ∀ g, g < n → H2 g = H g := fun g hg => (hfr2 g (show g < _g + 1 by omega) (by omega)).trans (by simp (disch := omega) only [upd_ne])
    repeat' (first | (simp -implicitDefEqProofs [Dt, -getElem?_pos, hgp2, q2, q3, hr0, splice]) | (simp (disch := omega) only [AF]) | (with_reducible first | refine A7 ?_ ?_ ?_ | exact AB | assumption | refine A3 ?_ | refine KM.of ?_ | refine AG ?_ | refine A2 ?_ | refine A5 ?_ | intro _g _hg | refine AE ?_ ?_ | intro _hc) | omega)
    ·exact Ry
    ·intro g hg; simp (disch := omega) only [upd_ne]; exact hsm g hg
end Go.Proofs.YtjdccdelcnmocaaGreatDoor

/- Templates: the program's free paths; no condition. -/
import Derived.Test.YtnfjgphfaemjcaaGreatDoorMgH
import Derived.Test.YtnfjgphfaemjcaaGreatDoorMdO
import Derived.Test.YtnfjgphfaemjcaaGreatDoorMdN
import Derived.Test.YtnfjgphfaemjcaaGreatDoorMdL
import Derived.Test.YtnfjgphfaemjcaaGreatDoorAdE
set_option linter.all false
set_option linter.unusedSimpArgs false
set_option linter.unusedVariables false
set_option maxHeartbeats 8000000
namespace Go.Proofs.YtnfjgphfaemjcaaGreatDoor
section
variable {e sz by_ : Nat} {d : Option Nat} {K : AS → Prop} {en : AL} {n : Nat} {H : A4}
theorem Sd {l m : List AV} {t : Tok} {g0 : Nat} (hg : H g0 = some (.row e l.length)) (h1 : (l.length + m.length) * by_ ≤ 140737488355328) (h2 : l.length + m.length ≤ maxLen)
  (hk : ∀ g n', (g = g0 ∨ n ≤ g) → n ≤ n' → g < n' → K ⟨AG en d (.sl sz (l ++ m) (.own g)), n', upd (upd H g0 none) g (some (.row e (l.length + m.length)))⟩) : appKS e sz by_ d K ⟨en, n, H⟩ (.sl sz l (.own g0)) (.sl sz m t) :=
 ⟨.inl rfl, m, A0 m, h1, h2, rfl, hg, hk⟩
end
attribute [local simp] Iz E8 E9 JB Kv JT Jv EA E7 Ff GB Jc Ip JS Jt Iw Ho I0 IS KH Io JE Ix JH JF Pa pe Kd J9 Jz KY J7 Jy JU Ie JR Ju KJ Il JZ FJ Mm MP MS Mx Mj Nv Ny NZ Mr Mq Ml Nr MM No Mz NL NX Mv Mt NB NV FS N6 FG My Np Na Mp Ms Mo Mc Nn N7 Mb NJ MW MU Mf NP O4 Mu Nc Nm NQ NM N3 NC MV N0 FN O2 NE Nx NR Mw Ns O1 NO Nj Nb O0 Mh ND Nh Ma NY MQ MR NH Ku JA Ki Ke K9 Id KE Ii KT JG Ji Hf Jn List.mem_cons guardK DY EN EV Fh Me FE F9 FT FO FC F4 FY FL FW Mi NW F3 KG N4 NN MN NK NS F2 J0 Nk NF Ja KX Nq HM FB FR Fa FX Nz Nu F6 O3 F1 K0 FM FD JN F8 F7 N8 Mk N9 J8 Ng MT Jl Ko Qz IN IH GU IP ID II Dt Eu Ev KZ Ey Es Dv Db Su IF IY Ez IG Hu DT DK BX BK Bw DL Cd ev get put Dz AG DQ JC Ic Iy Jp IC J6 E5 part B0 GL KB Fg isNil Cs D3 DU D2 CW Ih Jb Jx KA Is Kr KP KQ JW KR KN Kl Jr JY JO K8 AV.fits AV.cells ones AV.one Dq Bt Dp DF Dy E3 Ir Ec Ek CY Bd Cx FZ Da AY B3 T8 Fm Ks JP List.getElem?_cons_zero List.getElem?_cons_succ FQ FH FU Kb JM Iq GI Jf JV KU Kn Kg KK Jh Ni JJ Je Jq KI Ij Jo It KL J1 K2 KV Kj Im K4 Jg JK Ka JI K6 Kh
theorem Vc (l : List AP) (hl : l.length ≤ 1000000) : Y1 Tryz.prog 54 [Ci l] 1 (l.map AV.str) 9 := by
 intro n H
 have hb : (([] : List AV).length + (l.map AV.str).length) * 16 ≤ 140737488355328 := by simp; omega
 have hm : ([] : List AV).length + (l.map AV.str).length ≤ maxLen := by simp [maxLen]; omega
 generalize hL : l.map AV.str = L at *
 obtain ⟨R, hR⟩ : ∃ R : Et, (fun r n' H' => (L = [] ∧ r = .sl 0 [] .nil ∧ n' = n ∧ H' = H) ∨ ∃ g, n ≤ g ∧ g < n' ∧ r = .sl 1 L (.own g) ∧ H' = upd H g (some (.row 9 L.length))) = R := ⟨_, rfl⟩
 have hA : Ci l = .sl 1 L .ro := by rw [← hL]
 rw [hA]
 have key : ACalls Tryz.prog 54 [.sl 1 L .ro] n H R := by
  refine BZ Tryz.func54 Ze rfl fun hs => ?_
  have fin' : ∀ (e : AL) (n1 g g0 : Nat) (k0 : AObj), n ≤ g0 → (g = g0 ∨ g0 + 1 ≤ g) → g0 + 1 ≤ n1 → g < n1 → get e 2 = .sl 1 L (.own g) → fin R n [.tmp 2] .ret ⟨e, n1, upd (upd (upd H g0 (some k0)) g0 none) g (some (.row 9 (([] : List AV).length + L.length)))⟩ := by
   intro e n1 g g0 k0 h1 h2 h3 h4 h5
   have hH : upd (upd (upd H g0 (some k0)) g0 none) g (some (.row 9 (([] : List AV).length + L.length))) = upd H g (some (.row 9 L.length)) := by
    funext k
    simp only [upd, List.length_nil, Nat.zero_add]
    by_cases hk : k = g
    ·simp [hk]
    ·by_cases hk0 : k = g0
     ·subst hk0; simp [hk, hs k h1]
     ·simp [hk, hk0]
   rw [hH]
   refine Hx (r := .sl 1 L (.own g)) (by simp [Bd, Cx, FZ, h5]) (by omega) (fun k hk => by simp (disch := omega) only [upd_ne]; exact hs k (by omega)) ?_
   rw [← hR]
   exact .inr ⟨g, by omega, h4, rfl, rfl⟩
  cases L with
  | nil =>
   repeat' (first | (simp -implicitDefEqProofs [OP, c54, -getElem?_pos, -List.length_nil]) | (simp (disch := omega) only [AE]) | (refine Sd (AY _ _ _) hb hm (fun g n' h1 h2 h3 => ?_)) | (with_reducible first | refine A5 ?_ ?_ ?_ | exact AB | assumption | refine A2 ?_ | refine KM.of ?_ | refine AD ?_ | refine AI ?_ | refine AN ?_ | refine AJ ?_ | intro _g _hg | refine AC ?_ ?_ | intro _hc) | omega)
   ·refine Hx (r := .sl 0 [] .nil) rfl (by omega) hs ?_
    rw [← hR]
    exact .inl ⟨rfl, rfl, rfl, rfl⟩
   ·exact fin' _ _ _ _ _ _hg h1 h2 h3 rfl
  | cons x l =>
   repeat' (first | (simp -implicitDefEqProofs [OP, c54, -getElem?_pos, -List.length_nil, -List.length_cons]) | (simp (disch := omega) only [AE]) | (refine Sd (AY _ _ _) hb hm (fun g n' h1 h2 h3 => ?_)) | (with_reducible first | refine A5 ?_ ?_ ?_ | exact AB | assumption | refine A2 ?_ | refine KM.of ?_ | refine AD ?_ | refine AI ?_ | refine AN ?_ | refine AJ ?_ | intro _g _hg | refine AC ?_ ?_ | intro _hc) | omega)
   exact fin' _ _ _ _ _ _hg h1 h2 h3 rfl
 rw [← hR] at key
 exact key
theorem Stp.app5 {x x0 : AV} {l : List AP} {n n0 g5 : Nat} {H H0 : A4} {d : Option Nat} {K : AS → Prop} {e : AL} {w : AP} {t : Tok} (h : Stp x0 n0 H0 x n (upd H g5 none) l) (hl : l.length ≤ 1000000) (h5 : g5 < n) (hk : ∀ x' n' H', H' g5 = H g5 → Stp x n (upd H g5 none) x' n' (upd H' g5 none) (l ++ [w]) → K ⟨AG e d x', n', H'⟩) : appKS 9 1 16 d K ⟨e, n, H⟩ x (.sl 1 [.str w] t) := by
 have key := Stp.app (K := fun s => ∃ x' n' H', s = ⟨AG e d x', n', H'⟩ ∧ Stp x n (upd H g5 none) x' n' H' (l ++ [w])) (d := d) (e := e) (t := t) h hl fun x' n' H' hS => ⟨x', n', H', rfl, hS⟩
 refine ⟨.inl rfl, [.str w], A0 _, ?_⟩
 rcases h.sl with ⟨rfl, rfl⟩ | ⟨g, h1, rfl, h3⟩
 ·refine ⟨by simp, by simp [maxLen], ?_⟩
  refine And.intro (fun e => by cases e) (fun _ => Or.inl fun g hg => ?_)
  simp only at hg
  have hne : g5 ≠ g := by omega
  refine hk _ _ _ (upd_ne hne) ⟨.inr ⟨g, by omega, rfl, by rw [upd_ne (by omega), AY]; rfl⟩, by omega, fun q hq _ => ?_, fun g' hg' => .inl ?_, fun q hq => ?_⟩
  ·rw [Bq (by omega), upd_ne (by omega)]
  ·cases hg'; exact hg
  ·rw [Bq (by omega), upd_ne (by omega)]; exact h.su q (by omega)
 ·have hgg : g ≠ g5 := by rintro rfl; rw [AY] at h3; cases h3
  rw [upd_ne hgg] at h3
  refine ⟨by simp; omega, by simp [maxLen]; omega, rfl, by simpa using h3, fun g' n' q1 q2 q3 => ?_⟩
  have e1 : List.map AV.str l ++ [.str w] = List.map AV.str (l ++ [w]) := by simp
  rw [e1]
  simp only at q1 q2
  have hg5 : g' ≠ g5 := by rcases q1 with rfl | q1 <;> omega
  refine hk _ _ _ (by rw [upd_ne (fun e => hg5 e.symm), upd_ne (fun e => hgg e.symm)]) ⟨.inr ⟨g', q3, rfl, by rw [upd_ne hg5, AY]; simp⟩, q2, fun q hq hx => ?_, fun g2 hg2 => ?_, fun q hq => ?_⟩
  ·have hqg : q ≠ g := fun e => hx (by rw [e]; rfl)
   have : q ≠ g' := by rcases q1 with rfl | q1 <;> omega
   rw [Bq hg5, upd_ne this, Bq hgg, upd_ne hqg]
  ·cases hg2
   rcases q1 with rfl | q1
   ·exact .inr rfl
   ·exact .inl q1
  ·rw [Bq hg5, upd_ne (by omega), Bq hgg, upd_ne (by omega)]
   exact h.su q (by omega)
theorem Sl.ne {x : AV} {l : List AP} {n g T : Nat} {H : A4} {cs : List AV} (h : Sl x l n H) (hg : H g = some (.cells T cs)) : Sg x ≠ some g := by
 rcases h with ⟨_, rfl⟩ | ⟨g', _, rfl, h3⟩
 ·intro e; cases e
 ·intro e; cases e; rw [hg] at h3; cases h3
theorem Sl.slg {x : AV} {l : List AP} {n : Nat} {H : A4} {gs : List Nat} (h : Sl x l n H) : GZ gs x := by
 rcases h with ⟨_, rfl⟩ | ⟨g', _, rfl, h3⟩ <;> exact trivial
theorem Lo : DR Tryz.prog 51 = true := by kernel_rfl
abbrev T5 : Nat := 35
abbrev T6 : Nat := 98
def V5 (g5 g6 : Nat) (x : AV) (H : A4) : Prop := H g5 = some (.cells T5 [x]) ∧ H g6 = some (.cells T6 [.fn 51 [] [.ptr g5 0, .ptr g6 0]])
theorem V5.ne {g5 g6 : Nat} {x : AV} {H : A4} (h : V5 g5 g6 x H) : g5 ≠ g6 := by
 rintro rfl
 have := h.1.symm.trans h.2
 injection this with this
 injection this with this _
 exact absurd this (by decide)
def IQ (l : List Pt) (el : List AV) : Prop := ∀ (out bnd : List AP) (x : AV) (g5 g6 n : Nat) (H : A4), V5 g5 g6 x H → g5 < n → g6 < n → Sl x out n (upd H g5 none) → out.length + AU l ≤ 1000000 → bnd.length + AU l ≤ 1000000 → ACalls Tryz.prog 51 [.sl 7 el .ro, Ci bnd, .ptr g5 0, .ptr g6 0] n H fun _ n' H' => ∃ x', V5 g5 g6 x' H' ∧ Stp x n (upd H g5 none) x' n' (upd H' g5 none) (D1 bnd out l)
theorem X1 {x : AV} {n : Nat} {H : A4} (o3 bnd b3 : List AP) (b e l : List Pt) (eb ee : List AV) (cb : IQ b eb) (ce : IQ e ee) (hn1 : o3.length + AU b + AU e ≤ 1000000) (hn2 : b3.length + AU b ≤ 1000000) (hn3 : bnd.length + AU e ≤ 1000000)
  (g5 g6 g7 i : Nat) (x3 v9 : AV) (n4 : Nat) (H4 : A4) (en : AL) (c0 c1 c2 c3 c4 : AV) (hV : V5 g5 g6 x3 H4) (h5 : g5 < n4) (h6 : g6 < n4) (hS : Stp x n (upd H g5 none) x3 n4 (upd H4 g5 none) o3) (hg : g7 < n4) (hH : H4 g7 = some (.cells 55 [c0, c1, c2, c3, c4, .sl 7 eb .ro, .sl 7 ee .ro])) (hne : g7 ≠ g5) (hv : A8 v9 (Ci b3))
  (e1 : get en 1 = Ci bnd) (e2 : get en 2 = .ptr g5 0) (e3 : get en 3 = .ptr g6 0) (e7 : get en 7 = .ptr g7 0) (e9 : get en 9 = v9) (e10 : get en 10 = Cv l) (e11 : get en 11 = aI l.length) (e12 : get en 12 = aI i) (Q : AExit → AS → Prop)
  (hQ : ∀ en r n' H', get en 1 = Ci bnd → get en 2 = .ptr g5 0 → get en 3 = .ptr g6 0 → get en 10 = Cv l → get en 11 = aI l.length → get en 12 = aI i → V5 g5 g6 r H' → Stp x n (upd H g5 none) r n' (upd H' g5 none) (D1 bnd (D1 b3 o3 b) e) → Q .normal ⟨en, n', H'⟩) : aw Tryz.prog c51_k2 Q ⟨en, n4, H4⟩ := by
 have hl1 := DP b3 o3 b
 have hx7 : Sg x3 ≠ some g7 := hS.sl.ne (by rw [upd_ne hne]; exact hH)
 have hV1 := hV.1
 have hV2 := hV.2
 
 repeat' (first | (simp -implicitDefEqProofs [Dh, Dj, Cy, CI, CP, c51, -getElem?_pos, splice, e1, e2, e3, e7, e9, e10, e11, e12, hH, hV2, Gn Lo, -Cd]) | (simp (disch := omega) only [AE]) | (with_reducible first | refine A5 ?_ ?_ ?_ | exact AB | assumption | refine A2 ?_ | refine KM.of ?_ | refine AD ?_ | refine A3 ?_ | refine AI ?_ | refine A6 ?_ | refine AN ?_ | refine AJ ?_ | intro _g _hg | refine AC ?_ ?_ | intro _hc) | omega)
 refine ⟨_, ACalls.sim (cb o3 b3 x3 g5 g6 n4 H4 hV h5 h6 hS.sl (by omega) hn2) (AR (A1 _) (AR hv (A0 _))), ?_⟩
 rintro r n5 H5 _ hs5 ⟨x4, hV5, hS5⟩
 have hH5 : H5 g7 = some (.cells 55 [c0, c1, c2, c3, c4, .sl 7 eb .ro, .sl 7 ee .ro]) := by
  have := hS5.fr g7 hg hx7
  rw [upd_ne hne, upd_ne hne] at this
  rw [this]; exact hH
 have hS6 := hS.tr hS5
 have hn5 := hS5.le
 have hV52 := hV5.2
 clear hS5 hH hv hV1 hV2
 repeat' (first | (simp -implicitDefEqProofs [Dh, Dj, Cy, CI, CP, c51, -getElem?_pos, splice, hH5, hV52, Gn Lo, -Cd]) | (simp (disch := omega) only [AE]) | (with_reducible first | refine A5 ?_ ?_ ?_ | exact AB | assumption | refine A2 ?_ | refine KM.of ?_ | refine AD ?_ | refine A3 ?_ | refine AI ?_ | refine A6 ?_ | refine AN ?_ | refine AJ ?_ | intro _g _hg | refine AC ?_ ?_ | intro _hc) | omega)
 refine ⟨_, ce (D1 b3 o3 b) bnd x4 g5 g6 n5 H5 hV5 (by omega) (by omega) hS6.sl (by omega) hn3, ?_⟩
 rintro r2 n6 H6 _ hs6 ⟨x5, hV6, hS7⟩
 have hS8 := hS6.tr hS7
 clear hS6 hS7
 repeat' (first | (simp -implicitDefEqProofs [Dh, Dj, Cy, CI, CP, c51, -getElem?_pos, splice]) | (simp (disch := omega) only [AE]) | (with_reducible first | refine A5 ?_ ?_ ?_ | exact AB | assumption | refine A2 ?_ | refine KM.of ?_ | refine AD ?_ | refine A3 ?_ | refine AI ?_ | refine A6 ?_ | refine AN ?_ | refine AJ ?_ | intro _g _hg | refine AC ?_ ?_ | intro _hc) | omega)
 exact hQ _ _ _ _ rfl rfl rfl rfl rfl rfl hV6 hS8
theorem XY {P : Program} {gs : List Nat} {d : Option Nat} {f : Nat} {args : List AV} {K : AS → Prop} {e : AL} {n : Nat} {H : A4} {A : Prop} {l : List AP} (hs : ∀ q, n ≤ q → H q = none) (hc : Y1 P f args 1 (l.map AV.str) 9)
  (hk : ∀ x n' H', Sl x l n' H' → (∀ g, Sg x = some g → n ≤ g) → (∀ q, q < n → H' q = H q) → n ≤ n' → (∀ q, n' ≤ q → H' q = none) → K ⟨AG e d x, n', H'⟩) : exM P .copy n gs d f args K ⟨e, n, H⟩ A := by
 refine UM ⟨Nat.le_refl _, FreeH.of hs, 1, l.map AV.str, 9, hc, fun hl => ?_, fun g n' q1 q2 q3 q4 => ?_⟩
 ·exact hk _ _ _ (.inl ⟨by simpa using hl, rfl⟩) (fun g hg => by cases hg) (fun q hq => rfl) (Nat.le_refl _) hs
 ·simp only at q2 q3
  refine hk _ _ _ (.inr ⟨g, q4, rfl, by rw [AY]; simp⟩) (fun g' hg => by cases hg; exact q1) (fun q hq => upd_ne (by omega)) q3 (fun q hq => by rw [upd_ne (by omega)]; exact hs q (by omega))
theorem Sy {x : AV} {n : Nat} {H : A4} (o3 bnd : List AP) (b e l : List Pt) (eb ee : List AV) (cb : IQ b eb) (ce : IQ e ee) (hn1 : o3.length + AU b + AU e ≤ 1000000) (hn2 : bnd.length + 1 + AU b ≤ 1000000) (hn3 : bnd.length + AU e ≤ 1000000)
  (g5 g6 g7 i : Nat) (x3 : AV) (n4 : Nat) (H4 : A4) (en : AL) (k : Int) (t nm : AP) (c3 c4 : AV) (hV : V5 g5 g6 x3 H4) (h5 : g5 < n4) (h6 : g6 < n4) (hS : Stp x n (upd H g5 none) x3 n4 (upd H4 g5 none) o3) (hg : g7 < n4) (hH : H4 g7 = some (.cells 55 [aI k, .str t, .str nm, c3, c4, .sl 7 eb .ro, .sl 7 ee .ro])) (hne : g7 ≠ g5)
  (e1 : get en 1 = Ci bnd) (e2 : get en 2 = .ptr g5 0) (e3 : get en 3 = .ptr g6 0) (e7 : get en 7 = .ptr g7 0) (e10 : get en 10 = Cv l) (e11 : get en 11 = aI l.length) (e12 : get en 12 = aI i) (Q : AExit → AS → Prop)
  (hQ : ∀ en r n' H', get en 1 = Ci bnd → get en 2 = .ptr g5 0 → get en 3 = .ptr g6 0 → get en 10 = Cv l → get en 11 = aI l.length → get en 12 = aI i → V5 g5 g6 r H' → Stp x n (upd H g5 none) r n' (upd H' g5 none) (D1 bnd (D1 (if k = 4 then bnd ++ [nm] else bnd) o3 b) e) → Q .normal ⟨en, n', H'⟩) : aw Tryz.prog c51_k3 Q ⟨en, n4, H4⟩ := by
 by_cases k4 : k = 4
 ·rw [if_pos k4] at hQ
  subst k4
  have hsup : ∀ q, n4 ≤ q → H4 q = none := fun q hq => by
   have := hS.su q hq
   rwa [upd_ne (by omega)] at this
  
  repeat' (first | (simp -implicitDefEqProofs [c51, Cy, -getElem?_pos, splice, e1, e2, e3, e7, e10, e11, e12, hH]) | (simp (disch := omega) only [AE]) | (with_reducible first | refine A5 ?_ ?_ ?_ | exact AB | assumption | refine A2 ?_ | refine KM.of ?_ | refine AD ?_ | refine A3 ?_ | refine AI ?_ | refine A6 ?_ | refine AN ?_ | refine AJ ?_ | intro _g _hg | refine AC ?_ ?_ | intro _hc) | omega)
  refine XY hsup (Vc bnd (by omega)) fun x6 n5 H5 k1 k2 k3 k4 k5 => ?_
  have hH5 : H5 g7 = some (.cells 55 [aI 4, .str t, .str nm, c3, c4, .sl 7 eb .ro, .sl 7 ee .ro]) := by rw [k3 g7 hg]; exact hH
  repeat' (first | (simp -implicitDefEqProofs [c51, -getElem?_pos, splice, hH5, Wb]) | (simp (disch := omega) only [AE]) | (with_reducible first | refine A5 ?_ ?_ ?_ | exact AB | assumption | refine A2 ?_ | refine KM.of ?_ | refine AD ?_ | refine A3 ?_ | refine AI ?_ | refine A6 ?_ | refine AN ?_ | refine AJ ?_ | intro _g _hg | refine AC ?_ ?_ | intro _hc) | omega)
  refine Rb k4 (FreeH.of k5) fun g2 n6 r1 r2 r3 r4 => ?_
  have hx6 : Sl x6 bnd n6 (upd H5 g2 (some (.row 9 1))) := by
   rcases k1 with h | ⟨g, q1, q2, q3⟩
   ·exact .inl h
   ·exact .inr ⟨g, by omega, q2, by rw [upd_ne (fun e => by rw [e] at q3; rw [q3] at r2; cases r2)]; exact q3⟩
  have hs6 : ∀ q, n6 ≤ q → upd H5 g2 (some (.row 9 1)) q = none := fun q hq => by rw [upd_ne (by omega)]; exact k5 q (by omega)
  have hsl := k1.slg (gs := [])
  repeat' (first | (simp -implicitDefEqProofs [c51, -getElem?_pos, splice]) | (simp (disch := omega) only [AE]) | (with_reducible first | refine A5 ?_ ?_ ?_ | exact AB | assumption | refine A2 ?_ | refine KM.of ?_ | refine AD ?_ | refine A3 ?_ | refine AI ?_ | refine A6 ?_ | refine AN ?_ | refine AJ ?_ | intro _g _hg | refine AC ?_ ?_ | intro _hc) | omega)
  refine Rl ⟨hsl, Stp.app (Stp.refl hx6 hs6) (by omega) fun v9 n7 H7 hS7 => ?_⟩
  have hn7 := hS7.le
  have hk7 : ∀ q, q < n4 → H7 q = H4 q := fun q hq => by
   rw [hS7.fr q (by omega) (fun e => by have := k2 q e; omega), upd_ne (by omega), k3 q hq]
  have hv := hS7.sl.sim
  have hsu := hS7.su
  clear hS7
  repeat' (first | (simp -implicitDefEqProofs [c51, -getElem?_pos, splice]) | (simp (disch := omega) only [AE]) | (with_reducible first | refine A5 ?_ ?_ ?_ | exact AB | assumption | refine A2 ?_ | refine KM.of ?_ | refine AD ?_ | refine A3 ?_ | refine AI ?_ | refine A6 ?_ | refine AN ?_ | refine AJ ?_ | intro _g _hg | refine AC ?_ ?_ | intro _hc) | omega)
  have hS8 : Stp x n (upd H g5 none) x3 n7 (upd H7 g5 none) o3 := by
   refine hS.news (by omega) (fun q hq => ?_) (fun q hq => ?_)
   ·by_cases h : q = g5
    ·rw [h, AY, AY]
    ·rw [upd_ne h, upd_ne h, hk7 q hq]
   ·rw [upd_ne (by omega)]; exact hsu q hq
  exact X1 o3 bnd (bnd ++ [nm]) b e l eb ee cb ce hn1 (by simp; omega) hn3 g5 g6 g7 i x3 v9 n7 H7 _ _ _ _ _ _ ⟨by rw [hk7 g5 h5]; exact hV.1, by rw [hk7 g6 h6]; exact hV.2⟩ (by omega) (by omega) hS8 (by omega) (by rw [hk7 g7 hg]; exact hH) hne hv rfl rfl rfl rfl rfl rfl rfl rfl _ hQ
 ·rw [if_neg k4] at hQ
  
  repeat' (first | (simp -implicitDefEqProofs [c51, Cy, -getElem?_pos, splice, e1, e2, e3, e7, e10, e11, e12, hH, k4]) | (simp (disch := omega) only [AE]) | (with_reducible first | refine A5 ?_ ?_ ?_ | exact AB | assumption | refine A2 ?_ | refine KM.of ?_ | refine AD ?_ | refine A3 ?_ | refine AI ?_ | refine A6 ?_ | refine AN ?_ | refine AJ ?_ | intro _g _hg | refine AC ?_ ?_ | intro _hc) | omega)
  exact X1 o3 bnd bnd b e l eb ee cb ce hn1 (by omega) hn3 g5 g6 g7 i x3 (Ci bnd) n4 H4 _ _ _ _ _ _ hV h5 h6 hS hg hH hne (A1 _) rfl rfl rfl rfl rfl rfl rfl rfl _ hQ
theorem Ll (l : List Pt) (hl : l.length ≤ 1000000) (ho : GM l) (hpx : LZ l) (hp : ∀ x ∈ l, IQ x.b (AO x.b) ∧ IQ x.e (AO x.e)) : IQ l (AO l) := by
 intro out bnd x g5 g6 n H hV h5 h6 hSl h1 h2
 have hel := BJ l
 obtain ⟨R, hR⟩ : ∃ R, D1 bnd out l = R := ⟨_, rfl⟩
 rw [hR]
 refine BZ Tryz.func51 Z6 rfl fun hs => ?_
 repeat' (first | (simp -implicitDefEqProofs [c51, -getElem?_pos, hel]) | (simp (disch := omega) only [AE]) | (with_reducible first | refine A5 ?_ ?_ ?_ | exact AB | assumption | refine A2 ?_ | refine KM.of ?_ | refine AD ?_ | refine A3 ?_ | refine AI ?_ | refine A6 ?_ | refine AN ?_ | refine AJ ?_ | intro _g _hg | refine AC ?_ ?_ | intro _hc) | omega)
 refine LoopK.go (fun m st => ∃ (i : Nat) (x2 : AV) (n2 : Nat) (H2 : A4) (o2 : List AP), i + m = l.length ∧ st = ⟨[(1, Ci bnd), (2, .ptr g5 0), (3, .ptr g6 0), (10, Cv l), (11, aI l.length), (12, aI i)], n2, H2⟩ ∧ V5 g5 g6 x2 H2 ∧ Stp x n (upd H g5 none) x2 n2 (upd H2 g5 none) o2 ∧ D1 bnd o2 (l.drop i) = R ∧ o2.length + AU (l.drop i) ≤ 1000000) l.length ⟨0, x, n, H, out, by omega, rfl, hV, Stp.refl hSl (fun q hq => by rw [upd_ne (by omega)]; exact hs q hq), hR, h1⟩ ?_
 rintro m st ⟨i, x2, n2, H2, o2, him, rfl, hV2, hS, hE, hsz⟩ J hJ
 clear hR
 have hn2 := hS.le
 by_cases hi : i < l.length
 ·obtain ⟨y, hy⟩ : ∃ y, l[i]? = some y := ⟨_, List.getElem?_eq_getElem hi⟩
  have hx2 := EL hy
  have hi' : (i : Int) < l.length := by omega
  have hox := D5 ho (List.mem_of_getElem? hy)
  have hpy := Dn hpx (List.mem_of_getElem? hy)
  obtain ⟨cb, ce⟩ := hp y (List.mem_of_getElem? hy)
  rw [drop_at hy] at hE hsz
  have hsy := Bm (List.mem_of_getElem? hy)
  obtain ⟨k, t, nm, pa, fs, b, e⟩ := y
  rw [Bv] at hx2
  simp only [Ia] at hox
  simp only [ST] at hpy
  obtain ⟨hpy, -, -⟩ := hpy
  obtain ⟨q1, q2, q3, q4, q5, q6, q7, -, -⟩ := hox
  change IQ b (AO b) at cb
  change IQ e (AO e) at ce
  simp only [AU] at hsz
  unfold Ba at hsz hsy
  rw [D1, TH] at hE
  have hj := P2 pa [46] (by omega) (by have := HU q4 q5; unfold GT at this; omega)
  change APure _ _ [Ci pa, .str [46]] (.str (GT pa)) at hj
  clear hy hp
  generalize AO b = eb at *
  generalize AO e = ee at *
  obtain ⟨o3, ho3⟩ : ∃ o3, (if k ≠ 1 ∧ pa.headD [] ∉ bnd ∧ GT pa ∉ o2 then o2 ++ [GT pa] else o2) = o3 := ⟨_, rfl⟩
  have ho3l : o3.length ≤ o2.length + 1 := by rw [← ho3]; split <;> simp
  rw [ho3] at hE
  obtain ⟨b3, hb3⟩ : ∃ b3, (if k = 4 then bnd ++ [nm] else bnd) = b3 := ⟨_, rfl⟩
  have hb3l : b3.length ≤ bnd.length + 1 := by rw [← hb3]; split <;> simp
  rw [hb3] at hE
  generalize hwh : GT pa = wh at *
  have hoS := hS.sl
  have hV21 := hV2.1
  have hS1 : ∀ g8, n2 ≤ g8 → Stp x n (upd H g5 none) x2 (g8 + 1) (upd (upd (upd H2 g8 (some (.cells 55 [.int .i64 0, .str [], .str [], .sl 0 [] .nil, .sl 0 [] .nil, .sl 0 [] .nil, .sl 0 [] .nil]))) g8 (some (.cells 55 [aI k, .str t, .str nm, Ci pa, DE fs, .sl 7 eb .ro, .sl 7 ee .ro]))) g5 none) o2 := fun g8 hg8 => hS.news (by omega) (fun q hq => by
   by_cases h : q = g5
   ·rw [h, AY, AY]
   ·rw [upd_ne h, upd_ne (by omega), upd_ne (by omega), upd_ne h]) (fun q hq => by
   have := hS.su q (by omega)
   rw [upd_ne (by omega)] at this
   rw [upd_ne (by omega), upd_ne (by omega), upd_ne (by omega)]; exact this)
  have hV3 : ∀ g8 a c, n2 ≤ g8 → V5 g5 g6 x2 (upd (upd H2 g8 a) g8 c) := fun g8 a c hg8 => ⟨by rw [upd_ne (by omega), upd_ne (by omega)]; exact hV2.1, by rw [upd_ne (by omega), upd_ne (by omega)]; exact hV2.2⟩
  have hx8 : ∀ g8, n2 ≤ g8 → Sg x2 ≠ some g8 := fun g8 hg8 e => by have := hoS.own e; omega
  have hJ2 : ∀ en r n' H', get en 1 = Ci bnd → get en 2 = .ptr g5 0 → get en 3 = .ptr g6 0 → get en 10 = Cv l → get en 11 = aI l.length → get en 12 = aI i → V5 g5 g6 r H' → Stp x n (upd H g5 none) r n' (upd H' g5 none) (D1 bnd (D1 b3 o3 b) e) → J ⟨[(1, Ci bnd), (2, .ptr g5 0), (3, .ptr g6 0), (10, Cv l), (11, aI l.length), (12, aI ((i : Int) + 1))], n', H'⟩ := fun en r n' H' e1 e2 e3 e10 e11 e12 hVr hSr => hJ (m - 1) _ (by omega) ⟨i + 1, r, n', H', _, by omega, rfl, hVr, hSr, hE, by
   have := DP b3 o3 b
   have := DP bnd (D1 b3 o3 b) e
   omega⟩
  by_cases k1 : k = 1
  ·subst k1
   have e3 : o3 = o2 := by rw [← ho3, if_neg (by simp)]
   subst e3
   
   repeat' (first | (simp -implicitDefEqProofs [c51, CP, CI, -getElem?_pos, splice, hel, hx2, hi', hV21]) | (simp (disch := omega) only [AE]) | ((with_reducible refine AH 52 ?_); (refine' CallP.sf ?_ (hj) ?_); (focus first | (with_reducible exact A0 _) | (simp [AA, A8, A1, A0]; done))) | (with_reducible first | refine A5 ?_ ?_ ?_ | exact AB | assumption | refine A2 ?_ | refine KM.of ?_ | refine AD ?_ | refine A3 ?_ | refine AI ?_ | refine A6 ?_ | refine AN ?_ | refine AJ ?_ | intro _g _hg | refine AC ?_ ?_ | intro _hc) | omega)
   refine Sy o3 bnd b e l eb ee cb ce (by omega) (by omega) (by omega) g5 g6 _g i x2 _ _ _ 1 t nm (Ci pa) (DE fs) (hV3 _g _ _ _hg) (by omega) (by omega) (hS1 _g _hg) (by omega) (AY _ _ _) (by omega) rfl rfl rfl rfl rfl rfl rfl _ ?_
   rw [hb3]
   intro en r n' H' e1 e2 e3 e10 e11 e12 hVr hSr
   have hj2 := hJ2 en r n' H' e1 e2 e3 e10 e11 e12 hVr hSr
   clear hS hS1 hJ2 hSr hJ
   
   repeat' (first | (simp -implicitDefEqProofs [Dh, Dj, Cy, CI, CP, c51, -getElem?_pos, e1, e2, e3, e10, e11, e12]) | (simp (disch := omega) only [AE]) | (with_reducible first | refine A5 ?_ ?_ ?_ | exact AB | assumption | refine A2 ?_ | refine KM.of ?_ | refine AD ?_ | refine A3 ?_ | refine AI ?_ | refine A6 ?_ | refine AN ?_ | refine AJ ?_ | intro _g _hg | refine AC ?_ ?_ | intro _hc) | omega)
  ·obtain ⟨p0, hp0⟩ : ∃ p0, pa[0]? = some p0 := by
    rcases pa with _ | ⟨p0, r⟩
    ·rcases hpy with h | h
     ·exact absurd h k1
     ·exact absurd rfl h
    ·exact ⟨p0, rfl⟩
   have hpl : (0 : Int) < pa.length := by
    have := (List.getElem?_eq_some_iff.1 hp0).1
    omega
   have hhd : pa.headD [] = p0 := by
    rcases pa with _ | ⟨p1, r⟩
    ·cases hp0
    ·simpa using hp0
   rw [hhd] at ho3
   have hh1 := GX bnd p0 (by omega)
   have hh2 := GX o2 wh (by omega)
   by_cases hm1 : p0 ∈ bnd
   ·rw [if_neg (fun h => h.2.1 hm1)] at ho3
    subst ho3
    rw [decide_eq_true hm1] at hh1
    
    repeat' (first | (simp -implicitDefEqProofs [c51, CP, CI, -getElem?_pos, splice, hel, hx2, hi', hp0, hpl, k1, hV21]) | (simp (disch := omega) only [AE]) | ((with_reducible refine AH 52 ?_); (refine' CallP.sf ?_ (hj) ?_); (focus first | (with_reducible exact A0 _) | (simp [AA, A8, A1, A0]; done))) | ((with_reducible refine AH 53 ?_); (refine' CallP.sf ?_ (hh1) ?_); (focus first | (with_reducible exact A0 _) | (simp [AA, A8, A1, A0]; done))) | (with_reducible first | refine A5 ?_ ?_ ?_ | exact AB | assumption | refine A2 ?_ | refine KM.of ?_ | refine AD ?_ | refine A3 ?_ | refine AI ?_ | refine A6 ?_ | refine AN ?_ | refine AJ ?_ | intro _g _hg | refine AC ?_ ?_ | intro _hc) | omega)
    refine Sy o2 bnd b e l eb ee cb ce (by omega) (by omega) (by omega) g5 g6 _g i x2 _ _ _ k t nm (Ci pa) (DE fs) (hV3 _g _ _ _hg) (by omega) (by omega) (hS1 _g _hg) (by omega) (AY _ _ _) (by omega) rfl rfl rfl rfl rfl rfl rfl _ ?_
    rw [hb3]
    intro en r n' H' e1 e2 e3 e10 e11 e12 hVr hSr
    have hj2 := hJ2 en r n' H' e1 e2 e3 e10 e11 e12 hVr hSr
    clear hS hS1 hJ2 hSr hJ
    
    repeat' (first | (simp -implicitDefEqProofs [Dh, Dj, Cy, CI, CP, c51, -getElem?_pos, e1, e2, e3, e10, e11, e12]) | (simp (disch := omega) only [AE]) | (with_reducible first | refine A5 ?_ ?_ ?_ | exact AB | assumption | refine A2 ?_ | refine KM.of ?_ | refine AD ?_ | refine A3 ?_ | refine AI ?_ | refine A6 ?_ | refine AN ?_ | refine AJ ?_ | intro _g _hg | refine AC ?_ ?_ | intro _hc) | omega)
   ·rw [decide_eq_false hm1] at hh1
    by_cases hm2 : wh ∈ o2
    ·rw [if_neg (fun h => h.2.2 hm2)] at ho3
     subst ho3
     rw [decide_eq_true hm2] at hh2
     
     repeat' (first | (simp -implicitDefEqProofs [c51, CP, CI, -getElem?_pos, splice, hel, hx2, hi', hp0, hpl, k1, hV21]) | (simp (disch := omega) only [AE]) | ((with_reducible refine AH 53 ?_); refine ⟨_, _, hh2, AR hoS.sim (A0 _), ?_⟩) | ((with_reducible refine AH 52 ?_); (refine' CallP.sf ?_ (hj) ?_); (focus first | (with_reducible exact A0 _) | (simp [AA, A8, A1, A0]; done))) | ((with_reducible refine AH 53 ?_); (refine' CallP.sf ?_ (hh1) ?_); (focus first | (with_reducible exact A0 _) | (simp [AA, A8, A1, A0]; done))) | (with_reducible first | refine A5 ?_ ?_ ?_ | exact AB | assumption | refine A2 ?_ | refine KM.of ?_ | refine AD ?_ | refine A3 ?_ | refine AI ?_ | refine A6 ?_ | refine AN ?_ | refine AJ ?_ | intro _g _hg | refine AC ?_ ?_ | intro _hc) | omega)
     refine Sy o2 bnd b e l eb ee cb ce (by omega) (by omega) (by omega) g5 g6 _g i x2 _ _ _ k t nm (Ci pa) (DE fs) (hV3 _g _ _ _hg) (by omega) (by omega) (hS1 _g _hg) (by omega) (AY _ _ _) (by omega) rfl rfl rfl rfl rfl rfl rfl _ ?_
     rw [hb3]
     intro en r n' H' e1 e2 e3 e10 e11 e12 hVr hSr
     have hj2 := hJ2 en r n' H' e1 e2 e3 e10 e11 e12 hVr hSr
     clear hS hS1 hJ2 hSr hJ
     
     repeat' (first | (simp -implicitDefEqProofs [Dh, Dj, Cy, CI, CP, c51, -getElem?_pos, e1, e2, e3, e10, e11, e12]) | (simp (disch := omega) only [AE]) | (with_reducible first | refine A5 ?_ ?_ ?_ | exact AB | assumption | refine A2 ?_ | refine KM.of ?_ | refine AD ?_ | refine A3 ?_ | refine AI ?_ | refine A6 ?_ | refine AN ?_ | refine AJ ?_ | intro _g _hg | refine AC ?_ ?_ | intro _hc) | omega)
    ·rw [if_pos ⟨k1, hm1, hm2⟩] at ho3
     rw [decide_eq_false hm2] at hh2
     
     repeat' (first | (simp -implicitDefEqProofs [c51, CP, CI, -getElem?_pos, splice, hel, hx2, hi', hp0, hpl, k1, hV21]) | (simp (disch := omega) only [AE]) | ((with_reducible refine AH 53 ?_); refine ⟨_, _, hh2, AR hoS.sim (A0 _), ?_⟩) | ((with_reducible refine AH 52 ?_); (refine' CallP.sf ?_ (hj) ?_); (focus first | (with_reducible exact A0 _) | (simp [AA, A8, A1, A0]; done))) | ((with_reducible refine AH 53 ?_); (refine' CallP.sf ?_ (hh1) ?_); (focus first | (with_reducible exact A0 _) | (simp [AA, A8, A1, A0]; done))) | (with_reducible first | refine A5 ?_ ?_ ?_ | exact AB | assumption | refine A2 ?_ | refine KM.of ?_ | refine AD ?_ | refine A3 ?_ | refine AI ?_ | refine A6 ?_ | refine AN ?_ | refine AJ ?_ | intro _g _hg | refine AC ?_ ?_ | intro _hc) | omega)
     rename_i g7 hg7
     have hSb : Stp x n (upd H g5 none) x2 (_g + 1) (upd (upd (upd (upd H2 g7 (some (.cells 55 [.int .i64 0, .str [], .str [], .sl 0 [] .nil, .sl 0 [] .nil, .sl 0 [] .nil, .sl 0 [] .nil]))) g7 (some (.cells 55 [aI k, .str t, .str nm, Ci pa, DE fs, .sl 7 eb .ro, .sl 7 ee .ro]))) _g (some (.row 9 1))) g5 none) o2 := by
      rw [Bq (by omega : _g ≠ g5)]
      exact (hS1 g7 hg7).new _hg (Nat.lt_succ_self _) _
     refine Stp.app5 hSb (by omega) (by omega) fun x3 n4 H4 hg54 hS4 => ?_
     have hS5 := hSb.tr hS4
     have hn4 := hS4.le
     have hx7 := hx8 g7 hg7
     have hf : ∀ q, q < _g + 1 → q ≠ g5 → Sg x2 ≠ some q → H4 q = upd (upd (upd H2 g7 (some (.cells 55 [.int .i64 0, .str [], .str [], .sl 0 [] .nil, .sl 0 [] .nil, .sl 0 [] .nil, .sl 0 [] .nil]))) g7 (some (.cells 55 [aI k, .str t, .str nm, Ci pa, DE fs, .sl 7 eb .ro, .sl 7 ee .ro]))) _g (some (.row 9 1)) q := fun q h1 h2 h3 => by
      have := hS4.fr q h1 h3
      rwa [upd_ne h2, upd_ne h2] at this
     have hH4 : H4 g7 = some (.cells 55 [aI k, .str t, .str nm, Ci pa, DE fs, .sl 7 eb .ro, .sl 7 ee .ro]) := by
      rw [hf g7 (by omega) (by omega) hx7, upd_ne (by omega), AY]
     have h65 := hV2.ne
     have hx6 : Sg x2 ≠ some g6 := hoS.ne (by rw [upd_ne (fun e => h65 e.symm)]; exact hV2.2)
     have h46 : H4 g6 = some (.cells T6 [.fn 51 [] [.ptr g5 0, .ptr g6 0]]) := by
      rw [hf g6 (by omega) (fun e => h65 e.symm) hx6, upd_ne (by omega), upd_ne (by omega), upd_ne (by omega)]; exact hV2.2
     have h45 : H4 g5 = some (.cells T5 [x2]) := by
      rw [hg54, upd_ne (by omega), upd_ne (by omega), upd_ne (by omega)]; exact hV2.1
     have hsl4 := hS4.sl
     rw [ho3] at hS5
     clear hS4 hSb hf
     rcases hsl4 with ⟨h, _⟩ | ⟨gx, _, rfl, _⟩
     ·simp at h
     ·simp only [List.map_append, List.map_cons, List.map_nil] at hS5 ⊢
      repeat' (first | (simp -implicitDefEqProofs [c51, -getElem?_pos, splice, h45]) | (simp (disch := omega) only [AE]) | (with_reducible first | refine A5 ?_ ?_ ?_ | exact AB | assumption | refine A2 ?_ | refine KM.of ?_ | refine AD ?_ | refine A3 ?_ | refine AI ?_ | refine A6 ?_ | refine AN ?_ | refine AJ ?_ | intro _g _hg | refine AC ?_ ?_ | intro _hc) | omega)
      have e5 : upd (upd H4 g5 (some (.cells T5 [.sl 1 (o2.map AV.str ++ [.str wh]) (.own gx)]))) g5 none = upd H4 g5 none := by
       funext q
       by_cases h : q = g5
       ·rw [h, AY, AY]
       ·rw [upd_ne h, upd_ne h, upd_ne h]
      rw [← e5] at hS5
      refine Sy o3 bnd b e l eb ee cb ce (by omega) (by omega) (by omega) g5 g6 g7 i _ _ _ _ k t nm (Ci pa) (DE fs) ⟨AY _ _ _, by rw [upd_ne (fun e => h65 e.symm)]; exact h46⟩ (by omega) (by omega) hS5 (by omega) (by rw [upd_ne (by omega)]; exact hH4) (by omega) rfl rfl rfl rfl rfl rfl rfl _ ?_
      rw [hb3]
      intro en r n' H' e1 e2 e3 e10 e11 e12 hVr hSr
      have hj2 := hJ2 en r n' H' e1 e2 e3 e10 e11 e12 hVr hSr
      clear hS hS1 hJ2 hSr hJ hS5
      
      repeat' (first | (simp -implicitDefEqProofs [Dh, Dj, Cy, CI, CP, c51, -getElem?_pos, e1, e2, e3, e10, e11, e12]) | (simp (disch := omega) only [AE]) | (with_reducible first | refine A5 ?_ ?_ ?_ | exact AB | assumption | refine A2 ?_ | refine KM.of ?_ | refine AD ?_ | refine A3 ?_ | refine AI ?_ | refine A6 ?_ | refine AN ?_ | refine AJ ?_ | intro _g _hg | refine AC ?_ ?_ | intro _hc) | omega)
 ·have hi0 : i = l.length := by omega
  subst hi0
  have hi' : ¬ (l.length : Int) < l.length := by omega
  rw [List.drop_length, D1] at hE
  subst hE
  clear hp hJ
  
  repeat' (first | (simp -implicitDefEqProofs [Dh, Dj, Cy, CI, CP, c51, -getElem?_pos, hel, hi']) | (simp (disch := omega) only [AE]) | (with_reducible first | refine A5 ?_ ?_ ?_ | exact AB | assumption | refine A2 ?_ | refine KM.of ?_ | refine AD ?_ | refine A3 ?_ | refine AI ?_ | refine A6 ?_ | refine AN ?_ | refine AJ ?_ | intro _g _hg | refine AC ?_ ?_ | intro _hc) | omega)
  all_goals exact WZ (r := .tup []) rfl hS.le (fun q hq => by have := hS.su q hq; rwa [upd_ne (by omega)] at this) ⟨x2, hV2, hS⟩
theorem Wc (p : Pt) : Ia p → ST p → Ba p ≤ 1000000 → IQ p.b (AO p.b) ∧ IQ p.e (AO p.e) := by
 refine Pt.ind (Q := fun p => Ia p → ST p → Ba p ≤ 1000000 → IQ p.b (AO p.b) ∧ IQ p.e (AO p.e)) ?_ p
 intro k t nm pa fs b e hb he ho hpx hs
 simp only [Ia] at ho
 simp only [ST] at hpx
 obtain ⟨_, _, _, _, _, _, _, ob, oe⟩ := ho
 obtain ⟨_, pb, pe⟩ := hpx
 unfold Ba at hs
 have h1 := CB b
 have h2 := CB e
 exact ⟨Ll b (by omega) ob pb fun x hx => hb x hx (D5 ob hx) (Dn pb hx) (by have := Bm hx; omega), Ll e (by omega) oe pe fun x hx => he x hx (D5 oe hx) (Dn pe hx) (by have := Bm hx; omega)⟩
theorem W0 (l : List Pt) (ho : GM l) (hpx : LZ l) (hs : AU l ≤ 1000000) : IQ l (AO l) := Ll l (by have := CB l; omega) ho hpx fun x hx => Wc x (D5 ho hx) (Dn hpx hx) (by have := Bm hx; omega)
theorem RN {P : Program} {l2 : List Seg} {K : AS → Prop} : ∀ (l1 : List Seg) {s : AS}, AZ P (l1 ++ l2) K s = AZ P l1 (AZ P l2 K) s := by
 intro l1
 induction l1 with
 | nil => intro s; rfl
 | cons o os ih =>
  intro s
  have e : AZ P (os ++ l2) K = AZ P os (AZ P l2 K) := funext fun s => ih
  obtain ⟨g, ops, pk⟩ := o
  cases g with
  | none => show awOps P ops (AZ P (os ++ l2) K) s = awOps P ops (AZ P os (AZ P l2 K)) s; rw [e]
  | some gw =>
   obtain ⟨t, want⟩ := gw
   cases pk with
   | none =>
    show guardK want (awOps P ops (AZ P (os ++ l2) K) s) (AZ P (os ++ l2) K ⟨EV s.e ops, s.n, s.H⟩) (get s.e t) = guardK want (awOps P ops (AZ P os (AZ P l2 K)) s) (AZ P os (AZ P l2 K) ⟨EV s.e ops, s.n, s.H⟩) (get s.e t)
    rw [e]
   | some dx =>
    obtain ⟨d, x⟩ := dx
    show K1 (Pa want x (get s.e t) (Ct ops s.e s.H)) (fun v => AZ P (os ++ l2) K ⟨put (EN s.e ops) d v, s.n, s.H⟩) = K1 (Pa want x (get s.e t) (Ct ops s.e s.H)) fun v => AZ P os (AZ P l2 K) ⟨put (EN s.e ops) d v, s.n, s.H⟩
    rw [e]
theorem IE {P : Program} {l : List Seg} {K : AS → Prop} {s : AS} (k : Nat) (Inv : AS → Prop) (h1 : AZ P (l.take k) Inv s) (h2 : ∀ s', Inv s' → AZ P (l.drop k) K s') : AZ P l K s := by
 rw [← List.take_append_drop k l, RN]
 exact L8 h1 h2
def Slots (n : Nat) (H : A4) (l : List (Nat × AV)) (s : AS) : Prop := s.n = n ∧ s.H = H ∧ ∀ x ∈ l, get s.e x.1 = x.2
theorem Slots.cut {n : Nat} {H : A4} {l : List (Nat × AV)} {K : AS → Prop} (h : ∀ e, (∀ x ∈ l, get e x.1 = x.2) → K ⟨e, n, H⟩) : ∀ s, Slots n H l s → K s := by
 rintro ⟨e, n', H'⟩ ⟨h1, h2, h3⟩
 simp only at h1 h2 h3
 subst h1; subst h2
 exact h e h3
theorem Ac (v : AV) (t k : Nat) : ∀ e : AL, get (Dz e t v) k = if t = k then v else get e k
 | [] => by simp only [Dz, get]
 | (a, u) :: r => by
  unfold Dz
  by_cases h : a = t
  ·subst h
   simp only [if_true, get]
   split <;> rfl
  ·simp only [if_neg h, get, Ac v t k r]
   by_cases h2 : a = k
   ·subst h2; simp only [if_true]; rw [if_neg (fun e => h e.symm)]
   ·simp only [if_neg h2]
set_option maxRecDepth 20000 in
theorem WF (k pv : Int) (t nm : AP) (pa : List AP) (fs : List (AP × Int)) (eb ee : List AV) (g n : Nat) (Hc : A4) (hgc : Hc g = some (.cells 55 [aI k, .str t, .str nm, Ci pa, DE fs, .sl 7 eb .ro, .sl 7 ee .ro])) (en : AL) (e1 : get en 1 = aI pv) (h4 : get en 4 = .ptr g 0) (h9 : get en 9 = aI k) (Q : AExit → AS → Prop) (b : Bool)
  (hb : b = (((((decide (k = 1) == decide (t = [])) || (decide (k = 1) && Bc pa)) || (decide (k ≠ 4) && decide (nm ≠ []))) || (decide (k ≠ 2) && Bc fs)) || (decide (k < 3) && (Bc eb || Bc ee)) || (decide (k = 1) && decide (pv = k))))
  (hT : b = true → ∀ e, Q .ret ⟨(8, aI 6) :: e, n, Hc⟩) (hF : b = false → ∀ e, get e 4 = .ptr g 0 → get e 9 = aI k → get e 10 = .bool (k == 1) → aw Tryz.prog c66_k9 Q ⟨e, n, Hc⟩) : aw Tryz.prog c66_k10 Q ⟨en, n, Hc⟩ := by
 
 have hk10 : ∀ {b : Bool}, (k == 1) = b → decide (k = 1) = b := fun h => h
 obtain ⟨b10, hb10⟩ : ∃ b10, (k == 1) = b10 := ⟨_, rfl⟩
 rw [hb10] at hF
 simp -implicitDefEqProofs [c66, BP, -getElem?_pos, -Ho, -I0, -IS, e1, h4, h9, hb10]
 obtain ⟨b1, hb1⟩ : ∃ b1, ((decide (k = 1) == decide (t = [])) || (decide (k = 1) && Bc pa)) = b1 := ⟨_, rfl⟩
 rw [hb1] at hb
 obtain ⟨b2, hb2⟩ : ∃ b2, (b1 || (decide (k ≠ 4) && decide (nm ≠ []))) = b2 := ⟨_, rfl⟩
 rw [hb2] at hb
 obtain ⟨b3, hb3⟩ : ∃ b3, (b2 || (decide (k ≠ 2) && Bc fs)) = b3 := ⟨_, rfl⟩
 rw [hb3] at hb
 obtain ⟨b4, hb4⟩ : ∃ b4, (b3 || (decide (k < 3) && (Bc eb || Bc ee))) = b4 := ⟨_, rfl⟩
 rw [hb4] at hb
 have hd : decide (k = 1) = b10 := by rw [← hb10]; rfl
 rw [hd] at hb hb1
 have pz : Bc ([] : List AP) = false := rfl
 have pz2 : Bc ([] : List (AP × Int)) = false := rfl
 have pz3 : Bc ([] : List AV) = false := rfl
 have pq : ∀ {α : Type} {l : List α}, l ≠ [] → Bc l = true ∧ (0 : Int) < l.length ∧ 0 < l.length := fun h => by
  have := List.length_pos_iff.2 h
  exact ⟨by unfold Bc; exact decide_eq_true (by omega), by omega, this⟩
 refine IE 5 (Slots n Hc [(1, aI pv), (4, .ptr g 0), (9, aI k), (10, .bool b10), (38, .bool b1)]) ?_ (Slots.cut fun e he => ?_)
 ·simp only [List.take_succ_cons, List.take_zero]
  clear hT hF hb hb2 hb3 hb4
  cases b10
  ·by_cases ht : t = []
   ·simp [ht] at hb1; subst hb1; subst ht
    simp -implicitDefEqProofs [-getElem?_pos, hgc, Slots]
   ·simp [ht] at hb1; subst hb1
    simp -implicitDefEqProofs [-getElem?_pos, hgc, Slots, ht]
  ·by_cases ht : t = []
   ·simp [ht] at hb1; subst hb1; subst ht
    simp -implicitDefEqProofs [-getElem?_pos, hgc, Slots]
   ·by_cases hp : pa = []
    ·subst hp; rw [pz] at hb1; simp [ht] at hb1; subst hb1
     simp -implicitDefEqProofs [-getElem?_pos, hgc, Slots, ht]
    ·obtain ⟨p1, p2, p3⟩ := pq hp
     rw [p1] at hb1; simp [ht] at hb1; subst hb1
     simp -implicitDefEqProofs [-getElem?_pos, hgc, Slots, ht, p2, p3]
 clear e1 h4 h9 hb1
 have e1 : get e 1 = aI pv := he (1, _) (by simp)
 have h4 : get e 4 = .ptr g 0 := he (4, _) (by simp)
 have h9 : get e 9 = aI k := he (9, _) (by simp)
 have h10 : get e 10 = .bool b10 := he (10, _) (by simp)
 have hs : get e 38 = .bool b1 := he (38, _) (by simp)
 clear he
 simp only [List.drop_succ_cons, List.drop_zero]
 refine IE 4 (Slots n Hc [(1, aI pv), (4, .ptr g 0), (9, aI k), (10, .bool b10), (47, .bool b2)]) ?_ (Slots.cut fun e he => ?_)
 ·simp only [List.take_succ_cons, List.take_zero]
  clear hT hF hb hb3 hb4
  cases b1
  ·by_cases k4 : k = 4
   ·subst k4; simp at hb2; subst hb2
    simp -implicitDefEqProofs [-getElem?_pos, hgc, Slots, e1, h4, h9, h10, hs, Ac]
   ·by_cases hn : nm = []
    ·subst hn; simp at hb2; subst hb2
     simp -implicitDefEqProofs [-getElem?_pos, hgc, Slots, e1, h4, h9, h10, hs, Ac, k4]
    ·simp [k4, hn] at hb2; subst hb2
     simp -implicitDefEqProofs [-getElem?_pos, hgc, Slots, e1, h4, h9, h10, hs, Ac, k4, hn]
  ·simp at hb2; subst hb2
   simp -implicitDefEqProofs [-getElem?_pos, hgc, Slots, e1, h4, h9, h10, hs, Ac]
 clear e1 h4 h9 h10 hs hb2
 have e1 : get e 1 = aI pv := he (1, _) (by simp)
 have h4 : get e 4 = .ptr g 0 := he (4, _) (by simp)
 have h9 : get e 9 = aI k := he (9, _) (by simp)
 have h10 : get e 10 = .bool b10 := he (10, _) (by simp)
 have hs : get e 47 = .bool b2 := he (47, _) (by simp)
 clear he
 simp only [List.drop_succ_cons, List.drop_zero]
 refine IE 4 (Slots n Hc [(1, aI pv), (4, .ptr g 0), (9, aI k), (10, .bool b10), (57, .bool b3)]) ?_ (Slots.cut fun e he => ?_)
 ·simp only [List.take_succ_cons, List.take_zero]
  clear hT hF hb hb4
  cases b2
  ·by_cases k2 : k = 2
   ·subst k2; simp at hb3; subst hb3
    simp -implicitDefEqProofs [-getElem?_pos, hgc, Slots, e1, h4, h9, h10, hs, Ac]
   ·by_cases hf : fs = []
    ·subst hf; rw [pz2] at hb3; simp at hb3; subst hb3
     simp -implicitDefEqProofs [-getElem?_pos, hgc, Slots, e1, h4, h9, h10, hs, Ac, k2]
    ·obtain ⟨p1, p2, p3⟩ := pq hf
     rw [p1] at hb3; simp [k2] at hb3; subst hb3
     simp -implicitDefEqProofs [-getElem?_pos, hgc, Slots, e1, h4, h9, h10, hs, Ac, k2, p2, p3]
  ·simp at hb3; subst hb3
   simp -implicitDefEqProofs [-getElem?_pos, hgc, Slots, e1, h4, h9, h10, hs, Ac]
 clear e1 h4 h9 h10 hs hb3
 have e1 : get e 1 = aI pv := he (1, _) (by simp)
 have h4 : get e 4 = .ptr g 0 := he (4, _) (by simp)
 have h9 : get e 9 = aI k := he (9, _) (by simp)
 have h10 : get e 10 = .bool b10 := he (10, _) (by simp)
 have hs : get e 57 = .bool b3 := he (57, _) (by simp)
 clear he
 simp only [List.drop_succ_cons, List.drop_zero]
 refine IE 6 (Slots n Hc [(1, aI pv), (4, .ptr g 0), (9, aI k), (10, .bool b10), (73, .bool b4)]) ?_ (Slots.cut fun e he => ?_)
 ·simp only [List.take_succ_cons, List.take_zero]
  clear hT hF hb
  cases b3
  ·by_cases k3 : k < 3
   ·by_cases he1 : eb = []
    ·subst he1; rw [pz3] at hb4
     by_cases he2 : ee = []
     ·subst he2; rw [pz3] at hb4; simp at hb4; subst hb4
      simp -implicitDefEqProofs [-getElem?_pos, hgc, Slots, e1, h4, h9, h10, hs, Ac, k3]
     ·obtain ⟨p1, p2, p3⟩ := pq he2
      rw [p1] at hb4; simp [k3] at hb4; subst hb4
      simp -implicitDefEqProofs [-getElem?_pos, hgc, Slots, e1, h4, h9, h10, hs, Ac, k3, p2, p3]
    ·obtain ⟨p1, p2, p3⟩ := pq he1
     rw [p1] at hb4; simp [k3] at hb4; subst hb4
     simp -implicitDefEqProofs [-getElem?_pos, hgc, Slots, e1, h4, h9, h10, hs, Ac, k3, p2, p3]
   ·simp [k3] at hb4; subst hb4
    simp -implicitDefEqProofs [-getElem?_pos, hgc, Slots, e1, h4, h9, h10, hs, Ac, k3]
  ·simp at hb4; subst hb4
   simp -implicitDefEqProofs [-getElem?_pos, hgc, Slots, e1, h4, h9, h10, hs, Ac]
 clear e1 h4 h9 h10 hs hb4
 have e1 : get e 1 = aI pv := he (1, _) (by simp)
 have h4 : get e 4 = .ptr g 0 := he (4, _) (by simp)
 have h9 : get e 9 = aI k := he (9, _) (by simp)
 have h10 : get e 10 = .bool b10 := he (10, _) (by simp)
 have hs : get e 73 = .bool b4 := he (73, _) (by simp)
 clear he
 simp only [List.drop_succ_cons, List.drop_zero]
 cases b4
 ·cases b10
  ·simp at hb
   subst hb
   simp -implicitDefEqProofs [-getElem?_pos, hgc, Slots, e1, h4, h9, h10, hs, Ac]
   exact hF rfl _ (by simp [get, h4, Ac]) (by simp [get, h9, Ac]) (by simp [get, h10, Ac])
  ·by_cases hp : pv = k
   ·simp [hp] at hb
    subst hb
    simp -implicitDefEqProofs [-getElem?_pos, hgc, Slots, e1, h4, h9, h10, hs, Ac, hp]
    exact hT rfl _
   ·simp [hp] at hb
    subst hb
    simp -implicitDefEqProofs [-getElem?_pos, hgc, Slots, e1, h4, h9, h10, hs, Ac, hp]
    exact hF rfl _ (by simp [get, h4, Ac]) (by simp [get, h9, Ac]) (by simp [get, h10, Ac])
 ·simp at hb
  subst hb
  simp -implicitDefEqProofs [-getElem?_pos, hgc, Slots, e1, h4, h9, h10, hs, Ac]
  exact hT rfl _
set_option maxRecDepth 20000 in
theorem YK (pv : Int) (i d : Nat) (k : Int) (t nm : AP) (pa : List AP) (fs : List (AP × Int)) (b e : List Pt) (hpa : ∀ s ∈ pa, s.length ≤ 2000000) (hpl : pa.length ≤ 2000000) (hn : nm.length ≤ 2000000) (hf : fs.length ≤ 2000000) (hb : b.length ≤ 2000000) (he : e.length ≤ 2000000) :
  APure Tryz.prog 66 [ER (.mk k t nm pa fs b e), aI pv, aI i, aI d] (aI (FI pv i d k t nm pa fs b e)) := by
 have h1 := ME nm hn
 have h2 := WB pa hpa (by omega)
 have hlb := BJ b
 have hle := BJ e
 have hF := Q9 pv k t nm pa fs b e
 have hM : Oj k nm pa fs = if (k = 4 ∧ Hm nm = false) ∨ (k ≠ 1 ∧ Dl pa = false) then 7 else if 8 < fs.length then 2 else HW 0 fs := rfl
 rw [Bv]
 unfold FI
 rw [← Hq hlb, ← Hq hle] at hF
 generalize AO b = eb at *
 generalize AO e = ee at *
 obtain ⟨z8, hz8⟩ : ∃ z, (if 8 < fs.length then 2 else HW 0 fs) = z := ⟨_, rfl⟩
 rw [hz8] at hM
 generalize Hm nm = b1 at *
 generalize Dl pa = b2 at *
 generalize Oj k nm pa fs = M at *
 generalize OU pv k t nm pa fs b e = ff at *
 obtain ⟨z, hz⟩ : ∃ z, (if 200 ≤ i then 2 else if 16 < d then 25 else if k < 1 ∨ 4 < k then 5 else if ff = true then 6 else M) = z := ⟨_, rfl⟩
 rw [hz]
 refine A9 Tryz.func66 Z3 rfl fun n H hH => ?_
 have fin8 : ∀ g en, n ≤ g → get en 4 = .ptr g 0 → aw Tryz.prog c66_k8 (Kt (aI z8) n H c66.res) ⟨en, g + 1, upd H g (some (.cells 55 [aI k, .str t, .str nm, Ci pa, DE fs, .sl 7 eb .ro, .sl 7 ee .ro]))⟩ := by
  clear h1 h2 hF hM hz
  intro g en hg hen
  by_cases h8 : (8 : Int) < fs.length
  ·rw [if_pos (by omega)] at hz8
   subst hz8
   
   repeat' (first | (simp -implicitDefEqProofs [C3, CG, CK, C5, CA, C8, C0, CJ, Az, BP, BI, Ap, c66, -getElem?_pos, hen, h8]) | (simp (disch := omega) only [AE]) | (with_reducible first | refine A5 ?_ ?_ ?_ | exact AB | refine SameB.upd ?_ ?_ _ | assumption | refine A2 ?_ | refine KM.of ?_ | refine AD ?_ | refine A3 ?_ | refine A6 ?_ | intro _g _hg | refine AC ?_ ?_ | intro _hc) | omega)
   all_goals exact A1 _
  ·rw [if_neg (by omega)] at hz8
   
   repeat' (first | (simp -implicitDefEqProofs [C3, CG, CK, C5, CA, C8, C0, CJ, Az, BP, BI, Ap, c66, -getElem?_pos, hen, h8]) | (simp (disch := omega) only [AE]) | (with_reducible first | refine A5 ?_ ?_ ?_ | exact AB | refine SameB.upd ?_ ?_ _ | assumption | refine A2 ?_ | refine KM.of ?_ | refine AD ?_ | refine A3 ?_ | refine A6 ?_ | intro _g _hg | refine AC ?_ ?_ | intro _hc) | omega)
   refine LoopK.go (fun m st => ∃ (j : Nat), j + m = fs.length ∧ st = ⟨[(4, .ptr g 0), (11, aI j)], g + 1, upd H g (some (.cells 55 [aI k, .str t, .str nm, Ci pa, DE fs, .sl 7 eb .ro, .sl 7 ee .ro]))⟩ ∧ z8 = HW j (fs.drop j)) fs.length ⟨0, by omega, rfl, hz8.symm⟩ ?_
   rintro m st ⟨j, hjm, rfl, hE⟩ J hJ
   clear hz8 hen
   by_cases hj : j < fs.length
   ·obtain ⟨x, hx⟩ : ∃ x, fs[j]? = some x := ⟨_, List.getElem?_eq_getElem hj⟩
    have hx2 := PQ hx
    have hj' : (j : Int) < fs.length := by omega
    rw [drop_at hx, HW] at hE
    have hk3 := IJ x.1
    have hfk := SR x.1
    have hin := Za x.2 0 200
    obtain ⟨a, v⟩ := x
    simp only at hk3 hfk hin
    change z8 = if Hy a = 0 then 5 else if (v < 0 ∨ 200 < v) ∨ Hy a = 1 ∧ v ≠ 0 then 4 else if 0 < j ∧ a = [106, 115, 111, 110] then 11 else HW (j + 1) (fs.drop (j + 1)) at hE
    generalize Hy a = c at *
    by_cases hc0 : c = 0
    ·subst hc0
     simp only [if_true] at hE
     
     repeat' (first | (simp -implicitDefEqProofs [C3, CG, CK, C5, CA, C8, C0, CJ, Az, BP, BI, Ap, c66, -getElem?_pos, hx2, hj']) | (simp (disch := omega) only [AE]) | ((with_reducible refine AH 37 ?_); (refine' CallP.sf ?_ (hfk) ?_); (focus first | (with_reducible exact A0 _) | (simp [AA, A8, A1, A0]; done))) | ((with_reducible refine AH 104 ?_); (refine' CallP.sf ?_ (hin) ?_); (focus first | (with_reducible exact A0 _) | (simp [AA, A8, A1, A0]; done))) | (with_reducible first | refine A5 ?_ ?_ ?_ | exact AB | refine SameB.upd ?_ ?_ _ | assumption | refine A2 ?_ | refine KM.of ?_ | refine AD ?_ | refine A3 ?_ | refine A6 ?_ | intro _g _hg | refine AC ?_ ?_ | intro _hc) | omega)
     all_goals (refine Ad ?_; rw [hE])
    ·rw [if_neg hc0] at hE
     by_cases hv : 0 ≤ v ∧ v ≤ 200
     ·have hvb : (decide (0 ≤ v) && decide (v ≤ 200)) = true := by simp [hv]
      rw [hvb] at hin
      by_cases hc1 : c = 1
      ·subst hc1
       by_cases v0 : v = 0
       ·subst v0
        rw [if_neg (by omega)] at hE
        by_cases hjn : 0 < j ∧ a = [106, 115, 111, 110]
        ·obtain ⟨j1, j2⟩ := hjn
         have j1' : (0 : Int) < j := by omega
         subst j2
         have hE : z8 = 11 := by rw [hE, if_pos ⟨j1, rfl⟩]
         
         repeat' (first | (simp -implicitDefEqProofs [C3, CG, CK, C5, CA, C8, C0, CJ, Az, BP, BI, Ap, c66, -getElem?_pos, hx2, hj', j1, j1']) | (simp (disch := omega) only [AE]) | ((with_reducible refine AH 37 ?_); (refine' CallP.sf ?_ (hfk) ?_); (focus first | (with_reducible exact A0 _) | (simp [AA, A8, A1, A0]; done))) | ((with_reducible refine AH 104 ?_); (refine' CallP.sf ?_ (hin) ?_); (focus first | (with_reducible exact A0 _) | (simp [AA, A8, A1, A0]; done))) | (with_reducible first | refine A5 ?_ ?_ ?_ | exact AB | refine SameB.upd ?_ ?_ _ | assumption | refine A2 ?_ | refine KM.of ?_ | refine AD ?_ | refine A3 ?_ | refine A6 ?_ | intro _g _hg | refine AC ?_ ?_ | intro _hc) | omega)
         all_goals (refine Ad ?_; rw [hE])
        ·rw [if_neg hjn] at hE
         by_cases j2 : a = [106, 115, 111, 110]
         ·have j1 : ¬ 0 < j := fun h => hjn ⟨h, j2⟩
          have j1' : ¬ (0 : Int) < j := by omega
          have j0 : j = 0 := by omega
          subst j2
          subst j0
          have hz1 : (0 : Int) < fs.length := hj'
          have hz2 : ¬ fs = [] := fun e => by rw [e] at hj; simp at hj
          
          repeat' (first | (simp -implicitDefEqProofs [C3, CG, CK, C5, CA, C8, C0, CJ, Az, BP, BI, Ap, c66, -getElem?_pos, hx2, hj', hz1, hz2]) | (simp (disch := omega) only [AE]) | ((with_reducible refine AH 37 ?_); (refine' CallP.sf ?_ (hfk) ?_); (focus first | (with_reducible exact A0 _) | (simp [AA, A8, A1, A0]; done))) | ((with_reducible refine AH 104 ?_); (refine' CallP.sf ?_ (hin) ?_); (focus first | (with_reducible exact A0 _) | (simp [AA, A8, A1, A0]; done))) | (with_reducible first | refine A5 ?_ ?_ ?_ | exact AB | refine SameB.upd ?_ ?_ _ | assumption | refine A2 ?_ | refine KM.of ?_ | refine AD ?_ | refine A3 ?_ | refine A6 ?_ | intro _g _hg | refine AC ?_ ?_ | intro _hc) | omega)
          exact hJ (m - 1) _ (by omega) ⟨1, by omega, rfl, hE⟩
         ·
          repeat' (first | (simp -implicitDefEqProofs [C3, CG, CK, C5, CA, C8, C0, CJ, Az, BP, BI, Ap, c66, -getElem?_pos, hx2, hj', j2]) | (simp (disch := omega) only [AE]) | ((with_reducible refine AH 37 ?_); (refine' CallP.sf ?_ (hfk) ?_); (focus first | (with_reducible exact A0 _) | (simp [AA, A8, A1, A0]; done))) | ((with_reducible refine AH 104 ?_); (refine' CallP.sf ?_ (hin) ?_); (focus first | (with_reducible exact A0 _) | (simp [AA, A8, A1, A0]; done))) | (with_reducible first | refine A5 ?_ ?_ ?_ | exact AB | refine SameB.upd ?_ ?_ _ | assumption | refine A2 ?_ | refine KM.of ?_ | refine AD ?_ | refine A3 ?_ | refine A6 ?_ | intro _g _hg | refine AC ?_ ?_ | intro _hc) | omega)
          all_goals exact hJ (m - 1) _ (by omega) ⟨j + 1, by omega, rfl, hE⟩
       ·rw [if_pos (by omega)] at hE
        
        repeat' (first | (simp -implicitDefEqProofs [C3, CG, CK, C5, CA, C8, C0, CJ, Az, BP, BI, Ap, c66, -getElem?_pos, hx2, hj', v0]) | (simp (disch := omega) only [AE]) | ((with_reducible refine AH 37 ?_); (refine' CallP.sf ?_ (hfk) ?_); (focus first | (with_reducible exact A0 _) | (simp [AA, A8, A1, A0]; done))) | ((with_reducible refine AH 104 ?_); (refine' CallP.sf ?_ (hin) ?_); (focus first | (with_reducible exact A0 _) | (simp [AA, A8, A1, A0]; done))) | (with_reducible first | refine A5 ?_ ?_ ?_ | exact AB | refine SameB.upd ?_ ?_ _ | assumption | refine A2 ?_ | refine KM.of ?_ | refine AD ?_ | refine A3 ?_ | refine A6 ?_ | intro _g _hg | refine AC ?_ ?_ | intro _hc) | omega)
        all_goals (refine Ad ?_; rw [hE])
      ·have hc2 : c = 2 := by omega
       subst hc2
       rw [if_neg (by omega)] at hE
       by_cases hjn : 0 < j ∧ a = [106, 115, 111, 110]
       ·obtain ⟨j1, j2⟩ := hjn
        have j1' : (0 : Int) < j := by omega
        subst j2
        have hE : z8 = 11 := by rw [hE, if_pos ⟨j1, rfl⟩]
        
        repeat' (first | (simp -implicitDefEqProofs [C3, CG, CK, C5, CA, C8, C0, CJ, Az, BP, BI, Ap, c66, -getElem?_pos, hx2, hj', j1, j1']) | (simp (disch := omega) only [AE]) | ((with_reducible refine AH 37 ?_); (refine' CallP.sf ?_ (hfk) ?_); (focus first | (with_reducible exact A0 _) | (simp [AA, A8, A1, A0]; done))) | ((with_reducible refine AH 104 ?_); (refine' CallP.sf ?_ (hin) ?_); (focus first | (with_reducible exact A0 _) | (simp [AA, A8, A1, A0]; done))) | (with_reducible first | refine A5 ?_ ?_ ?_ | exact AB | refine SameB.upd ?_ ?_ _ | assumption | refine A2 ?_ | refine KM.of ?_ | refine AD ?_ | refine A3 ?_ | refine A6 ?_ | intro _g _hg | refine AC ?_ ?_ | intro _hc) | omega)
        all_goals (refine Ad ?_; rw [hE])
       ·rw [if_neg hjn] at hE
        by_cases j2 : a = [106, 115, 111, 110]
        ·have j1 : ¬ 0 < j := fun h => hjn ⟨h, j2⟩
         have j1' : ¬ (0 : Int) < j := by omega
         have j0 : j = 0 := by omega
         subst j2
         subst j0
         have hz1 : (0 : Int) < fs.length := hj'
         have hz2 : ¬ fs = [] := fun e => by rw [e] at hj; simp at hj
         
         repeat' (first | (simp -implicitDefEqProofs [C3, CG, CK, C5, CA, C8, C0, CJ, Az, BP, BI, Ap, c66, -getElem?_pos, hx2, hj', hz1, hz2]) | (simp (disch := omega) only [AE]) | ((with_reducible refine AH 37 ?_); (refine' CallP.sf ?_ (hfk) ?_); (focus first | (with_reducible exact A0 _) | (simp [AA, A8, A1, A0]; done))) | ((with_reducible refine AH 104 ?_); (refine' CallP.sf ?_ (hin) ?_); (focus first | (with_reducible exact A0 _) | (simp [AA, A8, A1, A0]; done))) | (with_reducible first | refine A5 ?_ ?_ ?_ | exact AB | refine SameB.upd ?_ ?_ _ | assumption | refine A2 ?_ | refine KM.of ?_ | refine AD ?_ | refine A3 ?_ | refine A6 ?_ | intro _g _hg | refine AC ?_ ?_ | intro _hc) | omega)
         exact hJ (m - 1) _ (by omega) ⟨1, by omega, rfl, hE⟩
        ·
         repeat' (first | (simp -implicitDefEqProofs [C3, CG, CK, C5, CA, C8, C0, CJ, Az, BP, BI, Ap, c66, -getElem?_pos, hx2, hj', j2]) | (simp (disch := omega) only [AE]) | ((with_reducible refine AH 37 ?_); (refine' CallP.sf ?_ (hfk) ?_); (focus first | (with_reducible exact A0 _) | (simp [AA, A8, A1, A0]; done))) | ((with_reducible refine AH 104 ?_); (refine' CallP.sf ?_ (hin) ?_); (focus first | (with_reducible exact A0 _) | (simp [AA, A8, A1, A0]; done))) | (with_reducible first | refine A5 ?_ ?_ ?_ | exact AB | refine SameB.upd ?_ ?_ _ | assumption | refine A2 ?_ | refine KM.of ?_ | refine AD ?_ | refine A3 ?_ | refine A6 ?_ | intro _g _hg | refine AC ?_ ?_ | intro _hc) | omega)
         all_goals exact hJ (m - 1) _ (by omega) ⟨j + 1, by omega, rfl, hE⟩
     ·have hvb : (decide (0 ≤ v) && decide (v ≤ 200)) = false := by
       simp only [Bool.and_eq_false_iff, decide_eq_false_iff_not]; omega
      rw [hvb] at hin
      rw [if_pos (by omega)] at hE
      have hcb : ((c : Int) == 0) = false := by simpa using hc0
      
      repeat' (first | (simp -implicitDefEqProofs [C3, CG, CK, C5, CA, C8, C0, CJ, Az, BP, BI, Ap, c66, -getElem?_pos, hx2, hj', hc0, hcb]) | (simp (disch := omega) only [AE]) | ((with_reducible refine AH 37 ?_); (refine' CallP.sf ?_ (hfk) ?_); (focus first | (with_reducible exact A0 _) | (simp [AA, A8, A1, A0]; done))) | ((with_reducible refine AH 104 ?_); (refine' CallP.sf ?_ (hin) ?_); (focus first | (with_reducible exact A0 _) | (simp [AA, A8, A1, A0]; done))) | (with_reducible first | refine A5 ?_ ?_ ?_ | exact AB | refine SameB.upd ?_ ?_ _ | assumption | refine A2 ?_ | refine KM.of ?_ | refine AD ?_ | refine A3 ?_ | refine A6 ?_ | intro _g _hg | refine AC ?_ ?_ | intro _hc) | omega)
      all_goals (refine Ad ?_; rw [hE])
   ·have hj0 : j = fs.length := by omega
    subst hj0
    have hj' : ¬ (fs.length : Int) < fs.length := by omega
    rw [List.drop_length] at hE
    rw [hE]
    
    repeat' (first | (simp -implicitDefEqProofs [C3, CG, CK, C5, CA, C8, C0, CJ, Az, BP, BI, Ap, c66, -getElem?_pos, hj', HW]) | (simp (disch := omega) only [AE]) | (with_reducible first | refine A5 ?_ ?_ ?_ | exact AB | refine SameB.upd ?_ ?_ _ | assumption | refine A2 ?_ | refine KM.of ?_ | refine AD ?_ | refine A3 ?_ | refine A6 ?_ | intro _g _hg | refine AC ?_ ?_ | intro _hc) | omega)
    all_goals exact A1 _
 have fin9 : ∀ g en, n ≤ g → get en 4 = .ptr g 0 → get en 9 = aI k → get en 10 = .bool (k == 1) → aw Tryz.prog c66_k9 (Kt (aI M) n H c66.res) ⟨en, g + 1, upd H g (some (.cells 55 [aI k, .str t, .str nm, Ci pa, DE fs, .sl 7 eb .ro, .sl 7 ee .ro]))⟩ := by
  clear hF hz
  intro g en hg h4 h9 h10
  by_cases k4 : k = 4
  ·subst k4
   have e10 : get en 10 = .bool false := h10
   cases b1
   ·rw [if_pos (.inl ⟨rfl, rfl⟩)] at hM
    subst hM
    
    repeat' (first | (simp -implicitDefEqProofs [c66, Az, -getElem?_pos, h4, h9, e10]) | (simp (disch := omega) only [AE]) | ((with_reducible refine AH 105 ?_); (refine' CallP.sf ?_ (h1) ?_); (focus first | (with_reducible exact A0 _) | (simp [AA, A8, A1, A0]; done))) | ((with_reducible refine AH 106 ?_); (refine' CallP.sf ?_ (h2) ?_); (focus first | (with_reducible exact A0 _) | (simp [AA, A8, A1, A0]; done))) | (with_reducible first | refine A5 ?_ ?_ ?_ | exact AB | refine SameB.upd ?_ ?_ _ | assumption | refine A2 ?_ | refine KM.of ?_ | refine AD ?_ | refine A3 ?_ | refine A6 ?_ | intro _g _hg | refine AC ?_ ?_ | intro _hc) | omega)
    all_goals exact A1 _
   ·cases b2
    ·rw [if_pos (.inr ⟨by decide, rfl⟩)] at hM
     subst hM
     
     repeat' (first | (simp -implicitDefEqProofs [c66, Az, -getElem?_pos, h4, h9, e10]) | (simp (disch := omega) only [AE]) | ((with_reducible refine AH 105 ?_); (refine' CallP.sf ?_ (h1) ?_); (focus first | (with_reducible exact A0 _) | (simp [AA, A8, A1, A0]; done))) | ((with_reducible refine AH 106 ?_); (refine' CallP.sf ?_ (h2) ?_); (focus first | (with_reducible exact A0 _) | (simp [AA, A8, A1, A0]; done))) | (with_reducible first | refine A5 ?_ ?_ ?_ | exact AB | refine SameB.upd ?_ ?_ _ | assumption | refine A2 ?_ | refine KM.of ?_ | refine AD ?_ | refine A3 ?_ | refine A6 ?_ | intro _g _hg | refine AC ?_ ?_ | intro _hc) | omega)
     all_goals exact A1 _
    ·rw [if_neg (by simp)] at hM
     subst hM
     
     repeat' (first | (simp -implicitDefEqProofs [c66, Az, -getElem?_pos, h4, h9, e10]) | (simp (disch := omega) only [AE]) | ((with_reducible refine AH 105 ?_); (refine' CallP.sf ?_ (h1) ?_); (focus first | (with_reducible exact A0 _) | (simp [AA, A8, A1, A0]; done))) | ((with_reducible refine AH 106 ?_); (refine' CallP.sf ?_ (h2) ?_); (focus first | (with_reducible exact A0 _) | (simp [AA, A8, A1, A0]; done))) | (with_reducible first | refine A5 ?_ ?_ ?_ | exact AB | refine SameB.upd ?_ ?_ _ | assumption | refine A2 ?_ | refine KM.of ?_ | refine AD ?_ | refine A3 ?_ | refine A6 ?_ | intro _g _hg | refine AC ?_ ?_ | intro _hc) | omega)
     exact fin8 _ _ hg (by simp [get, h4])
  ·by_cases k1 : k = 1
   ·subst k1
    have e10 : get en 10 = .bool true := h10
    rw [if_neg (by simp)] at hM
    subst hM
    
    repeat' (first | (simp -implicitDefEqProofs [c66, Az, -getElem?_pos, h4, h9, e10]) | (simp (disch := omega) only [AE]) | ((with_reducible refine AH 105 ?_); (refine' CallP.sf ?_ (h1) ?_); (focus first | (with_reducible exact A0 _) | (simp [AA, A8, A1, A0]; done))) | ((with_reducible refine AH 106 ?_); (refine' CallP.sf ?_ (h2) ?_); (focus first | (with_reducible exact A0 _) | (simp [AA, A8, A1, A0]; done))) | (with_reducible first | refine A5 ?_ ?_ ?_ | exact AB | refine SameB.upd ?_ ?_ _ | assumption | refine A2 ?_ | refine KM.of ?_ | refine AD ?_ | refine A3 ?_ | refine A6 ?_ | intro _g _hg | refine AC ?_ ?_ | intro _hc) | omega)
    exact fin8 _ _ hg (by simp [get, h4])
   ·have hkb : (k == 1) = false := by simpa using k1
    have e10 : get en 10 = .bool false := by rw [h10, hkb]
    cases b2
    ·rw [if_pos (.inr ⟨k1, rfl⟩)] at hM
     subst hM
     
     repeat' (first | (simp -implicitDefEqProofs [c66, Az, -getElem?_pos, h4, h9, e10, k4]) | (simp (disch := omega) only [AE]) | ((with_reducible refine AH 105 ?_); (refine' CallP.sf ?_ (h1) ?_); (focus first | (with_reducible exact A0 _) | (simp [AA, A8, A1, A0]; done))) | ((with_reducible refine AH 106 ?_); (refine' CallP.sf ?_ (h2) ?_); (focus first | (with_reducible exact A0 _) | (simp [AA, A8, A1, A0]; done))) | (with_reducible first | refine A5 ?_ ?_ ?_ | exact AB | refine SameB.upd ?_ ?_ _ | assumption | refine A2 ?_ | refine KM.of ?_ | refine AD ?_ | refine A3 ?_ | refine A6 ?_ | intro _g _hg | refine AC ?_ ?_ | intro _hc) | omega)
     all_goals exact A1 _
    ·rw [if_neg (by simp [k4])] at hM
     subst hM
     
     repeat' (first | (simp -implicitDefEqProofs [c66, Az, -getElem?_pos, h4, h9, e10, k4]) | (simp (disch := omega) only [AE]) | ((with_reducible refine AH 105 ?_); (refine' CallP.sf ?_ (h1) ?_); (focus first | (with_reducible exact A0 _) | (simp [AA, A8, A1, A0]; done))) | ((with_reducible refine AH 106 ?_); (refine' CallP.sf ?_ (h2) ?_); (focus first | (with_reducible exact A0 _) | (simp [AA, A8, A1, A0]; done))) | (with_reducible first | refine A5 ?_ ?_ ?_ | exact AB | refine SameB.upd ?_ ?_ _ | assumption | refine A2 ?_ | refine KM.of ?_ | refine AD ?_ | refine A3 ?_ | refine A6 ?_ | intro _g _hg | refine AC ?_ ?_ | intro _hc) | omega)
     exact fin8 _ _ hg (by simp [get, h4])
 clear fin8
 have fin10 : 1 ≤ k ∧ k ≤ 4 → ∀ g en, n ≤ g → get en 1 = aI pv → get en 4 = .ptr g 0 → get en 9 = aI k → aw Tryz.prog c66_k10 (Kt (aI (if ff = true then 6 else M)) n H c66.res) ⟨en, g + 1, upd H g (some (.cells 55 [aI k, .str t, .str nm, Ci pa, DE fs, .sl 7 eb .ro, .sl 7 ee .ro]))⟩ := by
  clear hz h1 h2 hM
  intro hk14 g en hg e1 h4 h9
  have hb : ff = (((((decide (k = 1) == decide (t = [])) || (decide (k = 1) && Bc pa)) || (decide (k ≠ 4) && decide (nm ≠ []))) || (decide (k ≠ 2) && Bc fs)) || (decide (k < 3) && (Bc eb || Bc ee)) || (decide (k = 1) && decide (pv = k))) := by
   rw [hF]
   unfold QW
   by_cases k1 : k = 1
   ·subst k1
    generalize decide (t = []) = x1
    generalize decide (nm ≠ []) = x2
    generalize Bc pa = x3
    generalize Bc fs = x4
    generalize Bc eb = x5
    generalize Bc ee = x6
    generalize decide (pv = 1) = x7
    revert x1 x2 x3 x4 x5 x6 x7
    decide
   ·simp only [k1, decide_false, Bool.false_and, Bool.or_false]
  refine WF k pv t nm pa fs eb ee g (g + 1) _ (AY _ _ _) en e1 h4 h9 _ ff hb (fun h e => ?_) (fun h e q1 q2 q3 => ?_)
  ·rw [if_pos h]
   exact ⟨⟨_, rfl, A1 _⟩, by simp only; omega, (SameB.rfl_ n H).upd hg _⟩
  ·rw [if_neg (by rw [h]; simp)]
   exact fin9 _ _ hg q1 q2 q3
 clear fin9
 have hin := Za k 1 4
 by_cases g1 : (200 : Int) ≤ i
 ·rw [if_pos (by omega)] at hz
  subst hz
  repeat' (first | (simp -implicitDefEqProofs [c66, Ap, -getElem?_pos, g1]) | (simp (disch := omega) only [AE]) | ((with_reducible refine AH 104 ?_); (refine' CallP.sf ?_ (hin) ?_); (focus first | (with_reducible exact A0 _) | (simp [AA, A8, A1, A0]; done))) | (with_reducible first | refine A5 ?_ ?_ ?_ | exact AB | refine SameB.upd ?_ ?_ _ | assumption | refine A2 ?_ | refine KM.of ?_ | refine AD ?_ | refine A3 ?_ | refine A6 ?_ | intro _g _hg | refine AC ?_ ?_ | intro _hc) | omega)
  all_goals exact A1 _
 ·rw [if_neg (by omega)] at hz
  by_cases g2 : (16 : Int) < d
  ·rw [if_pos (by omega)] at hz
   subst hz
   repeat' (first | (simp -implicitDefEqProofs [c66, Ap, -getElem?_pos, g1, g2]) | (simp (disch := omega) only [AE]) | ((with_reducible refine AH 104 ?_); (refine' CallP.sf ?_ (hin) ?_); (focus first | (with_reducible exact A0 _) | (simp [AA, A8, A1, A0]; done))) | (with_reducible first | refine A5 ?_ ?_ ?_ | exact AB | refine SameB.upd ?_ ?_ _ | assumption | refine A2 ?_ | refine KM.of ?_ | refine AD ?_ | refine A3 ?_ | refine A6 ?_ | intro _g _hg | refine AC ?_ ?_ | intro _hc) | omega)
   all_goals exact A1 _
  ·rw [if_neg (by omega)] at hz
   by_cases g3 : k < 1 ∨ 4 < k
   ·rw [if_pos g3] at hz
    subst hz
    have hib : (decide (1 ≤ k) && decide (k ≤ 4)) = false := by
     simp only [Bool.and_eq_false_iff, decide_eq_false_iff_not]; omega
    rw [hib] at hin
    repeat' (first | (simp -implicitDefEqProofs [c66, Ap, BI, -getElem?_pos, g1, g2]) | (simp (disch := omega) only [AE]) | ((with_reducible refine AH 104 ?_); (refine' CallP.sf ?_ (hin) ?_); (focus first | (with_reducible exact A0 _) | (simp [AA, A8, A1, A0]; done))) | (with_reducible first | refine A5 ?_ ?_ ?_ | exact AB | refine SameB.upd ?_ ?_ _ | assumption | refine A2 ?_ | refine KM.of ?_ | refine AD ?_ | refine A3 ?_ | refine A6 ?_ | intro _g _hg | refine AC ?_ ?_ | intro _hc) | omega)
    all_goals exact A1 _
   ·rw [if_neg g3] at hz
    have hib : (decide (1 ≤ k) && decide (k ≤ 4)) = true := by
     simp only [Bool.and_eq_true, decide_eq_true_eq]; omega
    rw [hib] at hin
    subst hz
    repeat' (first | (simp -implicitDefEqProofs [c66, Ap, BI, -getElem?_pos, g1, g2]) | (simp (disch := omega) only [AE]) | ((with_reducible refine AH 104 ?_); (refine' CallP.sf ?_ (hin) ?_); (focus first | (with_reducible exact A0 _) | (simp [AA, A8, A1, A0]; done))) | (with_reducible first | refine A5 ?_ ?_ ?_ | exact AB | refine SameB.upd ?_ ?_ _ | assumption | refine A2 ?_ | refine KM.of ?_ | refine AD ?_ | refine A3 ?_ | refine A6 ?_ | intro _g _hg | refine AC ?_ ?_ | intro _hc) | omega)
    exact fin10 (by omega) _ _ (by assumption) rfl rfl rfl
def VW (l : List Pt) (el : List AV) : Prop := ∀ (i d : Nat), i ≤ 200 → d ≤ 100 → APure Tryz.prog 32 [.sl 7 el .ro, aI i, aI d] (.tup [aI ((B6 0 i d l).1 : Nat), aI (B6 0 i d l).2])
theorem Ra (l : List Pt) (hl : l.length ≤ 2000000) (hs : F5 l) (hp : ∀ x ∈ l, VW x.b (AO x.b) ∧ VW x.e (AO x.e)) : VW l (AO l) := by
 intro i0 d hi0 hd
 have hel := BJ l
 obtain ⟨R, hR⟩ : ∃ R, B6 0 i0 d l = R := ⟨_, rfl⟩
 rw [hR]
 refine A9 Tryz.func32 Yw rfl fun n H hH => ?_
 repeat' (first | (simp -implicitDefEqProofs [c32, -getElem?_pos, hel]) | (simp (disch := omega) only [AE]) | (with_reducible first | refine A5 ?_ ?_ ?_ | exact AB | refine SameB.upd ?_ ?_ _ | assumption | refine A2 ?_ | refine KM.of ?_ | refine AD ?_ | intro _g _hg | refine AC ?_ ?_ | intro _hc) | omega)
 refine LoopK.go (fun m st => ∃ (i c : Nat), i + m = l.length ∧ st = ⟨[(0, Cv l), (1, aI c), (2, aI d), (8, aI (Qy l i)), (9, aI i)], n, H⟩ ∧ c ≤ 200 ∧ B6 (Qy l i) c d (l.drop i) = R) l.length ⟨0, i0, by omega, rfl, hi0, hR⟩ ?_
 rintro m st ⟨i, c, him, rfl, hc, hE⟩ J hJ
 clear hR
 by_cases hi : i < l.length
 ·obtain ⟨x, hx⟩ : ∃ x, l[i]? = some x := ⟨_, List.getElem?_eq_getElem hi⟩
  have hx2 := EL hx
  have hi' : (i : Int) < l.length := by omega
  have hks := Ql hx
  rw [drop_at hx] at hE
  have hsx := Dw hs (List.mem_of_getElem? hx)
  obtain ⟨cb, ce⟩ := hp x (List.mem_of_getElem? hx)
  obtain ⟨k, t, nm, pa, fs, b, e⟩ := x
  simp only [PG] at hsx
  obtain ⟨s1, s2, s3, s4, s5, s6, s7, s8, s9⟩ := hsx
  change VW b (AO b) at cb
  change VW e (AO e) at ce
  change Qy l (i + 1) = k at hks
  have hpf := YK (Qy l i) c d k t nm pa fs b e s4 s3 s2 s5 s6 s7
  rw [Bv] at hx2 hpf
  clear hx hp
  rw [B6, E1] at hE
  generalize AO b = eb at *
  generalize AO e = ee at *
  generalize Qy l i = pv at *
  by_cases hP : FI pv c d k t nm pa fs b e = 0
  ·have hcd : c < 200 ∧ d ≤ 16 := by
    unfold FI at hP
    by_cases h1 : 200 ≤ c
    ·rw [if_pos h1] at hP; cases hP
    ·by_cases h2 : 16 < d
     ·rw [if_neg h1, if_pos h2] at hP; cases hP
     ·omega
   obtain ⟨hc2, hd2⟩ := hcd
   simp only [hP, ne_eq, not_true, if_false] at hE
   rw [hP] at hpf
   have hB2 := Eb b 0 (c + 1) (d + 1) (by omega)
   have cb1 := cb (c + 1) (d + 1) (by omega) (by omega)
   generalize B6 0 (c + 1) (d + 1) b = B at *
   have hcc : ((c + 1 : Nat) : Int) = (c : Int) + 1 := by omega
   have hdd : ((d + 1 : Nat) : Int) = (d : Int) + 1 := by omega
   rw [hcc, hdd] at cb1
   by_cases hB0 : B.2 = 0
   ·have hB3 := hB2 hB0
    have hE2 := Eb e 0 B.1 (d + 1) (by omega)
    have ce1 := ce B.1 (d + 1) (by omega) (by omega)
    rw [hdd] at ce1
    rw [hB0] at cb1
    simp only [hB0, ne_eq, not_true, if_false] at hE
    generalize B6 0 B.1 (d + 1) e = E at *
    by_cases hE0 : E.2 = 0
    ·have hE3 := hE2 hE0
     simp only [hE0, ne_eq, not_true, if_false] at hE
     rw [hE0] at ce1
     
     repeat' (first | (simp -implicitDefEqProofs [G9, G3, Fc, Fy, G8, G0, G5, c32, -getElem?_pos, splice, hel, hx2, hi']) | (simp (disch := omega) only [AE]) | ((with_reducible refine AH 66 ?_); (refine' CallP.sf ?_ (hpf) ?_); (focus first | (with_reducible exact A0 _) | (simp [AA, A8, A1, A0]; done))) | ((with_reducible refine AH 32 ?_); (refine' CallP.sf ?_ (cb1) ?_); (focus first | (with_reducible exact A0 _) | (simp [AA, A8, A1, A0]; done))) | ((with_reducible refine AH 32 ?_); (refine' CallP.sf ?_ (ce1) ?_); (focus first | (with_reducible exact A0 _) | (simp [AA, A8, A1, A0]; done))) | (with_reducible first | refine A5 ?_ ?_ ?_ | exact AB | refine SameB.upd ?_ ?_ _ | assumption | refine A2 ?_ | refine KM.of ?_ | refine AD ?_ | intro _g _hg | refine AC ?_ ?_ | intro _hc) | omega)
     all_goals exact hJ (m - 1) _ (by omega) ⟨i + 1, E.1, by omega, by rw [hks]; rfl, by omega, by rw [hks]; exact hE⟩
    ·have eR : R = E := by rw [← hE, if_pos hE0]
     rw [eR]
     generalize E.2 = E2 at *
     clear hE eR hJ
     
     repeat' (first | (simp -implicitDefEqProofs [G9, G3, Fc, Fy, G8, G0, G5, c32, -getElem?_pos, splice, hel, hx2, hi', hE0]) | (simp (disch := omega) only [AE]) | ((with_reducible refine AH 66 ?_); (refine' CallP.sf ?_ (hpf) ?_); (focus first | (with_reducible exact A0 _) | (simp [AA, A8, A1, A0]; done))) | ((with_reducible refine AH 32 ?_); (refine' CallP.sf ?_ (cb1) ?_); (focus first | (with_reducible exact A0 _) | (simp [AA, A8, A1, A0]; done))) | ((with_reducible refine AH 32 ?_); (refine' CallP.sf ?_ (ce1) ?_); (focus first | (with_reducible exact A0 _) | (simp [AA, A8, A1, A0]; done))) | (with_reducible first | refine A5 ?_ ?_ ?_ | exact AB | refine SameB.upd ?_ ?_ _ | assumption | refine A2 ?_ | refine KM.of ?_ | refine AD ?_ | intro _g _hg | refine AC ?_ ?_ | intro _hc) | omega)
     all_goals exact A1 _
   ·have eR : R = B := by rw [← hE]; simp only [hB0, ne_eq, not_false_eq_true, if_true]
    rw [eR]
    clear hE eR hJ hB2 ce
    generalize B.2 = B2 at *
    
    repeat' (first | (simp -implicitDefEqProofs [G9, G3, Fc, Fy, G8, G0, G5, c32, -getElem?_pos, splice, hel, hx2, hi', hB0]) | (simp (disch := omega) only [AE]) | ((with_reducible refine AH 66 ?_); (refine' CallP.sf ?_ (hpf) ?_); (focus first | (with_reducible exact A0 _) | (simp [AA, A8, A1, A0]; done))) | ((with_reducible refine AH 32 ?_); (refine' CallP.sf ?_ (cb1) ?_); (focus first | (with_reducible exact A0 _) | (simp [AA, A8, A1, A0]; done))) | (with_reducible first | refine A5 ?_ ?_ ?_ | exact AB | refine SameB.upd ?_ ?_ _ | assumption | refine A2 ?_ | refine KM.of ?_ | refine AD ?_ | intro _g _hg | refine AC ?_ ?_ | intro _hc) | omega)
    all_goals exact A1 _
  ·have eR : R = (c, FI pv c d k t nm pa fs b e) := by
    rw [← hE, if_pos hP, if_pos (by exact hP)]
   rw [eR]
   clear hE eR hJ cb ce
   generalize FI pv c d k t nm pa fs b e = P at *
   
   repeat' (first | (simp -implicitDefEqProofs [G9, G3, Fc, Fy, G8, G0, G5, c32, -getElem?_pos, splice, hel, hx2, hi', hP]) | (simp (disch := omega) only [AE]) | ((with_reducible refine AH 66 ?_); (refine' CallP.sf ?_ (hpf) ?_); (focus first | (with_reducible exact A0 _) | (simp [AA, A8, A1, A0]; done))) | (with_reducible first | refine A5 ?_ ?_ ?_ | exact AB | refine SameB.upd ?_ ?_ _ | assumption | refine A2 ?_ | refine KM.of ?_ | refine AD ?_ | intro _g _hg | refine AC ?_ ?_ | intro _hc) | omega)
   all_goals exact A1 _
 ·have hi0 : i = l.length := by omega
  subst hi0
  have hi' : ¬ (l.length : Int) < l.length := by omega
  rw [List.drop_length, B6] at hE
  subst hE
  clear hJ hp
  
  repeat' (first | (simp -implicitDefEqProofs [G9, G3, Fc, Fy, G8, G0, G5, c32, -getElem?_pos, splice, hel, hi']) | (simp (disch := omega) only [AE]) | (with_reducible first | refine A5 ?_ ?_ ?_ | exact AB | refine SameB.upd ?_ ?_ _ | assumption | refine A2 ?_ | refine KM.of ?_ | refine AD ?_ | intro _g _hg | refine AC ?_ ?_ | intro _hc) | omega)
  all_goals exact A1 _
theorem Zi (p : Pt) : PG p → VW p.b (AO p.b) ∧ VW p.e (AO p.e) := by
 refine Pt.ind (Q := fun p => PG p → VW p.b (AO p.b) ∧ VW p.e (AO p.e)) ?_ p
 intro k t nm pa fs b e hb he h
 simp only [PG] at h
 obtain ⟨_, _, _, _, _, h6, h7, h8, h9⟩ := h
 exact ⟨Ra b h6 h8 fun x hx => hb x hx (Dw h8 hx), Ra e h7 h9 fun x hx => he x hx (Dw h9 hx)⟩
theorem Zh (l : List Pt) (hl : l.length ≤ 2000000) (hs : F5 l) : VW l (AO l) := Ra l hl hs fun x hx => Zi x (Dw hs hx)
theorem X8 (c : UInt8) (m : Nat) (hm : m < 256) : c = UInt8.ofNat m ↔ (c.toNat : Int) = m := by
 constructor
 ·rintro rfl; simp; omega
 ·intro h; apply UInt8.toNat_inj.1; simp; omega
theorem Uj (g n n0 : Nat) (H : A4) (k : Int) (t nm : AP) (vp vf vb ve : AV) (hg : H g = some (.cells 55 [aI k, .str t, .str nm, vp, vf, vb, ve])) (ht : t.length ≤ 1048576) (acc : AP) (hacc : acc.length ≤ 950000000) (v0 v4 : AV) (Q : AExit → AS → Prop)
  (hQ : Q (.exit 2) ⟨[(0, v0), (3, .str (acc ++ DN t)), (4, v4), (5, .ptr g 0), (7, aI t.length), (29, .bool false)], n, H⟩) :
  LoopK (fun Q s => aw Tryz.prog c15_L15 Q s) Q ⟨[(0, v0), (3, .str acc), (4, v4), (5, .ptr g 0), (7, aI 0)], n, H⟩ := by
 
 refine LoopK.go (fun m st => ∃ (j : Nat) (dn : AP), j + m = t.length ∧ st = ⟨[(0, v0), (3, .str (acc ++ dn)), (4, v4), (5, .ptr g 0), (7, aI j)], n, H⟩ ∧ DN t = dn ++ DN (t.drop j) ∧ dn.length ≤ 4 * j) t.length ⟨0, [], by omega, by simp, by simp, by simp⟩ ?_
 rintro m st ⟨j, dn, hjm, rfl, hE, hdn⟩ J hJ
 by_cases hj : j < t.length
 ·obtain ⟨a, ha⟩ : ∃ a, t[j]? = some a := ⟨_, List.getElem?_eq_getElem hj⟩
  have hj' : (j : Int) < t.length := by omega
  have hda := drop_at ha
  rw [hda] at hE
  have hcut : List.drop j (List.take (j + 1) t) = [a] := by
   rw [List.take_add_one, ha, List.drop_append_of_le_length (by simp; omega), List.drop_of_length_le (by simp; omega)]; rfl
  have hal : acc.length + dn.length ≤ 960000000 := by omega
  have hal2 : (acc ++ dn).length = acc.length + dn.length := by simp
  have hk1 : ((j + 1 : Nat) : Int) = (j : Int) + 1 := by omega
  have ht1 : ((j : Int) + 1).toNat = j + 1 := by omega
  by_cases hj1 : j + 1 < t.length
  ·obtain ⟨b, hb⟩ : ∃ b, t[j + 1]? = some b := ⟨_, List.getElem?_eq_getElem hj1⟩
   have hj1' : (j : Int) + 1 < t.length := by omega
   have hj1'' : (j : Int) + 1 ≤ t.length := by omega
   rw [drop_at hb] at hE
   rw [DN] at hE
   by_cases hop : a = 60 ∧ b = 37
   ·rw [if_pos hop] at hE
    obtain ⟨rfl, rfl⟩ := hop
    repeat' (first | (simp -implicitDefEqProofs [B9, B8, BA, B5, BC, B4, BB, BD, B7, Ah, Ae, Af, Ai, Al, Am, Ak, Aj, Ag, c15, -getElem?_pos, hg, ha, hb, hj', hj1', ht1]) | (simp (disch := omega) only [AE]) | (with_reducible first | refine A5 ?_ ?_ ?_ | exact AB | refine SameB.upd ?_ ?_ _ | assumption | refine A2 ?_ | refine KM.of ?_ | refine AD ?_ | refine A3 ?_ | refine A6 ?_ | intro _g _hg | refine AC ?_ ?_ | intro _hc) | omega)
    all_goals exact hJ (m - 2) _ (by omega) ⟨j + 2, dn ++ Lt, by omega, by simp [Lt]; omega, by rw [hE]; simp, by simp [Lt]; omega⟩
   ·rw [if_neg hop, ← drop_at hb] at hE
    by_cases ha60 : a = 60
    ·have hb37 : ¬ b = 37 := fun h => hop ⟨ha60, h⟩
     have hb37' : ¬ (b.toNat : Int) = 37 := fun h => hb37 ((X8 b 37 (by omega)).2 h)
     subst ha60
     repeat' (first | (simp -implicitDefEqProofs [B9, B8, BA, B5, BC, B4, BB, BD, B7, Ah, Ae, Af, Ai, Al, Am, Ak, Aj, Ag, c15, -getElem?_pos, hg, ha, hb, hj', hj1', hj1'', ht1, hb37, hb37', hcut]) | (simp (disch := omega) only [AE]) | (with_reducible first | refine A5 ?_ ?_ ?_ | exact AB | refine SameB.upd ?_ ?_ _ | assumption | refine A2 ?_ | refine KM.of ?_ | refine AD ?_ | refine A3 ?_ | refine A6 ?_ | intro _g _hg | refine AC ?_ ?_ | intro _hc) | omega)
     all_goals exact hJ (m - 1) _ (by omega) ⟨j + 1, dn ++ [60], by omega, by simp, by rw [hE]; simp, by simp; omega⟩
    ·have ha60' : ¬ (a.toNat : Int) = 60 := fun h => ha60 ((X8 a 60 (by omega)).2 h)
     repeat' (first | (simp -implicitDefEqProofs [B9, B8, BA, B5, BC, B4, BB, BD, B7, Ah, Ae, Af, Ai, Al, Am, Ak, Aj, Ag, c15, -getElem?_pos, hg, ha, hb, hj', hj1', hj1'', ht1, ha60, ha60', hcut]) | (simp (disch := omega) only [AE]) | (with_reducible first | refine A5 ?_ ?_ ?_ | exact AB | refine SameB.upd ?_ ?_ _ | assumption | refine A2 ?_ | refine KM.of ?_ | refine AD ?_ | refine A3 ?_ | refine A6 ?_ | intro _g _hg | refine AC ?_ ?_ | intro _hc) | omega)
     all_goals exact hJ (m - 1) _ (by omega) ⟨j + 1, dn ++ [a], by omega, by simp, by rw [hE]; simp, by simp; omega⟩
  ·have hj1' : ¬ (j : Int) + 1 < t.length := by omega
   have hj1'' : (j : Int) + 1 ≤ t.length := by omega
   rw [List.drop_of_length_le (by omega)] at hE
   have e2 : DN [a] = [a] := by simp [DN]
   rw [e2] at hE
   have hno : t[j + 1]? = none := List.getElem?_eq_none (by omega)
   repeat' (first | (simp -implicitDefEqProofs [B9, B8, BA, B5, BC, B4, BB, BD, B7, Ah, Ae, Af, Ai, Al, Am, Ak, Aj, Ag, c15, -getElem?_pos, hg, ha, hno, hj', hj1', hj1'', ht1, hcut]) | (simp (disch := omega) only [AE]) | (with_reducible first | refine A5 ?_ ?_ ?_ | exact AB | refine SameB.upd ?_ ?_ _ | assumption | refine A2 ?_ | refine KM.of ?_ | refine AD ?_ | refine A3 ?_ | refine A6 ?_ | intro _g _hg | refine AC ?_ ?_ | intro _hc) | omega)
   all_goals exact hJ (m - 1) _ (by omega) ⟨j + 1, dn ++ [a], by omega, by simp, by rw [hE, List.drop_of_length_le (by omega)]; simp [DN], by simp; omega⟩
 ·have hj0 : j = t.length := by omega
  subst hj0
  have hj' : ¬ (t.length : Int) < t.length := by omega
  have e0 : DN t = dn := by rw [hE]; simp [DN]
  rw [e0] at hQ
  clear hE
  repeat' (first | (simp -implicitDefEqProofs [B9, B8, BA, B5, BC, B4, BB, BD, B7, Ah, Ae, Af, Ai, Al, Am, Ak, Aj, Ag, c15, -getElem?_pos, hg, hj', hQ]) | (simp (disch := omega) only [AE]) | (with_reducible first | refine A5 ?_ ?_ ?_ | exact AB | refine SameB.upd ?_ ?_ _ | assumption | refine A2 ?_ | refine KM.of ?_ | refine AD ?_ | refine A3 ?_ | refine A6 ?_ | intro _g _hg | refine AC ?_ ?_ | intro _hc) | omega)
  all_goals exact hQ
end Go.Proofs.YtnfjgphfaemjcaaGreatDoor

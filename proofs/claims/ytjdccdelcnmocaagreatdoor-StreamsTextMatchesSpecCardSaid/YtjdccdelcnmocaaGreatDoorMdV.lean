/- Streams: the text of a stream, as the reference writes it, walked; no condition. -/
import Derived.Test.YtjdccdelcnmocaaGreatDoorMdU
import Derived.Test.YtjdccdelcnmocaaGreatDoorMdS
import Derived.Test.YtjdccdelcnmocaaGreatDoorMgJ
import Derived.Test.YtjdccdelcnmocaaGreatDoorMdL
import Derived.WalkKit
import Derived.ProofKit
import Derived.OpenShut
import Derived.LaidLaws
import Derived.Deep.DeepHandedRow
import Derived.Deep.DeepWitnessRowRef
import Derived.Lib.LaidTab
import Derived.Lib.LaidU8
import Derived.MakeChecks
import Derived.Lay
set_option linter.all false
set_option linter.unusedSimpArgs false
set_option linter.unusedVariables false
set_option maxHeartbeats 4000000
namespace Go.Proofs.YtjdccdelcnmocaaGreatDoor
structure TxF (n n0 n1 : Nat) (H H1 : A2) (g1 : Nat) (k o m : Int) (v : List Int) (p : List St) : Prop where
 h1 : H1 g1 = some (AY k o m (OO v) (.sl 5 (Ac p) .ro))
 sup : ∀ g, n1 ≤ g → H1 g = none
 same : SameB n H H1
 le : n ≤ g1 ∧ g1 < n0 ∧ n0 ≤ n1
theorem TxF.to {n n0 n1 n2 : Nat} {H H1 H2 : A2} {g1 : Nat} {k o m : Int} {v : List Int} {p : List St} (h : TxF n n0 n1 H H1 g1 k o m v p) (hn : n1 ≤ n2) (hs : ∀ g, n2 ≤ g → H2 g = none) (hf : ∀ g, g < n0 → H2 g = H1 g) : TxF n n0 n2 H H2 g1 k o m v p := by
 obtain ⟨a1, a2, a3, a4⟩ := h
 exact ⟨by rw [hf g1 a4.2.1]; exact a1, hs, fun g hg => by rw [hf g (by omega)]; exact a3 g hg, by omega⟩
theorem U7 {α β : Type} (f : α → β) {l : List α} {i : Nat} {y : α} (h : l[i]? = some y) : (l.take (i + 1)).map f = (l.take i).map f ++ [f y] := by rw [List.take_add_one, h]; simp
attribute [local simp] Nr F6 Ej Lh Ke MA LY F0 Eg HW HP NA KJ Mo MQ Ml MY LL L9 N3 KY MH MN Nf Nu T7 pe Ki LQ Kx Ng Kw LB Lq Nv LZ NX Nn LI LF FP Mq Ku Mb Kp N6 MX KD Mg Mh M7 Kg Kl KZ NM LC Lc K9 LN NY NC N7 FB M6 Ei Lt N5 Nc Mx N9 KQ LJ Nt KX NQ MM NU MS L4 Nq MW Lx LE Md LD Mt L3 Ka NO Kf Eu NG Mr MD Lv LR NS NL Mv KO Kb KA NI Ma KH Lr KF N1 Mw LW NK M1 Mp LH Mj L8 LX MR MG Nh N2 LG NN List.mem_cons guardK Df Fh GG HG LO Ek EW FD FE Ep Eb F1 EY FM Mz Me Ew KT KP Nm Mn NF Kz Em Mf Ni N8 Ns KK Kj H8 Ef F8 Ex Ev M5 LU En Ms FI M3 F2 Ey MU Er FJ NP MP Lw LP L1 LT N0 Lm T8 Ji Jj ID Jk Jo Jd EL Gi Ge Ky Gm Gc EK Dd UH JV Jg GZ K4 K2 EI EJ Bv Bb Ck DF AI ev get put I1 AO Dv Lu Ko Lo MZ Nk KI FU part Bo I4 Lf I7 isNil D9 DC FT DW Cu L0 ME My MJ LV K0 MK Km KG Na KN NV Ld NZ MC K8 AV.fits AV.cells ones AV.one FZ D6 FV EV Gp Ff M4 Hg HJ D8 Bm CA EZ Hz AK Bl Vy HI MO M9 List.getElem?_cons_zero List.getElem?_cons_succ El EX FC Nb Lj Mc IJ L6 LM Kv Lp Mk L5 N4 MV KL Kt M2
theorem A2a (k o m : Int) (v : List Int) (p : List St) (h1 : 1 ≤ k) (h2 : k ≤ 16) (hrec : ∀ s ∈ p, APure Tryz.prog 24 [encS s] (.str (Ax s))) (n : Nat) (H : A2) (ws : List Ad) (hwl : ws.length ≤ 10000) (hpl0 : p.length ≤ 100) (hjl : (Lib.join (ws ++ Ai p) [44]).length ≤ 900000000) (g1 n0 n1 : Nat) (H1 : A2) (w : AV) (e : AW) (hT : TxF n n0 n1 H H1 g1 k o m v p) (hB : StrB n0 n1 H1 w ws) (e1 : get e 1 = .ptr g1 0) (e3 : get e 3 = w) :
  aw Tryz.prog c24_k5 (OG (.str ((Al k).w ++ [40] ++ Lib.join (ws ++ Ai p) [44] ++ [41])) n H c24.res) ⟨e, n1, H1⟩ := by
 have hpl := BJ p
 have hkw := Ti k h1 h2
 have hkl := (Ir h1 h2).2.2
 have hq1 := hT.h1
 
 repeat' (first | (simp -implicitDefEqProofs [WC, -getElem?_pos, e1, e3]) | (simp (disch := omega) only [AB]) | (with_reducible first | refine A5 ?_ ?_ ?_ | exact A7 | assumption | refine A0 ?_ | refine KM.of ?_ | refine AA ?_ | refine A1 ?_ | refine AF ?_ | refine A3 ?_ | refine AG ?_ | refine AE ?_ | intro _g _hg | refine A9 ?_ ?_ | intro _hc) | omega)
 refine LoopK.go (fun q st => ∃ (j n' : Nat) (H' : A2) (w : AV), j + q = p.length ∧ st = ⟨[(1, .ptr g1 0), (3, w), (5, aI j)], n', H'⟩ ∧ TxF n n0 n' H H' g1 k o m v p ∧ StrB n0 n' H' w (ws ++ (Ai p).take j)) p.length ⟨0, _, _, _, by omega, rfl, hT, by simpa using hB⟩ ?_
 clear hT hB e1 e3 e hq1 w n1 H1
 rintro q st ⟨j, n1, H1, w, hq, rfl, hT, hB⟩ J hJ
 have hq1 := hT.h1
 by_cases hj : j < p.length
 ·obtain ⟨s, hs⟩ : ∃ s, p[j]? = some s := ⟨_, List.getElem?_eq_getElem hj⟩
  have hr := hrec s (List.mem_of_getElem? hs)
  have hse := EN hs
  have hj' : (j : Int) < p.length := by omega
  have htk := S3 hs
  have hlj : (ws ++ (Ai p).take j).length ≤ 1000000 := by simp [DO]; omega
  have hsup := hT.sup
  have hle := hT.le
  obtain ⟨k', o', m', v', p'⟩ := s
  rw [AP] at hr hse
  generalize Ax (.mk k' o' m' v' p') = ts at hr htk
  repeat' (first | (simp -implicitDefEqProofs [QM, Vf, VK, -getElem?_pos, hq1, hse, hj', hpl]) | (simp (disch := omega) only [AB]) | (refine SM (l := ws ++ (Ai p).take j) (n0 := n0) (hB.alloc (by omega) _) (by omega) (fun k hk => by rw [upd_ne (by omega)]; exact hsup k (by omega)) hlj (fun w' n' H' a1 a2 a3 a4 a5 => ?_)) | ((with_reducible refine AN 24 ?_); refine' AQ (hr) ?_) | (with_reducible first | refine A5 ?_ ?_ ?_ | exact A7 | assumption | refine A0 ?_ | refine KM.of ?_ | refine AA ?_ | refine A1 ?_ | refine AF ?_ | refine A3 ?_ | refine AG ?_ | refine AE ?_ | intro _g _hg | refine A9 ?_ ?_ | intro _hc) | omega)
  exact hJ (q - 1) _ (by omega) ⟨j + 1, _, _, _, by omega, rfl, hT.to (by omega) a3 (fun g hg => by rw [a4 g hg, upd_ne (by omega)]), by rw [htk, ← List.append_assoc]; exact a2⟩
 ·have hje : j = p.length := by omega
  have hj' : ¬ (j : Int) < p.length := by omega
  have hall : (Ai p).take j = Ai p := List.take_of_length_le (by rw [DO]; omega)
  rw [hall] at hB
  have hjo := A0a hB [44] (by simp [DO]; omega) (by decide) (by omega)
  have hsa := hT.same
  have hle := hT.le
  generalize Lib.join (ws ++ Ai p) [44] = jj at *
  generalize (Al k).w = kw at *
  have a1 : ¬ (9223372036854775807 : Int) < (kw.length : Int) + 1 := by omega
  have a2 : ¬ (9223372036854775807 : Int) < (kw.length : Int) + 1 + jj.length := by omega
  have a3 : ¬ (9223372036854775807 : Int) < (kw.length : Int) + 1 + jj.length + 1 := by omega
  have a4 : ¬ (9223372036854775807 : Int) < (kw.length : Int) + (1 + jj.length) := by omega
  have a5 : ¬ (9223372036854775807 : Int) < (kw.length : Int) + (1 + (jj.length + 1)) := by omega
  have a6 : ¬ (9223372036854775807 : Int) < (kw.length : Int) + (jj.length + 1) + 1 := by omega
  repeat' (first | (simp -implicitDefEqProofs [QM, W1, c24, -getElem?_pos, hq1, hj', hpl, a1, a2, a3, a4, a5, a6]) | (simp (disch := omega) only [AB]) | ((with_reducible refine Ae 60 ?_); refine CallK.ofAt hjo (A4 _) ?_) | ((with_reducible refine AN 59 ?_); refine' AQ (hkw) ?_) | (with_reducible first | refine A5 ?_ ?_ ?_ | exact A7 | assumption | refine A0 ?_ | refine KM.of ?_ | refine AA ?_ | refine A1 ?_ | refine AF ?_ | refine A3 ?_ | refine AG ?_ | refine AE ?_ | intro _g _hg | refine A9 ?_ ?_ | intro _hc) | omega)
  all_goals first | exact A6 _ | omega
theorem A1j (k o m : Int) (v : List Int) (p : List St) (h1 : 1 ≤ k) (h2 : k ≤ 16) (hv : ∀ y ∈ v, 0 ≤ y ∧ y ≤ 10000) (hvl0 : v.length ≤ 5000) (hrec : ∀ s ∈ p, APure Tryz.prog 24 [encS s] (.str (Ax s))) (n : Nat) (H : A2) (ws : List Ad) (hwl : ws.length ≤ 10) (hpl0 : p.length ≤ 100) (hjl : (Lib.join (ws ++ v.map Lib.itoa ++ Ai p) [44]).length ≤ 900000000) (g1 n0 n1 : Nat) (H1 : A2) (w : AV) (e : AW) (hT : TxF n n0 n1 H H1 g1 k o m v p) (hB : StrB n0 n1 H1 w ws) (e1 : get e 1 = .ptr g1 0) (e3 : get e 3 = w) :
  aw Tryz.prog c24_k9 (OG (.str ((Al k).w ++ [40] ++ Lib.join (ws ++ v.map Lib.itoa ++ Ai p) [44] ++ [41])) n H c24.res) ⟨e, n1, H1⟩ := by
 have hvl : (v.map aI).length = v.length := by simp
 have hq1 := hT.h1
 have hk5 := A2a k o m v p h1 h2 hrec n H (ws ++ v.map Lib.itoa) (by simp; omega) hpl0 hjl g1 n0
 generalize (Al k).w ++ [40] ++ Lib.join (ws ++ v.map Lib.itoa ++ Ai p) [44] ++ [41] = R0 at *
 
 repeat' (first | (simp -implicitDefEqProofs [VS, -getElem?_pos, e1, e3]) | (simp (disch := omega) only [AB]) | (with_reducible first | refine A5 ?_ ?_ ?_ | exact A7 | assumption | refine A0 ?_ | refine KM.of ?_ | refine AA ?_ | refine A1 ?_ | refine AF ?_ | refine A3 ?_ | refine AG ?_ | refine AE ?_ | intro _g _hg | refine A9 ?_ ?_ | intro _hc) | omega)
 refine LoopK.go (fun q st => ∃ (j n' : Nat) (H' : A2) (w : AV), j + q = v.length ∧ st = ⟨[(1, .ptr g1 0), (3, w), (4, aI j)], n', H'⟩ ∧ TxF n n0 n' H H' g1 k o m v p ∧ StrB n0 n' H' w (ws ++ (v.take j).map Lib.itoa)) v.length ⟨0, _, _, _, by omega, rfl, hT, by simpa using hB⟩ ?_
 clear hT hB e1 e3 e hq1 w n1 H1
 rintro q st ⟨j, n1, H1, w, hq, rfl, hT, hB⟩ J hJ
 have hq1 := hT.h1
 by_cases hj : j < v.length
 ·obtain ⟨y, hy⟩ : ∃ s, v[j]? = some s := ⟨_, List.getElem?_eq_getElem hj⟩
  have hyb := hv y (List.mem_of_getElem? hy)
  have hd := Qg y (by omega)
  have hye : (v.map aI)[j]? = some (aI y) := by rw [List.getElem?_map, hy]; rfl
  have hj' : (j : Int) < v.length := by omega
  have htk := U7 Lib.itoa hy
  have hlj : (ws ++ (v.take j).map Lib.itoa).length ≤ 1000000 := by simp; omega
  have hsup := hT.sup
  have hle := hT.le
  unfold OO at hq1
  clear hk5
  generalize v.map aI = va at hq1 hye hvl
  generalize Lib.itoa y = ts at *
  repeat' (first | (simp -implicitDefEqProofs [QF, Vn, Vs, -getElem?_pos, hq1, hye, hj', hvl]) | (simp (disch := omega) only [AB]) | (refine SM (l := ws ++ (v.take j).map Lib.itoa) (n0 := n0) (hB.alloc (by omega) _) (by omega) (fun k hk => by rw [upd_ne (by omega)]; exact hsup k (by omega)) hlj (fun w' n' H' a1 a2 a3 a4 a5 => ?_)) | ((with_reducible refine AN 57 ?_); refine' AQ (hd) ?_) | (with_reducible first | refine A5 ?_ ?_ ?_ | exact A7 | assumption | refine A0 ?_ | refine KM.of ?_ | refine AA ?_ | refine A1 ?_ | refine AF ?_ | refine A3 ?_ | refine AG ?_ | refine AE ?_ | intro _g _hg | refine A9 ?_ ?_ | intro _hc) | omega)
  exact hJ (q - 1) _ (by omega) ⟨j + 1, _, _, _, by omega, rfl, hT.to (by omega) a3 (fun g hg => by rw [a4 g hg, upd_ne (by omega)]), by rw [htk, ← List.append_assoc]; exact a2⟩
 ·have hje : j = v.length := by omega
  have hj' : ¬ (j : Int) < v.length := by omega
  rw [List.take_of_length_le (by omega)] at hB
  repeat' (first | (simp -implicitDefEqProofs [QF, -getElem?_pos, hq1, hj', hvl]) | (simp (disch := omega) only [AB]) | (with_reducible first | refine A5 ?_ ?_ ?_ | exact A7 | assumption | refine A0 ?_ | refine KM.of ?_ | refine AA ?_ | refine A1 ?_ | refine AF ?_ | refine A3 ?_ | refine AG ?_ | refine AE ?_ | intro _g _hg | refine A9 ?_ ?_ | intro _hc) | omega)
  exact hk5 _ _ _ _ hT hB rfl rfl
def JP (k o m : Int) (x : Shq) : List Ad := if x.fn = true ∨ x.cd = true then (if k = 15 then [OP x o] else [OP x o ++ [32] ++ Lib.itoa m]) else if 0 < x.n1 then [Lib.itoa m] else []
theorem RU (s : St) : AllC s → APure Tryz.prog 24 [encS s] (.str (Ax s)) := by
 refine St.ind (Q := fun s => AllC s → APure Tryz.prog 24 [encS s] (.str (Ax s))) ?_ s
 intro k o m v p ih ⟨hfit, hok, hsm, hsz⟩
 have T := RA hok hsm
 have F := Uz T.k1 T.k2
 have N := Fa hok.1
 obtain ⟨_, hx⟩ := NT T.k1 T.k2
 have hszp : CU p + 1 ≤ 60 := hsz
 have hrec : ∀ s ∈ p, APure Tryz.prog 24 [encS s] (.str (Ax s)) := fun s hs => ih s hs ⟨Cw hfit.2.2 s hs, FQ hok.2 s hs, IY hsm.2 s hs, by have := EG s hs; omega⟩
 have htl := SA (.mk k o m v p) hok hsm
 have hpn := EM p
 -- the words ahead of the values
 have hw : BI k o m v (Al k) = JP k o m (Al k) ++ v.map Lib.itoa := by
  have hS := Wz _ hok hsm
  obtain ⟨hN, _⟩ := hS
  unfold JP
  by_cases ho : (Al k).fn = true ∨ (Al k).cd = true
  ·obtain ⟨j, _, hj⟩ := YB hN rfl ho
   have hlow := VD _ _ (List.mem_of_getElem? hj)
   have hv0 : v = [] := hN.nv (by
    cases e : (Al k).vs with
    | false => rfl
    | true =>
     obtain ⟨b1, b2, _⟩ := hx.v1 e
     rcases ho with h | h
     ·rw [b1] at h; cases h
     ·rw [b2] at h; cases h)
   rw [SQ hlow.2, if_pos ho, hv0]
   split <;> simp
  ·have e1 : (Al k).fn = false := by cases e : (Al k).fn <;> simp_all
   have e2 : (Al k).cd = false := by cases e : (Al k).cd <;> simp_all
   rw [PS hx e1 e2, if_neg ho]
   by_cases hn : 0 < (Al k).n1
   ·have hv0 : v = [] := hN.nv (by
     cases e : (Al k).vs with
     | false => rfl
     | true => obtain ⟨_, _, b3, _⟩ := hx.v1 e; omega)
    rw [if_pos hn, if_pos hn, hv0]; simp
   ·rw [if_neg hn, if_neg hn]; simp
 have hjl : (Lib.join (JP k o m (Al k) ++ v.map Lib.itoa ++ Ai p) [44]).length ≤ 900000000 := by
  rw [← hw]
  simp only [Ax, List.length_append] at htl; omega
 rw [Ax, hw, AP]
 have hw4 : (JP k o m (Al k)).length ≤ 10 := by unfold JP; (repeat' split) <;> simp
 have hk9 := fun (n : Nat) (H : A2) => A1j k o m v p T.k1 T.k2 T.vb T.vl hrec n H (JP k o m (Al k)) hw4 (by omega) hjl
 have hfn := IE k
 have hcd := HD k
 have hct := Ha k
 have hdm := Qg m (by have := T.mb; omega)
 have hml := Lib.itoa_length_le m (by have := T.mb; omega) (by have := T.mb; omega)
 generalize (Al k).w ++ [40] ++ Lib.join (JP k o m (Al k) ++ v.map Lib.itoa ++ Ai p) [44] ++ [41] = R0 at *
 rw [F.fn] at hfn
 rw [F.cd] at hcd
 rw [F.ct] at hct
 
 cases e1 : (Al k).fn with
 | true =>
  have ho := T.fn e1
  have hfw := Ow o ho.1 ho.2
  have e2 := hx.fc e1
  rw [e1] at hfn
  rw [e2] at hcd
  rw [decide_eq_false (by rw [e1]; simp)] at hct
  have e4 : JP k o m (Al k) = if k = 15 then [fnW.getD (o - 1).toNat []] else [fnW.getD (o - 1).toNat [] ++ [32] ++ Lib.itoa m] := by
   unfold JP OP
   rw [if_pos (.inl e1), if_pos e1]
  rw [e4] at hk9
  have hopl : (fnW.getD (o - 1).toNat []).length ≤ 9 := by
   rcases (by omega : o = 1 ∨ o = 2 ∨ o = 3 ∨ o = 4 ∨ o = 5 ∨ o = 6) with rfl | rfl | rfl | rfl | rfl | rfl <;> decide
  generalize fnW.getD (o - 1).toNat [] = fw at *
  have hfl : fw.length ≤ 9 := hopl
  have a1 : ¬ (9223372036854775807 : Int) < (fw.length : Int) + 1 := by omega
  have a2 : ¬ (9223372036854775807 : Int) < (fw.length : Int) + 1 + (Lib.itoa m).length := by omega
  have a3 : ¬ (9223372036854775807 : Int) < (fw.length : Int) + (1 + (Lib.itoa m).length) := by omega
  generalize Lib.itoa m = im at *
  refine AD Tryz.func24 V0 rfl fun n H hH => ?_
  have hk9 := hk9 n H
  by_cases h15 : k = 15
  ·rw [if_pos h15] at hk9
   subst h15
   repeat' (first | (simp -implicitDefEqProofs [c24, GO, GA, GH, -getElem?_pos]) | (simp (disch := omega) only [AB]) | (refine DS (.inl rfl) (A4 _) (by simp) (by simp) (by simp [maxLen]) (fun _g _hg => ?_)) | ((with_reducible refine AN 53 ?_); refine' AQ (hfn) ?_) | ((with_reducible refine AN 55 ?_); refine' AQ (hcd) ?_) | ((with_reducible refine AN 58 ?_); refine' AQ (hct) ?_) | ((with_reducible refine AN 54 ?_); refine' AQ (hfw) ?_) | ((with_reducible refine AN 57 ?_); refine' AQ (hdm) ?_) | (with_reducible first | refine A5 ?_ ?_ ?_ | exact A7 | assumption | refine A0 ?_ | refine KM.of ?_ | refine AA ?_ | refine A1 ?_ | refine AF ?_ | refine A3 ?_ | refine AG ?_ | refine AE ?_ | intro _g _hg | refine A9 ?_ ?_ | intro _hc) | omega)
   rename_i g1 hg1 g2 hg2
   exact hk9 g1 (g1 + 1) _ _ _ _ ⟨by simp (disch := omega) only [upd_ne, AK], fun g hg => by simp (disch := omega) only [upd_ne]; exact hH g (by omega), fun g hg => by simp (disch := omega) only [upd_ne], by omega⟩ (.inr ⟨_g, by omega, by omega, rfl, by rw [AK]; simp [splice, AX, AV.cells]⟩) rfl rfl
  ·rw [if_neg h15] at hk9
   have h15' : (k == 15) = false := by simpa using h15
   repeat' (first | (simp -implicitDefEqProofs [c24, GO, GA, GH, -getElem?_pos, h15, h15', a1, a2, a3]) | (simp (disch := omega) only [AB]) | (refine DS (.inl rfl) (A4 _) (by simp) (by simp) (by simp [maxLen]) (fun _g _hg => ?_)) | ((with_reducible refine AN 53 ?_); refine' AQ (hfn) ?_) | ((with_reducible refine AN 55 ?_); refine' AQ (hcd) ?_) | ((with_reducible refine AN 58 ?_); refine' AQ (hct) ?_) | ((with_reducible refine AN 54 ?_); refine' AQ (hfw) ?_) | ((with_reducible refine AN 57 ?_); refine' AQ (hdm) ?_) | (with_reducible first | refine A5 ?_ ?_ ?_ | exact A7 | assumption | refine A0 ?_ | refine KM.of ?_ | refine AA ?_ | refine A1 ?_ | refine AF ?_ | refine A3 ?_ | refine AG ?_ | refine AE ?_ | intro _g _hg | refine A9 ?_ ?_ | intro _hc) | omega)
   rename_i g1 hg1 g2 hg2
   exact hk9 g1 (g1 + 1) _ _ _ _ ⟨by simp (disch := omega) only [upd_ne, AK], fun g hg => by simp (disch := omega) only [upd_ne]; exact hH g (by omega), fun g hg => by simp (disch := omega) only [upd_ne], by omega⟩ (.inr ⟨_g, by omega, by omega, rfl, by rw [AK]; simp [splice, AX, AV.cells]⟩) rfl rfl
 | false =>
  have h15 : k ≠ 15 := fun h => by rw [hx.zip h] at e1; cases e1
  have h15' : (k == 15) = false := by simpa using h15
  rw [e1] at hfn
  cases e2 : (Al k).cd with
  | true =>
   have ho := T.cd e1 e2
   have hfw := OJ o ho.1 ho.2
   rw [e2] at hcd
   have hn1 : ¬ (0 < (Al k).n1 ∧ (Al k).fn = false) := by
    rintro ⟨h, _⟩
    have h1 := F.cd
    have h2 := F.ct
    rw [e2] at h1
    rw [decide_eq_true ⟨h, e1⟩] at h2
    unfold Cz at h1; unfold Iv at h2
    simp only [Bool.or_eq_true, decide_eq_true_eq] at h1 h2
    omega
   rw [decide_eq_false hn1] at hct
   have e4 : JP k o m (Al k) = [cdW.getD (o - 1).toNat [] ++ [32] ++ Lib.itoa m] := by
    unfold JP OP
    rw [if_pos (.inr e2), if_neg h15, e1, if_neg (by decide), if_pos e2]
   rw [e4] at hk9
   have hopl : (cdW.getD (o - 1).toNat []).length ≤ 9 := by
    rcases (by omega : o = 1 ∨ o = 2 ∨ o = 3) with rfl | rfl | rfl <;> decide
   generalize cdW.getD (o - 1).toNat [] = fw at *
   have a1 : ¬ (9223372036854775807 : Int) < (fw.length : Int) + 1 := by omega
   have a2 : ¬ (9223372036854775807 : Int) < (fw.length : Int) + 1 + (Lib.itoa m).length := by omega
   have a3 : ¬ (9223372036854775807 : Int) < (fw.length : Int) + (1 + (Lib.itoa m).length) := by omega
   generalize Lib.itoa m = im at *
   refine AD Tryz.func24 V0 rfl fun n H hH => ?_
   have hk9 := hk9 n H
   repeat' (first | (simp -implicitDefEqProofs [c24, GO, GA, GH, -getElem?_pos, h15, h15', a1, a2, a3]) | (simp (disch := omega) only [AB]) | (refine DS (.inl rfl) (A4 _) (by simp) (by simp) (by simp [maxLen]) (fun _g _hg => ?_)) | ((with_reducible refine AN 53 ?_); refine' AQ (hfn) ?_) | ((with_reducible refine AN 55 ?_); refine' AQ (hcd) ?_) | ((with_reducible refine AN 58 ?_); refine' AQ (hct) ?_) | ((with_reducible refine AN 56 ?_); refine' AQ (hfw) ?_) | ((with_reducible refine AN 57 ?_); refine' AQ (hdm) ?_) | (with_reducible first | refine A5 ?_ ?_ ?_ | exact A7 | assumption | refine A0 ?_ | refine KM.of ?_ | refine AA ?_ | refine A1 ?_ | refine AF ?_ | refine A3 ?_ | refine AG ?_ | refine AE ?_ | intro _g _hg | refine A9 ?_ ?_ | intro _hc) | omega)
   rename_i g1 hg1 g2 hg2
   exact hk9 g1 (g1 + 1) _ _ _ _ ⟨by simp (disch := omega) only [upd_ne, AK], fun g hg => by simp (disch := omega) only [upd_ne]; exact hH g (by omega), fun g hg => by simp (disch := omega) only [upd_ne], by omega⟩ (.inr ⟨_g, by omega, by omega, rfl, by rw [AK]; simp [splice, AX, AV.cells]⟩) rfl rfl
  | false =>
   rw [e2] at hcd
   by_cases hn : 0 < (Al k).n1
   ·rw [decide_eq_true ⟨hn, e1⟩] at hct
    have e4 : JP k o m (Al k) = [Lib.itoa m] := by
     unfold JP
     rw [e1, e2, if_neg (by decide), if_pos hn]
    rw [e4] at hk9
    generalize Lib.itoa m = im at *
    refine AD Tryz.func24 V0 rfl fun n H hH => ?_
    have hk9 := hk9 n H
    repeat' (first | (simp -implicitDefEqProofs [c24, GO, GA, GH, -getElem?_pos, h15, h15']) | (simp (disch := omega) only [AB]) | (refine DS (.inl rfl) (A4 _) (by simp) (by simp) (by simp [maxLen]) (fun _g _hg => ?_)) | ((with_reducible refine AN 53 ?_); refine' AQ (hfn) ?_) | ((with_reducible refine AN 55 ?_); refine' AQ (hcd) ?_) | ((with_reducible refine AN 58 ?_); refine' AQ (hct) ?_) | ((with_reducible refine AN 57 ?_); refine' AQ (hdm) ?_) | (with_reducible first | refine A5 ?_ ?_ ?_ | exact A7 | assumption | refine A0 ?_ | refine KM.of ?_ | refine AA ?_ | refine A1 ?_ | refine AF ?_ | refine A3 ?_ | refine AG ?_ | refine AE ?_ | intro _g _hg | refine A9 ?_ ?_ | intro _hc) | omega)
    rename_i g1 hg1 g2 hg2
    exact hk9 g1 (g1 + 1) _ _ _ _ ⟨by simp (disch := omega) only [upd_ne, AK], fun g hg => by simp (disch := omega) only [upd_ne]; exact hH g (by omega), fun g hg => by simp (disch := omega) only [upd_ne], by omega⟩ (.inr ⟨_g, by omega, by omega, rfl, by rw [AK]; simp [splice, AX, AV.cells]⟩) rfl rfl
   ·rw [decide_eq_false (fun h => hn h.1)] at hct
    have e4 : JP k o m (Al k) = [] := by
     unfold JP
     rw [e1, e2, if_neg (by decide), if_neg hn]
    rw [e4] at hk9
    refine AD Tryz.func24 V0 rfl fun n H hH => ?_
    have hk9 := hk9 n H
    repeat' (first | (simp -implicitDefEqProofs [c24, GO, GA, GH, -getElem?_pos, h15, h15']) | (simp (disch := omega) only [AB]) | (refine DS (.inl rfl) (A4 _) (by simp) (by simp) (by simp [maxLen]) (fun _g _hg => ?_)) | ((with_reducible refine AN 53 ?_); refine' AQ (hfn) ?_) | ((with_reducible refine AN 55 ?_); refine' AQ (hcd) ?_) | ((with_reducible refine AN 58 ?_); refine' AQ (hct) ?_) | ((with_reducible refine AN 57 ?_); refine' AQ (hdm) ?_) | (with_reducible first | refine A5 ?_ ?_ ?_ | exact A7 | assumption | refine A0 ?_ | refine KM.of ?_ | refine AA ?_ | refine A1 ?_ | refine AF ?_ | refine A3 ?_ | refine AG ?_ | refine AE ?_ | intro _g _hg | refine A9 ?_ ?_ | intro _hc) | omega)
    exact hk9 _g (_g + 1) _ _ _ _ ⟨by simp (disch := omega) only [upd_ne, AK], fun g hg => by simp (disch := omega) only [upd_ne]; exact hH g (by omega), fun g hg => by simp (disch := omega) only [upd_ne], by omega⟩ (.inl ⟨rfl, rfl⟩) rfl rfl
open Go.ChangeShapes Go.WideShapes Go.ChangeAt Go.RowKit Go.Deep
theorem Ty : ownKnob Tryz.prog.godebug = none := by kernel_rfl
theorem P0 : laidOutB Tryz.prog = true := by kernel_rfl
theorem XD {w : World} {v : Value} {x : AV} (h : RepL (Tx w) [v] [x]) : Rep (Tx w) v x := by cases h; assumption
abbrev laidL : List (String × DataW Unit) := Rows.streamsBoundMatchesSpecRow.laid
abbrev A4v : String := Rows.streamsBoundMatchesSpecRow.laid[2].1
abbrev A4g : String := Rows.streamsBoundMatchesSpecRow.laid[6].1
theorem Xy {P : Program} {w : World} {name : String} {d : DataW Unit} {k : IntKind} {zs : List Int} {g t e : Nat} {n : Nat} (h : Lib.VarReads P w name d) (hd : d = Lib.tabData k zs) (hg : P.globalNamed name = some g) (hty : (P.globals[g]?).map (·.type) = some t)
  (ht : P.underlying t = some (.array n e)) (he : P.underlying e = some (.int k)) (hce : P.cellsOf e = 1) (hct : P.cellsOf t = n) : ∃ t fz, w.heap[g]? = some (.cells (zs.map fun z => Value.int k z).toArray t fz) := by
 subst hd
 obtain ⟨g', t', cs, fuel, p, hg', ht', hvar, htr⟩ := h
 obtain rfl := Option.some.inj (hg.symm.trans hg')
 obtain rfl := Option.some.inj (hty.symm.trans ht')
 have hc := Lib.cells_of_tab ht he hce hct htr
 unfold World.var? at hvar
 rw [hg, Option.bind_some] at hvar
 split at hvar
 ·rename_i cs' t2 fz hh
  injection hvar with hvar
  subst hvar
  exact ⟨t2, fz, by rw [hh, ← hc]⟩
 ·cases hvar
theorem YK {P : Program} {w : World} {name nm : String} {d0 d : DataW Unit} {g t : Nat} {ms : Array (String × TypeId)} (h : Lib.VarReads P w name d0) (hd : d0 = .iface nm d) (hg : P.globalNamed name = some g) (hty : (P.globals[g]?).map (·.type) = some t)
  (ht : P.underlying t = some (.interface ms)) : ∃ v, w.cell? ⟨g, 0, none⟩ = some v ∧ (v = .nilIface ∨ ∃ te pe, v = .iface te pe) := by
 subst hd
 obtain ⟨g', t', cs, fuel, p, hg', ht', hvar, htr⟩ := h
 obtain rfl := Option.some.inj (hg.symm.trans hg')
 obtain rfl := Option.some.inj (hty.symm.trans ht')
 obtain ⟨_, u, v, hcs, _, _⟩ := iface_of_trod ht htr
 unfold World.var? at hvar
 rw [hg, Option.bind_some] at hvar
 split at hvar
 ·rename_i cs' t2 fz hh
  injection hvar with hvar
  subst hvar
  refine ⟨.iface u v, ?_, .inr ⟨u, v, rfl⟩⟩
  simp [World.cell?, hh, hcs]
  rw [← Array.getElem?_toList, hcs]; rfl
 ·cases hvar
theorem Hf {w : World} (h : laidMetH Tryz.prog laidL w) : Laid w := by
 rw [MakeChecks.laidMetH_plain _ _ _ (by kernel_rfl)] at h
 exact ⟨Xy (Lib.laidMet.reads h (n := A4g) (d := Rows.streamsBoundMatchesSpecRow.laid[6].2) (List.getElem_mem (by decide : 6 < laidL.length))) (by kernel_rfl) (by kernel_rfl) (by kernel_rfl) Tryz.underlying145 Tryz.underlying5 (by kernel_rfl) (by kernel_rfl),
  Xy (Lib.laidMet.reads h (n := A4v) (d := Rows.streamsBoundMatchesSpecRow.laid[2].2) (List.getElem_mem (by decide : 2 < laidL.length))) (by kernel_rfl) (by kernel_rfl) (by kernel_rfl) Tryz.underlying184 Tryz.underlying160 (by kernel_rfl) (by kernel_rfl),
  YK (Lib.laidMet.reads h (n := Rows.streamsBoundMatchesSpecRow.laid[4].1) (d := Rows.streamsBoundMatchesSpecRow.laid[4].2) (List.getElem_mem (by decide : 4 < laidL.length))) (by rfl) (by kernel_rfl) (by kernel_rfl) Tryz.underlying132,
  YK (Lib.laidMet.reads h (n := Rows.streamsBoundMatchesSpecRow.laid[3].1) (d := Rows.streamsBoundMatchesSpecRow.laid[3].2) (List.getElem_mem (by decide : 3 < laidL.length))) (by rfl) (by kernel_rfl) (by kernel_rfl) Tryz.underlying132⟩
noncomputable def An (os : Os) : World := World.laidAll Tryz.prog os laidL
instance : Inhabited St := ⟨.mk 0 0 0 [] []⟩
section
variable {H : Type} {enc : TypeId × Value → H} {w : World} {base : Nat} {spare : Nat → Bool} {held : Bool} {fuel : Nat}
theorem A2p : Tryz.prog.cellsOf 3 = 1 := by kernel_rfl
theorem Xk : Tryz.prog.cellsOf 25 = 5 := by kernel_rfl
theorem A0y : Tryz.prog.bytesOf 3 = 8 := by kernel_rfl
theorem A2u : Tryz.prog.bytesOf 25 = 72 := by kernel_rfl
theorem Zs : Tryz.prog.underlying 25 = some (.struct (Tryz.prog.fieldsOf 25)) := by kernel_rfl
theorem fsS : (Tryz.prog.fieldsOf 25).toList.map (fun f => (f.type, f.offset, Tryz.prog.cellsOf f.type)) = [(3, 0, 1), (3, 1, 1), (3, 2, 1), (22, 3, 1), (23, 4, 1)] := by kernel_rfl
theorem JB {α : Type} {l : List α} (h : l.length = 5) : ∃ a0 a1 a2 a3 a4, l = [a0, a1, a2, a3, a4] := by
 rcases l with _ | ⟨a0, _ | ⟨a1, _ | ⟨a2, _ | ⟨a3, _ | ⟨a4, _ | ⟨a5, l⟩⟩⟩⟩⟩⟩
 ·simp at h
 ·simp at h
 ·simp at h
 ·simp at h
 ·simp at h
 ·exact ⟨a0, a1, a2, a3, a4, rfl⟩
 ·simp at h
theorem TO {v : Value} {x : DataW H × List MemPlace} (h : DataW.trod enc Tryz.prog w base spare held fuel 22 [v] = some x) : ∃ l : List Int, RepL (Tx w) [v] [OO l] ∧ ((∀ y ∈ x.1.weights Tryz.prog 22, y ≤ reachBytes) → l.length ≤ 140737488355328) := by
 obtain ⟨l, h1, h2, _⟩ := open_list (P := Tryz.prog) aI (fun _ => True) (fun _ => 0) Tryz.underlying22 A2p (by decide) (fun a => ⟨rfl, fun y hy => by simp [AV.cells] at hy; subst hy; rfl⟩) (fun k cs y _ hy => by
  obtain ⟨n, e, _, _⟩ := DataW.trod_int Tryz.underlying3 hy
  subst e
  exact ⟨n, .cons .int .nil, fun _ => trivial, Nat.zero_le _⟩) h
 refine ⟨l, h1, fun hw => ?_⟩
 have := (h2 hw).1
 rw [A0y] at this
 have hr : reachBytes ≤ 140737488355328 := by decide
 omega
theorem TZ {es sp : List (DataW H)} {d : DataW H} (h : d ∈ es) : SizeOf.sizeOf d < SizeOf.sizeOf (DataW.slice es sp) := by
 have := List.sizeOf_lt_of_mem h
 simp only [DataW.slice.sizeOf_spec]; omega
theorem Xm {es : List (DataW H)} {d : DataW H} (h : d ∈ es) : SizeOf.sizeOf d < SizeOf.sizeOf (DataW.agg es) := by
 have := List.sizeOf_lt_of_mem h
 simp only [DataW.agg.sizeOf_spec]; omega
theorem SD {v : Value} {x : DataW H × List MemPlace} (he : ∀ k cs (y : DataW H × List MemPlace), SizeOf.sizeOf y.1 < SizeOf.sizeOf x.1 → DataW.trod enc Tryz.prog w base spare held k 25 cs = some y → ∃ s : St, RepL (Tx w) cs (encS s).cells ∧ ((∀ z ∈ y.1.weights Tryz.prog 25, z ≤ reachBytes) → Cy s))
  (h : DataW.trod enc Tryz.prog w base spare held fuel 23 [v] = some x) : ∃ p : List St, Rep (Tx w) v (.sl 5 (Ac p) .ro) ∧ ((∀ z ∈ x.1.weights Tryz.prog 23, z ≤ reachBytes) → p.length ≤ 140737488355328 ∧ Jq p) := by
 obtain ⟨n, k, X, Y, hr, hX, hY⟩ := PL Tryz.underlying23 Xk (by decide) h
 have hlt : ∀ i, i < n → SizeOf.sizeOf (Y i).1 < SizeOf.sizeOf x.1 := fun i hi => by
  rcases hY with ⟨h0, _⟩ | ⟨sp, h1⟩
  ·omega
  ·rw [h1]; exact TZ (List.mem_map.2 ⟨i, List.mem_range.2 hi, rfl⟩)
 obtain ⟨f, hf⟩ := choose_lt (n := n) (p := fun i (s : St) => RepL (Tx w) (X i) (encS s).cells ∧ ((∀ z ∈ (Y i).1.weights Tryz.prog 25, z ≤ reachBytes) → Cy s)) (fun i hi => he k (X i) (Y i) (hlt i hi) (hX i hi).2)
 have hlen : (((List.range n).map f).map encS).length = n := by simp
 have hu : ∀ s : St, (encS s).cells.length = 5 ∧ ∀ y ∈ (encS s).cells, y.one = true := fun s => by
  obtain ⟨k, o, m, v, p⟩ := s
  rw [AP]
  refine ⟨rfl, fun y hy => ?_⟩
  simp only [AV.cells, List.mem_cons, List.not_mem_nil, or_false] at hy
  rcases hy with rfl | rfl | rfl | rfl | rfl <;> rfl
 refine ⟨(List.range n).map f, ?_, fun hw => ?_⟩
 ·rw [K5]
  refine QW hr ?_ hlen (by decide) ?_ ?_
  ·rw [List.map_map]
   exact Qh fun i hi => (hf i hi).1
  ·intro y hy
   obtain ⟨a, _, rfl⟩ := List.mem_map.1 hy
   exact (hu a).1
  ·intro y hy
   obtain ⟨z, hz, hy⟩ := List.mem_flatMap.1 hy
   obtain ⟨a, _, rfl⟩ := List.mem_map.1 hz
   exact (hu a).2 y hy
 ·have key : ∀ p : List St, (∀ s ∈ p, Cy s) → Jq p := by
   intro p
   induction p with
   | nil => intro _; trivial
   | cons s r ih => intro h; exact ⟨h s List.mem_cons_self, ih fun y hy => h y (List.mem_cons_of_mem _ hy)⟩
  rcases hY with ⟨h0, h1⟩ | ⟨sp, h1⟩
  ·subst h0; exact ⟨by simp, trivial⟩
  ·rw [h1] at hw
   simp only [DataW.weights, Tryz.underlying23, List.mem_cons, List.mem_append, List.length_map, List.length_range] at hw
   refine ⟨?_, key _ fun s hs => ?_⟩
   ·have := hw _ (.inl rfl)
    rw [A2u] at this
    have hr : reachBytes ≤ 140737488355328 := by decide
    simp; omega
   ·obtain ⟨i, hi, rfl⟩ := List.mem_map.1 hs
    have hi' : i < n := List.mem_range.1 hi
    exact (hf i hi').2 fun y hy => hw y (.inr (.inl (O7 (List.mem_map.2 ⟨i, hi, rfl⟩) hy)))
set_option maxRecDepth 100000 in
theorem RK : ∀ (N : Nat) {fuel : Nat} {cs : List Value} {x : DataW H × List MemPlace}, SizeOf.sizeOf x.1 ≤ N → DataW.trod enc Tryz.prog w base spare held fuel 25 cs = some x → ∃ s : St, RepL (Tx w) cs (encS s).cells ∧ ((∀ z ∈ x.1.weights Tryz.prog 25, z ≤ reachBytes) → Cy s) := by
 intro N
 induction N with
 | zero =>
  intro fuel cs x hN h
  obtain ⟨ys, m, _, hx, _⟩ := DataW.trod_struct Zs h
  rw [hx] at hN
  simp at hN
 | succ N ih =>
  intro fuel cs x hN h
  obtain ⟨ys, m, _, hx, hcl, hyl, hf⟩ := DataW.trod_struct Zs h
  have hfs := fsS
  obtain ⟨f0, f1, f2, f3, f4, hq⟩ := JB (by have := congrArg List.length fsS; simpa using this : (Tryz.prog.fieldsOf 25).toList.length = 5)
  rw [hq] at hfs
  simp only [List.map_cons, List.map_nil, List.cons.injEq, Prod.mk.injEq, and_true] at hfs
  obtain ⟨⟨t0, o0, k0⟩, ⟨t1, o1, k1⟩, ⟨t2, o2, k2⟩, ⟨t3, o3, k3⟩, ⟨t4, o4, k4⟩⟩ := hfs
  have h0 : (Tryz.prog.fieldsOf 25)[0]? = some f0 := by rw [← Array.getElem?_toList, hq]; rfl
  have h1 : (Tryz.prog.fieldsOf 25)[1]? = some f1 := by rw [← Array.getElem?_toList, hq]; rfl
  have h2 : (Tryz.prog.fieldsOf 25)[2]? = some f2 := by rw [← Array.getElem?_toList, hq]; rfl
  have h3 : (Tryz.prog.fieldsOf 25)[3]? = some f3 := by rw [← Array.getElem?_toList, hq]; rfl
  have h4 : (Tryz.prog.fieldsOf 25)[4]? = some f4 := by rw [← Array.getElem?_toList, hq]; rfl
  have hn : (Tryz.prog.fieldsOf 25).size = 5 := by rw [← Array.length_toList, hq]; rfl
  have g0 := hf 0 f0 h0
  rw [k0, o0, t0] at g0
  have g1 := hf 1 f1 h1
  rw [k1, o1, t1] at g1
  have g2 := hf 2 f2 h2
  rw [k2, o2, t2] at g2
  have g3 := hf 3 f3 h3
  rw [k3, o3, t3] at g3
  have g4 := hf 4 f4 h4
  rw [k4, o4, t4] at g4
  rw [hn] at hyl
  obtain ⟨y0, y1, y2, y3, y4, hys⟩ := JB hyl
  subst hys
  obtain ⟨z0, z1, z2, z3, z4, hz⟩ := JB (hcl.trans Xk)
  subst hz
  simp only [List.drop, List.take] at g0 g1 g2 g3 g4
  obtain ⟨n0, e0, _, w0⟩ := DataW.trod_int Tryz.underlying3 g0
  simp at e0
  subst e0
  obtain ⟨n1, e1, _, w1⟩ := DataW.trod_int Tryz.underlying3 g1
  simp at e1
  subst e1
  obtain ⟨n2, e2, _, w2⟩ := DataW.trod_int Tryz.underlying3 g2
  simp at e2
  subst e2
  obtain ⟨n3, r3, v3⟩ := TO g3
  have hy4 : SizeOf.sizeOf y4.1 < SizeOf.sizeOf x.1 := by rw [hx]; exact Xm (by simp)
  obtain ⟨n4, r4, v4⟩ := SD (fun k cs y hy hk => ih (by omega) hk) g4
  refine ⟨.mk n0 n1 n2 n3 n4, ?_, fun hw => ?_⟩
  ·rw [AP]
   exact .cons .int (.cons .int (.cons .int (.cons (XD r3) (.cons r4 .nil))))
  ·rw [hx] at hw
   simp only [DataW.weights, Zs, hq, List.map_cons, List.map_nil, DataW.weightsEach, t0, t1, t2, t3, t4, List.mem_append] at hw
   obtain ⟨a1, a2⟩ := v4 fun z hz => hw z (by simp [hz])
   exact ⟨v3 fun z hz => hw z (by simp [hz]), a1, a2⟩
end
set_option maxRecDepth 100000 in
theorem EQ {H : Type} {enc : TypeId × Value → H} {w : World} {base b0 : Nat} {spare : Nat → Bool} {held : Bool} {r : Reach} {v : Value} {fuel : Nat} {x : DataW H × List MemPlace}
  (hv : Value.okWide Tryz.prog w r b0 25 v) (hf : DataW.trod enc Tryz.prog w base spare held fuel 25 v.cells.toList = some x) : ∃ s : St, Rep (Tx w) v (encS s) ∧ ((∀ z ∈ x.1.weights Tryz.prog 25, z ≤ reachBytes) → Cy s) := by
 obtain ⟨cs, rfl, hsz⟩ := okWide_struct Zs hv
 obtain ⟨s, hs, hw⟩ := RK _ (Nat.le_refl _) hf
 refine ⟨s, ?_, hw⟩
 obtain ⟨k, o, m, l, p⟩ := s
 rw [AP] at hs ⊢
 have h2 : Rep (Tx w) (.agg cs.toList.toArray) (.agg [aI k, aI o, aI m, OO l, .sl 5 (Ac p) .ro]) := .agg hs (by intro y hy; simp only [List.mem_cons, List.not_mem_nil, or_false] at hy; rcases hy with rfl | rfl | rfl | rfl | rfl <;> rfl)
 simpa only [Array.toArray_toList] using h2
end Go.Proofs.YtjdccdelcnmocaaGreatDoor

/- Streams: the check of a node by the program; no condition. -/
import Derived.Test.YtjdccdelcnmocaaGreatDoorMgJ
import Derived.Test.YtjdccdelcnmocaaGreatDoorMdK
import Derived.Test.YtjdccdelcnmocaaGreatDoorAdG
import Derived.Test.YtjdccdelcnmocaaGreatDoorAdE
import Derived.Test.YtjdccdelcnmocaaGreatDoorAdF
set_option linter.all false
set_option linter.unusedSimpArgs false
set_option linter.unusedVariables false
set_option maxHeartbeats 2000000
namespace Go.Proofs.YtjdccdelcnmocaaGreatDoor
theorem Wj {k : Int} (h : ¬ (1 ≤ k ∧ k ≤ 16)) : Bb (.int .i64 k) shpMap = none := by
 have hne : ∀ j : Int, 1 ≤ j → j ≤ 16 → DF (.int .i64 k) (.int .i64 j) = false := fun j h1 h2 => by
  simp only [DF, decide_true, Bool.true_and, decide_eq_false_iff_not]; omega
 simp only [shpMap, Bb, hne _ (by omega : (1 : Int) ≤ 1) (by omega), hne 2 (by omega) (by omega), hne 3 (by omega) (by omega), hne 4 (by omega) (by omega), hne 5 (by omega) (by omega), hne 6 (by omega) (by omega), hne 7 (by omega) (by omega), hne 8 (by omega) (by omega), hne 9 (by omega) (by omega), hne 10 (by omega) (by omega), hne 11 (by omega) (by omega), hne 12 (by omega) (by omega), hne 13 (by omega) (by omega), hne 14 (by omega) (by omega), hne 15 (by omega) (by omega), hne 16 (by omega) (by omega), Bool.false_eq_true, if_false]
attribute [local simp] Nr F6 Ej Lh Ke MA LY F0 Eg HW HP NA KJ Mo MQ Ml MY LL L9 N3 KY MH MN Nf Nu T7 pe Ki LQ Kx Ng Kw LB Lq Nv LZ NX Nn LI LF FP Mq Ku Mb Kp N6 MX KD Mg Mh M7 Kg Kl KZ NM LC Lc K9 LN NY NC N7 FB M6 Ei Lt N5 Nc Mx N9 KQ LJ Nt KX NQ MM NU MS L4 Nq MW Lx LE Md LD Mt L3 Ka NO Kf Eu NG Mr MD Lv LR NS NL Mv KO Kb KA NI Ma KH Lr KF N1 Mw LW NK M1 Mp LH Mj L8 LX MR MG Nh N2 LG NN List.mem_cons guardK Df Fh GG HG LO Ek EW FD FE Ep Eb F1 EY FM Mz Me Ew KT KP Nm Mn NF Kz Em Mf Ni N8 Ns KK Kj H8 Ef F8 Ex Ev M5 LU En Ms FI M3 F2 Ey MU Er FJ NP MP Lw LP L1 LT N0 Lm T8 Ji Jj ID Jk Jo Jd EL Gi Ge Ky Gm Gc EK Dd UH JV Jg GZ K4 K2 EI EJ Bv Bb Ck DF AI ev get put I1 AO Dv Lu Ko Lo MZ Nk KI FU part Bo I4 Lf I7 isNil D9 DC FT DW Cu L0 ME My MJ LV K0 MK Km KG Na KN NV Ld NZ MC K8 AV.fits AV.cells ones AV.one FZ D6 FV EV Gp Ff M4 Hg HJ D8 Bm CA EZ Hz AK Bl Vy HI MO M9 List.getElem?_cons_zero List.getElem?_cons_succ El EX FC Nb Lj Mc IJ L6 LM Kv Lp Mk L5 N4 MV KL Kt M2
theorem A1z (k o m : Int) (v : List Int) (p : List St) (hvb : v.length ≤ 140737488355328) (g gs n : Nat) (at_ : Int) (H : A2) (hg : H g = some (.cells 70 [.mp gs, aI at_])) (hgs : H gs = some (.map (some .i64) shpMap)) : APureAt Tryz.prog 69 [.ptr g 0, encS (.mk k o m v p)] n H (aI (C0 (.mk k o m v p))) := by
 by_cases hk : 1 ≤ k ∧ k ≤ 16
 ·rcases (by omega : (k = 1 ∨ k = 2 ∨ k = 3 ∨ k = 4 ∨ k = 5 ∨ k = 6 ∨ k = 7 ∨ k = 8) ∨ (k = 9 ∨ k = 10 ∨ k = 11 ∨ k = 12 ∨ k = 13 ∨ k = 14 ∨ k = 15 ∨ k = 16)) with h | h
  ·exact A05 k o m v p hvb h g gs n at_ H hg hgs
  ·exact Z7 k o m v p hvb h g gs n at_ H hg hgs
 ·have hnc : C0 (.mk k o m v p) = 5 := by simp only [C0]; rw [if_pos hk]
  have hfd := Wj hk
  rw [hnc, AP]
  
  refine Bp Tryz.func69 XO rfl fun hH => ?_
  have hgn : g < n := by
   rcases Nat.lt_or_ge g n with h | h
   ·exact h
   ·rw [hH g h] at hg; cases hg
  have hsn : gs < n := by
   rcases Nat.lt_or_ge gs n with h | h
   ·exact h
   ·rw [hH gs h] at hgs; cases hgs
  generalize shpMap = sm at *
  repeat' (first | (simp -implicitDefEqProofs [NE, ND, NH, Ln, c69, -getElem?_pos, hg, hgs, hfd, splice, A6]) | (simp (disch := omega) only [AB]) | (with_reducible first | refine A5 ?_ ?_ ?_ | exact A7 | refine SameB.upd ?_ ?_ _ | assumption | refine A0 ?_ | refine KM.of ?_ | refine AA ?_ | refine A1 ?_ | refine A3 ?_ | intro _g _hg | refine A9 ?_ ?_ | intro _hc) | omega)
mutual
def Cy : St → Prop
 | .mk _ _ _ v p => v.length ≤ 140737488355328 ∧ p.length ≤ 140737488355328 ∧ Jq p
def Jq : List St → Prop
 | [] => True
 | s :: r => Cy s ∧ Jq r
end
theorem Cw : ∀ {p : List St}, Jq p → ∀ s ∈ p, Cy s
 | [], _, s, h => by cases h
 | x :: r, h, s, hs => by
  rcases List.mem_cons.1 hs with e | hs
  ·rw [e]; exact h.1
  ·exact Cw h.2 s hs
theorem BK (s : St) : (encS s).fits (some 5) = true := by cases s; rw [AP]; rfl
theorem EN {p : List St} {i : Nat} {s : St} (h : p[i]? = some s) : (Ac p)[i]? = some (encS s) := by rw [K5, List.getElem?_map, h]; rfl
theorem UO {p : List St} {i j : Nat} {s : St} (h : p[j]? = some s) : JC (p.drop j) i = if (EE s i).2 ≠ 0 then EE s i else JC (p.drop (j + 1)) (EE s i).1 := by
 rw [drop_at h, JC]
theorem Xf (s : St) : Cy s → ∀ i : Nat, i ≤ 60 → APure Tryz.prog 37 [encS s, aI i] (.tup [aI ((EE s i).1 : Nat), aI (EE s i).2]) := by
 refine St.ind (Q := fun s => Cy s → ∀ i : Nat, i ≤ 60 → APure Tryz.prog 37 [encS s, aI i] (.tup [aI ((EE s i).1 : Nat), aI (EE s i).2])) ?_ s
 intro k o m v p ih hfit i hi
 obtain ⟨hv, hp, hpp⟩ := hfit
 have hsf := RG k o m v p hv
 rw [EE]
 rw [AP] at hsf ⊢
 
 refine AD Tryz.func37 A4s rfl fun n H hH => ?_
 by_cases h60 : 60 ≤ i
 ·rw [if_pos h60]
  have h60' : (60 : Int) ≤ i := by omega
  repeat' (first | (simp -implicitDefEqProofs [c37, -getElem?_pos, h60', AL, AT]) | (simp (disch := omega) only [AB]) | (with_reducible first | refine A5 ?_ ?_ ?_ | exact A7 | refine SameB.upd ?_ ?_ _ | assumption | refine A0 ?_ | refine KM.of ?_ | refine AA ?_ | refine A1 ?_ | refine A3 ?_ | intro _g _hg | refine A9 ?_ ?_ | intro _hc) | omega)
 ·rw [if_neg h60]
  have h60' : ¬ (60 : Int) ≤ i := by omega
  generalize hc : C0 (.mk k o m v p) = c at *
  by_cases hc0 : c = 0
  ·rw [if_neg (by simpa using hc0)]
   have hpl := BJ p
   subst hc0
   repeat' (first | (simp -implicitDefEqProofs [c37, Gv, HH, -getElem?_pos, h60']) | (simp (disch := omega) only [AB]) | ((with_reducible refine AN 68 ?_); refine' AQ (hsf) ?_) | (with_reducible first | refine A5 ?_ ?_ ?_ | exact A7 | refine SameB.upd ?_ ?_ _ | assumption | refine A0 ?_ | refine KM.of ?_ | refine AA ?_ | refine A1 ?_ | refine A3 ?_ | intro _g _hg | refine A9 ?_ ?_ | intro _hc) | omega)
   refine LoopK.go (fun r st => ∃ (j q : Nat), j + r = p.length ∧ st = ⟨[(2, .ptr _g 0), (7, aI q), (8, aI j)], _g + 1, upd H _g (some (.cells 25 [aI k, aI o, aI m, OO v, .sl 5 (Ac p) .ro]))⟩ ∧ q ≤ 60 ∧ JC p (i + 1) = JC (p.drop j) q) p.length ⟨0, i + 1, by omega, by simp, by omega, rfl⟩ ?_
   rintro r st ⟨j, q, hj, rfl, hq, hE⟩ J hJ
   by_cases hjl : j < p.length
   ·obtain ⟨x, hx⟩ : ∃ x, p[j]? = some x := ⟨_, List.getElem?_eq_getElem hjl⟩
    have hxm := List.mem_of_getElem? hx
    have hst := ih x hxm (Cw hpp x hxm) q hq
    have hxe := EN hx
    have hxf := BK x
    have hjl' : (j : Int) < p.length := by omega
    rw [UO hx] at hE
    generalize encS x = ex at *
    generalize Ac p = ep at *
    by_cases h2 : (EE x q).2 = 0
    ·rw [if_neg (by simpa using h2)] at hE
     obtain ⟨_, _, h3⟩ := Nj x q h2
     rw [h2] at hst
     
     repeat' (first | (simp -implicitDefEqProofs [Ii, Ie, IZ, Ig, IN, HH, Gv, c37, -getElem?_pos, hpl, hjl', hxe, hxf, -AV.fits]) | (simp (disch := omega) only [AB]) | ((with_reducible refine AN 37 ?_); refine' AQ (hst) ?_) | (with_reducible first | refine A5 ?_ ?_ ?_ | exact A7 | refine SameB.upd ?_ ?_ _ | assumption | refine A0 ?_ | refine KM.of ?_ | refine AA ?_ | refine A1 ?_ | refine A3 ?_ | intro _g _hg | refine A9 ?_ ?_ | intro _hc) | omega)
     exact hJ (r - 1) _ (by omega) ⟨j + 1, (EE x q).1, by omega, rfl, h3, hE⟩
    ·rw [if_pos h2] at hE
     rw [hE]
     
     repeat' (first | (simp -implicitDefEqProofs [Ii, Ie, IZ, Ig, IN, HH, Gv, c37, -getElem?_pos, hpl, hjl', hxe, hxf, -AV.fits, h2, AL, AT]) | (simp (disch := omega) only [AB]) | ((with_reducible refine AN 37 ?_); refine' AQ (hst) ?_) | (with_reducible first | refine A5 ?_ ?_ ?_ | exact A7 | refine SameB.upd ?_ ?_ _ | assumption | refine A0 ?_ | refine KM.of ?_ | refine AA ?_ | refine A1 ?_ | refine A3 ?_ | intro _g _hg | refine A9 ?_ ?_ | intro _hc) | omega)
   ·have hjl' : ¬ (j : Int) < p.length := by omega
    rw [List.drop_eq_nil_of_le (by omega), JC] at hE
    rw [hE]
    
    repeat' (first | (simp -implicitDefEqProofs [Ii, Ie, IZ, Ig, IN, HH, Gv, c37, -getElem?_pos, hpl, hjl', AL, AT]) | (simp (disch := omega) only [AB]) | (with_reducible first | refine A5 ?_ ?_ ?_ | exact A7 | refine SameB.upd ?_ ?_ _ | assumption | refine A0 ?_ | refine KM.of ?_ | refine AA ?_ | refine A1 ?_ | refine A3 ?_ | intro _g _hg | refine A9 ?_ ?_ | intro _hc) | omega)
  ·rw [if_pos hc0]
   repeat' (first | (simp -implicitDefEqProofs [Ii, Ie, IZ, Ig, IN, HH, Gv, c37, -getElem?_pos, h60', hc0, AL, AT]) | (simp (disch := omega) only [AB]) | ((with_reducible refine AN 68 ?_); refine' AQ (hsf) ?_) | (with_reducible first | refine A5 ?_ ?_ ?_ | exact A7 | refine SameB.upd ?_ ?_ _ | assumption | refine A0 ?_ | refine KM.of ?_ | refine AA ?_ | refine A1 ?_ | refine A3 ?_ | intro _g _hg | refine A9 ?_ ?_ | intro _hc) | omega)
abbrev Xh (gs : Nat) (i : Int) : AObj := .cells 70 [.mp gs, aI i]
def RD (r : Nat × Int) : Int × Int := if r.2 ≠ 0 then (r.2, (r.1 : Int)) else (0, 0)
def RB (r : Nat × Int) : Nat := if r.2 ≠ 0 then r.1 + 1 else r.1
def RL (s : St) (i : Nat) : Prop := ∀ (g gs n : Nat) (H : A2), H g = some (Xh gs i) → H gs = some (.map (some .i64) shpMap) → AUpd Tryz.prog 40 [.ptr g 0, encS s] n H (aF (RD (EE s i))) g (Xh gs (RB (EE s i)))
theorem Yt (s : St) : Cy s → ∀ i : Nat, i ≤ 60 → RL s i := by
 refine St.ind (Q := fun s => Cy s → ∀ i : Nat, i ≤ 60 → RL s i) ?_ s
 intro k o m v p ih hfit i hi g gs n H hg hgs
 obtain ⟨hv, hp, hpp⟩ := hfit
 have hgg : g ≠ gs := fun e => by rw [e, hgs] at hg; cases hg
 have hnode := fun n H h1 h2 => A1z k o m v p hv g gs n ((i : Int) + 1) H h1 h2
 rw [EE]
 rw [AP] at hnode ⊢
 refine GC Tryz.func40 A5k rfl (hg) fun hH => ?_
 have hgn : g < n := by
  rcases Nat.lt_or_ge g n with h | h
  ·exact h
  ·rw [hH g h] at hg; cases hg
 have hsn : gs < n := by
  rcases Nat.lt_or_ge gs n with h | h
  ·exact h
  ·rw [hH gs h] at hgs; cases hgs
 by_cases h60 : 60 ≤ i
 ·rw [if_pos h60]
  have h60' : ¬ (i : Int) < 60 := by omega
  repeat' (first | (simp -implicitDefEqProofs [K6, NR, Ic, Hb, M8, LA, c40, -getElem?_pos, hg, h60', splice, RD, RB, A6]) | (simp (disch := omega) only [AB]) | (with_reducible first | refine A5 ?_ ?_ ?_ | exact A7 | assumption | refine A0 ?_ | refine KM.of ?_ | refine AA ?_ | refine A1 ?_ | refine A3 ?_ | intro _g _hg | refine A9 ?_ ?_ | intro _hc) | omega)
  intro q hq; simp only [upd]; (repeat' split) <;> first | rfl | omega
 ·rw [if_neg h60]
  have h60' : (i : Int) < 60 := by omega
  generalize hc : C0 (.mk k o m v p) = c at *
  have hpl := BJ p
  by_cases hc0 : c = 0
  ·rw [if_neg (by simpa using hc0)]
   subst hc0
   repeat' (first | (simp -implicitDefEqProofs [c40, LA, M8, -getElem?_pos, hg, h60', splice]) | (simp (disch := omega) only [AB]) | ((with_reducible refine Ae 69 ?_); (refine' CallK.sfAt ?_ ((hnode _ _ (by simp (disch := omega) only [upd_ne, AK]) (by simp (disch := omega) only [upd_ne]; exact hgs))) ?_); (focus first | (with_reducible exact A4 _) | (simp [AT, AL, A6, A4]; done))) | (with_reducible first | refine A5 ?_ ?_ ?_ | exact A7 | assumption | refine A0 ?_ | refine KM.of ?_ | refine AA ?_ | refine A1 ?_ | refine A3 ?_ | intro _g _hg | refine A9 ?_ ?_ | intro _hc) | omega)
   rename_i g3 hg3
   refine LoopK.go (fun r st => ∃ (j q n1 : Nat) (H1 : A2), j + r = p.length ∧ st = ⟨[(0, .ptr g 0), (4, .ptr _g 0), (32, .sl 5 (Ac p) .ro), (33, aI p.length), (34, aI j)], n1, H1⟩ ∧ q ≤ 60 ∧ JC p (i + 1) = JC (p.drop j) q ∧ _g < n1 ∧ H1 g = some (Xh gs q) ∧ H1 gs = some (.map (some .i64) shpMap) ∧ H1 _g = some (.cells 27 [aI 0, aI 0]) ∧ (∀ k, k < n → k ≠ g → H1 k = H k) ∧ ∀ k, n1 ≤ k → H1 k = none) p.length
    ⟨0, i + 1, _, _, by omega, by simp [hpl]; exact ⟨rfl, rfl⟩, by omega, rfl, by omega, by simp (disch := omega) only [upd_ne, AK]; rfl, by simp (disch := omega) only [upd_ne]; exact hgs, by simp (disch := omega) only [upd_ne, AK], fun k h1 h2 => by simp (disch := omega) only [upd_ne], fun k h1 => by simp (disch := omega) only [upd_ne]; exact hH k (by omega)⟩ ?_
   rintro r st ⟨j, q, n1, H1, hj, rfl, hq, hE, hn1, q1, q2, q4, hsame, hsup⟩ J hJ
   by_cases hjl : j < p.length
   ·obtain ⟨x, hx⟩ : ∃ x, p[j]? = some x := ⟨_, List.getElem?_eq_getElem hjl⟩
    have hxm := List.mem_of_getElem? hx
    have hst := ih x hxm (Cw hpp x hxm) q hq
    have hxe := EN hx
    have hxf := BK x
    have hjl' : (j : Int) < p.length := by omega
    rw [UO hx] at hE
    unfold RL at hst
    generalize hsx : EE x q = sx at *
    have hok : sx.2 = 0 → sx.1 ≤ 60 := fun h2 => by rw [← hsx] at h2 ⊢; exact (Nj x q h2).2.2
    obtain ⟨k', o', m', v', p'⟩ := x
    rw [AP] at hst hxe hxf
    generalize Ac p = ep at *
    generalize Ac p' = ep' at *
    generalize v'.map aI = ev' at *
    by_cases h2 : sx.2 = 0
    ·rw [if_neg (by simpa using h2)] at hE
     have h3 := hok h2
     have e1 : RD sx = (0, 0) := by unfold RD; rw [if_neg (by simpa using h2)]
     have e2 : RB sx = sx.1 := by unfold RB; rw [if_neg (by simpa using h2)]
     rw [e1, e2] at hst
     
     repeat' (first | (simp -implicitDefEqProofs [Hb, Ic, NR, -getElem?_pos, hjl', hxe, splice]) | (simp (disch := omega) only [AB]) | ((with_reducible refine Ae 40 ?_); (refine' CallK.sfU ?_ ((hst g gs _ _ (by simp (disch := omega) only [upd_ne, AK]; exact q1) (by simp (disch := omega) only [upd_ne]; exact q2))) ?_); (focus first | (with_reducible exact A4 _) | (simp [AT, AL, A6, A4]; done))) | (with_reducible first | refine A5 ?_ ?_ ?_ | exact A7 | assumption | refine A0 ?_ | refine KM.of ?_ | refine AA ?_ | refine A1 ?_ | refine A3 ?_ | intro _g _hg | refine A9 ?_ ?_ | intro _hc) | omega)
     exact hJ (r - 1) _ (by omega) ⟨j + 1, sx.1, _, _, by omega, rfl, h3, hE, by omega, by simp (disch := omega) only [upd_ne, AK], by simp (disch := omega) only [upd_ne]; exact q2, by simp (disch := omega) only [upd_ne]; exact q4, fun k h1 h2 => by simp (disch := omega) only [upd_ne]; exact hsame k h1 h2, fun k h1 => by simp (disch := omega) only [upd_ne]; exact hsup k (by omega)⟩
    ·rw [if_pos h2] at hE
     rw [hE]
     have e1 : RD sx = (sx.2, (sx.1 : Int)) := by unfold RD; rw [if_pos h2]
     have e2 : RB sx = sx.1 + 1 := by unfold RB; rw [if_pos h2]
     rw [e1, e2] at hst ⊢
     
     repeat' (first | (simp -implicitDefEqProofs [Hb, Ic, -getElem?_pos, hjl', hxe, h2, q4, splice, A6]) | (simp (disch := omega) only [AB]) | ((with_reducible refine Ae 40 ?_); (refine' CallK.sfU ?_ ((hst g gs _ _ (by simp (disch := omega) only [upd_ne, AK]; exact q1) (by simp (disch := omega) only [upd_ne]; exact q2))) ?_); (focus first | (with_reducible exact A4 _) | (simp [AT, AL, A6, A4]; done))) | (with_reducible first | refine A5 ?_ ?_ ?_ | exact A7 | assumption | refine A0 ?_ | refine KM.of ?_ | refine AA ?_ | refine A1 ?_ | refine A3 ?_ | intro _g _hg | refine A9 ?_ ?_ | intro _hc) | omega)
     all_goals first | exact A6 _ | (intro q' hq'; simp only [upd]; (repeat' split) <;> first | rfl | omega | (exact hsame _ hq' (by assumption)))
   ·have hjl' : ¬ (j : Int) < p.length := by omega
    rw [List.drop_eq_nil_of_le (by omega), JC] at hE
    rw [hE]
    
    repeat' (first | (simp -implicitDefEqProofs [Hb, K6, -getElem?_pos, hjl', q4, splice, RD, RB, A6]) | (simp (disch := omega) only [AB]) | (with_reducible first | refine A5 ?_ ?_ ?_ | exact A7 | assumption | refine A0 ?_ | refine KM.of ?_ | refine AA ?_ | refine A1 ?_ | refine A3 ?_ | intro _g _hg | refine A9 ?_ ?_ | intro _hc) | omega)
    all_goals first | exact A6 _ | (intro q' hq'; simp only [upd]; (repeat' split) <;> first | rfl | omega | (subst_vars; exact q1) | (exact hsame _ hq' (by assumption)))
  ·rw [if_pos hc0]
   repeat' (first | (simp -implicitDefEqProofs [K6, NR, Ic, Hb, M8, LA, c40, -getElem?_pos, hg, h60', hc0, splice, RD, RB, A6]) | (simp (disch := omega) only [AB]) | ((with_reducible refine Ae 69 ?_); (refine' CallK.sfAt ?_ ((hnode _ _ (by simp (disch := omega) only [upd_ne, AK]) (by simp (disch := omega) only [upd_ne]; exact hgs))) ?_); (focus first | (with_reducible exact A4 _) | (simp [AT, AL, A6, A4]; done))) | (with_reducible first | refine A5 ?_ ?_ ?_ | exact A7 | assumption | refine A0 ?_ | refine KM.of ?_ | refine AA ?_ | refine A1 ?_ | refine A3 ?_ | intro _g _hg | refine A9 ?_ ?_ | intro _hc) | omega)
   all_goals first | exact A6 _ | (intro q hq; simp only [upd]; (repeat' split) <;> first | rfl | omega)
open Go.RowKit
theorem Zv {s : Ad} {v : Int} (h : Lib.atoiAll s = .ok v) (hs : s.length ≤ 1000000) : APure Tryz.prog 144 [.str s] (.tup [aI v, .nif]) := by
 refine QP fun G vs hr => ⟨.tuple #[.int .i64 v, .nilIface], fun _ => .tup (.cons .int (.cons .nif .nil)), fun w hl => ?_⟩
 cases hr with | cons h1 h2 =>
 cases h2; cases h1
 rename_i s1 hs1
 refine (Any.strconv_Atoi_ok PY s1 (by rw [Lib.size_eq, hs1]; omega) v (by rw [hs1]; exact h) w).mono ?_
 rintro e w' ⟨rfl, h2⟩
 refine ⟨rfl, ?_⟩
 rcases h2 with rfl | ⟨t, rfl⟩
 ·exact Below.refl _ _
 ·exact Lib.bytesWorld_below _ _ _
theorem Ss {P : Program} {f : Nat} {s : Ad} {n : Int} {t : Nat} (h : ∀ (s1 : ByteArray) (w : World), s1.data.toList = s → Laid w → Calls P f #[.string s1] w fun e w' => ∃ N, e = .returned (.tuple #[.int .i64 n, .iface t (.pointer (some ⟨N, 0, none⟩))]) ∧ Below w.heap.size w w') : APure P f [.str s] (.tup [aI n, .ifc t .any]) := by
 intro n0 H hs w0 G w vs hl h0 hrep
 cases hrep with | cons h1 h2 =>
 cases h2; cases h1
 rename_i s1 hs1
 refine (h s1 w hs1 (hl.ext h0.ext)).mono ?_
 rintro e w' ⟨N, rfl, hb⟩
 exact ⟨_, _, G, n0, H, rfl, ⟨rfl, rfl, rfl⟩, .tup (.cons .int (.cons (.ifc .any) .nil)), Gh.Le.rfl_ _, Nat.le_refl _, Lk h0 hb⟩
theorem Wm {s : Ad} (h0 : ∀ v, Lib.atoiAll s ≠ .ok v) (h2 : Lib.atoiAll s ≠ .range) (hs : s.length ≤ 1000000) : APure Tryz.prog 144 [.str s] (.tup [aI 0, .ifc 168 .any]) := by
 refine Ss fun s1 w hs1 hl => ?_
 obtain ⟨ev, hv, hev⟩ := hl.syn
 refine (Any.strconv_Atoi_syntax PY s1 (by rw [Lib.size_eq, hs1]; omega) (by rw [hs1]; revert h0 h2; cases Lib.atoiAll s <;> simp) ev w hv hev).mono ?_
 rintro e w' ⟨k, rfl, _, _, hb⟩
 exact ⟨k, rfl, hb⟩
theorem Wu {s : Ad} (h : Lib.atoiAll s = .range) (hs : s.length ≤ 1000000) : APure Tryz.prog 144 [.str s] (.tup [aI (Lib.atoiSat s), .ifc 168 .any]) := by
 refine Ss fun s1 w hs1 hl => ?_
 obtain ⟨ev, hv, hev⟩ := hl.rng
 have key := Any.strconv_Atoi_range PY s1 (by rw [Lib.size_eq, hs1]; omega) (by rw [hs1]; exact h) ev w hv hev
 rw [hs1] at key
 refine key.mono ?_
 rintro e w' ⟨k, rfl, _, _, hb⟩
 exact ⟨k, rfl, hb⟩
theorem SS (s p : Ad) : APure Tryz.prog 145 [.str s, .str p] (.bool (decide (p <+: s))) := by
 by_cases h : p.length ≤ s.length
 ·have h' : (p.length : Int) ≤ s.length := by omega
  have hh : ¬ (s.length : Int) < p.length := by omega
  by_cases hp : p <+: s
  ·have e : s.take p.length = p := List.prefix_iff_eq_take.1 hp |>.symm
   rw [decide_eq_true hp]
   
   refine AD Tryz.func145 TU rfl fun n H hH => ?_
   repeat' (first | (simp -implicitDefEqProofs [c145, -getElem?_pos, h, h', hh, e, AL]) | (simp (disch := omega) only [AB]) | (with_reducible first | refine A5 ?_ ?_ ?_ | exact A7 | refine SameB.upd ?_ ?_ _ | assumption | refine A0 ?_ | refine KM.of ?_ | refine AA ?_ | intro _g _hg | refine A9 ?_ ?_ | intro _hc) | omega)
  ·have e : ¬ s.take p.length = p := fun e => hp (List.prefix_iff_eq_take.2 e.symm)
   rw [decide_eq_false hp]
   
   refine AD Tryz.func145 TU rfl fun n H hH => ?_
   repeat' (first | (simp -implicitDefEqProofs [c145, -getElem?_pos, h, h', hh, e, AL]) | (simp (disch := omega) only [AB]) | (with_reducible first | refine A5 ?_ ?_ ?_ | exact A7 | refine SameB.upd ?_ ?_ _ | assumption | refine A0 ?_ | refine KM.of ?_ | refine AA ?_ | intro _g _hg | refine A9 ?_ ?_ | intro _hc) | omega)
 ·have h' : ¬ (p.length : Int) ≤ s.length := by omega
  have hp : ¬ p <+: s := fun hp => h hp.length_le
  rw [decide_eq_false hp]
  
  refine AD Tryz.func145 TU rfl fun n H hH => ?_
  repeat' (first | (simp -implicitDefEqProofs [c145, -getElem?_pos, h, h', AL]) | (simp (disch := omega) only [AB]) | (with_reducible first | refine A5 ?_ ?_ ?_ | exact A7 | refine SameB.upd ?_ ?_ _ | assumption | refine A0 ?_ | refine KM.of ?_ | refine AA ?_ | intro _g _hg | refine A9 ?_ ?_ | intro _hc) | omega)
theorem SO (s p : Ad) : APure Tryz.prog 128 [.str s, .str p] (.bool (decide (p <+: s))) := by
 have h := SS s p
 generalize decide (p <+: s) = b at *
 
 refine AD Tryz.func128 A29 rfl fun n H hH => ?_
 repeat' (first | (simp -implicitDefEqProofs [c128, -getElem?_pos, AL]) | (simp (disch := omega) only [AB]) | ((with_reducible refine AN 145 ?_); refine' AQ (h) ?_) | (with_reducible first | refine A5 ?_ ?_ ?_ | exact A7 | refine SameB.upd ?_ ?_ _ | assumption | refine A0 ?_ | refine KM.of ?_ | refine AA ?_ | intro _g _hg | refine A9 ?_ ?_ | intro _hc) | omega)
def acc (c : UInt8) (s : Ad) : Ad × Bool := match s with
 | x :: r => if x = c then (r, true) else (x :: r, false)
 | [] => ([], false)
theorem Xd (s : Ad) (c : UInt8) : APure Tryz.prog 143 [.str s, .str [c]] (.tup [.str (acc c s).1, .bool (acc c s).2]) := by
 have h := SS s [c]
 cases s with
 | nil =>
  have e : decide ([c] <+: ([] : Ad)) = false := by simp
  rw [e] at h
  
  refine AD Tryz.func143 Tg rfl fun n H hH => ?_
  repeat' (first | (simp -implicitDefEqProofs [JE, c143, -getElem?_pos, acc, AL, AT]) | (simp (disch := omega) only [AB]) | ((with_reducible refine AN 145 ?_); refine' AQ (h) ?_) | (with_reducible first | refine A5 ?_ ?_ ?_ | exact A7 | refine SameB.upd ?_ ?_ _ | assumption | refine A0 ?_ | refine KM.of ?_ | refine AA ?_ | intro _g _hg | refine A9 ?_ ?_ | intro _hc) | omega)
 | cons x r =>
  by_cases hx : x = c
  ·subst hx
   have e : decide ([x] <+: x :: r) = true := by simp
   have e2 : acc x (x :: r) = (r, true) := by simp [acc]
   rw [e] at h
   rw [e2]
   
   refine AD Tryz.func143 Tg rfl fun n H hH => ?_
   repeat' (first | (simp -implicitDefEqProofs [JE, c143, -getElem?_pos, AL, AT]) | (simp (disch := omega) only [AB]) | ((with_reducible refine AN 145 ?_); refine' AQ (h) ?_) | (with_reducible first | refine A5 ?_ ?_ ?_ | exact A7 | refine SameB.upd ?_ ?_ _ | assumption | refine A0 ?_ | refine KM.of ?_ | refine AA ?_ | intro _g _hg | refine A9 ?_ ?_ | intro _hc) | omega)
  ·have e : decide ([c] <+: x :: r) = false := by simp [Ne.symm hx]
   have e2 : acc c (x :: r) = (x :: r, false) := by simp [acc, hx]
   rw [e] at h
   rw [e2]
   
   refine AD Tryz.func143 Tg rfl fun n H hH => ?_
   repeat' (first | (simp -implicitDefEqProofs [JE, c143, -getElem?_pos, AL, AT]) | (simp (disch := omega) only [AB]) | ((with_reducible refine AN 145 ?_); refine' AQ (h) ?_) | (with_reducible first | refine A5 ?_ ?_ ?_ | exact A7 | refine SameB.upd ?_ ?_ _ | assumption | refine A0 ?_ | refine KM.of ?_ | refine AA ?_ | intro _g _hg | refine A9 ?_ ?_ | intro _hc) | omega)
theorem Xj (s : Ad) (c : UInt8) : APure Tryz.prog 124 [.str s, .str [c]] (.tup [.str (acc c s).1, .bool (acc c s).2]) := by
 have h := Xd s c
 generalize acc c s = a at *
 
 refine AD Tryz.func124 A1a rfl fun n H hH => ?_
 repeat' (first | (simp -implicitDefEqProofs [c124, -getElem?_pos, AL, AT]) | (simp (disch := omega) only [AB]) | ((with_reducible refine AN 143 ?_); refine' AQ (h) ?_) | (with_reducible first | refine A5 ?_ ?_ ?_ | exact A7 | refine SameB.upd ?_ ?_ _ | assumption | refine A0 ?_ | refine KM.of ?_ | refine AA ?_ | intro _g _hg | refine A9 ?_ ?_ | intro _hc) | omega)
abbrev Ak (r : Ad) (gm : Nat) : AObj := .cells 92 [.str r, .mp gm]
theorem Gw (r : Ad) (c : UInt8) (gp gm n : Nat) (H : A2) (hp : H gp = some (Ak r gm)) : AUpd Tryz.prog 85 [.ptr gp 0, .str [c]] n H (.bool (acc c r).2) gp (Ak (acc c r).1 gm) := by
 have hc := Xj r c
 generalize acc c r = a at *
 refine GC Tryz.func85 A4j rfl (hp) fun hH => ?_
 repeat' (first | (simp -implicitDefEqProofs [c85, -getElem?_pos, hp, splice, A6]) | (simp (disch := omega) only [AB]) | ((with_reducible refine AN 124 ?_); refine' AQ (hc) ?_) | (with_reducible first | refine A5 ?_ ?_ ?_ | exact A7 | assumption | refine A0 ?_ | refine KM.of ?_ | refine AA ?_ | intro _g _hg | refine A9 ?_ ?_ | intro _hc) | omega)
def Aq (c : UInt8) : Bool := decide (97 ≤ c.toNat ∧ c.toNat ≤ 122)
theorem QX (p : UInt8 → Bool) (s : Ad) : s.take (s.takeWhile p).length = s.takeWhile p := by
 have := List.takeWhile_prefix (p := p) (l := s)
 exact (List.prefix_iff_eq_take.1 this).symm
theorem KV (p : UInt8 → Bool) : ∀ s : Ad, s.drop (s.takeWhile p).length = s.dropWhile p
 | [] => rfl
 | x :: r => by
  rw [List.takeWhile_cons, List.dropWhile_cons]
  split
  ·simpa using KV p r
  ·rfl
theorem R6 {p : UInt8 → Bool} : ∀ {s : Ad} {j : Nat}, j < (s.takeWhile p).length → ∃ c, s[j]? = some c ∧ p c = true
 | [], j, h => by simp at h
 | x :: r, j, h => by
  rw [List.takeWhile_cons] at h
  split at h
  ·rename_i hx
   cases j with
   | zero => exact ⟨x, rfl, hx⟩
   | succ j => simpa using R6 (s := r) (by simpa using h)
  ·simp at h
theorem Oe {p : UInt8 → Bool} : ∀ {s : Ad} {c : UInt8}, s[(s.takeWhile p).length]? = some c → p c = false
 | [], c, h => by simp at h
 | x :: r, c, h => by
  rw [List.takeWhile_cons] at h
  split at h
  ·simp at h; exact Oe h
  ·rename_i hx; simp at h; subst h; simpa using hx
theorem Xn (r : Ad) (gp gm n : Nat) (H : A2) (hr : r.length ≤ 1000000) (hp : H gp = some (Ak r gm)) : AUpd Tryz.prog 84 [.ptr gp 0] n H (.str (r.takeWhile Aq)) gp (Ak (r.dropWhile Aq) gm) := by
 have hlen : (r.takeWhile Aq).length ≤ r.length := (List.takeWhile_sublist _).length_le
 have htk := QX Aq r
 have hdr := KV Aq r
 refine GC Tryz.func84 A4h rfl (hp) fun hH => ?_
 repeat' (first | (simp -implicitDefEqProofs [c84, HR, HN, HL, c84, -getElem?_pos, hp]) | (simp (disch := omega) only [AB]) | (with_reducible first | refine A5 ?_ ?_ ?_ | exact A7 | assumption | refine A0 ?_ | refine KM.of ?_ | refine AA ?_ | intro _g _hg | refine A9 ?_ ?_ | intro _hc) | omega)
 refine LoopK.go (fun k st => ∃ j : Nat, j + k = (r.takeWhile Aq).length ∧ st = ⟨[(0, .ptr gp 0), (3, aI j)], n, H⟩) (r.takeWhile Aq).length ⟨0, by omega, rfl⟩ ?_
 rintro k st ⟨j, hj, rfl⟩ J hJ
 by_cases hjl : j < (r.takeWhile Aq).length
 ·obtain ⟨c, hc, hcl⟩ := R6 hjl
  have hjr : (j : Int) < r.length := by omega
  unfold Aq at hcl
  simp only [decide_eq_true_eq] at hcl
  have h1 : (97 : Int) ≤ (c.toNat : Int) := by omega
  have h2 : (c.toNat : Int) ≤ 122 := by omega
  
  repeat' (first | (simp -implicitDefEqProofs [HR, HN, HL, c84, -getElem?_pos, hp, hjr, hc, h1, h2]) | (simp (disch := omega) only [AB]) | (with_reducible first | refine A5 ?_ ?_ ?_ | exact A7 | assumption | refine A0 ?_ | refine KM.of ?_ | refine AA ?_ | intro _g _hg | refine A9 ?_ ?_ | intro _hc) | omega)
  exact hJ (k - 1) _ (by omega) ⟨j + 1, by omega, rfl⟩
 ·have ej : j = (r.takeWhile Aq).length := by omega
  rw [← ej] at htk hdr
  rw [← htk, ← hdr]
  have hjr2 : (j : Int) ≤ r.length := by omega
  by_cases hjr : j < r.length
  ·obtain ⟨c, hc⟩ : ∃ c, r[j]? = some c := ⟨_, List.getElem?_eq_getElem hjr⟩
   have hcl : Aq c = false := Oe (by rw [← ej]; exact hc)
   have hjr' : (j : Int) < r.length := by omega
   unfold Aq at hcl
   rw [decide_eq_false_iff_not] at hcl
   by_cases h1 : 97 ≤ c.toNat
   ·have h2 : ¬ (c.toNat : Int) ≤ 122 := by omega
    have h1' : (97 : Int) ≤ (c.toNat : Int) := by omega
    
    repeat' (first | (simp -implicitDefEqProofs [HR, HN, HL, c84, -getElem?_pos, hp, hjr', hc, h1', h2, hjr2, splice, A6]) | (simp (disch := omega) only [AB]) | (with_reducible first | refine A5 ?_ ?_ ?_ | exact A7 | assumption | refine A0 ?_ | refine KM.of ?_ | refine AA ?_ | intro _g _hg | refine A9 ?_ ?_ | intro _hc) | omega)
    all_goals first | exact A7 | exact A6 _
   ·have h1' : ¬ (97 : Int) ≤ (c.toNat : Int) := by omega
    
    repeat' (first | (simp -implicitDefEqProofs [HR, HN, HL, c84, -getElem?_pos, hp, hjr', hc, h1', hjr2, splice, A6]) | (simp (disch := omega) only [AB]) | (with_reducible first | refine A5 ?_ ?_ ?_ | exact A7 | assumption | refine A0 ?_ | refine KM.of ?_ | refine AA ?_ | intro _g _hg | refine A9 ?_ ?_ | intro _hc) | omega)
    all_goals first | exact A7 | exact A6 _
  ·have hjr' : ¬ (j : Int) < r.length := by omega
   have hcn : r[j]? = none := List.getElem?_eq_none (by omega)
   
   repeat' (first | (simp -implicitDefEqProofs [HR, HN, HL, c84, -getElem?_pos, hp, hjr', hcn, hjr2, splice, A6]) | (simp (disch := omega) only [AB]) | (with_reducible first | refine A5 ?_ ?_ ?_ | exact A7 | assumption | refine A0 ?_ | refine KM.of ?_ | refine AA ?_ | intro _g _hg | refine A9 ?_ ?_ | intro _hc) | omega)
   all_goals first | exact A7 | exact A6 _
theorem UB {l : Ad} (hl : ∀ c ∈ l, Ap c = true) (h9 : l.length ≤ 9) : HB 0 l ≤ 999999999 := by
 have h1 := Tn l hl 0
 have h2 : 10 ^ l.length ≤ 10 ^ 9 := Nat.pow_le_pow_right (by omega) h9
 omega
theorem XI {d : Ad} (h : ∀ c ∈ d, Ap c = true) (h0 : d ≠ []) (h9 : d.length ≤ 9) : Lib.atoiAll d = .ok (HB 0 d : Int) ∧ HB 0 d ≤ 999999999 := by
 have hb2 : HB 0 d ≤ 999999999 := UB h h9
 refine ⟨?_, hb2⟩
 obtain ⟨c, l, rfl⟩ := List.exists_cons_of_ne_nil h0
 have hc := h c List.mem_cons_self
 unfold Ap at hc
 simp only [decide_eq_true_eq] at hc
 have hm : Lib.parseMag (c :: l) = .ok (HB 0 (c :: l)) := by
  unfold Lib.parseMag
  rw [if_neg (by simp), QJ _ h 0 (by omega)]
 rw [Lib.atoiAll_plain c l (by omega) (by omega), hm]
 simp [Lib.signless]; omega
def GW (d : Ad) : Int × Bool := match Lib.atoiAll d with
 | .ok v => (v, decide (d.length ≤ 9) && decide (Lib.itoa v = d))
 | .range => (Lib.atoiSat d, false)
 | _ => (0, false)
theorem X0 (r : Ad) : ∀ c ∈ r.takeWhile Ap, Ap c = true := fun c hc => by
 have := List.all_takeWhile (p := Ap) (l := r)
 exact List.all_eq_true.1 this c hc
theorem SN (r : Ad) (gp gm n : Nat) (H : A2) (hr : r.length ≤ 1000000) (hp : H gp = some (Ak r gm)) : AUpd Tryz.prog 127 [.ptr gp 0] n H (.tup [aI (GW (r.takeWhile Ap)).1, .bool (GW (r.takeWhile Ap)).2]) gp (Ak (r.dropWhile Ap) gm) := by
 have hlen : (r.takeWhile Ap).length ≤ r.length := (List.takeWhile_sublist _).length_le
 have htk := QX Ap r
 have hdr := KV Ap r
 have hdig := X0 r
 refine GC Tryz.func127 A2n rfl (hp) fun hH => ?_
 repeat' (first | (simp -implicitDefEqProofs [c127, Di, Pd, GD, c127, -getElem?_pos, hp]) | (simp (disch := omega) only [AB]) | (with_reducible first | refine A5 ?_ ?_ ?_ | exact A7 | assumption | refine A0 ?_ | refine KM.of ?_ | refine AA ?_ | intro _g _hg | refine A9 ?_ ?_ | intro _hc) | omega)
 refine LoopK.go (fun k st => ∃ j : Nat, j + k = (r.takeWhile Ap).length ∧ st = ⟨[(0, .ptr gp 0), (4, aI j)], n, H⟩) (r.takeWhile Ap).length ⟨0, by omega, rfl⟩ ?_
 rintro k st ⟨j, hj, rfl⟩ J hJ
 by_cases hjl : j < (r.takeWhile Ap).length
 ·obtain ⟨c, hc, hcl⟩ := R6 hjl
  have hjr : (j : Int) < r.length := by omega
  unfold Ap at hcl
  simp only [decide_eq_true_eq] at hcl
  have h1 : (48 : Int) ≤ (c.toNat : Int) := by omega
  have h2 : (c.toNat : Int) ≤ 57 := by omega
  
  repeat' (first | (simp -implicitDefEqProofs [Di, Pd, GD, c127, -getElem?_pos, hp, hjr, hc, h1, h2]) | (simp (disch := omega) only [AB]) | (with_reducible first | refine A5 ?_ ?_ ?_ | exact A7 | assumption | refine A0 ?_ | refine KM.of ?_ | refine AA ?_ | intro _g _hg | refine A9 ?_ ?_ | intro _hc) | omega)
  exact hJ (k - 1) _ (by omega) ⟨j + 1, by omega, rfl⟩
 ·have ej : j = (r.takeWhile Ap).length := by omega
  rw [← ej] at htk hdr
  rw [← hdr]
  have hjr2 : (j : Int) ≤ r.length := by omega
  have hdl : (r.takeWhile Ap).length ≤ 1000000 := by omega
  generalize hd : r.takeWhile Ap = d at *
  have key : ∀ b : AV, aw Tryz.prog c127_k1 (OG (.tup [aI (GW d).1, .bool (GW d).2]) n (upd H gp (some (Ak (r.drop j) gm))) [.tmp 2, .tmp 3]) ⟨[(0, .ptr gp 0), (4, aI j), (32, b)], n, H⟩ := by
   intro b
   cases hat : Lib.atoiAll d with
   | ok v =>
    have h1 := Zv hat hdl
    by_cases h9 : d.length ≤ 9
    ·have hne : d ≠ [] := by
      intro e
      rw [e] at hat
      simp [Lib.atoiAll, Lib.signless, Lib.parseMag] at hat
     obtain ⟨h2, h3⟩ := XI hdig hne h9
     rw [h2] at hat
     injection hat with hat
     have h4 := TK v (by omega)
     have h9' : (d.length : Int) ≤ 9 := by omega
     have e : GW d = (v, decide (Lib.itoa v = d)) := by unfold GW; rw [h2, hat]; simp [h9]
     rw [e]
     generalize Lib.itoa v = iv at *
     by_cases hiv : iv = d
     ·have hiv2 : decide (iv = d) = true := decide_eq_true hiv
      
      repeat' (first | (simp -implicitDefEqProofs [Di, -getElem?_pos, hp, hjr2, htk, h9', hiv, AL, AT, splice]) | (simp (disch := omega) only [AB]) | ((with_reducible refine AN 144 ?_); refine' AQ (h1) ?_) | ((with_reducible refine AN 120 ?_); refine' AQ (h4) ?_) | (with_reducible first | refine A5 ?_ ?_ ?_ | exact A7 | assumption | refine A0 ?_ | refine KM.of ?_ | refine AA ?_ | intro _g _hg | refine A9 ?_ ?_ | intro _hc) | omega)
      all_goals first | exact A7 | exact A6 _
     ·have hiv2 : decide (iv = d) = false := decide_eq_false hiv
      
      repeat' (first | (simp -implicitDefEqProofs [Di, -getElem?_pos, hp, hjr2, htk, h9', hiv, AL, AT, splice]) | (simp (disch := omega) only [AB]) | ((with_reducible refine AN 144 ?_); refine' AQ (h1) ?_) | ((with_reducible refine AN 120 ?_); refine' AQ (h4) ?_) | (with_reducible first | refine A5 ?_ ?_ ?_ | exact A7 | assumption | refine A0 ?_ | refine KM.of ?_ | refine AA ?_ | intro _g _hg | refine A9 ?_ ?_ | intro _hc) | omega)
      all_goals first | exact A7 | exact A6 _
    ·have h9' : ¬ (d.length : Int) ≤ 9 := by omega
     have e : GW d = (v, false) := by unfold GW; rw [hat]; simp [h9]
     rw [e]
     
     repeat' (first | (simp -implicitDefEqProofs [Di, -getElem?_pos, hp, hjr2, htk, h9', AL, AT, splice]) | (simp (disch := omega) only [AB]) | ((with_reducible refine AN 144 ?_); refine' AQ (h1) ?_) | (with_reducible first | refine A5 ?_ ?_ ?_ | exact A7 | assumption | refine A0 ?_ | refine KM.of ?_ | refine AA ?_ | intro _g _hg | refine A9 ?_ ?_ | intro _hc) | omega)
     all_goals first | exact A7 | exact A6 _
   | range =>
    have h1 := Wu hat hdl
    have e : GW d = (Lib.atoiSat d, false) := by unfold GW; rw [hat]
    rw [e]
    
    repeat' (first | (simp -implicitDefEqProofs [Di, -getElem?_pos, hp, hjr2, htk, AL, AT, splice]) | (simp (disch := omega) only [AB]) | ((with_reducible refine AN 144 ?_); refine' AQ (h1) ?_) | (with_reducible first | refine A5 ?_ ?_ ?_ | exact A7 | assumption | refine A0 ?_ | refine KM.of ?_ | refine AA ?_ | intro _g _hg | refine A9 ?_ ?_ | intro _hc) | omega)
    all_goals first | exact A7 | exact A6 _
   | _ =>
    have h1 := Wm (s := d) (by rw [hat]; simp) (by rw [hat]; simp) hdl
    have e : GW d = (0, false) := by unfold GW; rw [hat]
    rw [e]
    
    repeat' (first | (simp -implicitDefEqProofs [Di, -getElem?_pos, hp, hjr2, htk, AL, AT, splice]) | (simp (disch := omega) only [AB]) | ((with_reducible refine AN 144 ?_); refine' AQ (h1) ?_) | (with_reducible first | refine A5 ?_ ?_ ?_ | exact A7 | assumption | refine A0 ?_ | refine KM.of ?_ | refine AA ?_ | intro _g _hg | refine A9 ?_ ?_ | intro _hc) | omega)
    all_goals first | exact A7 | exact A6 _
  by_cases hjr : j < r.length
  ·obtain ⟨c, hc⟩ : ∃ c, r[j]? = some c := ⟨_, List.getElem?_eq_getElem hjr⟩
   have hcl : Ap c = false := Oe (p := Ap) (s := r) (by rw [hd, ← ej]; exact hc)
   have hjr' : (j : Int) < r.length := by omega
   unfold Ap at hcl
   rw [decide_eq_false_iff_not] at hcl
   by_cases h1 : 48 ≤ c.toNat
   ·have h2 : ¬ (c.toNat : Int) ≤ 57 := by omega
    have h1' : (48 : Int) ≤ (c.toNat : Int) := by omega
    
    repeat' (first | (simp -implicitDefEqProofs [GD, -getElem?_pos, hp, hjr', hc, h1', h2, hjr2]) | (simp (disch := omega) only [AB]) | (with_reducible first | refine A5 ?_ ?_ ?_ | exact A7 | assumption | refine A0 ?_ | refine KM.of ?_ | refine AA ?_ | intro _g _hg | refine A9 ?_ ?_ | intro _hc) | omega)
    exact key _
   ·have h1' : ¬ (48 : Int) ≤ (c.toNat : Int) := by omega
    
    repeat' (first | (simp -implicitDefEqProofs [GD, -getElem?_pos, hp, hjr', hc, h1', hjr2]) | (simp (disch := omega) only [AB]) | (with_reducible first | refine A5 ?_ ?_ ?_ | exact A7 | assumption | refine A0 ?_ | refine KM.of ?_ | refine AA ?_ | intro _g _hg | refine A9 ?_ ?_ | intro _hc) | omega)
    exact key _
  ·have hjr' : ¬ (j : Int) < r.length := by omega
   have hcn : r[j]? = none := List.getElem?_eq_none (by omega)
   
   repeat' (first | (simp -implicitDefEqProofs [GD, -getElem?_pos, hp, hjr', hcn, hjr2]) | (simp (disch := omega) only [AB]) | (with_reducible first | refine A5 ?_ ?_ ?_ | exact A7 | assumption | refine A0 ?_ | refine KM.of ?_ | refine AA ?_ | intro _g _hg | refine A9 ?_ ?_ | intro _hc) | omega)
   exact key _
def fnW : List Ad := [[112, 108, 117, 115], [109, 105, 110, 117, 115], [116, 105, 109, 101, 115], [109, 97, 120], [109, 105, 110], [109, 111, 100]]
def cdW : List Ad := [[98, 101, 108, 111, 119], [97, 98, 111, 118, 101], [100, 105, 118, 105, 115, 105, 98, 108, 101]]
abbrev fnS : Ad := [112, 108, 117, 115, 32, 109, 105, 110, 117, 115, 32, 116, 105, 109, 101, 115, 32, 109, 97, 120, 32, 109, 105, 110, 32, 109, 111, 100]
abbrev cdS : Ad := [98, 101, 108, 111, 119, 32, 97, 98, 111, 118, 101, 32, 100, 105, 118, 105, 115, 105, 98, 108, 101]
theorem Q1 : Lib.fields fnS = fnW := by decide +kernel
theorem QL : Lib.fields cdS = cdW := by decide +kernel
theorem Q4 : APure Tryz.prog 118 [] (aSs fnW) := by
 have h := T3 fnS (by decide) (by decide) (by rw [Q1]; decide)
 rw [Q1] at h
 generalize fnW = l at *
 
 refine AD Tryz.func118 A1u rfl fun n H hH => ?_
 repeat' (first | (simp -implicitDefEqProofs [c118, -getElem?_pos, A6]) | (simp (disch := omega) only [AB]) | ((with_reducible refine AN 139 ?_); refine' AQ (h) ?_) | (with_reducible first | refine A5 ?_ ?_ ?_ | exact A7 | refine SameB.upd ?_ ?_ _ | assumption | refine A0 ?_ | refine KM.of ?_ | refine AA ?_ | intro _g _hg | refine A9 ?_ ?_ | intro _hc) | omega)
theorem QZ : APure Tryz.prog 119 [] (aSs cdW) := by
 have h := T3 cdS (by decide) (by decide) (by rw [QL]; decide)
 rw [QL] at h
 generalize cdW = l at *
 
 refine AD Tryz.func119 A2z rfl fun n H hH => ?_
 repeat' (first | (simp -implicitDefEqProofs [c119, -getElem?_pos, A6]) | (simp (disch := omega) only [AB]) | ((with_reducible refine AN 139 ?_); refine' AQ (h) ?_) | (with_reducible first | refine A5 ?_ ?_ ?_ | exact A7 | refine SameB.upd ?_ ?_ _ | assumption | refine A0 ?_ | refine KM.of ?_ | refine AA ?_ | intro _g _hg | refine A9 ?_ ?_ | intro _hc) | omega)
def I2 (w : Ad) : List Ad → Option Nat
 | [] => none
 | x :: r => if x = w then some 0 else (I2 w r).map (· + 1)
theorem Ui {w : Ad} : ∀ {l : List Ad} {j : Nat}, l[j]? = some w → (∀ (i : Nat) (x : Ad), i < j → l[i]? = some x → x ≠ w) → I2 w l = some j
 | [], j, h, _ => by simp at h
 | x :: r, 0, h, _ => by simp at h; simp [I2, h]
 | x :: r, j + 1, h, hb => by
  have h0 := hb 0 x (by omega) rfl
  have := Ui (l := r) (j := j) (by simpa using h) fun i y hi hy => hb (i + 1) y (by omega) (by simpa using hy)
  simp [I2, h0, this]
theorem QU {w : Ad} : ∀ {l : List Ad}, (∀ (i : Nat) (x : Ad), l[i]? = some x → x ≠ w) → I2 w l = none
 | [], _ => rfl
 | x :: r, hb => by
  have h0 := hb 0 x rfl
  have := QU (l := r) fun i y hy => hb (i + 1) y (by simpa using hy)
  simp [I2, h0, this]
def VX (w : Ad) (l : List Ad) : Int × Bool := match I2 w l with
 | some j => ((j : Int) + 1, true)
 | none => (0, false)
theorem A4z (r : Ad) (names : List Ad) (gp gm n : Nat) (H : A2) (hr : r.length ≤ 1000000) (hn : names.length ≤ 100) (hp : H gp = some (Ak r gm)) : AUpd Tryz.prog 126 [.ptr gp 0, .sl 1 (names.map AV.str) .ro] n H (.tup [aI (VX (r.takeWhile Aq) names).1, .bool (VX (r.takeWhile Aq) names).2]) gp (Ak (r.dropWhile Aq) gm) := by
 have hw := Xn r gp gm n H hr hp
 have hnl : (names.map AV.str).length = names.length := by simp
 generalize r.takeWhile Aq = w at *
 refine GC Tryz.func126 A0z rfl (hp) fun hH => ?_
 repeat' (first | (simp -implicitDefEqProofs [c126, Hn, Hs, Hi, Hj, c126, -getElem?_pos, hp, hnl]) | (simp (disch := omega) only [AB]) | ((with_reducible refine Ae 84 ?_); (refine' CallK.sfU ?_ (hw) ?_); (focus first | (with_reducible exact A4 _) | (simp [AT, AL, A6, A4]; done))) | (with_reducible first | refine A5 ?_ ?_ ?_ | exact A7 | assumption | refine A0 ?_ | refine KM.of ?_ | refine AA ?_ | intro _g _hg | refine A9 ?_ ?_ | intro _hc) | omega)
 refine LoopK.go (fun k st => ∃ j : Nat, j + k = names.length ∧ st = ⟨[(6, .str w), (11, .sl 1 (names.map AV.str) .ro), (12, aI names.length), (13, aI j)], n, upd H gp (some (Ak (r.dropWhile Aq) gm))⟩ ∧ ∀ (i : Nat) (x : Ad), i < j → names[i]? = some x → x ≠ w) names.length ⟨0, by omega, by simp, fun i x h => by omega⟩ ?_
 rintro k st ⟨j, hj, rfl, hb⟩ J hJ
 by_cases hjl : j < names.length
 ·obtain ⟨x, hx⟩ : ∃ x, names[j]? = some x := ⟨_, List.getElem?_eq_getElem hjl⟩
  have hxa := Ho (f := AV.str) hx
  have hjl' : (j : Int) < names.length := by omega
  by_cases hxw : x = w
  ·subst hxw
   have e : VX x names = ((j : Int) + 1, true) := by unfold VX; rw [Ui hx hb]
   rw [e]
   generalize names.map AV.str = na at *
   
   repeat' (first | (simp -implicitDefEqProofs [Hn, Hs, Hi, Hj, c126, -getElem?_pos, hnl, hjl', hxa, AL, AT]) | (simp (disch := omega) only [AB]) | (with_reducible first | refine A5 ?_ ?_ ?_ | exact A7 | assumption | refine A0 ?_ | refine KM.of ?_ | refine AA ?_ | intro _g _hg | refine A9 ?_ ?_ | intro _hc) | omega)
   all_goals first | exact A7 | exact A6 _ | (refine BG ?_; omega) | omega
  ·have hb2 : ∀ (i : Nat) (y : Ad), i < j + 1 → names[i]? = some y → y ≠ w := fun i y hi hy => by
    by_cases hij : i = j
    ·subst hij; rw [hx] at hy; injection hy with hy; rw [← hy]; exact hxw
    ·exact hb i y (by omega) hy
   generalize names.map AV.str = na at *
   
   repeat' (first | (simp -implicitDefEqProofs [Hn, Hs, Hi, Hj, c126, -getElem?_pos, hnl, hjl', hxa, hxw]) | (simp (disch := omega) only [AB]) | (with_reducible first | refine A5 ?_ ?_ ?_ | exact A7 | assumption | refine A0 ?_ | refine KM.of ?_ | refine AA ?_ | intro _g _hg | refine A9 ?_ ?_ | intro _hc) | omega)
   exact hJ (k - 1) _ (by omega) ⟨j + 1, by omega, rfl, hb2⟩
 ·have hjl' : ¬ (j : Int) < names.length := by omega
  have e : VX w names = (0, false) := by unfold VX; rw [QU fun i x hx => hb i x (by have := (List.getElem?_eq_some_iff.1 hx).1; omega) hx]
  rw [e]
  generalize names.map AV.str = na at *
  
  repeat' (first | (simp -implicitDefEqProofs [Hn, Hs, Hi, Hj, c126, -getElem?_pos, hnl, hjl', AL, AT]) | (simp (disch := omega) only [AB]) | (with_reducible first | refine A5 ?_ ?_ ?_ | exact A7 | assumption | refine A0 ?_ | refine KM.of ?_ | refine AA ?_ | intro _g _hg | refine A9 ?_ ?_ | intro _hc) | omega)
  all_goals first | exact A7 | exact A6 _
def leC (a b : AZ) : Prop := a.length = b.length ∧ ∀ (i : Nat) (x y : Int), a[i]? = some x → b[i]? = some y → x ≤ y
theorem leC.rfl_ (a : AZ) : leC a a := ⟨rfl, fun i x y h1 h2 => by rw [h1] at h2; injection h2 with h2; omega⟩
theorem leC.tr {a b c : AZ} (h : leC a b) (k : leC b c) : leC a c := by
 refine ⟨h.1.trans k.1, fun i x z h1 h2 => ?_⟩
 have hi : i < b.length := by rw [← h.1]; exact (List.getElem?_eq_some_iff.1 h1).1
 have h3 : b[i]? = some b[i] := List.getElem?_eq_getElem hi
 have := h.2 i x _ h1 h3
 have := k.2 i _ z h3 h2
 omega
theorem leC.app {a b c d : AZ} (h : leC a b) (k : leC c d) : leC (a ++ c) (b ++ d) := by
 refine ⟨by simp [h.1, k.1], fun i x y h1 h2 => ?_⟩
 by_cases hi : i < a.length
 ·rw [List.getElem?_append_left hi] at h1
  rw [List.getElem?_append_left (by rw [← h.1]; exact hi)] at h2
  exact h.2 i x y h1 h2
 ·rw [List.getElem?_append_right (by omega)] at h1
  rw [List.getElem?_append_right (by rw [← h.1]; omega), ← h.1] at h2
  exact k.2 _ x y h1 h2
def monL : AZ → As → AZ → Prop
 | cur, [], fin => leC cur fin
 | cur, (_, c) :: r, fin => leC cur c ∧ monL c r fin
def OE (F : Fut) : Prop := monL F.cur F.l F.fin ∧ ∀ x ∈ F.cur, 0 ≤ x
theorem monL.fin : ∀ {l : As} {cur fin : AZ}, monL cur l fin → leC cur fin
 | [], _, _, h => h
 | (_, c) :: r, cur, fin, h => h.1.tr (monL.fin h.2)
theorem monL.cur : ∀ {l : As} {cur cur' fin : AZ}, leC cur' cur → monL cur l fin → monL cur' l fin
 | [], _, _, _, hc, h => hc.tr h
 | (_, c) :: r, _, _, _, hc, h => ⟨hc.tr h.1, h.2⟩
theorem monL.map : ∀ {l : As} {cur fin : AZ} (f : Int → Int), monL cur l fin → monL cur (l.map fun e => (f e.1, e.2)) fin
 | [], _, _, _, h => h
 | (_, c) :: r, _, _, f, h => ⟨h.1, monL.map f h.2⟩
theorem monL.filter : ∀ {l : As} {cur fin : AZ} (p : Int × AZ → Bool), monL cur l fin → monL cur (l.filter p) fin
 | [], _, _, _, h => h
 | e :: r, _, _, p, h => by
  rw [List.filter_cons]
  split
  ·exact ⟨h.1, monL.filter p h.2⟩
  ·exact monL.cur h.1 (monL.filter p h.2)
theorem monL.tak : ∀ {l : As} {cur fin : AZ} (n : Nat), monL cur l fin → monL cur (ET n cur l fin).1 (ET n cur l fin).2
 | _, cur, _, 0, _ => by simp only [ET]; exact leC.rfl_ cur
 | [], _, _, _ + 1, h => h
 | (_, c) :: r, _, _, n + 1, h => ⟨h.1, monL.tak n h.2⟩
theorem monL.drop : ∀ {l : As} {cur fin : AZ} (n : Nat), monL cur l fin → monL cur (l.drop n) fin
 | _, _, _, 0, h => by simpa using h
 | [], _, _, _ + 1, h => h
 | (_, c) :: r, _, _, n + 1, h => by simpa using monL.cur h.1 (monL.drop n h.2)
theorem monL.whi : ∀ {l : As} {cur fin : AZ} (p : Int → Bool), monL cur l fin → monL cur (Fi p l fin).1 (Fi p l fin).2
 | [], _, _, _, h => h
 | (x, c) :: r, _, _, p, h => by
  simp only [Fi]
  split
  ·exact ⟨h.1, monL.whi p h.2⟩
  ·exact h.1
theorem monL.ski : ∀ {l : As} {cur fin : AZ} (p : Int → Bool), monL cur l fin → monL cur (JK p l) fin
 | [], _, _, _, h => h
 | (x, c) :: r, _, _, p, h => by
  simp only [JK]
  split
  ·exact monL.cur h.1 (monL.ski p h.2)
  ·exact h
theorem monL.sca : ∀ {l : As} {cur fin : AZ} (f : Int → Int → Int) (n : Int), monL cur l fin → monL cur (OY f n l) fin
 | [], _, _, _, _, h => h
 | (x, c) :: r, _, _, f, n, h => ⟨h.1, monL.sca f _ h.2⟩
theorem monL.win : ∀ {l : As} {cur fin : AZ} (f : Int → Int → Int) (N : Nat) (last : List Int), monL cur l fin → monL cur (GU f N last l) fin
 | [], _, _, _, _, _, h => h
 | (x, c) :: r, _, _, f, N, last, h => by
  simp only [GU]
  split
  ·exact monL.cur h.1 (monL.win f N _ h.2)
  ·exact ⟨h.1, monL.win f N _ h.2⟩
theorem monL.run : ∀ {l : As} {cur fin : AZ} (last : Int), monL cur l fin → monL cur (Iy last l) fin
 | [], _, _, _, h => h
 | (x, c) :: r, _, _, last, h => by
  simp only [Iy]
  split
  ·exact ⟨h.1, monL.run _ h.2⟩
  ·exact monL.cur h.1 (monL.run _ h.2)
theorem monL.same (xs : List Int) (fin : AZ) {l : As} (h : monL fin l fin) : monL fin (xs.map (fun x => (x, fin)) ++ l) fin := by
 induction xs with
 | nil => exact h
 | cons x xs ih => exact ⟨leC.rfl_ _, ih⟩
theorem monL.rep (xs : List Int) (fin : AZ) : ∀ n, monL fin (Fd xs fin n) fin
 | 0 => leC.rfl_ _
 | n + 1 => monL.same xs fin (monL.rep xs fin n)
theorem monL.app : ∀ {l m : As} {cur mid fin : AZ}, monL cur l mid → monL mid m fin → monL cur (l ++ m) fin
 | [], _, _, _, _, h, k => monL.cur h k
 | (_, c) :: r, _, _, _, _, h, k => ⟨h.1, monL.app h.2 k⟩
theorem monL.left : ∀ {l : As} {cur fin : AZ} (d : AZ), monL cur l fin → monL (cur ++ d) (l.map fun e => (e.1, e.2 ++ d)) (fin ++ d)
 | [], _, _, d, h => leC.app h (leC.rfl_ d)
 | (_, c) :: r, _, _, d, h => ⟨leC.app h.1 (leC.rfl_ d), monL.left d h.2⟩
theorem monL.right : ∀ {l : As} {cur fin : AZ} (d : AZ), monL cur l fin → monL (d ++ cur) (l.map fun e => (e.1, d ++ e.2)) (d ++ fin)
 | [], _, _, d, h => leC.app (leC.rfl_ d) h
 | (_, c) :: r, _, _, d, h => ⟨leC.app (leC.rfl_ d) h.1, monL.right d h.2⟩
theorem Yg {F : Fut} (k o n : Int) (h : OE F) : OE (DU k o n F) := by
 obtain ⟨h, hc⟩ := h
 unfold DU
 (repeat' split) <;> try refine ⟨?_, hc⟩
 ·exact h.map (fun x => EU o x n)
 ·exact h.filter _
 ·exact h.tak _
 ·exact h.drop _
 ·exact h.whi _
 ·exact h.ski _
 ·exact h.sca _ _
 ·exact h.win _ _ _
 ·exact h.run _
 ·unfold Sc
  split
  ·exact ⟨leC.rfl_ _, hc⟩
  ·exact ⟨h.app (monL.rep _ _ _), hc⟩
theorem UM : ∀ {Fs : List Fut}, (∀ F ∈ Fs, OE F) → OE (Fb Fs)
 | [], _ => ⟨leC.rfl_ _, by simp [Fb]⟩
 | F :: Fs, h => by
  have ih := UM fun G hG => h G (List.mem_cons_of_mem _ hG)
  have h1 := h F List.mem_cons_self
  refine ⟨(h1.1.left _).app (ih.1.right _), fun x hx => ?_⟩
  simp only [Fb, List.mem_append] at hx
  exact hx.elim (h1.2 x) (ih.2 x)
theorem monL.zip : ∀ {la lb : As} {ca cb fa fb : AZ} (f : Int → Int → Int), monL ca la fa → monL cb lb fb → monL (ca ++ cb) (HQ f fa fb la cb lb).1 (HQ f fa fb la cb lb).2
 | [], _, _, _, _, _, _, h, _ => leC.app h (leC.rfl_ _)
 | (x, c) :: r, [], _, _, _, _, _, h, k => leC.app h.1 k
 | (x, c) :: r, (y, d) :: t, _, _, _, _, f, h, k => ⟨leC.app h.1 k.1, monL.zip f h.2 k.2⟩
theorem monL.mer : ∀ {la lb : As} {ca cb fa fb : AZ}, monL ca la fa → monL cb lb fb → monL (ca ++ cb) (CH fa fb la lb) (fa ++ fb)
 | [], [], _, _, _, _, h, k => by rw [CH]; exact leC.app h k
 | [], (y, d) :: t, _, _, fa, _, h, k => by
  rw [CH]
  exact ⟨leC.app h k.1, monL.mer (la := []) (leC.rfl_ fa) k.2⟩
 | (x, c) :: r, [], _, _, _, fb, h, k => by
  rw [CH]
  exact ⟨leC.app h.1 k, monL.mer (lb := []) h.2 (leC.rfl_ fb)⟩
 | (x, c) :: r, (y, d) :: t, _, _, _, _, h, k => by
  rw [CH]
  split
  ·exact ⟨leC.app h.1 k.1, monL.mer (lb := (y, d) :: t) h.2 ⟨leC.rfl_ d, k.2⟩⟩
  ·exact ⟨leC.app h.1 k.1, monL.mer (la := (x, c) :: r) ⟨leC.rfl_ c, h.2⟩ k.2⟩
 termination_by la lb => la.length + lb.length
theorem Qv : ∀ (cs : List AZ) (i : Nat) (c : AZ), leC (cs.getD i []) c → leC cs.flatten (cs.set i c).flatten
 | [], i, c, _ => by simpa using leC.rfl_ []
 | a :: r, 0, c, h => by
  simp only [List.set_cons_zero, List.flatten_cons]
  exact leC.app (by simpa using h) (leC.rfl_ _)
 | a :: r, i + 1, c, h => by
  simp only [List.set_cons_succ, List.flatten_cons]
  exact leC.app (leC.rfl_ _) (Qv r i c (by simpa using h))
theorem getD_set_ne {cs : List AZ} {i j : Nat} {c : AZ} (h : j ≠ i) : (cs.set i c).getD j [] = cs.getD j [] := by
 simp only [List.getD_eq_getElem?_getD, List.getElem?_set_ne (Ne.symm h)]
theorem Sb {cs : List AZ} {i : Nat} {c : AZ} (h : i < cs.length) : (cs.set i c).getD i [] = c := by
 simp [List.getD_eq_getElem?_getD, h]
theorem monL.tur : ∀ (m : Nat) (q : List (Nat × As × AZ)) (cs : List AZ), (∀ e ∈ q, e.1 < cs.length ∧ monL (cs.getD e.1 []) e.2.1 e.2.2) → (q.map (·.1)).Nodup → monL cs.flatten (ES m q cs).1 (ES m q cs).2.flatten
 | 0, _, cs, _, _ => leC.rfl_ _
 | _ + 1, [], cs, _, _ => leC.rfl_ _
 | m + 1, (i, [], fin) :: q, cs, h, hn => by
  obtain ⟨h1, h2⟩ := h _ List.mem_cons_self
  simp only [List.map_cons, List.nodup_cons] at hn
  simp only [ES]
  refine monL.cur (Qv cs i fin h2) (monL.tur m q (cs.set i fin) (fun e he => ?_) hn.2)
  obtain ⟨h3, h4⟩ := h e (List.mem_cons_of_mem _ he)
  have hne : e.1 ≠ i := fun e1 => hn.1 (by rw [← e1]; exact List.mem_map_of_mem he)
  exact ⟨by simpa using h3, by rw [getD_set_ne hne]; exact h4⟩
 | m + 1, (i, (x, c) :: r, fin) :: q, cs, h, hn => by
  obtain ⟨h1, h2⟩ := h _ List.mem_cons_self
  simp only [List.map_cons, List.nodup_cons] at hn
  simp only [ES]
  refine ⟨Qv cs i c h2.1, monL.tur m (q ++ [(i, r, fin)]) (cs.set i c) (fun e he => ?_) ?_⟩
  ·rcases List.mem_append.1 he with he | he
   ·obtain ⟨h3, h4⟩ := h e (List.mem_cons_of_mem _ he)
    have hne : e.1 ≠ i := fun e1 => hn.1 (by rw [← e1]; exact List.mem_map_of_mem he)
    exact ⟨by simpa using h3, by rw [getD_set_ne hne]; exact h4⟩
   ·simp only [List.mem_singleton] at he
    subst he
    exact ⟨by simpa using h1, by rw [Sb h1]; exact h2.2⟩
  ·simp only [List.map_append, List.map_cons, List.map_nil]
   exact List.nodup_append.2 ⟨hn.2, by simp, fun a ha b hb => by simp at hb; subst hb; exact fun e => hn.1 (e ▸ ha)⟩
theorem Zk {Fs : List Fut} (h : ∀ F ∈ Fs, OE F) : OE (Ix Fs) := by
 refine ⟨?_, fun x hx => ?_⟩
 ·refine monL.tur _ _ _ (fun e he => ?_) ?_
  ·obtain ⟨⟨F, i⟩, hm, rfl⟩ := List.mem_map.1 he
   obtain ⟨h1, h2, h3⟩ := List.mem_zipIdx hm
   simp only [Nat.zero_add] at h2
   refine ⟨by simpa using h2, ?_⟩
   have h4 : Fs[i]? = some F := by
    rw [List.getElem?_eq_getElem (by omega)]; simp at h3; rw [h3]
   have : (Fs.map (·.cur)).getD i [] = F.cur := by simp [List.getD_eq_getElem?_getD, h4]
   simp only
   rw [this]
   exact (h F (List.mem_of_getElem? h4)).1
  ·have : (Fs.zipIdx.map fun x => (x.2, x.1.l, x.1.fin)).map (·.1) = List.range' 0 Fs.length := by
    rw [List.map_map]
    show Fs.zipIdx.map (fun x => x.2) = _
    exact List.zipIdx_map_snd 0 Fs
   rw [this]
   exact List.nodup_range'
 ·obtain ⟨c, hc, hxc⟩ := List.mem_flatten.1 hx
  obtain ⟨F, hF, rfl⟩ := List.mem_map.1 hc
  exact (h F hF).2 x hxc
theorem monL.lea : ∀ (xs : List Int) (i : Nat), monL [(i : Int)] (T5 i xs) [((i + xs.length : Nat) : Int)]
 | [], i => leC.rfl_ _
 | x :: r, i => by
  refine ⟨⟨rfl, fun j a b h1 h2 => ?_⟩, ?_⟩
  ·cases j with
   | zero => simp at h1 h2; omega
   | succ j => simp at h1
  ·have := monL.lea r (i + 1)
   simpa [Nat.add_assoc, Nat.add_comm 1] using this
theorem Us (xs : List Int) : OE (I6 xs) := ⟨by simpa [I6] using monL.lea xs 0, by simp [I6]⟩
theorem ZF (k o n : Int) (v : List Int) {Fs : List Fut} (h : ∀ F ∈ Fs, OE F) : OE (F9 k o n v Fs) := by
 unfold F9
 split
 ·exact Us _
 ·split
  ·exact Us _
  ·split
   ·exact UM h
   ·split
    ·exact Zk h
    ·split
     ·exact Yg k o n (h _ (by simp))
     ·rename_i F G
      have h1 := h F (by simp)
      have h2 := h G (by simp)
      split
      ·refine ⟨h1.1.zip (EU o) h2.1, fun x hx => ?_⟩
       exact (List.mem_append.1 hx).elim (h1.2 x) (h2.2 x)
      ·refine ⟨h1.1.mer h2.1, fun x hx => ?_⟩
       exact (List.mem_append.1 hx).elim (h1.2 x) (h2.2 x)
     ·exact ⟨leC.rfl_ _, by simp⟩
theorem Uw (s : St) : OE (Ag s) := by
 refine St.ind (Q := fun s => OE (Ag s)) ?_ s
 intro k o n v p ih
 rw [Ag, GL]
 refine ZF k o n v fun F hF => ?_
 obtain ⟨x, hx, rfl⟩ := List.mem_map.1 hF
 exact ih x hx
structure NodeOk (k o n : Int) (v : List Int) (p : List St) : Prop where
 k1 : 1 ≤ k
 k2 : k ≤ 16
 leaf : k = 1 ∨ k = 2 → p = []
 many : k = 13 ∨ k = 14 → p ≠ []
 two : k = 15 ∨ k = 16 → p.length = 2
 one : k ≠ 1 → k ≠ 2 → k ≠ 13 → k ≠ 14 → k ≠ 15 → k ≠ 16 → p.length = 1
 rng : k = 2 → v.length = 3
 nov : k ≠ 1 → k ≠ 2 → v = []
 fn : Pu k = true → (1 ≤ o ∧ o ≤ 5) ∨ (k = 3 ∧ o = 6)
 cnd : Cz k = true → 1 ≤ o ∧ o ≤ 3
 noo : Pu k = false → Cz k = false → o = 0
 num : OF k = true → OR k o ≤ n ∧ n ≤ OM k
 non : OF k = false → n = 0
 vals : BH k 0 v = true
theorem nz {p : Prop} [Decidable p] {c x : Int} (hc : c ≠ 0) (h : (if p then c else x) = 0) : ¬ p ∧ x = 0 := by
 by_cases hp : p
 ·rw [if_pos hp] at h; exact absurd h hc
 ·rw [if_neg hp] at h; exact ⟨hp, h⟩
theorem Fa {k o n : Int} {v : List Int} {p : List St} (h : C0 (.mk k o n v p) = 0) : NodeOk k o n v p := by
 rw [C0] at h
 obtain ⟨h1, h⟩ := nz (by decide) h
 obtain ⟨h2, h⟩ := nz (by decide) h
 obtain ⟨h3, h⟩ := nz (by decide) h
 obtain ⟨h4, h⟩ := nz (by decide) h
 obtain ⟨h5, h⟩ := nz (by decide) h
 have h6 : BH k 0 v = true := by
  by_cases h6 : BH k 0 v = true
  ·exact h6
  ·rw [if_neg h6] at h; cases h
 have h1 := Decidable.not_not.1 h1
 simp only [not_or, not_and, Decidable.not_not] at h2 h3 h4 h5
 obtain ⟨h21, h22, h23, h24, h25⟩ := h2
 obtain ⟨h31, h32, h33⟩ := h3
 obtain ⟨h41, h42⟩ := h4
 have hl : DA k = true ↔ k = 1 ∨ k = 2 := by simp [DA]
 have hm : Gb k = true ↔ k = 13 ∨ k = 14 := by simp [Gb]
 have ht : Jc k = true ↔ k = 15 ∨ k = 16 := by simp [Jc]
 have hl' : DA k = false ↔ ¬ (k = 1 ∨ k = 2) := by rw [← hl]; simp
 have hm' : Gb k = false ↔ ¬ (k = 13 ∨ k = 14) := by rw [← hm]; simp
 have ht' : Jc k = false ↔ ¬ (k = 15 ∨ k = 16) := by rw [← ht]; simp
 refine ⟨h1.1, h1.2, fun e => List.length_eq_zero_iff.1 (h21 (hl.2 e)), fun e e2 => (h22 (hm.2 e)) (by rw [e2]; rfl), fun e => h23 (ht.2 e), fun a b c d e f => h24 (hl'.2 (by omega)) (hm'.2 (by omega)) (ht'.2 (by omega)), h25, fun a b => List.length_eq_zero_iff.1 (h31 (hl'.2 (by omega))), ?_, ?_, fun a b => h33 a b, ?_, h32, h6⟩
 ·intro e
  have := h41 e
  by_cases a : 1 ≤ o ∧ o ≤ 5
  ·exact .inl a
  ·exact .inr (by grind)
 ·intro e
  have := h42 e
  grind
 ·intro e
  have := h5 e
  grind
theorem EM : ∀ p : List St, p.length ≤ CU p
 | [] => Nat.le_refl _
 | s :: r => by have h1 := Xz s; have h2 := EM r; simp only [CU, List.length_cons]; omega
theorem EG : ∀ {p : List St}, ∀ s ∈ p, Bk s ≤ CU p
 | [], s, h => by cases h
 | x :: r, s, hs => by
  simp only [CU]
  rcases List.mem_cons.1 hs with e | hs
  ·rw [e]; omega
  ·have := EG s hs; omega
theorem UY (c : Nat) : ∀ l : List Nat, min l.sum c = min (l.map (min · c)).sum c
 | [] => rfl
 | a :: r => by
  have := UY c r
  simp only [List.map_cons, List.sum_cons]
  omega
theorem min_mul (c n b : Nat) : min (n * b) c = min (n * min b c) c := by
 rcases Nat.le_total b c with h | h
 ·rw [Nat.min_eq_left h]
 ·rw [Nat.min_eq_right h]
  rcases Nat.eq_zero_or_pos n with e | e
  ·subst e; simp
  ·have h1 : c ≤ n * c := Nat.le_mul_of_pos_left c e
   have h2 : n * c ≤ n * b := Nat.mul_le_mul_left n h
   omega
theorem P3 (c : Nat) (k n : Int) (v : List Int) (bs : List Nat) : min (DT k n v bs) c = min (DT k n v (bs.map (min · c))) c := by
 have g : ∀ i : Nat, (bs.map (min · c)).getD i 0 = min (bs.getD i 0) c := by
  intro i
  simp only [List.getD_eq_getElem?_getD, List.getElem?_map]
  cases bs[i]? <;> simp
 unfold DT
 rw [g, g]
 split
 ·rfl
 ·split
  ·rfl
  ·split
   ·omega
   ·split
    ·exact min_mul c _ _
    ·split
     ·omega
     ·exact UY c bs
theorem Jf {v : List Int} (hl : v.length = 3) (hv : BH 2 0 v = true) : ∃ a b c : Int, v = [a, b, c] ∧ 0 ≤ a ∧ a ≤ 9999 ∧ 0 ≤ b ∧ b ≤ 10000 ∧ 1 ≤ c ∧ c ≤ 9999 := by
 match v, hl with
 | [a, b, c], _ =>
  simp [BH, GS] at hv
  exact ⟨a, b, c, rfl, by omega, by omega, by omega, by omega, by omega, by omega⟩
theorem Ov (o m : Int) (v : List Int) (p : List St) (hv : v.length ≤ 140737488355328) : APure Tryz.prog 36 [encS (.mk 1 o m v p)] (aI (v.length : Nat)) := by
 have hvl : (v.map aI).length = v.length := by simp
 rw [AP]
 generalize v.map aI = va at *
 
 refine AD Tryz.func36 Qp rfl fun n H hH => ?_
 repeat' (first | (simp -implicitDefEqProofs [E5, E7, EC, EB, Dx, E9, Dy, Dw, Dt, c36, -getElem?_pos, hvl, AL, AT]) | (simp (disch := omega) only [AB]) | (with_reducible first | refine A5 ?_ ?_ ?_ | exact A7 | refine SameB.upd ?_ ?_ _ | assumption | refine A0 ?_ | refine KM.of ?_ | refine AA ?_ | refine A1 ?_ | refine A3 ?_ | intro _g _hg | refine A9 ?_ ?_ | intro _hc) | omega)
theorem ZT (a b c : Int) (hc : 1 ≤ c) : max 0 ((b - a + c - 1).tdiv c) = (HU [a, b, c] : Int) := by
 show _ = ((((b - a + c - 1) / c).toNat : Nat) : Int)
 rcases Int.lt_or_le (b - a + c - 1) 0 with h | h
 ·have h1 : (b - a + c - 1) / c < 0 := Int.ediv_neg_of_neg_of_pos h (by omega)
  have h2 : (b - a + c - 1).tdiv c ≤ 0 := by
   have := Int.tdiv_nonneg (a := -(b - a + c - 1)) (b := c) (by omega) (by omega)
   rw [Int.neg_tdiv] at this
   omega
  omega
 ·rw [Int.tdiv_eq_ediv_of_nonneg h]
  have := Int.ediv_nonneg h (b := c) (by omega)
  omega
theorem Q2 (o m : Int) (v : List Int) (p : List St) (hl : v.length = 3) (hv : BH 2 0 v = true) : APure Tryz.prog 36 [encS (.mk 2 o m v p)] (aI (HU v : Nat)) := by
 obtain ⟨a, b, c, rfl, ha, ha', hb, hb', hc, hc'⟩ := Jf hl hv
 have hr := ZT a b c hc
 have hq : -30000 ≤ (b - a + c - 1).tdiv c ∧ (b - a + c - 1).tdiv c ≤ 30000 := by
  have := Int.natAbs_tdiv_le_natAbs (b - a + c - 1) c
  omega
 rw [AP]
 generalize hz : HU [a, b, c] = z at *
 
 refine AD Tryz.func36 Qp rfl fun n H hH => ?_
 repeat' (first | (simp -implicitDefEqProofs [E5, E7, EC, EB, Dx, E9, Dy, Dw, Dt, c36, -getElem?_pos, AL, AT]) | (simp (disch := omega) only [AB]) | (with_reducible first | refine A5 ?_ ?_ ?_ | exact A7 | refine SameB.upd ?_ ?_ _ | assumption | refine A0 ?_ | refine KM.of ?_ | refine AA ?_ | refine A1 ?_ | refine A3 ?_ | intro _g _hg | refine A9 ?_ ?_ | intro _hc) | omega)
 all_goals (rw [IntKind.i64_wrap_id (by omega) (by omega)]; omega)
def rgE (l : As) : Prop := ∀ e ∈ l, 0 ≤ e.1 ∧ e.1 ≤ 9999
theorem rgE.nil : rgE [] := fun e h => by cases h
theorem rgE.cons {x : Int} {c : AZ} {l : As} (h : 0 ≤ x ∧ x ≤ 9999) (k : rgE l) : rgE ((x, c) :: l) := fun e he => by
 rcases List.mem_cons.1 he with rfl | he
 ·exact h
 ·exact k e he
theorem rgE.hd {x : Int} {c : AZ} {l : As} (h : rgE ((x, c) :: l)) : 0 ≤ x ∧ x ≤ 9999 := h (x, c) List.mem_cons_self
theorem rgE.tl {x : Int} {c : AZ} {l : As} (h : rgE ((x, c) :: l)) : rgE l := fun e he => h e (List.mem_cons_of_mem _ he)
theorem rgE.app {l m : As} (h : rgE l) (k : rgE m) : rgE (l ++ m) := fun e he => (List.mem_append.1 he).elim (h e) (k e)
theorem Xc {o x y : Int} (hx : 0 ≤ x ∧ x ≤ 9999) (hy : 0 ≤ y ∧ y ≤ 9999) (hz : o = 1 ∨ o = 2 ∨ o = 3 ∨ o = 4 ∨ o = 5 ∨ 1 ≤ y) : 0 ≤ EU o x y ∧ EU o x y ≤ 9999 := by
 unfold EU
 split
 ·omega
 ·split
  ·omega
  ·split
   ·omega
   ·split
    ·omega
    ·split
     ·omega
     ·have h1 := Int.emod_nonneg x (show y ≠ 0 by omega)
      have h2 := Int.emod_lt_of_pos x (show 0 < y by omega)
      omega
theorem RT : ∀ (xs : List Int) (i : Nat), (T5 i xs).length = xs.length
 | [], _ => rfl
 | x :: r, i => by simp [T5, RT r]
theorem Rf : ∀ (xs : List Int) (i : Nat), ∀ e ∈ T5 i xs, e.1 ∈ xs
 | [], _, e, h => by cases h
 | x :: r, i, e, h => by
  simp only [T5, List.mem_cons] at h
  rcases h with rfl | h
  ·simp
  ·exact List.mem_cons_of_mem _ (Rf r _ e h)
theorem Up : ∀ (n : Nat) (cur : AZ) (l : As) (fin : AZ), (ET n cur l fin).1.length = min n l.length
 | 0, _, _, _ => by simp [ET]
 | n + 1, _, [], _ => by simp [ET]
 | n + 1, _, (x, c) :: r, fin => by simp [ET, Up n c r fin]
theorem A0k : ∀ (n : Nat) (cur : AZ) (l : As) (fin : AZ), (ET n cur l fin).1 = l.take n
 | 0, _, _, _ => by simp [ET]
 | n + 1, _, [], _ => by simp [ET]
 | n + 1, _, (x, c) :: r, fin => by simp [ET, A0k n c r fin]
theorem Ra (p : Int → Bool) : ∀ (l : As) (fin : AZ), (Fi p l fin).1.Sublist l
 | [], _ => by simp [Fi]
 | (x, c) :: r, fin => by
  simp only [Fi]
  split
  ·exact (Ra p r fin).cons₂ _
  ·exact List.nil_sublist _
theorem Rb (p : Int → Bool) : ∀ (l : As), (JK p l).Sublist l
 | [] => by simp [JK]
 | (x, c) :: r => by
  simp only [JK]
  split
  ·exact (Rb p r).cons _
  ·exact List.Sublist.refl _
theorem OL : ∀ (last : Int) (l : As), (Iy last l).Sublist l
 | _, [] => by simp [Iy]
 | last, (x, c) :: r => by
  simp only [Iy]
  split
  ·exact (OL x r).cons₂ _
  ·exact (OL last r).cons _
theorem Uy (f : Int → Int → Int) : ∀ (n : Int) (l : As), (OY f n l).length = l.length
 | _, [] => rfl
 | n, (x, c) :: r => by simp [OY, Uy f]
theorem RV (f : Int → Int → Int) (N : Nat) : ∀ (last : List Int) (l : As), (GU f N last l).length ≤ l.length
 | _, [] => by simp [GU]
 | last, (x, c) :: r => by
  simp only [GU]
  split
  ·have := RV f N (last ++ [x]) r; simp; omega
  ·have := RV f N ((last ++ [x]).drop (last.length + 1 - N)) r; simp; omega
theorem Su (xs : List Int) (fin : AZ) : ∀ n, (Fd xs fin n).length = n * xs.length
 | 0 => by simp [Fd]
 | n + 1 => by simp [Fd, Su xs fin n, Nat.succ_mul, Nat.add_comm]
theorem R8 : ∀ (m : Nat) (q : List (Nat × As × AZ)) (cs : List AZ), (ES m q cs).1.length ≤ (q.map fun e => e.2.1.length).sum
 | 0, _, _ => by simp [ES]
 | _ + 1, [], _ => by simp [ES]
 | m + 1, (i, [], fin) :: q, cs => by
  have := R8 m q (cs.set i fin)
  simpa [ES] using this
 | m + 1, (i, (x, c) :: r, fin) :: q, cs => by
  have := R8 m (q ++ [(i, r, fin)]) (cs.set i c)
  simp only [List.map_append, List.sum_append, List.map_cons, List.map_nil, List.sum_cons, List.sum_nil] at this
  simp only [ES, List.length_cons, List.map_cons, List.sum_cons]
  omega
theorem Uf (f : Int → Int → Int) (fa fb : AZ) : ∀ (a : As) (cb : AZ) (b : As), (HQ f fa fb a cb b).1.length ≤ min a.length b.length
 | [], _, _ => by simp [HQ]
 | (_, _) :: _, _, [] => by simp [HQ]
 | (x, c) :: r, _, (y, d) :: t => by have := Uf f fa fb r d t; simp [HQ]; omega
theorem JZ (fa fb : AZ) : ∀ (a b : As), (CH fa fb a b).length = a.length + b.length
 | [], [] => by rw [CH]; rfl
 | [], (y, d) :: t => by rw [CH]; simp [JZ fa fb [] t]
 | (x, c) :: r, [] => by rw [CH]; simp [JZ fa fb r []]
 | (x, c) :: r, (y, d) :: t => by
  rw [CH]
  split
  ·simp [JZ fa fb r ((y, d) :: t)]; omega
  ·simp [JZ fa fb ((x, c) :: r) t]; omega
 termination_by a b => a.length + b.length
theorem VB : ∀ Fs : List Fut, (Fb Fs).l.length = (Fs.map fun F => F.l.length).sum
 | [] => rfl
 | F :: Fs => by simp [Fb, VB Fs]
theorem Yr (k o n : Int) (F : Fut) (hk : 3 ≤ k ∧ k ≤ 12) : (DU k o n F).l.length ≤ (if k = 5 then min n.toNat F.l.length else if k = 12 then n.toNat * F.l.length else F.l.length) := by
 unfold DU
 by_cases h3 : k = 3
 ·subst h3; simp
 by_cases h4 : k = 4
 ·subst h4; simpa using List.length_filter_le _ _
 by_cases h5 : k = 5
 ·subst h5; simp [Up]
 by_cases h6 : k = 6
 ·subst h6; simp
 by_cases h7 : k = 7
 ·subst h7; simpa using (Ra _ _ _).length_le
 by_cases h8 : k = 8
 ·subst h8; simpa using (Rb _ _).length_le
 by_cases h9 : k = 9
 ·subst h9; simp [Uy]
 by_cases h10 : k = 10
 ·subst h10; simpa using RV _ _ _ _
 by_cases h11 : k = 11
 ·subst h11; simpa using (OL _ _).length_le
 have h12 : k = 12 := by omega
 subst h12
 simp only [Sc]
 simp
 split
 ·simp
 ·rename_i hn
  simp [Su]
  obtain ⟨m, hm⟩ : ∃ m, n.toNat = m + 1 := ⟨n.toNat - 1, by omega⟩
  rw [hm, Nat.succ_mul]; simp; omega
theorem rgE.sub {l m : As} (h : rgE m) (k : l.Sublist m) : rgE l := fun e he => h e (k.subset he)
theorem rgE.map {l : As} (f : Int → Int) (h : ∀ x, 0 ≤ x ∧ x ≤ 9999 → 0 ≤ f x ∧ f x ≤ 9999) (k : rgE l) : rgE (l.map fun e => (f e.1, e.2)) := fun e he => by
 obtain ⟨y, hy, rfl⟩ := List.mem_map.1 he
 exact h _ (k y hy)
theorem rgE.sca {f : Int → Int → Int} (hf : ∀ x y, 0 ≤ x ∧ x ≤ 9999 → 0 ≤ y ∧ y ≤ 9999 → 0 ≤ f x y ∧ f x y ≤ 9999) : ∀ {n : Int} {l : As}, 0 ≤ n ∧ n ≤ 9999 → rgE l → rgE (OY f n l)
 | _, [], _, _ => rgE.nil
 | n, (x, c) :: r, hn, h => rgE.cons (hf _ _ hn h.hd) (rgE.sca hf (hf _ _ hn h.hd) h.tl)
theorem RP {f : Int → Int → Int} (hf : ∀ x y, 0 ≤ x ∧ x ≤ 9999 → 0 ≤ y ∧ y ≤ 9999 → 0 ≤ f x y ∧ f x y ≤ 9999) : ∀ (l : List Int) (a : Int), (0 ≤ a ∧ a ≤ 9999) → (∀ x ∈ l, 0 ≤ x ∧ x ≤ 9999) → 0 ≤ l.foldl f a ∧ l.foldl f a ≤ 9999
 | [], a, h, _ => h
 | x :: r, a, h, k => RP hf r (f a x) (hf _ _ h (k x List.mem_cons_self)) fun y hy => k y (List.mem_cons_of_mem _ hy)
theorem Xi {f : Int → Int → Int} (hf : ∀ x y, 0 ≤ x ∧ x ≤ 9999 → 0 ≤ y ∧ y ≤ 9999 → 0 ≤ f x y ∧ f x y ≤ 9999) : ∀ (l : List Int), (∀ x ∈ l, 0 ≤ x ∧ x ≤ 9999) → 0 ≤ PE f l ∧ PE f l ≤ 9999
 | [], _ => by simp [PE]
 | x :: r, k => RP hf r x (k x List.mem_cons_self) fun y hy => k y (List.mem_cons_of_mem _ hy)
theorem rgE.win {f : Int → Int → Int} (hf : ∀ x y, 0 ≤ x ∧ x ≤ 9999 → 0 ≤ y ∧ y ≤ 9999 → 0 ≤ f x y ∧ f x y ≤ 9999) (N : Nat) : ∀ {last : List Int} {l : As}, (∀ x ∈ last, 0 ≤ x ∧ x ≤ 9999) → rgE l → rgE (GU f N last l)
 | _, [], _, _ => rgE.nil
 | last, (x, c) :: r, hl, h => by
  have h1 : ∀ y ∈ last ++ [x], 0 ≤ y ∧ y ≤ 9999 := fun y hy => by
   rcases List.mem_append.1 hy with hy | hy
   ·exact hl y hy
   ·simp at hy; subst hy; exact h.hd
  simp only [GU]
  split
  ·exact rgE.win hf N h1 h.tl
  ·have h2 : ∀ y ∈ (last ++ [x]).drop (last.length + 1 - N), 0 ≤ y ∧ y ≤ 9999 := fun y hy => h1 y (List.mem_of_mem_drop hy)
   exact rgE.cons (Xi hf _ h2) (rgE.win hf N h2 h.tl)
theorem rgE.rep {xs : List Int} {fin : AZ} (h : ∀ x ∈ xs, 0 ≤ x ∧ x ≤ 9999) : ∀ n, rgE (Fd xs fin n)
 | 0 => rgE.nil
 | n + 1 => by
  rw [Fd]
  refine rgE.app (fun e he => ?_) (rgE.rep h n)
  obtain ⟨x, hx, rfl⟩ := List.mem_map.1 he
  exact h x hx
theorem rgE.tur : ∀ (m : Nat) (q : List (Nat × As × AZ)) (cs : List AZ), (∀ e ∈ q, rgE e.2.1) → rgE (ES m q cs).1
 | 0, _, _, _ => rgE.nil
 | _ + 1, [], _, _ => rgE.nil
 | m + 1, (i, [], fin) :: q, cs, h => rgE.tur m q _ fun e he => h e (List.mem_cons_of_mem _ he)
 | m + 1, (i, (x, c) :: r, fin) :: q, cs, h => by
  have h1 := h _ List.mem_cons_self
  refine rgE.cons h1.hd (rgE.tur m _ _ fun e he => ?_)
  rcases List.mem_append.1 he with he | he
  ·exact h e (List.mem_cons_of_mem _ he)
  ·simp at he; subst he; exact h1.tl
theorem rgE.zip {f : Int → Int → Int} (hf : ∀ x y, 0 ≤ x ∧ x ≤ 9999 → 0 ≤ y ∧ y ≤ 9999 → 0 ≤ f x y ∧ f x y ≤ 9999) (fa fb : AZ) : ∀ {a : As} {cb : AZ} {b : As}, rgE a → rgE b → rgE (HQ f fa fb a cb b).1
 | [], _, _, _, _ => rgE.nil
 | (_, _) :: _, _, [], _, _ => rgE.nil
 | (x, c) :: r, _, (y, d) :: t, h, k => rgE.cons (hf _ _ h.hd k.hd) (rgE.zip hf fa fb h.tl k.tl)
theorem rgE.mer (fa fb : AZ) : ∀ {a b : As}, rgE a → rgE b → rgE (CH fa fb a b)
 | [], [], _, _ => by rw [CH]; exact rgE.nil
 | [], (y, d) :: t, h, k => by rw [CH]; exact rgE.cons k.hd (rgE.mer fa fb h k.tl)
 | (x, c) :: r, [], h, k => by rw [CH]; exact rgE.cons h.hd (rgE.mer fa fb h.tl k)
 | (x, c) :: r, (y, d) :: t, h, k => by
  rw [CH]
  split
  ·exact rgE.cons h.hd (rgE.mer fa fb h.tl k)
  ·exact rgE.cons k.hd (rgE.mer fa fb h k.tl)
 termination_by a b => a.length + b.length
theorem rgE.cha : ∀ {Fs : List Fut}, (∀ F ∈ Fs, rgE F.l) → rgE (Fb Fs).l
 | [], _ => rgE.nil
 | F :: Fs, h => by
  have h1 := h F List.mem_cons_self
  have h2 := rgE.cha fun G hG => h G (List.mem_cons_of_mem _ hG)
  refine rgE.app (fun e he => ?_) (fun e he => ?_)
  ·obtain ⟨y, hy, rfl⟩ := List.mem_map.1 he; exact h1 y hy
  ·obtain ⟨y, hy, rfl⟩ := List.mem_map.1 he; exact h2 y hy
theorem S5 {o : Int} (ho : 1 ≤ o ∧ o ≤ 5) : ∀ x y, 0 ≤ x ∧ x ≤ 9999 → 0 ≤ y ∧ y ≤ 9999 → 0 ≤ EU o x y ∧ EU o x y ≤ 9999 := fun x y hx hy => Xc hx hy (by omega)
theorem UV {k : Int} : ∀ {v : List Int} {i : Nat}, k ≠ 2 → BH k i v = true → ∀ x ∈ v, 0 ≤ x ∧ x ≤ 9999
 | [], _, _, _, x, hx => by cases hx
 | y :: r, i, hk, h, x, hx => by
  simp only [BH, Bool.and_eq_true] at h
  rcases List.mem_cons.1 hx with e | hx
  ·rw [e]; have := h.1; simp [GS, hk] at this; omega
  ·exact UV hk h.2 x hx
theorem Ym {a b c : Int} (ha : 0 ≤ a) (hb : b ≤ 10000) (hc : 1 ≤ c) : ∀ x ∈ GX [a, b, c], 0 ≤ x ∧ x ≤ 9999 := by
 intro x hx
 simp only [GX, List.mem_map, List.mem_range, HU] at hx
 obtain ⟨i, hi, rfl⟩ := hx
 have h0 : 0 ≤ (i : Int) * c := Int.mul_nonneg (by omega) (by omega)
 have h1 : (i : Int) + 1 ≤ (b - a + c - 1) / c := by omega
 have h2 := Int.mul_le_of_le_ediv (a := (i : Int) + 1) (by omega : 0 < c) h1
 rw [Int.add_mul] at h2
 omega
theorem A2o {k o n : Int} {v : List Int} {p : List St} (h : NodeOk k o n v p) (hk : 3 ≤ k ∧ k ≤ 12) {F : Fut} (hF : rgE F.l) : rgE (DU k o n F).l := by
 unfold DU
 by_cases h3 : k = 3
 ·subst h3
  have hn := h.num (by decide)
  have ho := h.fn (by decide)
  simp only [OR, OM, Cz] at hn
  rw [if_pos rfl]
  exact hF.map (fun x => EU o x n) fun x hx => Xc hx (by grind) (by grind)
 by_cases h4 : k = 4
 ·subst h4; exact hF.sub List.filter_sublist
 by_cases h5 : k = 5
 ·subst h5; simp only [A0k]; exact hF.sub (List.take_sublist _ _)
 by_cases h6 : k = 6
 ·subst h6; exact hF.sub (List.drop_sublist _ _)
 by_cases h7 : k = 7
 ·subst h7; exact hF.sub (Ra _ _ _)
 by_cases h8 : k = 8
 ·subst h8; exact hF.sub (Rb _ _)
 by_cases h9 : k = 9
 ·subst h9
  have hn := h.num (by decide)
  have ho := h.fn (by decide)
  simp only [OR, OM, Cz] at hn
  exact rgE.sca (S5 (by omega)) (by grind) hF
 by_cases h10 : k = 10
 ·subst h10
  have ho := h.fn (by decide)
  exact rgE.win (S5 (by omega)) _ (by simp) hF
 by_cases h11 : k = 11
 ·subst h11; exact hF.sub (OL _ _)
 have h12 : k = 12 := by omega
 subst h12
 show rgE (Sc n.toNat F).l
 unfold Sc
 split
 ·exact rgE.nil
 ·exact rgE.app hF (rgE.rep (fun x hx => by obtain ⟨e, he, rfl⟩ := List.mem_map.1 hx; exact hF e he) _)
theorem Zc {k o n : Int} {v : List Int} {p : List St} (h : NodeOk k o n v p) (hp : ∀ s ∈ p, (Ag s).l.length ≤ Aa s ∧ rgE (Ag s).l) : (F9 k o n v (I0 p)).l.length ≤ DT k n v (OI p) ∧ rgE (F9 k o n v (I0 p)).l := by
 by_cases h1 : k = 1
 ·subst h1
  refine ⟨by simp [F9, I6, RT, DT], fun e he => UV (by decide) h.vals e.1 (Rf _ _ e (by simpa [F9, I6] using he))⟩
 by_cases h2 : k = 2
 ·subst h2
  obtain ⟨a, b, c, rfl, ha, ha', hb, hb', hc, hc'⟩ := Jf (h.rng rfl) h.vals
  refine ⟨by simp [F9, I6, RT, DT, GX], fun e he => Ym ha hb' hc e.1 (Rf _ _ e (by simpa [F9, I6] using he))⟩
 have hsum : ((p.map Ag).map fun F => F.l.length).sum ≤ (p.map Aa).sum := by
  clear h
  induction p with
  | nil => simp
  | cons s r ih =>
   have h3 := (hp s List.mem_cons_self).1
   have h4 := ih fun x hx => hp x (List.mem_cons_of_mem _ hx)
   simp only [List.map_cons, List.sum_cons]; omega
 by_cases h13 : k = 13
 ·subst h13
  have e : F9 13 o n v (I0 p) = Fb (p.map Ag) := by simp [F9, GL]
  rw [e, VB]
  refine ⟨by simpa [DT, HZ] using hsum, rgE.cha fun F hF => ?_⟩
  obtain ⟨s, hs, rfl⟩ := List.mem_map.1 hF
  exact (hp s hs).2
 by_cases h14 : k = 14
 ·subst h14
  have e : F9 14 o n v (I0 p) = Ix (p.map Ag) := by simp [F9, GL]
  rw [e]
  refine ⟨?_, ?_⟩
  ·refine Nat.le_trans (R8 _ _ _) ?_
   have e2 : (((p.map Ag).zipIdx.map fun x => (x.2, x.1.l, x.1.fin)).map fun e => e.2.1.length) = (p.map Ag).map fun F => F.l.length := by
    rw [List.map_map]
    have : ((fun (e : Nat × As × AZ) => e.2.1.length) ∘ fun (x : Fut × Nat) => (x.2, x.1.l, x.1.fin)) = (fun F => F.l.length) ∘ Prod.fst := rfl
    rw [this, ← List.map_map, List.zipIdx_map_fst]
   rw [e2]
   simpa [DT, HZ] using hsum
  ·refine rgE.tur _ _ _ fun e he => ?_
   obtain ⟨⟨F, i⟩, hm, rfl⟩ := List.mem_map.1 he
   obtain ⟨s, hs, e2⟩ := List.mem_map.1 (List.fst_mem_of_mem_zipIdx hm)
   simp only at e2 ⊢
   rw [← e2]
   exact (hp s hs).2
 by_cases h15 : k = 15
 ·subst h15
  have hl := h.two (.inl rfl)
  obtain ⟨x, y, rfl⟩ : ∃ x y, p = [x, y] := by
   match p, hl with
   | [x, y], _ => exact ⟨x, y, rfl⟩
  ·have hx := hp x (by simp)
   have hy := hp y (by simp)
   have e : (F9 15 o n v (I0 [x, y])).l = (HQ (EU o) (Ag x).fin (Ag y).fin (Ag x).l (Ag y).cur (Ag y).l).1 := by simp [F9, I0]
   rw [e]
   refine ⟨Nat.le_trans (Uf _ _ _ _ _ _) (by simp [DT, OI]; omega), rgE.zip (S5 ?_) _ _ hx.2 hy.2⟩
   have := h.fn (by decide)
   omega
 by_cases h16 : k = 16
 ·subst h16
  have hl := h.two (.inr rfl)
  obtain ⟨x, y, rfl⟩ : ∃ x y, p = [x, y] := by
   match p, hl with
   | [x, y], _ => exact ⟨x, y, rfl⟩
  ·have hx := hp x (by simp)
   have hy := hp y (by simp)
   have e : (F9 16 o n v (I0 [x, y])).l = CH (Ag x).fin (Ag y).fin (Ag x).l (Ag y).l := by simp [F9, I0]
   rw [e]
   exact ⟨by rw [JZ]; simp [DT, OI]; omega, rgE.mer _ _ hx.2 hy.2⟩
 have hl := h.one h1 h2 h13 h14 h15 h16
 have hk : 3 ≤ k ∧ k ≤ 12 := by have := h.k1; have := h.k2; omega
 obtain ⟨x, rfl⟩ : ∃ x, p = [x] := by
  match p, hl with
  | [x], _ => exact ⟨x, rfl⟩
 ·have hx := hp x (by simp)
  have e : F9 k o n v (I0 [x]) = DU k o n (Ag x) := by simp [F9, I0, h1, h2, h13, h14]
  rw [e]
  refine ⟨Nat.le_trans (Yr k o n _ hk) ?_, A2o h hk hx.2⟩
  simp only [DT, OI, if_neg h1, if_neg h2, if_neg h15]
  simp
  split
  ·omega
  ·split
   ·exact Nat.mul_le_mul_left _ hx.1
   ·exact hx.1
theorem RM (s : St) : Nz s → (Ag s).l.length ≤ Aa s ∧ rgE (Ag s).l := by
 refine St.ind (Q := fun s => Nz s → (Ag s).l.length ≤ Aa s ∧ rgE (Ag s).l) ?_ s
 intro k o n v p ih ⟨hn, hp⟩
 rw [Ag, Aa]
 exact Zc (Fa hn) fun s hs => ih s hs (FQ hp s hs)
def asks (x : AV) (n : Nat) (H : A2) (R : Bi) : Prop := match x with
 | .fn f a b => Am Tryz.prog f = true ∧ ACalls Tryz.prog f (a ++ [] ++ b) n H R
 | _ => False
def Ce (cs : AZ) (lo : Nat) (c : AZ) : AZ := cs.take lo ++ c ++ cs.drop (lo + c.length)
theorem X1 {cs : AZ} {lo : Nat} {c : AZ} (h : lo + c.length ≤ cs.length) : (Ce cs lo c).length = cs.length := by simp [Ce]; omega
structure Giv (gO lo : Nat) (c : AZ) (H : A2) (gg : Nat) (cs : AZ) : Prop where
 opn : H gO = some (.cells 74 [.slg 1 gg cs.length])
 giv : H gg = some (.grow 3 (cs.map aI))
 fit : lo + c.length ≤ cs.length
 at_ : (cs.drop lo).take c.length = c
structure Aft (lo gg : Nat) (cs c : AZ) (O : Nat → Prop) (n : Nat) (H : A2) (n' : Nat) (H' : A2) (O' : Nat → Prop) : Prop where
 le : n ≤ n'
 sub : ∀ g, O' g → O g ∨ n ≤ g
 bel : ∀ g, O' g → g < n'
 fr : ∀ g, g < n → ¬ O g → g ≠ gg → H' g = H g
 giv : H' gg = some (.grow 3 ((Ce cs lo c).map aI))
def Ended (gO lo : Nat) (fin : AZ) (x : AV) (O : Nat → Prop) (H0 : A2) (n0 : Nat) : Prop := ∀ n H gg cs, n0 ≤ n → (∀ g, O g → H g = H0 g) → ¬ O gg → ¬ O gO → Giv gO lo fin H gg cs →
 asks x n H fun r n' H' => r = .tup [aI 0, .bool false] ∧ n' = n ∧ H' = H
def Raw (e : Bool) (gO lo : Nat) (fin : AZ) (x : AV) : As → AZ → (Nat → Prop) → A2 → Nat → Prop
 | [], cur, O, H0, n0 => ∀ n H gg cs, n0 ≤ n → (∀ g, O g → H g = H0 g) → ¬ O gg → ¬ O gO → Giv gO lo cur H gg cs →
  asks x n H fun r n' H' => ∃ (v : Int) (O' : Nat → Prop), r = .tup [aI v, .bool false] ∧ Aft lo gg cs fin O n H n' H' O' ∧ (e = true → Ended gO lo fin x O' H' n')
 | (y, c) :: l, cur, O, H0, n0 => ∀ n H gg cs, n0 ≤ n → (∀ g, O g → H g = H0 g) → ¬ O gg → ¬ O gO → Giv gO lo cur H gg cs →
  asks x n H fun r n' H' => ∃ (O' : Nat → Prop), r = .tup [aI y, .bool true] ∧ Aft lo gg cs c O n H n' H' O' ∧ Raw e gO lo fin x l c O' H' n'
def A5n (e : Bool) (gO lo : Nat) (fin : AZ) (x : AV) (gg : Nat) (cs : AZ) (O : Nat → Prop) (n : Nat) (H : A2) : Bi := fun r n' H' => ∃ (v : Int) (O' : Nat → Prop), r = .tup [aI v, .bool false] ∧ Aft lo gg cs fin O n H n' H' O' ∧ (e = true → Ended gO lo fin x O' H' n')
def PEl (e : Bool) (gO lo : Nat) (fin : AZ) (x : AV) (gg : Nat) (cs : AZ) (O : Nat → Prop) (n : Nat) (H : A2) (y : Int) (c : AZ) (l : As) : Bi := fun r n' H' => ∃ (O' : Nat → Prop), r = .tup [aI y, .bool true] ∧ Aft lo gg cs c O n H n' H' O' ∧ Raw e gO lo fin x l c O' H' n'
def Cr (e : Bool) (gO lo : Nat) (fin : AZ) (x : AV) (gg : Nat) (cs : AZ) (O : Nat → Prop) (n : Nat) (H : A2) : As → Bi
 | [] => A5n e gO lo fin x gg cs O n H
 | (y, c) :: l => PEl e gO lo fin x gg cs O n H y c l
theorem Raw.of {e : Bool} {gO lo : Nat} {fin : AZ} {x : AV} {l : As} {cur : AZ} {O : Nat → Prop} {H0 : A2} {n0 : Nat} (h : ∀ n H gg cs, n0 ≤ n → (∀ g, O g → H g = H0 g) → ¬ O gg → ¬ O gO → Giv gO lo cur H gg cs → asks x n H (Cr e gO lo fin x gg cs O n H l)) : Raw e gO lo fin x l cur O H0 n0 := by
 cases l <;> exact h
theorem Raw.to {e : Bool} {gO lo : Nat} {fin : AZ} {x : AV} {l : As} {cur : AZ} {O : Nat → Prop} {H0 : A2} {n0 : Nat} (h : Raw e gO lo fin x l cur O H0 n0) : ∀ n H gg cs, n0 ≤ n → (∀ g, O g → H g = H0 g) → ¬ O gg → ¬ O gO → Giv gO lo cur H gg cs → asks x n H (Cr e gO lo fin x gg cs O n H l) := by
 cases l <;> exact h
def A48 (n : Nat) (H : A2) : Bi := fun r n' H' => r = .tup [aI 0, .bool false] ∧ n' = n ∧ H' = H
theorem Ended.at_ {gO lo : Nat} {fin : AZ} {x : AV} {O : Nat → Prop} {H0 H1 : A2} {n0 n1 : Nat} (h : Ended gO lo fin x O H0 n0) (hH : ∀ g, O g → H1 g = H0 g) (hn : n0 ≤ n1) : Ended gO lo fin x O H1 n1 :=
 fun n H gg cs h1 h2 => h n H gg cs (Nat.le_trans hn h1) fun g hg => (h2 g hg).trans (hH g hg)
theorem Raw.at_ {e : Bool} {gO lo : Nat} {fin : AZ} {x : AV} {l : As} {cur : AZ} {O : Nat → Prop} {H0 H1 : A2} {n0 n1 : Nat} (h : Raw e gO lo fin x l cur O H0 n0) (hH : ∀ g, O g → H1 g = H0 g) (hn : n0 ≤ n1) : Raw e gO lo fin x l cur O H1 n1 := by
 match l, h with
 | [], h => exact fun n H gg cs h1 h2 => h n H gg cs (Nat.le_trans hn h1) fun g hg => (h2 g hg).trans (hH g hg)
 | (y, c) :: l, h => exact fun n H gg cs h1 h2 => h n H gg cs (Nat.le_trans hn h1) fun g hg => (h2 g hg).trans (hH g hg)
structure GoOn (n : Nat) (R : Bi) (K : AV → Nat → A2 → Prop) : Prop where
 go : ∀ r n' H', n ≤ n' → (∀ g, n' ≤ g → H' g = none) → R r n' H' → K r n' H'
theorem BY {x : AV} {n : Nat} {H : A2} {R : Bi} {d : Option Nat} {K : AS → Prop} {en : AW} (h : asks x n H R) (hk : GoOn n R fun r n' H' => K ⟨AO en d r, n', H'⟩) : AI Tryz.prog d K en n H [] x := by
 unfold asks at h
 split at h
 ·exact ⟨h.1, R, h.2, fun r n' H' h1 h2 h3 => hk.go r n' H' h1 h2 h3⟩
 ·exact h.elim
theorem Giv.put {gO lo gg : Nat} {c c' cs : AZ} {H H' : A2} (h : Giv gO lo c H gg cs) (hl : c'.length = c.length) (h1 : H' gO = H gO) (h2 : H' gg = some (.grow 3 ((Ce cs lo c').map aI))) : Giv gO lo c' H' gg (Ce cs lo c') := by
 have h3 := h.fit
 have h4 := X1 (cs := cs) (lo := lo) (c := c') (by omega)
 refine ⟨by rw [h1, h.opn, h4], h2, by rw [h4]; omega, ?_⟩
 unfold Ce
 rw [List.append_assoc, List.drop_append_of_le_length (by simp; omega)]
 have : (cs.take lo).drop lo = [] := List.drop_eq_nil_of_le (by simp; omega)
 rw [this]
 simp
theorem C9 {cs c c' : AZ} {lo : Nat} (h : lo + c.length ≤ cs.length) (hl : c'.length = c.length) : Ce (Ce cs lo c) lo c' = Ce cs lo c' := by
 unfold Ce
 have h1 : (cs.take lo ++ c ++ cs.drop (lo + c.length)).take lo = cs.take lo := by
  rw [List.append_assoc, List.take_append_of_le_length (by simp; omega), List.take_take, Nat.min_self]
 have h2 : (cs.take lo ++ c ++ cs.drop (lo + c.length)).drop (lo + c'.length) = cs.drop (lo + c.length) := by
  rw [List.drop_append]
  have : (cs.take lo ++ c).drop (lo + c'.length) = [] := List.drop_eq_nil_of_le (by simp; omega)
  rw [this]
  have : lo + c'.length - (cs.take lo ++ c).length = 0 := by simp; omega
  rw [this]; simp
 rw [h1, h2, hl]
theorem Dl {gO lo gg : Nat} {c cs : AZ} {H : A2} (h : Giv gO lo c H gg cs) : Ce cs lo c = cs := by
 unfold Ce
 have h1 : c = (cs.drop lo).take c.length := h.at_.symm
 conv => lhs; rw [h1]
 have h2 : ((cs.drop lo).take c.length).length = c.length := by have := h.fit; simp; omega
 rw [h2, List.append_assoc, ← List.drop_drop, List.take_append_drop, List.take_append_drop]
theorem Giv.lt {gO lo gg n : Nat} {c cs : AZ} {H : A2} (h : Giv gO lo c H gg cs) (hs : ∀ g, n ≤ g → H g = none) : gO < n ∧ gg < n := by
 refine ⟨?_, ?_⟩
 ·rcases Nat.lt_or_ge gO n with h1 | h1
  ·exact h1
  ·have := h.opn; rw [hs gO h1] at this; cases this
 ·rcases Nat.lt_or_ge gg n with h1 | h1
  ·exact h1
  ·have := h.giv; rw [hs gg h1] at this; cases this
theorem Giv.keep {gO lo gg g : Nat} {c cs : AZ} {H : A2} {x : Option AObj} (h : Giv gO lo c H gg cs) (h1 : gO ≠ g) (h2 : gg ≠ g) : Giv gO lo c (upd H g x) gg cs :=
 ⟨by rw [upd_ne h1]; exact h.opn, by rw [upd_ne h2]; exact h.giv, h.fit, h.at_⟩
theorem Giv.ne {gO lo gg : Nat} {c cs : AZ} {H : A2} (h : Giv gO lo c H gg cs) : gO ≠ gg := by
 intro e
 have h1 := h.opn
 rw [e, h.giv] at h1
 cases h1
theorem Aft.same {gO lo gg n : Nat} {c cs : AZ} {H : A2} {O : Nat → Prop} (h : Giv gO lo c H gg cs) (hb : ∀ g, O g → g < n) : Aft lo gg cs c O n H n H O :=
 ⟨Nat.le_refl _, fun g h => .inl h, hb, fun g _ _ _ => rfl, by rw [Dl h]; exact h.giv⟩
theorem Aft.tr {gO lo gg n n1 n2 : Nat} {cs c c1 c2 : AZ} {H H1 H2 : A2} {O O1 O2 : Nat → Prop} (hg : Giv gO lo c H gg cs) (h : Aft lo gg cs c1 O n H n1 H1 O1) (k : Aft lo gg (Ce cs lo c1) c2 O1 n1 H1 n2 H2 O2) (l1 : c1.length = c.length) (l2 : c2.length = c.length) : Aft lo gg cs c2 O n H n2 H2 O2 := by
 refine ⟨Nat.le_trans h.le k.le, fun g h1 => ?_, k.bel, fun g h1 h2 h3 => ?_, ?_⟩
 ·rcases k.sub g h1 with h2 | h2
  ·exact h.sub g h2
  ·exact .inr (Nat.le_trans h.le h2)
 ·have h4 : ¬ O1 g := fun h4 => (h.sub g h4).elim h2 (fun h => by omega)
  rw [k.fr g (Nat.lt_of_lt_of_le h1 h.le) h4 h3, h.fr g h1 h2 h3]
 ·rw [k.giv, C9 (by have := hg.fit; omega) (by omega)]
theorem Aft.gv {gO lo gg n n' : Nat} {cs c c1 : AZ} {H H' : A2} {O O' : Nat → Prop} (ha : Aft lo gg cs c1 O n H n' H' O') (hg : Giv gO lo c H gg cs) (hs : ∀ g, n ≤ g → H g = none) (h1 : ¬ O gO) (hl : c1.length = c.length) : Giv gO lo c1 H' gg (Ce cs lo c1) :=
 hg.put hl (ha.fr gO (hg.lt hs).1 h1 hg.ne) ha.giv
theorem Aft.nO {gO lo gg n n' : Nat} {cs c : AZ} {O O' : Nat → Prop} {H H' : A2} (ha : Aft lo gg cs c O n H n' H' O') (h1 : ¬ O gO) (h2 : gO < n) : ¬ O' gO := fun h => (ha.sub gO h).elim h1 (fun h => by omega)
theorem Aft.ext {B : Nat → Prop} {lo gg : Nat} {cs c : AZ} {O O' : Nat → Prop} {n n' : Nat} {H H1 H' H2 : A2} (ha : Aft lo gg cs c O n H1 n' H' O') (hB : ∀ g, B g → g < n) (hH1 : ∀ g, ¬ B g → H1 g = H g) (hH : ∀ g, ¬ B g → H2 g = H' g) (hg : ¬ B gg) :
  Aft lo gg cs c (fun g => O g ∨ B g) n H n' H2 (fun g => O' g ∨ B g) := by
 refine ⟨ha.le, fun g h => ?_, fun g h => ?_, fun g h1 h2 h3 => ?_, ?_⟩
 ·rcases h with h | h
  ·exact (ha.sub g h).elim (fun h => .inl (.inl h)) .inr
  ·exact .inl (.inr h)
 ·rcases h with h | h
  ·exact ha.bel g h
  ·have := hB g h; have := ha.le; omega
 ·rw [hH g fun h => h2 (.inr h)]; exact (ha.fr g h1 (fun h => h2 (.inl h)) h3).trans (hH1 g fun h => h2 (.inr h))
 ·rw [hH gg hg]; exact ha.giv
structure Bx (O : Nat → Prop) (gO g : Nat) (H : A2) (n : Nat) (ob : AObj) : Prop where
 no : ¬ O g
 nO : gO ≠ g
 lt : g < n
 at_ : H g = some ob
theorem Bx.to {gO g : Nat} {O : Nat → Prop} {n0 n : Nat} {H0 H : A2} {ob : AObj} (h : Bx O gO g H0 n0 ob) (hn : n0 ≤ n) (hag : H g = H0 g) : Bx O gO g H n ob := ⟨h.no, h.nO, Nat.lt_of_lt_of_le h.lt hn, hag.trans h.at_⟩
theorem Bx.go {lo gg g gO : Nat} {cs c : AZ} {O O' : Nat → Prop} {n n' : Nat} {H H' : A2} {ob : AObj} (h : Bx O gO g H n ob) (hg : gg ≠ g) (ha : Aft lo gg cs c O n H n' H' O') : Bx O' gO g H' n' ob := by
 have h1 := h.lt
 have h2 := ha.le
 exact ⟨fun h => (ha.sub g h).elim ‹Bx O gO g H n ob›.no (fun h => by omega), h.nO, by omega, (ha.fr g h1 h.no (Ne.symm hg)).trans h.at_⟩
theorem Bx.set {gO g : Nat} {O : Nat → Prop} {n : Nat} {H : A2} {ob : AObj} (ob' : AObj) (h : Bx O gO g H n ob) : Bx O gO g (upd H g (some ob')) n ob' := ⟨h.no, h.nO, h.lt, AK _ _ _⟩
theorem Bx.keep {gO g g' : Nat} {O : Nat → Prop} {n : Nat} {H : A2} {ob : AObj} {x : Option AObj} (h : Bx O gO g H n ob) (hn : g ≠ g') : Bx O gO g (upd H g' x) n ob := ⟨h.no, h.nO, h.lt, by rw [upd_ne hn]; exact h.at_⟩
theorem Q5 {d : Option Nat} {K : AS → Prop} {en : AW} {n : Nat} {H : A2} {xs a b : List AV} {f : Nat} : AI Tryz.prog d K en n H xs (.fn f a b) = (Am Tryz.prog f = true ∧ CallK Tryz.prog f (a ++ xs ++ b) d K ⟨en, n, H⟩) := rfl
abbrev AY (k o m : Int) (a b : AV) : AObj := .cells 25 [aI k, aI o, aI m, a, b]
abbrev Bn (x : AV) : AObj := .cells 76 [x]
abbrev Bc (i : Int) : AObj := .cells 3 [aI i]
abbrev Gs (b : Bool) : AObj := .cells 4 [.bool b]
theorem Ok : Am Tryz.prog 96 = true := by kernel_rfl
theorem Wo {gO lo : Nat} {fin : AZ} {g1 g2 : Nat} {O : Nat → Prop} {H0 : A2} {n0 : Nat} (o1 : O g1) (b1 : H0 g1 = some (Gs true)) :
  Ended gO lo fin (.fn 96 [] [.ptr g1 0, .ptr g2 0]) O H0 n0 := by
 intro n H gg cs hn hag hgg hgO hgv
 have q1 := (hag g1 o1).trans b1
 refine ⟨Ok, ?_⟩
 show ACalls _ _ _ _ _ (A48 n H)
 refine A8 Tryz.func96 YO rfl fun hs => ?_
 repeat' (first | (simp -implicitDefEqProofs [Kk, c96, -getElem?_pos, q1]) | (simp (disch := omega) only [AB]) | (with_reducible first | refine A5 ?_ ?_ ?_ | exact A7 | assumption | refine A0 ?_ | refine KM.of ?_ | refine AA ?_ | intro _g _hg | refine A9 ?_ ?_ | intro _hc) | omega)
 exact AH (r := .tup [_, _]) rfl (by omega) hs ⟨rfl, rfl, rfl⟩
theorem Xo {gO lo : Nat} {fin : AZ} {px : AV} {g1 g2 : Nat} (n12 : g1 ≠ g2) : ∀ (l : As) (cur : AZ) (O : Nat → Prop) (H0 : A2) (n0 : Nat), Raw false gO lo fin px l cur O H0 n0 → ¬ O gO → (∀ g, O g → g < n0) →
  Bx O gO g1 H0 n0 (Gs false) → Bx O gO g2 H0 n0 (Bn px) → Raw true gO lo fin (.fn 96 [] [.ptr g1 0, .ptr g2 0]) l cur (fun g => O g ∨ g = g1 ∨ g = g2) H0 n0 := by
 intro l
 induction l with
 | nil =>
  intro cur O H0 n0 hr noO hbel B1 B2
  refine Raw.of fun n H gg cs hn hag hgg hgO hgv => ?_
  replace B1 := B1.to hn (hag g1 (.inr (.inl rfl)))
  have q1 := B1.at_
  have ng1 : gg ≠ g1 := fun h => hgg (.inr (.inl h))
  replace B2 := B2.to hn (hag g2 (.inr (.inr rfl)))
  have q2 := B2.at_
  have ng2 : gg ≠ g2 := fun h => hgg (.inr (.inr h))
  have nog : ¬ O gg := fun h => hgg (.inl h)
  replace hbel : ∀ g, O g → g < n := fun g h => Nat.lt_of_lt_of_le (hbel g h) hn
  replace hr := hr.at_ (fun g hg => hag g (.inl hg)) hn
  refine ⟨Ok, ?_⟩
  have hc := hr.to n H gg cs (Nat.le_refl _) (fun _ _ => rfl) nog noO hgv
  generalize hR : Cr _ _ _ _ _ _ _ _ _ _ _ = R
  refine A8 Tryz.func96 YO rfl fun hs => ?_
  repeat' (first | (simp -implicitDefEqProofs [Kk, c96, -getElem?_pos, q1, q2, splice, -AI]) | (simp (disch := omega) only [AB]) | (refine BY hc ⟨?_⟩; rintro r n' H' hle hsup ⟨v, O', rfl, ha, _⟩; have B1' := B1.go ng1 ha; have B2' := B2.go ng2 ha; have q1 := B1'.at_; have q2 := B2'.at_) | (with_reducible first | refine A5 ?_ ?_ ?_ | exact A7 | assumption | refine A0 ?_ | refine KM.of ?_ | refine AA ?_ | intro _g _hg | refine A9 ?_ ?_ | intro _hc) | omega)
  subst hR
  have := B1'.lt
  exact AH (r := .tup [_, _]) rfl (by omega) (fun k hk => by rw [upd_ne (by omega)]; exact hsup k hk) ⟨v, _, rfl, ((ha).ext (B := fun g => g = g1 ∨ g = g2) (fun g h => by have := B1.lt; have := B2.lt; rcases h with rfl | rfl <;> omega) (fun _ _ => rfl) (fun g h => by rw [upd_ne (fun e => h (.inl e))]) (fun h => h.elim ng1 ng2)), fun _ => Wo (.inr (.inl rfl)) (AK _ _ _)⟩
 | cons e l ih =>
  obtain ⟨y, c⟩ := e
  intro cur O H0 n0 hr noO hbel B1 B2
  refine Raw.of fun n H gg cs hn hag hgg hgO hgv => ?_
  replace B1 := B1.to hn (hag g1 (.inr (.inl rfl)))
  have q1 := B1.at_
  have ng1 : gg ≠ g1 := fun h => hgg (.inr (.inl h))
  replace B2 := B2.to hn (hag g2 (.inr (.inr rfl)))
  have q2 := B2.at_
  have ng2 : gg ≠ g2 := fun h => hgg (.inr (.inr h))
  have nog : ¬ O gg := fun h => hgg (.inl h)
  replace hbel : ∀ g, O g → g < n := fun g h => Nat.lt_of_lt_of_le (hbel g h) hn
  replace hr := hr.at_ (fun g hg => hag g (.inl hg)) hn
  refine ⟨Ok, ?_⟩
  have hc := hr.to n H gg cs (Nat.le_refl _) (fun _ _ => rfl) nog noO hgv
  generalize hR : Cr _ _ _ _ _ _ _ _ _ _ _ = R
  refine A8 Tryz.func96 YO rfl fun hs => ?_
  repeat' (first | (simp -implicitDefEqProofs [Kk, c96, -getElem?_pos, q1, q2, splice, -AI]) | (simp (disch := omega) only [AB]) | (refine BY hc ⟨?_⟩; rintro r n' H' hle hsup ⟨O', rfl, ha, hr'⟩; have B1' := B1.go ng1 ha; have B2' := B2.go ng2 ha; have q1 := B1'.at_; have q2 := B2'.at_) | (with_reducible first | refine A5 ?_ ?_ ?_ | exact A7 | assumption | refine A0 ?_ | refine KM.of ?_ | refine AA ?_ | intro _g _hg | refine A9 ?_ ?_ | intro _hc) | omega)
  subst hR
  have := B1'.lt
  exact AH (r := .tup [_, _]) rfl (by omega) (fun k hk => by rw [upd_ne (by omega)]; exact hsup k hk) ⟨_, rfl, ((ha).ext (B := fun g => g = g1 ∨ g = g2) (fun g h => by have := B1.lt; have := B2.lt; rcases h with rfl | rfl <;> omega) (fun _ _ => rfl) (fun g h => by rw [upd_ne (fun e => h (.inl e))]) (fun h => h.elim ng1 ng2)), ih c O' _ n' (hr'.at_ (fun g hg => upd_ne (fun h => B1'.no (h ▸ hg))) (Nat.le_refl _)) (ha.nO noO (hgv.lt hs).1) ha.bel (B1'.set _) (B2'.keep (Ne.symm n12))⟩
theorem Ul : Am Tryz.prog 104 = true := by kernel_rfl
theorem Yn {gO lo : Nat} {fin : AZ} {px a b : AV} {g1 g2 : Nat} {k op m : Int} (hop : 1 ≤ op ∧ op ≤ 6) (hm : Az m) (h6 : op = 6 → 1 ≤ m) : ∀ (l : As) (cur : AZ) (O : Nat → Prop) (H0 : A2) (n0 : Nat), Raw true gO lo fin px l cur O H0 n0 → rgE l → ¬ O gO → (∀ g, O g → g < n0) →
  Bx O gO g1 H0 n0 (Bn px) → Bx O gO g2 H0 n0 (AY k op m a b) → Raw false gO lo fin (.fn 104 [] [.ptr g1 0, .ptr g2 0]) (l.map fun e => (EU op e.1 m, e.2)) cur (fun g => O g ∨ g = g1 ∨ g = g2) H0 n0 := by
 intro l
 induction l with
 | nil =>
  intro cur O H0 n0 hr hrg noO hbel B1 B2
  refine Raw.of fun n H gg cs hn hag hgg hgO hgv => ?_
  replace B1 := B1.to hn (hag g1 (.inr (.inl rfl)))
  have q1 := B1.at_
  have ng1 : gg ≠ g1 := fun h => hgg (.inr (.inl h))
  replace B2 := B2.to hn (hag g2 (.inr (.inr rfl)))
  have q2 := B2.at_
  have ng2 : gg ≠ g2 := fun h => hgg (.inr (.inr h))
  have nog : ¬ O gg := fun h => hgg (.inl h)
  replace hbel : ∀ g, O g → g < n := fun g h => Nat.lt_of_lt_of_le (hbel g h) hn
  replace hr := hr.at_ (fun g hg => hag g (.inl hg)) hn
  refine ⟨Ul, ?_⟩
  have hc := hr.to n H gg cs (Nat.le_refl _) (fun _ _ => rfl) nog noO hgv
  generalize hR : Cr _ _ _ _ _ _ _ _ _ _ _ = R
  refine A8 Tryz.func104 XZ rfl fun hs => ?_
  repeat' (first | (simp -implicitDefEqProofs [PU, c104, -getElem?_pos, q1, q2, splice, -AI]) | (simp (disch := omega) only [AB]) | (refine BY hc ⟨?_⟩; rintro r n' H' hle hsup ⟨v, O', rfl, ha, _⟩) | (with_reducible first | refine A5 ?_ ?_ ?_ | exact A7 | assumption | refine A0 ?_ | refine KM.of ?_ | refine AA ?_ | intro _g _hg | refine A9 ?_ ?_ | intro _hc) | omega)
  subst hR
  exact AH (r := .tup [_, _]) rfl (by omega) hsup ⟨0, _, rfl, ((ha).ext (B := fun g => g = g1 ∨ g = g2) (fun g h => by have := B1.lt; have := B2.lt; rcases h with rfl | rfl <;> omega) (fun _ _ => rfl) (fun _ _ => rfl) (fun h => h.elim ng1 ng2)), fun h => by cases h⟩
 | cons e l ih =>
  obtain ⟨y, c⟩ := e
  intro cur O H0 n0 hr hrg noO hbel B1 B2
  refine Raw.of fun n H gg cs hn hag hgg hgO hgv => ?_
  replace B1 := B1.to hn (hag g1 (.inr (.inl rfl)))
  have q1 := B1.at_
  have ng1 : gg ≠ g1 := fun h => hgg (.inr (.inl h))
  replace B2 := B2.to hn (hag g2 (.inr (.inr rfl)))
  have q2 := B2.at_
  have ng2 : gg ≠ g2 := fun h => hgg (.inr (.inr h))
  have nog : ¬ O gg := fun h => hgg (.inl h)
  replace hbel : ∀ g, O g → g < n := fun g h => Nat.lt_of_lt_of_le (hbel g h) hn
  replace hr := hr.at_ (fun g hg => hag g (.inl hg)) hn
  refine ⟨Ul, ?_⟩
  have hc := hr.to n H gg cs (Nat.le_refl _) (fun _ _ => rfl) nog noO hgv
  have hap := OK op y m hop hrg.hd hm h6
  generalize hR : Cr _ _ _ _ _ _ _ _ _ _ _ = R
  refine A8 Tryz.func104 XZ rfl fun hs => ?_
  repeat' (first | (simp -implicitDefEqProofs [PU, c104, -getElem?_pos, q1, q2, splice, -AI]) | (simp (disch := omega) only [AB]) | (refine BY hc ⟨?_⟩; rintro r n' H' hle hsup ⟨O', rfl, ha, hr'⟩; have B1' := B1.go ng1 ha; have B2' := B2.go ng2 ha; have q2 := B2'.at_) | ((with_reducible refine AN 102 ?_); refine' AQ (hap) ?_) | (with_reducible first | refine A5 ?_ ?_ ?_ | exact A7 | assumption | refine A0 ?_ | refine KM.of ?_ | refine AA ?_ | intro _g _hg | refine A9 ?_ ?_ | intro _hc) | omega)
  subst hR
  exact AH (r := .tup [_, _]) rfl (by omega) hsup ⟨_, rfl, ((ha).ext (B := fun g => g = g1 ∨ g = g2) (fun g h => by have := B1.lt; have := B2.lt; rcases h with rfl | rfl <;> omega) (fun _ _ => rfl) (fun _ _ => rfl) (fun h => h.elim ng1 ng2)), ih c O' _ n' hr' hrg.tl (ha.nO noO (hgv.lt hs).1) ha.bel B1' B2'⟩
end Go.Proofs.YtjdccdelcnmocaaGreatDoor

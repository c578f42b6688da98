/- Streams: the check of a node by the program; no condition. -/
import Derived.Test.YtjdccdelcnmocaaGreatDoorMgJ
import Derived.Test.YtjdccdelcnmocaaGreatDoorMdK
import Derived.Test.YtjdccdelcnmocaaGreatDoorAdG
import Derived.Test.YtjdccdelcnmocaaGreatDoorAdE
import Derived.Test.YtjdccdelcnmocaaGreatDoorAdF
set_option linter.all false
set_option linter.unusedSimpArgs false
set_option linter.unusedVariables false
set_option maxHeartbeats 2000000
namespace Go.Proofs.YtjdccdelcnmocaaGreatDoor
theorem WO {k : Int} (h : ¬ (1 ≤ k ∧ k ≤ 16)) : BG (.int .i64 k) shpMap = none := by
 have hne : ∀ j : Int, 1 ≤ j → j ≤ 16 → CK (.int .i64 k) (.int .i64 j) = false := fun j h1 h2 => by
  simp only [CK, decide_true, Bool.true_and, decide_eq_false_iff_not]; omega
 simp only [shpMap, BG, hne _ (by omega : (1 : Int) ≤ 1) (by omega), hne 2 (by omega) (by omega), hne 3 (by omega) (by omega), hne 4 (by omega) (by omega), hne 5 (by omega) (by omega), hne 6 (by omega) (by omega), hne 7 (by omega) (by omega), hne 8 (by omega) (by omega), hne 9 (by omega) (by omega), hne 10 (by omega) (by omega), hne 11 (by omega) (by omega), hne 12 (by omega) (by omega), hne 13 (by omega) (by omega), hne 14 (by omega) (by omega), hne 15 (by omega) (by omega), hne 16 (by omega) (by omega), Bool.false_eq_true, if_false]
attribute [local simp] Kz De DC Kv Lp Je Jw Dj DK Fe Fi KJ JN LL KL Ig JX Ix L9 Kn K6 Kk LJ K3 Ji RM pe KK Io Iu JW JI Kf Ir L7 Jx LH J5 L8 Is DT J0 Ju Jg Ih Li Lf K5 KN Js LO Ks LC La Im Ip Ln JQ Kt Jt JF L4 DG Lv DY Kq JZ Ky LB LG Lk KH JM LE Jr LF KA JU L0 JY JB Lo JJ Ly Jl Lm Ik Jm Jf Kw DJ KO Lj JG Ld Jn Lh Kj J9 Kp Kb Lc K2 KE LR Il Lq JC L3 Km JR Lz Jd LN L2 M1 LM Lr KG Iv JO L1 LK List.mem_cons guardK CR Ez F6 Fa Lx DX DF DL Dd DP DM DN Dh D9 M0 Ki Dg KF LP JV Jp Kc K8 DR KX LV J1 JA LW LQ Fj DQ DS DH DA Lw Ja DW Ii DD L6 Db DE Ku DO DU LZ LD KR Lg Kl J7 L5 J4 RL IR IV Gt IN IS IL Cx FB FA KV FC F8 Cv CY Sc IH II F9 IK IT D0 D4 Bg BG C3 CK Ar ev get put GQ AP Cr Jc K4 Kd LI JT Jh EF part BZ HA Jy Gx isNil CA CG EL CQ C1 Kx JP J3 KI Iq IF Ij JE Jo LU Jq Jv K7 Jz KZ Iz AV.fits AV.cells ones AV.one EK CD EE E2 FV ES Ll GB Fy CH Br C5 F3 Gg AX BY TO Fc Ko Ie List.getElem?_cons_zero List.getElem?_cons_succ Dc Df Di J8 Kg Ls H9 It Kh JK KD Ke LT JH Lu Iw LY JD
theorem A0x (k o m : Int) (v : List Int) (p : List St) (hvb : v.length ≤ 140737488355328) (g gs n : Nat) (at_ : Int) (H : A4) (hg : H g = some (.cells 70 [.mp gs, aI at_])) (hgs : H gs = some (.map (some .i64) shpMap)) : APureAt Tryz.prog 69 [.ptr g 0, encS (.mk k o m v p)] n H (aI (Bo (.mk k o m v p))) := by
 by_cases hk : 1 ≤ k ∧ k ≤ 16
 ·rcases (by omega : (k = 1 ∨ k = 2 ∨ k = 3 ∨ k = 4 ∨ k = 5 ∨ k = 6 ∨ k = 7 ∨ k = 8) ∨ (k = 9 ∨ k = 10 ∨ k = 11 ∨ k = 12 ∨ k = 13 ∨ k = 14 ∨ k = 15 ∨ k = 16)) with h | h
  ·exact Y9 k o m v p hvb h g gs n at_ H hg hgs
  ·exact YR k o m v p hvb h g gs n at_ H hg hgs
 ·have hnc : Bo (.mk k o m v p) = 5 := by simp only [Bo]; rw [if_pos hk]
  have hfd := WO hk
  rw [hnc, AQ]
  
  refine D2 Tryz.func69 X9 rfl fun hH => ?_
  have hgn : g < n := by
   rcases Nat.lt_or_ge g n with h | h
   ·exact h
   ·rw [hH g h] at hg; cases hg
  have hsn : gs < n := by
   rcases Nat.lt_or_ge gs n with h | h
   ·exact h
   ·rw [hH gs h] at hgs; cases hgs
  generalize shpMap = sm at *
  repeat' (first | (simp -implicitDefEqProofs [Mc, Mt, My, NE, c69, -getElem?_pos, hg, hgs, hfd, splice, A1]) | (simp (disch := omega) only [AF]) | (with_reducible first | refine A7 ?_ ?_ ?_ | exact AB | refine SameB.upd ?_ ?_ _ | assumption | refine A3 ?_ | refine KM.of ?_ | refine AG ?_ | refine A2 ?_ | refine A5 ?_ | intro _g _hg | refine AE ?_ ?_ | intro _hc) | omega)
mutual
def EN : St → Prop
 | .mk _ _ _ v p => v.length ≤ 140737488355328 ∧ p.length ≤ 140737488355328 ∧ Ng p
def Ng : List St → Prop
 | [] => True
 | s :: r => EN s ∧ Ng r
end
theorem Cz : ∀ {p : List St}, Ng p → ∀ s ∈ p, EN s
 | [], _, s, h => by cases h
 | x :: r, h, s, hs => by
  rcases List.mem_cons.1 hs with e | hs
  ·rw [e]; exact h.1
  ·exact Cz h.2 s hs
theorem BF (s : St) : (encS s).fits (some 5) = true := by cases s; rw [AQ]; rfl
theorem Er {p : List St} {i : Nat} {s : St} (h : p[i]? = some s) : (Ae p)[i]? = some (encS s) := by rw [OI, List.getElem?_map, h]; rfl
theorem UX {p : List St} {i j : Nat} {s : St} (h : p[j]? = some s) : J6 (p.drop j) i = if (EB s i).2 ≠ 0 then EB s i else J6 (p.drop (j + 1)) (EB s i).1 := by
 rw [drop_at h, J6]
theorem Wj (s : St) : EN s → ∀ i : Nat, i ≤ 60 → APure Tryz.prog 37 [encS s, aI i] (.tup [aI ((EB s i).1 : Nat), aI (EB s i).2]) := by
 refine St.ind (Q := fun s => EN s → ∀ i : Nat, i ≤ 60 → APure Tryz.prog 37 [encS s, aI i] (.tup [aI ((EB s i).1 : Nat), aI (EB s i).2])) ?_ s
 intro k o m v p ih hfit i hi
 obtain ⟨hv, hp, hpp⟩ := hfit
 have hsf := Qr k o m v p hv
 rw [EB]
 rw [AQ] at hsf ⊢
 
 refine A9 Tryz.func37 A37 rfl fun n H hH => ?_
 by_cases h60 : 60 ≤ i
 ·rw [if_pos h60]
  have h60' : (60 : Int) ≤ i := by omega
  repeat' (first | (simp -implicitDefEqProofs [c37, -getElem?_pos, h60', A8, AC]) | (simp (disch := omega) only [AF]) | (with_reducible first | refine A7 ?_ ?_ ?_ | exact AB | refine SameB.upd ?_ ?_ _ | assumption | refine A3 ?_ | refine KM.of ?_ | refine AG ?_ | refine A2 ?_ | refine A5 ?_ | intro _g _hg | refine AE ?_ ?_ | intro _hc) | omega)
 ·rw [if_neg h60]
  have h60' : ¬ (60 : Int) ≤ i := by omega
  generalize hc : Bo (.mk k o m v p) = c at *
  by_cases hc0 : c = 0
  ·rw [if_neg (by simpa using hc0)]
   have hpl := BB p
   subst hc0
   repeat' (first | (simp -implicitDefEqProofs [c37, GG, Gq, -getElem?_pos, h60']) | (simp (disch := omega) only [AF]) | ((with_reducible refine AJ 68 ?_); refine' AZ (hsf) ?_) | (with_reducible first | refine A7 ?_ ?_ ?_ | exact AB | refine SameB.upd ?_ ?_ _ | assumption | refine A3 ?_ | refine KM.of ?_ | refine AG ?_ | refine A2 ?_ | refine A5 ?_ | intro _g _hg | refine AE ?_ ?_ | intro _hc) | omega)
   refine LoopK.go (fun r st => ∃ (j q : Nat), j + r = p.length ∧ st = ⟨[(2, .ptr _g 0), (7, aI q), (8, aI j)], _g + 1, upd H _g (some (.cells 25 [aI k, aI o, aI m, P3 v, .sl 5 (Ae p) .ro]))⟩ ∧ q ≤ 60 ∧ J6 p (i + 1) = J6 (p.drop j) q) p.length ⟨0, i + 1, by omega, by simp, by omega, rfl⟩ ?_
   rintro r st ⟨j, q, hj, rfl, hq, hE⟩ J hJ
   by_cases hjl : j < p.length
   ·obtain ⟨x, hx⟩ : ∃ x, p[j]? = some x := ⟨_, List.getElem?_eq_getElem hjl⟩
    have hxm := List.mem_of_getElem? hx
    have hst := ih x hxm (Cz hpp x hxm) q hq
    have hxe := Er hx
    have hxf := BF x
    have hjl' : (j : Int) < p.length := by omega
    rw [UX hx] at hE
    generalize encS x = ex at *
    generalize Ae p = ep at *
    by_cases h2 : (EB x q).2 = 0
    ·rw [if_neg (by simpa using h2)] at hE
     obtain ⟨_, _, h3⟩ := NN x q h2
     rw [h2] at hst
     
     repeat' (first | (simp -implicitDefEqProofs [I2, Hm, Hd, Hz, Hh, Gq, GG, c37, -getElem?_pos, hpl, hjl', hxe, hxf, -AV.fits]) | (simp (disch := omega) only [AF]) | ((with_reducible refine AJ 37 ?_); refine' AZ (hst) ?_) | (with_reducible first | refine A7 ?_ ?_ ?_ | exact AB | refine SameB.upd ?_ ?_ _ | assumption | refine A3 ?_ | refine KM.of ?_ | refine AG ?_ | refine A2 ?_ | refine A5 ?_ | intro _g _hg | refine AE ?_ ?_ | intro _hc) | omega)
     exact hJ (r - 1) _ (by omega) ⟨j + 1, (EB x q).1, by omega, rfl, h3, hE⟩
    ·rw [if_pos h2] at hE
     rw [hE]
     
     repeat' (first | (simp -implicitDefEqProofs [I2, Hm, Hd, Hz, Hh, Gq, GG, c37, -getElem?_pos, hpl, hjl', hxe, hxf, -AV.fits, h2, A8, AC]) | (simp (disch := omega) only [AF]) | ((with_reducible refine AJ 37 ?_); refine' AZ (hst) ?_) | (with_reducible first | refine A7 ?_ ?_ ?_ | exact AB | refine SameB.upd ?_ ?_ _ | assumption | refine A3 ?_ | refine KM.of ?_ | refine AG ?_ | refine A2 ?_ | refine A5 ?_ | intro _g _hg | refine AE ?_ ?_ | intro _hc) | omega)
   ·have hjl' : ¬ (j : Int) < p.length := by omega
    rw [List.drop_eq_nil_of_le (by omega), J6] at hE
    rw [hE]
    
    repeat' (first | (simp -implicitDefEqProofs [I2, Hm, Hd, Hz, Hh, Gq, GG, c37, -getElem?_pos, hpl, hjl', A8, AC]) | (simp (disch := omega) only [AF]) | (with_reducible first | refine A7 ?_ ?_ ?_ | exact AB | refine SameB.upd ?_ ?_ _ | assumption | refine A3 ?_ | refine KM.of ?_ | refine AG ?_ | refine A2 ?_ | refine A5 ?_ | intro _g _hg | refine AE ?_ ?_ | intro _hc) | omega)
  ·rw [if_pos hc0]
   repeat' (first | (simp -implicitDefEqProofs [I2, Hm, Hd, Hz, Hh, Gq, GG, c37, -getElem?_pos, h60', hc0, A8, AC]) | (simp (disch := omega) only [AF]) | ((with_reducible refine AJ 68 ?_); refine' AZ (hsf) ?_) | (with_reducible first | refine A7 ?_ ?_ ?_ | exact AB | refine SameB.upd ?_ ?_ _ | assumption | refine A3 ?_ | refine KM.of ?_ | refine AG ?_ | refine A2 ?_ | refine A5 ?_ | intro _g _hg | refine AE ?_ ?_ | intro _hc) | omega)
abbrev Wm (gs : Nat) (i : Int) : AObj := .cells 70 [.mp gs, aI i]
def Qd (r : Nat × Int) : Int × Int := if r.2 ≠ 0 then (r.2, (r.1 : Int)) else (0, 0)
def Qg (r : Nat × Int) : Nat := if r.2 ≠ 0 then r.1 + 1 else r.1
def RA (s : St) (i : Nat) : Prop := ∀ (g gs n : Nat) (H : A4), H g = some (Wm gs i) → H gs = some (.map (some .i64) shpMap) → AUpd Tryz.prog 40 [.ptr g 0, encS s] n H (aF (Qd (EB s i))) g (Wm gs (Qg (EB s i)))
theorem Yw (s : St) : EN s → ∀ i : Nat, i ≤ 60 → RA s i := by
 refine St.ind (Q := fun s => EN s → ∀ i : Nat, i ≤ 60 → RA s i) ?_ s
 intro k o m v p ih hfit i hi g gs n H hg hgs
 obtain ⟨hv, hp, hpp⟩ := hfit
 have hgg : g ≠ gs := fun e => by rw [e, hgs] at hg; cases hg
 have hnode := fun n H h1 h2 => A0x k o m v p hv g gs n ((i : Int) + 1) H h1 h2
 rw [EB]
 rw [AQ] at hnode ⊢
 refine Ft Tryz.func40 A28 rfl (hg) fun hH => ?_
 have hgn : g < n := by
  rcases Nat.lt_or_ge g n with h | h
  ·exact h
  ·rw [hH g h] at hg; cases hg
 have hsn : gs < n := by
  rcases Nat.lt_or_ge gs n with h | h
  ·exact h
  ·rw [hH gs h] at hgs; cases hgs
 by_cases h60 : 60 ≤ i
 ·rw [if_pos h60]
  have h60' : ¬ (i : Int) < 60 := by omega
  repeat' (first | (simp -implicitDefEqProofs [Mn, ND, I4, Ge, NO, MY, c40, -getElem?_pos, hg, h60', splice, Qd, Qg, A1]) | (simp (disch := omega) only [AF]) | (with_reducible first | refine A7 ?_ ?_ ?_ | exact AB | assumption | refine A3 ?_ | refine KM.of ?_ | refine AG ?_ | refine A2 ?_ | refine A5 ?_ | intro _g _hg | refine AE ?_ ?_ | intro _hc) | omega)
  intro q hq; simp only [upd]; (repeat' split) <;> first | rfl | omega
 ·rw [if_neg h60]
  have h60' : (i : Int) < 60 := by omega
  generalize hc : Bo (.mk k o m v p) = c at *
  have hpl := BB p
  by_cases hc0 : c = 0
  ·rw [if_neg (by simpa using hc0)]
   subst hc0
   repeat' (first | (simp -implicitDefEqProofs [c40, MY, NO, -getElem?_pos, hg, h60', splice]) | (simp (disch := omega) only [AF]) | ((with_reducible refine Ay 69 ?_); (refine' CallK.sfAt ?_ ((hnode _ _ (by simp (disch := omega) only [upd_ne, AX]) (by simp (disch := omega) only [upd_ne]; exact hgs))) ?_); (focus first | (with_reducible exact A0 _) | (simp [AC, A8, A1, A0]; done))) | (with_reducible first | refine A7 ?_ ?_ ?_ | exact AB | assumption | refine A3 ?_ | refine KM.of ?_ | refine AG ?_ | refine A2 ?_ | refine A5 ?_ | intro _g _hg | refine AE ?_ ?_ | intro _hc) | omega)
   rename_i g3 hg3
   refine LoopK.go (fun r st => ∃ (j q n1 : Nat) (H1 : A4), j + r = p.length ∧ st = ⟨[(0, .ptr g 0), (4, .ptr _g 0), (32, .sl 5 (Ae p) .ro), (33, aI p.length), (34, aI j)], n1, H1⟩ ∧ q ≤ 60 ∧ J6 p (i + 1) = J6 (p.drop j) q ∧ _g < n1 ∧ H1 g = some (Wm gs q) ∧ H1 gs = some (.map (some .i64) shpMap) ∧ H1 _g = some (.cells 27 [aI 0, aI 0]) ∧ (∀ k, k < n → k ≠ g → H1 k = H k) ∧ ∀ k, n1 ≤ k → H1 k = none) p.length
    ⟨0, i + 1, _, _, by omega, by simp [hpl]; exact ⟨rfl, rfl⟩, by omega, rfl, by omega, by simp (disch := omega) only [upd_ne, AX]; rfl, by simp (disch := omega) only [upd_ne]; exact hgs, by simp (disch := omega) only [upd_ne, AX], fun k h1 h2 => by simp (disch := omega) only [upd_ne], fun k h1 => by simp (disch := omega) only [upd_ne]; exact hH k (by omega)⟩ ?_
   rintro r st ⟨j, q, n1, H1, hj, rfl, hq, hE, hn1, q1, q2, q4, hsame, hsup⟩ J hJ
   by_cases hjl : j < p.length
   ·obtain ⟨x, hx⟩ : ∃ x, p[j]? = some x := ⟨_, List.getElem?_eq_getElem hjl⟩
    have hxm := List.mem_of_getElem? hx
    have hst := ih x hxm (Cz hpp x hxm) q hq
    have hxe := Er hx
    have hxf := BF x
    have hjl' : (j : Int) < p.length := by omega
    rw [UX hx] at hE
    unfold RA at hst
    generalize hsx : EB x q = sx at *
    have hok : sx.2 = 0 → sx.1 ≤ 60 := fun h2 => by rw [← hsx] at h2 ⊢; exact (NN x q h2).2.2
    obtain ⟨k', o', m', v', p'⟩ := x
    rw [AQ] at hst hxe hxf
    generalize Ae p = ep at *
    generalize Ae p' = ep' at *
    generalize v'.map aI = ev' at *
    by_cases h2 : sx.2 = 0
    ·rw [if_neg (by simpa using h2)] at hE
     have h3 := hok h2
     have e1 : Qd sx = (0, 0) := by unfold Qd; rw [if_neg (by simpa using h2)]
     have e2 : Qg sx = sx.1 := by unfold Qg; rw [if_neg (by simpa using h2)]
     rw [e1, e2] at hst
     
     repeat' (first | (simp -implicitDefEqProofs [Ge, I4, ND, -getElem?_pos, hjl', hxe, splice]) | (simp (disch := omega) only [AF]) | ((with_reducible refine Ay 40 ?_); (refine' CallK.sfU ?_ ((hst g gs _ _ (by simp (disch := omega) only [upd_ne, AX]; exact q1) (by simp (disch := omega) only [upd_ne]; exact q2))) ?_); (focus first | (with_reducible exact A0 _) | (simp [AC, A8, A1, A0]; done))) | (with_reducible first | refine A7 ?_ ?_ ?_ | exact AB | assumption | refine A3 ?_ | refine KM.of ?_ | refine AG ?_ | refine A2 ?_ | refine A5 ?_ | intro _g _hg | refine AE ?_ ?_ | intro _hc) | omega)
     exact hJ (r - 1) _ (by omega) ⟨j + 1, sx.1, _, _, by omega, rfl, h3, hE, by omega, by simp (disch := omega) only [upd_ne, AX], by simp (disch := omega) only [upd_ne]; exact q2, by simp (disch := omega) only [upd_ne]; exact q4, fun k h1 h2 => by simp (disch := omega) only [upd_ne]; exact hsame k h1 h2, fun k h1 => by simp (disch := omega) only [upd_ne]; exact hsup k (by omega)⟩
    ·rw [if_pos h2] at hE
     rw [hE]
     have e1 : Qd sx = (sx.2, (sx.1 : Int)) := by unfold Qd; rw [if_pos h2]
     have e2 : Qg sx = sx.1 + 1 := by unfold Qg; rw [if_pos h2]
     rw [e1, e2] at hst ⊢
     
     repeat' (first | (simp -implicitDefEqProofs [Ge, I4, -getElem?_pos, hjl', hxe, h2, q4, splice, A1]) | (simp (disch := omega) only [AF]) | ((with_reducible refine Ay 40 ?_); (refine' CallK.sfU ?_ ((hst g gs _ _ (by simp (disch := omega) only [upd_ne, AX]; exact q1) (by simp (disch := omega) only [upd_ne]; exact q2))) ?_); (focus first | (with_reducible exact A0 _) | (simp [AC, A8, A1, A0]; done))) | (with_reducible first | refine A7 ?_ ?_ ?_ | exact AB | assumption | refine A3 ?_ | refine KM.of ?_ | refine AG ?_ | refine A2 ?_ | refine A5 ?_ | intro _g _hg | refine AE ?_ ?_ | intro _hc) | omega)
     all_goals first | exact A1 _ | (intro q' hq'; simp only [upd]; (repeat' split) <;> first | rfl | omega | (exact hsame _ hq' (by assumption)))
   ·have hjl' : ¬ (j : Int) < p.length := by omega
    rw [List.drop_eq_nil_of_le (by omega), J6] at hE
    rw [hE]
    
    repeat' (first | (simp -implicitDefEqProofs [Ge, Mn, -getElem?_pos, hjl', q4, splice, Qd, Qg, A1]) | (simp (disch := omega) only [AF]) | (with_reducible first | refine A7 ?_ ?_ ?_ | exact AB | assumption | refine A3 ?_ | refine KM.of ?_ | refine AG ?_ | refine A2 ?_ | refine A5 ?_ | intro _g _hg | refine AE ?_ ?_ | intro _hc) | omega)
    all_goals first | exact A1 _ | (intro q' hq'; simp only [upd]; (repeat' split) <;> first | rfl | omega | (subst_vars; exact q1) | (exact hsame _ hq' (by assumption)))
  ·rw [if_pos hc0]
   repeat' (first | (simp -implicitDefEqProofs [Mn, ND, I4, Ge, NO, MY, c40, -getElem?_pos, hg, h60', hc0, splice, Qd, Qg, A1]) | (simp (disch := omega) only [AF]) | ((with_reducible refine Ay 69 ?_); (refine' CallK.sfAt ?_ ((hnode _ _ (by simp (disch := omega) only [upd_ne, AX]) (by simp (disch := omega) only [upd_ne]; exact hgs))) ?_); (focus first | (with_reducible exact A0 _) | (simp [AC, A8, A1, A0]; done))) | (with_reducible first | refine A7 ?_ ?_ ?_ | exact AB | assumption | refine A3 ?_ | refine KM.of ?_ | refine AG ?_ | refine A2 ?_ | refine A5 ?_ | intro _g _hg | refine AE ?_ ?_ | intro _hc) | omega)
   all_goals first | exact A1 _ | (intro q hq; simp only [upd]; (repeat' split) <;> first | rfl | omega)
open Go.RowKit
theorem YE {s : AW} {v : Int} (h : Lib.atoiAll s = .ok v) (hs : s.length ≤ 1000000) : APure Tryz.prog 144 [.str s] (.tup [aI v, .nif]) := by
 refine QC fun G vs hr => ⟨.tuple #[.int .i64 v, .nilIface], fun _ => .tup (.cons .int (.cons .nif .nil)), fun w hl => ?_⟩
 cases hr with | cons h1 h2 =>
 cases h2; cases h1
 rename_i s1 hs1
 refine (Any.strconv_Atoi_ok OH s1 (by rw [Lib.size_eq, hs1]; omega) v (by rw [hs1]; exact h) w).mono ?_
 rintro e w' ⟨rfl, h2⟩
 refine ⟨rfl, ?_⟩
 rcases h2 with rfl | ⟨t, rfl⟩
 ·exact Below.refl _ _
 ·exact Lib.bytesWorld_below _ _ _
theorem RY {P : Program} {f : Nat} {s : AW} {n : Int} {t : Nat} (h : ∀ (s1 : ByteArray) (w : World), s1.data.toList = s → Laid w → Calls P f #[.string s1] w fun e w' => ∃ N, e = .returned (.tuple #[.int .i64 n, .iface t (.pointer (some ⟨N, 0, none⟩))]) ∧ Below w.heap.size w w') : APure P f [.str s] (.tup [aI n, .ifc t .any]) := by
 intro n0 H hs w0 G w vs hl h0 hrep
 cases hrep with | cons h1 h2 =>
 cases h2; cases h1
 rename_i s1 hs1
 refine (h s1 w hs1 (hl.ext h0.ext)).mono ?_
 rintro e w' ⟨N, rfl, hb⟩
 exact ⟨_, _, G, n0, H, rfl, ⟨rfl, rfl, rfl⟩, .tup (.cons .int (.cons (.ifc .any) .nil)), Gh.Le.rfl_ _, Nat.le_refl _, N7 h0 hb⟩
theorem Vz {s : AW} (h0 : ∀ v, Lib.atoiAll s ≠ .ok v) (h2 : Lib.atoiAll s ≠ .range) (hs : s.length ≤ 1000000) : APure Tryz.prog 144 [.str s] (.tup [aI 0, .ifc 168 .any]) := by
 refine RY fun s1 w hs1 hl => ?_
 obtain ⟨ev, hv, hev⟩ := hl.syn
 refine (Any.strconv_Atoi_syntax OH s1 (by rw [Lib.size_eq, hs1]; omega) (by rw [hs1]; revert h0 h2; cases Lib.atoiAll s <;> simp) ev w hv hev).mono ?_
 rintro e w' ⟨k, rfl, _, _, hb⟩
 exact ⟨k, rfl, hb⟩
theorem W3 {s : AW} (h : Lib.atoiAll s = .range) (hs : s.length ≤ 1000000) : APure Tryz.prog 144 [.str s] (.tup [aI (Lib.atoiSat s), .ifc 168 .any]) := by
 refine RY fun s1 w hs1 hl => ?_
 obtain ⟨ev, hv, hev⟩ := hl.rng
 have key := Any.strconv_Atoi_range OH s1 (by rw [Lib.size_eq, hs1]; omega) (by rw [hs1]; exact h) ev w hv hev
 rw [hs1] at key
 refine key.mono ?_
 rintro e w' ⟨k, rfl, _, _, hb⟩
 exact ⟨k, rfl, hb⟩
theorem Rc (s p : AW) : APure Tryz.prog 145 [.str s, .str p] (.bool (decide (p <+: s))) := by
 by_cases h : p.length ≤ s.length
 ·have h' : (p.length : Int) ≤ s.length := by omega
  have hh : ¬ (s.length : Int) < p.length := by omega
  by_cases hp : p <+: s
  ·have e : s.take p.length = p := List.prefix_iff_eq_take.1 hp |>.symm
   rw [decide_eq_true hp]
   
   refine A9 Tryz.func145 Sk rfl fun n H hH => ?_
   repeat' (first | (simp -implicitDefEqProofs [c145, -getElem?_pos, h, h', hh, e, A8]) | (simp (disch := omega) only [AF]) | (with_reducible first | refine A7 ?_ ?_ ?_ | exact AB | refine SameB.upd ?_ ?_ _ | assumption | refine A3 ?_ | refine KM.of ?_ | refine AG ?_ | intro _g _hg | refine AE ?_ ?_ | intro _hc) | omega)
  ·have e : ¬ s.take p.length = p := fun e => hp (List.prefix_iff_eq_take.2 e.symm)
   rw [decide_eq_false hp]
   
   refine A9 Tryz.func145 Sk rfl fun n H hH => ?_
   repeat' (first | (simp -implicitDefEqProofs [c145, -getElem?_pos, h, h', hh, e, A8]) | (simp (disch := omega) only [AF]) | (with_reducible first | refine A7 ?_ ?_ ?_ | exact AB | refine SameB.upd ?_ ?_ _ | assumption | refine A3 ?_ | refine KM.of ?_ | refine AG ?_ | intro _g _hg | refine AE ?_ ?_ | intro _hc) | omega)
 ·have h' : ¬ (p.length : Int) ≤ s.length := by omega
  have hp : ¬ p <+: s := fun hp => h hp.length_le
  rw [decide_eq_false hp]
  
  refine A9 Tryz.func145 Sk rfl fun n H hH => ?_
  repeat' (first | (simp -implicitDefEqProofs [c145, -getElem?_pos, h, h', A8]) | (simp (disch := omega) only [AF]) | (with_reducible first | refine A7 ?_ ?_ ?_ | exact AB | refine SameB.upd ?_ ?_ _ | assumption | refine A3 ?_ | refine KM.of ?_ | refine AG ?_ | intro _g _hg | refine AE ?_ ?_ | intro _hc) | omega)
theorem Ri (s p : AW) : APure Tryz.prog 128 [.str s, .str p] (.bool (decide (p <+: s))) := by
 have h := Rc s p
 generalize decide (p <+: s) = b at *
 
 refine A9 Tryz.func128 A1e rfl fun n H hH => ?_
 repeat' (first | (simp -implicitDefEqProofs [c128, -getElem?_pos, A8]) | (simp (disch := omega) only [AF]) | ((with_reducible refine AJ 145 ?_); refine' AZ (h) ?_) | (with_reducible first | refine A7 ?_ ?_ ?_ | exact AB | refine SameB.upd ?_ ?_ _ | assumption | refine A3 ?_ | refine KM.of ?_ | refine AG ?_ | intro _g _hg | refine AE ?_ ?_ | intro _hc) | omega)
def acc (c : UInt8) (s : AW) : AW × Bool := match s with
 | x :: r => if x = c then (r, true) else (x :: r, false)
 | [] => ([], false)
theorem WN (s : AW) (c : UInt8) : APure Tryz.prog 143 [.str s, .str [c]] (.tup [.str (acc c s).1, .bool (acc c s).2]) := by
 have h := Rc s [c]
 cases s with
 | nil =>
  have e : decide ([c] <+: ([] : AW)) = false := by simp
  rw [e] at h
  
  refine A9 Tryz.func143 TL rfl fun n H hH => ?_
  repeat' (first | (simp -implicitDefEqProofs [Ka, c143, -getElem?_pos, acc, A8, AC]) | (simp (disch := omega) only [AF]) | ((with_reducible refine AJ 145 ?_); refine' AZ (h) ?_) | (with_reducible first | refine A7 ?_ ?_ ?_ | exact AB | refine SameB.upd ?_ ?_ _ | assumption | refine A3 ?_ | refine KM.of ?_ | refine AG ?_ | intro _g _hg | refine AE ?_ ?_ | intro _hc) | omega)
 | cons x r =>
  by_cases hx : x = c
  ·subst hx
   have e : decide ([x] <+: x :: r) = true := by simp
   have e2 : acc x (x :: r) = (r, true) := by simp [acc]
   rw [e] at h
   rw [e2]
   
   refine A9 Tryz.func143 TL rfl fun n H hH => ?_
   repeat' (first | (simp -implicitDefEqProofs [Ka, c143, -getElem?_pos, A8, AC]) | (simp (disch := omega) only [AF]) | ((with_reducible refine AJ 145 ?_); refine' AZ (h) ?_) | (with_reducible first | refine A7 ?_ ?_ ?_ | exact AB | refine SameB.upd ?_ ?_ _ | assumption | refine A3 ?_ | refine KM.of ?_ | refine AG ?_ | intro _g _hg | refine AE ?_ ?_ | intro _hc) | omega)
  ·have e : decide ([c] <+: x :: r) = false := by simp [Ne.symm hx]
   have e2 : acc c (x :: r) = (x :: r, false) := by simp [acc, hx]
   rw [e] at h
   rw [e2]
   
   refine A9 Tryz.func143 TL rfl fun n H hH => ?_
   repeat' (first | (simp -implicitDefEqProofs [Ka, c143, -getElem?_pos, A8, AC]) | (simp (disch := omega) only [AF]) | ((with_reducible refine AJ 145 ?_); refine' AZ (h) ?_) | (with_reducible first | refine A7 ?_ ?_ ?_ | exact AB | refine SameB.upd ?_ ?_ _ | assumption | refine A3 ?_ | refine KM.of ?_ | refine AG ?_ | intro _g _hg | refine AE ?_ ?_ | intro _hc) | omega)
theorem WB (s : AW) (c : UInt8) : APure Tryz.prog 124 [.str s, .str [c]] (.tup [.str (acc c s).1, .bool (acc c s).2]) := by
 have h := WN s c
 generalize acc c s = a at *
 
 refine A9 Tryz.func124 A07 rfl fun n H hH => ?_
 repeat' (first | (simp -implicitDefEqProofs [c124, -getElem?_pos, A8, AC]) | (simp (disch := omega) only [AF]) | ((with_reducible refine AJ 143 ?_); refine' AZ (h) ?_) | (with_reducible first | refine A7 ?_ ?_ ?_ | exact AB | refine SameB.upd ?_ ?_ _ | assumption | refine A3 ?_ | refine KM.of ?_ | refine AG ?_ | intro _g _hg | refine AE ?_ ?_ | intro _hc) | omega)
abbrev An (r : AW) (gm : Nat) : AObj := .cells 92 [.str r, .mp gm]
theorem GM (r : AW) (c : UInt8) (gp gm n : Nat) (H : A4) (hp : H gp = some (An r gm)) : AUpd Tryz.prog 85 [.ptr gp 0, .str [c]] n H (.bool (acc c r).2) gp (An (acc c r).1 gm) := by
 have hc := WB r c
 generalize acc c r = a at *
 refine Ft Tryz.func85 A26 rfl (hp) fun hH => ?_
 repeat' (first | (simp -implicitDefEqProofs [c85, -getElem?_pos, hp, splice, A1]) | (simp (disch := omega) only [AF]) | ((with_reducible refine AJ 124 ?_); refine' AZ (hc) ?_) | (with_reducible first | refine A7 ?_ ?_ ?_ | exact AB | assumption | refine A3 ?_ | refine KM.of ?_ | refine AG ?_ | intro _g _hg | refine AE ?_ ?_ | intro _hc) | omega)
def Ak (c : UInt8) : Bool := decide (97 ≤ c.toNat ∧ c.toNat ≤ 122)
theorem Hc (p : UInt8 → Bool) (s : AW) : s.take (s.takeWhile p).length = s.takeWhile p := by
 have := List.takeWhile_prefix (p := p) (l := s)
 exact (List.prefix_iff_eq_take.1 this).symm
theorem Gk (p : UInt8 → Bool) : ∀ s : AW, s.drop (s.takeWhile p).length = s.dropWhile p
 | [] => rfl
 | x :: r => by
  rw [List.takeWhile_cons, List.dropWhile_cons]
  split
  ·simpa using Gk p r
  ·rfl
theorem MM {p : UInt8 → Bool} : ∀ {s : AW} {j : Nat}, j < (s.takeWhile p).length → ∃ c, s[j]? = some c ∧ p c = true
 | [], j, h => by simp at h
 | x :: r, j, h => by
  rw [List.takeWhile_cons] at h
  split at h
  ·rename_i hx
   cases j with
   | zero => exact ⟨x, rfl, hx⟩
   | succ j => simpa using MM (s := r) (by simpa using h)
  ·simp at h
theorem HR {p : UInt8 → Bool} : ∀ {s : AW} {c : UInt8}, s[(s.takeWhile p).length]? = some c → p c = false
 | [], c, h => by simp at h
 | x :: r, c, h => by
  rw [List.takeWhile_cons] at h
  split at h
  ·simp at h; exact HR h
  ·rename_i hx; simp at h; subst h; simpa using hx
theorem WY (r : AW) (gp gm n : Nat) (H : A4) (hr : r.length ≤ 1000000) (hp : H gp = some (An r gm)) : AUpd Tryz.prog 84 [.ptr gp 0] n H (.str (r.takeWhile Ak)) gp (An (r.dropWhile Ak) gm) := by
 have hlen : (r.takeWhile Ak).length ≤ r.length := (List.takeWhile_sublist _).length_le
 have htk := Hc Ak r
 have hdr := Gk Ak r
 refine Ft Tryz.func84 A1w rfl (hp) fun hH => ?_
 repeat' (first | (simp -implicitDefEqProofs [c84, GF, GH, GP, c84, -getElem?_pos, hp]) | (simp (disch := omega) only [AF]) | (with_reducible first | refine A7 ?_ ?_ ?_ | exact AB | assumption | refine A3 ?_ | refine KM.of ?_ | refine AG ?_ | intro _g _hg | refine AE ?_ ?_ | intro _hc) | omega)
 refine LoopK.go (fun k st => ∃ j : Nat, j + k = (r.takeWhile Ak).length ∧ st = ⟨[(0, .ptr gp 0), (3, aI j)], n, H⟩) (r.takeWhile Ak).length ⟨0, by omega, rfl⟩ ?_
 rintro k st ⟨j, hj, rfl⟩ J hJ
 by_cases hjl : j < (r.takeWhile Ak).length
 ·obtain ⟨c, hc, hcl⟩ := MM hjl
  have hjr : (j : Int) < r.length := by omega
  unfold Ak at hcl
  simp only [decide_eq_true_eq] at hcl
  have h1 : (97 : Int) ≤ (c.toNat : Int) := by omega
  have h2 : (c.toNat : Int) ≤ 122 := by omega
  
  repeat' (first | (simp -implicitDefEqProofs [GF, GH, GP, c84, -getElem?_pos, hp, hjr, hc, h1, h2]) | (simp (disch := omega) only [AF]) | (with_reducible first | refine A7 ?_ ?_ ?_ | exact AB | assumption | refine A3 ?_ | refine KM.of ?_ | refine AG ?_ | intro _g _hg | refine AE ?_ ?_ | intro _hc) | omega)
  exact hJ (k - 1) _ (by omega) ⟨j + 1, by omega, rfl⟩
 ·have ej : j = (r.takeWhile Ak).length := by omega
  rw [← ej] at htk hdr
  rw [← htk, ← hdr]
  have hjr2 : (j : Int) ≤ r.length := by omega
  by_cases hjr : j < r.length
  ·obtain ⟨c, hc⟩ : ∃ c, r[j]? = some c := ⟨_, List.getElem?_eq_getElem hjr⟩
   have hcl : Ak c = false := HR (by rw [← ej]; exact hc)
   have hjr' : (j : Int) < r.length := by omega
   unfold Ak at hcl
   rw [decide_eq_false_iff_not] at hcl
   by_cases h1 : 97 ≤ c.toNat
   ·have h2 : ¬ (c.toNat : Int) ≤ 122 := by omega
    have h1' : (97 : Int) ≤ (c.toNat : Int) := by omega
    
    repeat' (first | (simp -implicitDefEqProofs [GF, GH, GP, c84, -getElem?_pos, hp, hjr', hc, h1', h2, hjr2, splice, A1]) | (simp (disch := omega) only [AF]) | (with_reducible first | refine A7 ?_ ?_ ?_ | exact AB | assumption | refine A3 ?_ | refine KM.of ?_ | refine AG ?_ | intro _g _hg | refine AE ?_ ?_ | intro _hc) | omega)
    all_goals first | exact AB | exact A1 _
   ·have h1' : ¬ (97 : Int) ≤ (c.toNat : Int) := by omega
    
    repeat' (first | (simp -implicitDefEqProofs [GF, GH, GP, c84, -getElem?_pos, hp, hjr', hc, h1', hjr2, splice, A1]) | (simp (disch := omega) only [AF]) | (with_reducible first | refine A7 ?_ ?_ ?_ | exact AB | assumption | refine A3 ?_ | refine KM.of ?_ | refine AG ?_ | intro _g _hg | refine AE ?_ ?_ | intro _hc) | omega)
    all_goals first | exact AB | exact A1 _
  ·have hjr' : ¬ (j : Int) < r.length := by omega
   have hcn : r[j]? = none := List.getElem?_eq_none (by omega)
   
   repeat' (first | (simp -implicitDefEqProofs [GF, GH, GP, c84, -getElem?_pos, hp, hjr', hcn, hjr2, splice, A1]) | (simp (disch := omega) only [AF]) | (with_reducible first | refine A7 ?_ ?_ ?_ | exact AB | assumption | refine A3 ?_ | refine KM.of ?_ | refine AG ?_ | intro _g _hg | refine AE ?_ ?_ | intro _hc) | omega)
   all_goals first | exact AB | exact A1 _
theorem OG {l : AW} (hl : ∀ c ∈ l, Af c = true) (h9 : l.length ≤ 9) : Cu 0 l ≤ 999999999 := by
 have h1 := KY l hl 0
 have h2 : 10 ^ l.length ≤ 10 ^ 9 := Nat.pow_le_pow_right (by omega) h9
 omega
theorem X2 {d : AW} (h : ∀ c ∈ d, Af c = true) (h0 : d ≠ []) (h9 : d.length ≤ 9) : Lib.atoiAll d = .ok (Cu 0 d : Int) ∧ Cu 0 d ≤ 999999999 := by
 have hb2 : Cu 0 d ≤ 999999999 := OG h h9
 refine ⟨?_, hb2⟩
 obtain ⟨c, l, rfl⟩ := List.exists_cons_of_ne_nil h0
 have hc := h c List.mem_cons_self
 unfold Af at hc
 simp only [decide_eq_true_eq] at hc
 have hm : Lib.parseMag (c :: l) = .ok (Cu 0 (c :: l)) := by
  unfold Lib.parseMag
  rw [if_neg (by simp), QD _ h 0 (by omega)]
 rw [Lib.atoiAll_plain c l (by omega) (by omega), hm]
 simp [Lib.signless]; omega
def ER (d : AW) : Int × Bool := match Lib.atoiAll d with
 | .ok v => (v, decide (d.length ≤ 9) && decide (Lib.itoa v = d))
 | .range => (Lib.atoiSat d, false)
 | _ => (0, false)
theorem OA (r : AW) : ∀ c ∈ r.takeWhile Af, Af c = true := fun c hc => by
 have := List.all_takeWhile (p := Af) (l := r)
 exact List.all_eq_true.1 this c hc
theorem Rf (r : AW) (gp gm n : Nat) (H : A4) (hr : r.length ≤ 1000000) (hp : H gp = some (An r gm)) : AUpd Tryz.prog 127 [.ptr gp 0] n H (.tup [aI (ER (r.takeWhile Af)).1, .bool (ER (r.takeWhile Af)).2]) gp (An (r.dropWhile Af) gm) := by
 have hlen : (r.takeWhile Af).length ≤ r.length := (List.takeWhile_sublist _).length_le
 have htk := Hc Af r
 have hdr := Gk Af r
 have hdig := OA r
 refine Ft Tryz.func127 A0e rfl (hp) fun hH => ?_
 repeat' (first | (simp -implicitDefEqProofs [c127, DZ, OF, Fq, c127, -getElem?_pos, hp]) | (simp (disch := omega) only [AF]) | (with_reducible first | refine A7 ?_ ?_ ?_ | exact AB | assumption | refine A3 ?_ | refine KM.of ?_ | refine AG ?_ | intro _g _hg | refine AE ?_ ?_ | intro _hc) | omega)
 refine LoopK.go (fun k st => ∃ j : Nat, j + k = (r.takeWhile Af).length ∧ st = ⟨[(0, .ptr gp 0), (4, aI j)], n, H⟩) (r.takeWhile Af).length ⟨0, by omega, rfl⟩ ?_
 rintro k st ⟨j, hj, rfl⟩ J hJ
 by_cases hjl : j < (r.takeWhile Af).length
 ·obtain ⟨c, hc, hcl⟩ := MM hjl
  have hjr : (j : Int) < r.length := by omega
  unfold Af at hcl
  simp only [decide_eq_true_eq] at hcl
  have h1 : (48 : Int) ≤ (c.toNat : Int) := by omega
  have h2 : (c.toNat : Int) ≤ 57 := by omega
  
  repeat' (first | (simp -implicitDefEqProofs [DZ, OF, Fq, c127, -getElem?_pos, hp, hjr, hc, h1, h2]) | (simp (disch := omega) only [AF]) | (with_reducible first | refine A7 ?_ ?_ ?_ | exact AB | assumption | refine A3 ?_ | refine KM.of ?_ | refine AG ?_ | intro _g _hg | refine AE ?_ ?_ | intro _hc) | omega)
  exact hJ (k - 1) _ (by omega) ⟨j + 1, by omega, rfl⟩
 ·have ej : j = (r.takeWhile Af).length := by omega
  rw [← ej] at htk hdr
  rw [← hdr]
  have hjr2 : (j : Int) ≤ r.length := by omega
  have hdl : (r.takeWhile Af).length ≤ 1000000 := by omega
  generalize hd : r.takeWhile Af = d at *
  have key : ∀ b : AV, aw Tryz.prog c127_k1 (D1 (.tup [aI (ER d).1, .bool (ER d).2]) n (upd H gp (some (An (r.drop j) gm))) [.tmp 2, .tmp 3]) ⟨[(0, .ptr gp 0), (4, aI j), (32, b)], n, H⟩ := by
   intro b
   cases hat : Lib.atoiAll d with
   | ok v =>
    have h1 := YE hat hdl
    by_cases h9 : d.length ≤ 9
    ·have hne : d ≠ [] := by
      intro e
      rw [e] at hat
      simp [Lib.atoiAll, Lib.signless, Lib.parseMag] at hat
     obtain ⟨h2, h3⟩ := X2 hdig hne h9
     rw [h2] at hat
     injection hat with hat
     have h4 := TZ v (by omega)
     have h9' : (d.length : Int) ≤ 9 := by omega
     have e : ER d = (v, decide (Lib.itoa v = d)) := by unfold ER; rw [h2, hat]; simp [h9]
     rw [e]
     generalize Lib.itoa v = iv at *
     by_cases hiv : iv = d
     ·have hiv2 : decide (iv = d) = true := decide_eq_true hiv
      
      repeat' (first | (simp -implicitDefEqProofs [DZ, -getElem?_pos, hp, hjr2, htk, h9', hiv, A8, AC, splice]) | (simp (disch := omega) only [AF]) | ((with_reducible refine AJ 144 ?_); refine' AZ (h1) ?_) | ((with_reducible refine AJ 120 ?_); refine' AZ (h4) ?_) | (with_reducible first | refine A7 ?_ ?_ ?_ | exact AB | assumption | refine A3 ?_ | refine KM.of ?_ | refine AG ?_ | intro _g _hg | refine AE ?_ ?_ | intro _hc) | omega)
      all_goals first | exact AB | exact A1 _
     ·have hiv2 : decide (iv = d) = false := decide_eq_false hiv
      
      repeat' (first | (simp -implicitDefEqProofs [DZ, -getElem?_pos, hp, hjr2, htk, h9', hiv, A8, AC, splice]) | (simp (disch := omega) only [AF]) | ((with_reducible refine AJ 144 ?_); refine' AZ (h1) ?_) | ((with_reducible refine AJ 120 ?_); refine' AZ (h4) ?_) | (with_reducible first | refine A7 ?_ ?_ ?_ | exact AB | assumption | refine A3 ?_ | refine KM.of ?_ | refine AG ?_ | intro _g _hg | refine AE ?_ ?_ | intro _hc) | omega)
      all_goals first | exact AB | exact A1 _
    ·have h9' : ¬ (d.length : Int) ≤ 9 := by omega
     have e : ER d = (v, false) := by unfold ER; rw [hat]; simp [h9]
     rw [e]
     
     repeat' (first | (simp -implicitDefEqProofs [DZ, -getElem?_pos, hp, hjr2, htk, h9', A8, AC, splice]) | (simp (disch := omega) only [AF]) | ((with_reducible refine AJ 144 ?_); refine' AZ (h1) ?_) | (with_reducible first | refine A7 ?_ ?_ ?_ | exact AB | assumption | refine A3 ?_ | refine KM.of ?_ | refine AG ?_ | intro _g _hg | refine AE ?_ ?_ | intro _hc) | omega)
     all_goals first | exact AB | exact A1 _
   | range =>
    have h1 := W3 hat hdl
    have e : ER d = (Lib.atoiSat d, false) := by unfold ER; rw [hat]
    rw [e]
    
    repeat' (first | (simp -implicitDefEqProofs [DZ, -getElem?_pos, hp, hjr2, htk, A8, AC, splice]) | (simp (disch := omega) only [AF]) | ((with_reducible refine AJ 144 ?_); refine' AZ (h1) ?_) | (with_reducible first | refine A7 ?_ ?_ ?_ | exact AB | assumption | refine A3 ?_ | refine KM.of ?_ | refine AG ?_ | intro _g _hg | refine AE ?_ ?_ | intro _hc) | omega)
    all_goals first | exact AB | exact A1 _
   | _ =>
    have h1 := Vz (s := d) (by rw [hat]; simp) (by rw [hat]; simp) hdl
    have e : ER d = (0, false) := by unfold ER; rw [hat]
    rw [e]
    
    repeat' (first | (simp -implicitDefEqProofs [DZ, -getElem?_pos, hp, hjr2, htk, A8, AC, splice]) | (simp (disch := omega) only [AF]) | ((with_reducible refine AJ 144 ?_); refine' AZ (h1) ?_) | (with_reducible first | refine A7 ?_ ?_ ?_ | exact AB | assumption | refine A3 ?_ | refine KM.of ?_ | refine AG ?_ | intro _g _hg | refine AE ?_ ?_ | intro _hc) | omega)
    all_goals first | exact AB | exact A1 _
  by_cases hjr : j < r.length
  ·obtain ⟨c, hc⟩ : ∃ c, r[j]? = some c := ⟨_, List.getElem?_eq_getElem hjr⟩
   have hcl : Af c = false := HR (p := Af) (s := r) (by rw [hd, ← ej]; exact hc)
   have hjr' : (j : Int) < r.length := by omega
   unfold Af at hcl
   rw [decide_eq_false_iff_not] at hcl
   by_cases h1 : 48 ≤ c.toNat
   ·have h2 : ¬ (c.toNat : Int) ≤ 57 := by omega
    have h1' : (48 : Int) ≤ (c.toNat : Int) := by omega
    
    repeat' (first | (simp -implicitDefEqProofs [Fq, -getElem?_pos, hp, hjr', hc, h1', h2, hjr2]) | (simp (disch := omega) only [AF]) | (with_reducible first | refine A7 ?_ ?_ ?_ | exact AB | assumption | refine A3 ?_ | refine KM.of ?_ | refine AG ?_ | intro _g _hg | refine AE ?_ ?_ | intro _hc) | omega)
    exact key _
   ·have h1' : ¬ (48 : Int) ≤ (c.toNat : Int) := by omega
    
    repeat' (first | (simp -implicitDefEqProofs [Fq, -getElem?_pos, hp, hjr', hc, h1', hjr2]) | (simp (disch := omega) only [AF]) | (with_reducible first | refine A7 ?_ ?_ ?_ | exact AB | assumption | refine A3 ?_ | refine KM.of ?_ | refine AG ?_ | intro _g _hg | refine AE ?_ ?_ | intro _hc) | omega)
    exact key _
  ·have hjr' : ¬ (j : Int) < r.length := by omega
   have hcn : r[j]? = none := List.getElem?_eq_none (by omega)
   
   repeat' (first | (simp -implicitDefEqProofs [Fq, -getElem?_pos, hp, hjr', hcn, hjr2]) | (simp (disch := omega) only [AF]) | (with_reducible first | refine A7 ?_ ?_ ?_ | exact AB | assumption | refine A3 ?_ | refine KM.of ?_ | refine AG ?_ | intro _g _hg | refine AE ?_ ?_ | intro _hc) | omega)
   exact key _
def fnW : List AW := [[112, 108, 117, 115], [109, 105, 110, 117, 115], [116, 105, 109, 101, 115], [109, 97, 120], [109, 105, 110], [109, 111, 100]]
def cdW : List AW := [[98, 101, 108, 111, 119], [97, 98, 111, 118, 101], [100, 105, 118, 105, 115, 105, 98, 108, 101]]
abbrev fnS : AW := [112, 108, 117, 115, 32, 109, 105, 110, 117, 115, 32, 116, 105, 109, 101, 115, 32, 109, 97, 120, 32, 109, 105, 110, 32, 109, 111, 100]
abbrev cdS : AW := [98, 101, 108, 111, 119, 32, 97, 98, 111, 118, 101, 32, 100, 105, 118, 105, 115, 105, 98, 108, 101]
theorem QU : Lib.fields fnS = fnW := by decide +kernel
theorem Pq : Lib.fields cdS = cdW := by decide +kernel
theorem PV : APure Tryz.prog 118 [] (aSs fnW) := by
 have h := RR fnS (by decide) (by decide) (by rw [QU]; decide)
 rw [QU] at h
 generalize fnW = l at *
 
 refine A9 Tryz.func118 A01 rfl fun n H hH => ?_
 repeat' (first | (simp -implicitDefEqProofs [c118, -getElem?_pos, A1]) | (simp (disch := omega) only [AF]) | ((with_reducible refine AJ 139 ?_); refine' AZ (h) ?_) | (with_reducible first | refine A7 ?_ ?_ ?_ | exact AB | refine SameB.upd ?_ ?_ _ | assumption | refine A3 ?_ | refine KM.of ?_ | refine AG ?_ | intro _g _hg | refine AE ?_ ?_ | intro _hc) | omega)
theorem Py : APure Tryz.prog 119 [] (aSs cdW) := by
 have h := RR cdS (by decide) (by decide) (by rw [Pq]; decide)
 rw [Pq] at h
 generalize cdW = l at *
 
 refine A9 Tryz.func119 A0g rfl fun n H hH => ?_
 repeat' (first | (simp -implicitDefEqProofs [c119, -getElem?_pos, A1]) | (simp (disch := omega) only [AF]) | ((with_reducible refine AJ 139 ?_); refine' AZ (h) ?_) | (with_reducible first | refine A7 ?_ ?_ ?_ | exact AB | refine SameB.upd ?_ ?_ _ | assumption | refine A3 ?_ | refine KM.of ?_ | refine AG ?_ | intro _g _hg | refine AE ?_ ?_ | intro _hc) | omega)
def EO (w : AW) : List AW → Option Nat
 | [] => none
 | x :: r => if x = w then some 0 else (EO w r).map (· + 1)
theorem Ns {w : AW} : ∀ {l : List AW} {j : Nat}, l[j]? = some w → (∀ (i : Nat) (x : AW), i < j → l[i]? = some x → x ≠ w) → EO w l = some j
 | [], j, h, _ => by simp at h
 | x :: r, 0, h, _ => by simp at h; simp [EO, h]
 | x :: r, j + 1, h, hb => by
  have h0 := hb 0 x (by omega) rfl
  have := Ns (l := r) (j := j) (by simpa using h) fun i y hi hy => hb (i + 1) y (by omega) (by simpa using hy)
  simp [EO, h0, this]
theorem IE {w : AW} : ∀ {l : List AW}, (∀ (i : Nat) (x : AW), l[i]? = some x → x ≠ w) → EO w l = none
 | [], _ => rfl
 | x :: r, hb => by
  have h0 := hb 0 x rfl
  have := IE (l := r) fun i y hy => hb (i + 1) y (by simpa using hy)
  simp [EO, h0, this]
def Se (w : AW) (l : List AW) : Int × Bool := match EO w l with
 | some j => ((j : Int) + 1, true)
 | none => (0, false)
theorem A2g (r : AW) (names : List AW) (gp gm n : Nat) (H : A4) (hr : r.length ≤ 1000000) (hn : names.length ≤ 100) (hp : H gp = some (An r gm)) : AUpd Tryz.prog 126 [.ptr gp 0, .sl 1 (names.map AV.str) .ro] n H (.tup [aI (Se (r.takeWhile Ak) names).1, .bool (Se (r.takeWhile Ak) names).2]) gp (An (r.dropWhile Ak) gm) := by
 have hw := WY r gp gm n H hr hp
 have hnl : (names.map AV.str).length = names.length := by simp
 generalize r.takeWhile Ak = w at *
 refine Ft Tryz.func126 ZL rfl (hp) fun hH => ?_
 repeat' (first | (simp -implicitDefEqProofs [c126, H5, Gw, Gu, H8, c126, -getElem?_pos, hp, hnl]) | (simp (disch := omega) only [AF]) | ((with_reducible refine Ay 84 ?_); (refine' CallK.sfU ?_ (hw) ?_); (focus first | (with_reducible exact A0 _) | (simp [AC, A8, A1, A0]; done))) | (with_reducible first | refine A7 ?_ ?_ ?_ | exact AB | assumption | refine A3 ?_ | refine KM.of ?_ | refine AG ?_ | intro _g _hg | refine AE ?_ ?_ | intro _hc) | omega)
 refine LoopK.go (fun k st => ∃ j : Nat, j + k = names.length ∧ st = ⟨[(6, .str w), (11, .sl 1 (names.map AV.str) .ro), (12, aI names.length), (13, aI j)], n, upd H gp (some (An (r.dropWhile Ak) gm))⟩ ∧ ∀ (i : Nat) (x : AW), i < j → names[i]? = some x → x ≠ w) names.length ⟨0, by omega, by simp, fun i x h => by omega⟩ ?_
 rintro k st ⟨j, hj, rfl, hb⟩ J hJ
 by_cases hjl : j < names.length
 ·obtain ⟨x, hx⟩ : ∃ x, names[j]? = some x := ⟨_, List.getElem?_eq_getElem hjl⟩
  have hxa := JL (f := AV.str) hx
  have hjl' : (j : Int) < names.length := by omega
  by_cases hxw : x = w
  ·subst hxw
   have e : Se x names = ((j : Int) + 1, true) := by unfold Se; rw [Ns hx hb]
   rw [e]
   generalize names.map AV.str = na at *
   
   repeat' (first | (simp -implicitDefEqProofs [H5, Gw, Gu, H8, c126, -getElem?_pos, hnl, hjl', hxa, A8, AC]) | (simp (disch := omega) only [AF]) | (with_reducible first | refine A7 ?_ ?_ ?_ | exact AB | assumption | refine A3 ?_ | refine KM.of ?_ | refine AG ?_ | intro _g _hg | refine AE ?_ ?_ | intro _hc) | omega)
   all_goals first | exact AB | exact A1 _ | (refine BD ?_; omega) | omega
  ·have hb2 : ∀ (i : Nat) (y : AW), i < j + 1 → names[i]? = some y → y ≠ w := fun i y hi hy => by
    by_cases hij : i = j
    ·subst hij; rw [hx] at hy; injection hy with hy; rw [← hy]; exact hxw
    ·exact hb i y (by omega) hy
   generalize names.map AV.str = na at *
   
   repeat' (first | (simp -implicitDefEqProofs [H5, Gw, Gu, H8, c126, -getElem?_pos, hnl, hjl', hxa, hxw]) | (simp (disch := omega) only [AF]) | (with_reducible first | refine A7 ?_ ?_ ?_ | exact AB | assumption | refine A3 ?_ | refine KM.of ?_ | refine AG ?_ | intro _g _hg | refine AE ?_ ?_ | intro _hc) | omega)
   exact hJ (k - 1) _ (by omega) ⟨j + 1, by omega, rfl, hb2⟩
 ·have hjl' : ¬ (j : Int) < names.length := by omega
  have e : Se w names = (0, false) := by unfold Se; rw [IE fun i x hx => hb i x (by have := (List.getElem?_eq_some_iff.1 hx).1; omega) hx]
  rw [e]
  generalize names.map AV.str = na at *
  
  repeat' (first | (simp -implicitDefEqProofs [H5, Gw, Gu, H8, c126, -getElem?_pos, hnl, hjl', A8, AC]) | (simp (disch := omega) only [AF]) | (with_reducible first | refine A7 ?_ ?_ ?_ | exact AB | assumption | refine A3 ?_ | refine KM.of ?_ | refine AG ?_ | intro _g _hg | refine AE ?_ ?_ | intro _hc) | omega)
  all_goals first | exact AB | exact A1 _
def leC (a b : Ai) : Prop := a.length = b.length ∧ ∀ (i : Nat) (x y : Int), a[i]? = some x → b[i]? = some y → x ≤ y
theorem leC.rfl_ (a : Ai) : leC a a := ⟨rfl, fun i x y h1 h2 => by rw [h1] at h2; injection h2 with h2; omega⟩
theorem leC.tr {a b c : Ai} (h : leC a b) (k : leC b c) : leC a c := by
 refine ⟨h.1.trans k.1, fun i x z h1 h2 => ?_⟩
 have hi : i < b.length := by rw [← h.1]; exact (List.getElem?_eq_some_iff.1 h1).1
 have h3 : b[i]? = some b[i] := List.getElem?_eq_getElem hi
 have := h.2 i x _ h1 h3
 have := k.2 i _ z h3 h2
 omega
theorem leC.app {a b c d : Ai} (h : leC a b) (k : leC c d) : leC (a ++ c) (b ++ d) := by
 refine ⟨by simp [h.1, k.1], fun i x y h1 h2 => ?_⟩
 by_cases hi : i < a.length
 ·rw [List.getElem?_append_left hi] at h1
  rw [List.getElem?_append_left (by rw [← h.1]; exact hi)] at h2
  exact h.2 i x y h1 h2
 ·rw [List.getElem?_append_right (by omega)] at h1
  rw [List.getElem?_append_right (by rw [← h.1]; omega), ← h.1] at h2
  exact k.2 _ x y h1 h2
def monL : Ai → Bc → Ai → Prop
 | cur, [], fin => leC cur fin
 | cur, (_, c) :: r, fin => leC cur c ∧ monL c r fin
def Ni (F : Fut) : Prop := monL F.cur F.l F.fin ∧ ∀ x ∈ F.cur, 0 ≤ x
theorem monL.fin : ∀ {l : Bc} {cur fin : Ai}, monL cur l fin → leC cur fin
 | [], _, _, h => h
 | (_, c) :: r, cur, fin, h => h.1.tr (monL.fin h.2)
theorem monL.cur : ∀ {l : Bc} {cur cur' fin : Ai}, leC cur' cur → monL cur l fin → monL cur' l fin
 | [], _, _, _, hc, h => hc.tr h
 | (_, c) :: r, _, _, _, hc, h => ⟨hc.tr h.1, h.2⟩
theorem monL.map : ∀ {l : Bc} {cur fin : Ai} (f : Int → Int), monL cur l fin → monL cur (l.map fun e => (f e.1, e.2)) fin
 | [], _, _, _, h => h
 | (_, c) :: r, _, _, f, h => ⟨h.1, monL.map f h.2⟩
theorem monL.filter : ∀ {l : Bc} {cur fin : Ai} (p : Int × Ai → Bool), monL cur l fin → monL cur (l.filter p) fin
 | [], _, _, _, h => h
 | e :: r, _, _, p, h => by
  rw [List.filter_cons]
  split
  ·exact ⟨h.1, monL.filter p h.2⟩
  ·exact monL.cur h.1 (monL.filter p h.2)
theorem monL.tak : ∀ {l : Bc} {cur fin : Ai} (n : Nat), monL cur l fin → monL cur (EP n cur l fin).1 (EP n cur l fin).2
 | _, cur, _, 0, _ => by simp only [EP]; exact leC.rfl_ cur
 | [], _, _, _ + 1, h => h
 | (_, c) :: r, _, _, n + 1, h => ⟨h.1, monL.tak n h.2⟩
theorem monL.drop : ∀ {l : Bc} {cur fin : Ai} (n : Nat), monL cur l fin → monL cur (l.drop n) fin
 | _, _, _, 0, h => by simpa using h
 | [], _, _, _ + 1, h => h
 | (_, c) :: r, _, _, n + 1, h => by simpa using monL.cur h.1 (monL.drop n h.2)
theorem monL.whi : ∀ {l : Bc} {cur fin : Ai} (p : Int → Bool), monL cur l fin → monL cur (P7 p l fin).1 (P7 p l fin).2
 | [], _, _, _, h => h
 | (x, c) :: r, _, _, p, h => by
  simp only [P7]
  split
  ·exact ⟨h.1, monL.whi p h.2⟩
  ·exact h.1
theorem monL.ski : ∀ {l : Bc} {cur fin : Ai} (p : Int → Bool), monL cur l fin → monL cur (Tc p l) fin
 | [], _, _, _, h => h
 | (x, c) :: r, _, _, p, h => by
  simp only [Tc]
  split
  ·exact monL.cur h.1 (monL.ski p h.2)
  ·exact h
theorem monL.sca : ∀ {l : Bc} {cur fin : Ai} (f : Int → Int → Int) (n : Int), monL cur l fin → monL cur (V4 f n l) fin
 | [], _, _, _, _, h => h
 | (x, c) :: r, _, _, f, n, h => ⟨h.1, monL.sca f _ h.2⟩
theorem monL.win : ∀ {l : Bc} {cur fin : Ai} (f : Int → Int → Int) (N : Nat) (last : List Int), monL cur l fin → monL cur (PI f N last l) fin
 | [], _, _, _, _, _, h => h
 | (x, c) :: r, _, _, f, N, last, h => by
  simp only [PI]
  split
  ·exact monL.cur h.1 (monL.win f N _ h.2)
  ·exact ⟨h.1, monL.win f N _ h.2⟩
theorem monL.run : ∀ {l : Bc} {cur fin : Ai} (last : Int), monL cur l fin → monL cur (RW last l) fin
 | [], _, _, _, h => h
 | (x, c) :: r, _, _, last, h => by
  simp only [RW]
  split
  ·exact ⟨h.1, monL.run _ h.2⟩
  ·exact monL.cur h.1 (monL.run _ h.2)
theorem monL.same (xs : List Int) (fin : Ai) {l : Bc} (h : monL fin l fin) : monL fin (xs.map (fun x => (x, fin)) ++ l) fin := by
 induction xs with
 | nil => exact h
 | cons x xs ih => exact ⟨leC.rfl_ _, ih⟩
theorem monL.rep (xs : List Int) (fin : Ai) : ∀ n, monL fin (SG xs fin n) fin
 | 0 => leC.rfl_ _
 | n + 1 => monL.same xs fin (monL.rep xs fin n)
theorem monL.app : ∀ {l m : Bc} {cur mid fin : Ai}, monL cur l mid → monL mid m fin → monL cur (l ++ m) fin
 | [], _, _, _, _, h, k => monL.cur h k
 | (_, c) :: r, _, _, _, _, h, k => ⟨h.1, monL.app h.2 k⟩
theorem monL.left : ∀ {l : Bc} {cur fin : Ai} (d : Ai), monL cur l fin → monL (cur ++ d) (l.map fun e => (e.1, e.2 ++ d)) (fin ++ d)
 | [], _, _, d, h => leC.app h (leC.rfl_ d)
 | (_, c) :: r, _, _, d, h => ⟨leC.app h.1 (leC.rfl_ d), monL.left d h.2⟩
theorem monL.right : ∀ {l : Bc} {cur fin : Ai} (d : Ai), monL cur l fin → monL (d ++ cur) (l.map fun e => (e.1, d ++ e.2)) (d ++ fin)
 | [], _, _, d, h => leC.app (leC.rfl_ d) h
 | (_, c) :: r, _, _, d, h => ⟨leC.app (leC.rfl_ d) h.1, monL.right d h.2⟩
theorem Z1 {F : Fut} (k o n : Int) (h : Ni F) : Ni (IP k o n F) := by
 obtain ⟨h, hc⟩ := h
 unfold IP
 (repeat' split) <;> try refine ⟨?_, hc⟩
 ·exact h.map (fun x => U7 o x n)
 ·exact h.filter _
 ·exact h.tak _
 ·exact h.drop _
 ·exact h.whi _
 ·exact h.ski _
 ·exact h.sca _ _
 ·exact h.win _ _ _
 ·exact h.run _
 ·unfold Ve
  split
  ·exact ⟨leC.rfl_ _, hc⟩
  ·exact ⟨h.app (monL.rep _ _ _), hc⟩
theorem Tq : ∀ {Fs : List Fut}, (∀ F ∈ Fs, Ni F) → Ni (M3 Fs)
 | [], _ => ⟨leC.rfl_ _, by simp [M3]⟩
 | F :: Fs, h => by
  have ih := Tq fun G hG => h G (List.mem_cons_of_mem _ hG)
  have h1 := h F List.mem_cons_self
  refine ⟨(h1.1.left _).app (ih.1.right _), fun x hx => ?_⟩
  simp only [M3, List.mem_append] at hx
  exact hx.elim (h1.2 x) (ih.2 x)
theorem monL.zip : ∀ {la lb : Bc} {ca cb fa fb : Ai} (f : Int → Int → Int), monL ca la fa → monL cb lb fb → monL (ca ++ cb) (Nh f fa fb la cb lb).1 (Nh f fa fb la cb lb).2
 | [], _, _, _, _, _, _, h, _ => leC.app h (leC.rfl_ _)
 | (x, c) :: r, [], _, _, _, _, _, h, k => leC.app h.1 k
 | (x, c) :: r, (y, d) :: t, _, _, _, _, f, h, k => ⟨leC.app h.1 k.1, monL.zip f h.2 k.2⟩
theorem monL.mer : ∀ {la lb : Bc} {ca cb fa fb : Ai}, monL ca la fa → monL cb lb fb → monL (ca ++ cb) (DB fa fb la lb) (fa ++ fb)
 | [], [], _, _, _, _, h, k => by rw [DB]; exact leC.app h k
 | [], (y, d) :: t, _, _, fa, _, h, k => by
  rw [DB]
  exact ⟨leC.app h k.1, monL.mer (la := []) (leC.rfl_ fa) k.2⟩
 | (x, c) :: r, [], _, _, _, fb, h, k => by
  rw [DB]
  exact ⟨leC.app h.1 k, monL.mer (lb := []) h.2 (leC.rfl_ fb)⟩
 | (x, c) :: r, (y, d) :: t, _, _, _, _, h, k => by
  rw [DB]
  split
  ·exact ⟨leC.app h.1 k.1, monL.mer (lb := (y, d) :: t) h.2 ⟨leC.rfl_ d, k.2⟩⟩
  ·exact ⟨leC.app h.1 k.1, monL.mer (la := (x, c) :: r) ⟨leC.rfl_ c, h.2⟩ k.2⟩
 termination_by la lb => la.length + lb.length
theorem Qk : ∀ (cs : List Ai) (i : Nat) (c : Ai), leC (cs.getD i []) c → leC cs.flatten (cs.set i c).flatten
 | [], i, c, _ => by simpa using leC.rfl_ []
 | a :: r, 0, c, h => by
  simp only [List.set_cons_zero, List.flatten_cons]
  exact leC.app (by simpa using h) (leC.rfl_ _)
 | a :: r, i + 1, c, h => by
  simp only [List.set_cons_succ, List.flatten_cons]
  exact leC.app (leC.rfl_ _) (Qk r i c (by simpa using h))
theorem getD_set_ne {cs : List Ai} {i j : Nat} {c : Ai} (h : j ≠ i) : (cs.set i c).getD j [] = cs.getD j [] := by
 simp only [List.getD_eq_getElem?_getD, List.getElem?_set_ne (Ne.symm h)]
theorem SP {cs : List Ai} {i : Nat} {c : Ai} (h : i < cs.length) : (cs.set i c).getD i [] = c := by
 simp [List.getD_eq_getElem?_getD, h]
theorem monL.tur : ∀ (m : Nat) (q : List (Nat × Bc × Ai)) (cs : List Ai), (∀ e ∈ q, e.1 < cs.length ∧ monL (cs.getD e.1 []) e.2.1 e.2.2) → (q.map (·.1)).Nodup → monL cs.flatten (HF m q cs).1 (HF m q cs).2.flatten
 | 0, _, cs, _, _ => leC.rfl_ _
 | _ + 1, [], cs, _, _ => leC.rfl_ _
 | m + 1, (i, [], fin) :: q, cs, h, hn => by
  obtain ⟨h1, h2⟩ := h _ List.mem_cons_self
  simp only [List.map_cons, List.nodup_cons] at hn
  simp only [HF]
  refine monL.cur (Qk cs i fin h2) (monL.tur m q (cs.set i fin) (fun e he => ?_) hn.2)
  obtain ⟨h3, h4⟩ := h e (List.mem_cons_of_mem _ he)
  have hne : e.1 ≠ i := fun e1 => hn.1 (by rw [← e1]; exact List.mem_map_of_mem he)
  exact ⟨by simpa using h3, by rw [getD_set_ne hne]; exact h4⟩
 | m + 1, (i, (x, c) :: r, fin) :: q, cs, h, hn => by
  obtain ⟨h1, h2⟩ := h _ List.mem_cons_self
  simp only [List.map_cons, List.nodup_cons] at hn
  simp only [HF]
  refine ⟨Qk cs i c h2.1, monL.tur m (q ++ [(i, r, fin)]) (cs.set i c) (fun e he => ?_) ?_⟩
  ·rcases List.mem_append.1 he with he | he
   ·obtain ⟨h3, h4⟩ := h e (List.mem_cons_of_mem _ he)
    have hne : e.1 ≠ i := fun e1 => hn.1 (by rw [← e1]; exact List.mem_map_of_mem he)
    exact ⟨by simpa using h3, by rw [getD_set_ne hne]; exact h4⟩
   ·simp only [List.mem_singleton] at he
    subst he
    exact ⟨by simpa using h1, by rw [SP h1]; exact h2.2⟩
  ·simp only [List.map_append, List.map_cons, List.map_nil]
   exact List.nodup_append.2 ⟨hn.2, by simp, fun a ha b hb => by simp at hb; subst hb; exact fun e => hn.1 (e ▸ ha)⟩
theorem Y5 {Fs : List Fut} (h : ∀ F ∈ Fs, Ni F) : Ni (Qv Fs) := by
 refine ⟨?_, fun x hx => ?_⟩
 ·refine monL.tur _ _ _ (fun e he => ?_) ?_
  ·obtain ⟨⟨F, i⟩, hm, rfl⟩ := List.mem_map.1 he
   obtain ⟨h1, h2, h3⟩ := List.mem_zipIdx hm
   simp only [Nat.zero_add] at h2
   refine ⟨by simpa using h2, ?_⟩
   have h4 : Fs[i]? = some F := by
    rw [List.getElem?_eq_getElem (by omega)]; simp at h3; rw [h3]
   have : (Fs.map (·.cur)).getD i [] = F.cur := by simp [List.getD_eq_getElem?_getD, h4]
   simp only
   rw [this]
   exact (h F (List.mem_of_getElem? h4)).1
  ·have : (Fs.zipIdx.map fun x => (x.2, x.1.l, x.1.fin)).map (·.1) = List.range' 0 Fs.length := by
    rw [List.map_map]
    show Fs.zipIdx.map (fun x => x.2) = _
    exact List.zipIdx_map_snd 0 Fs
   rw [this]
   exact List.nodup_range'
 ·obtain ⟨c, hc, hxc⟩ := List.mem_flatten.1 hx
  obtain ⟨F, hF, rfl⟩ := List.mem_map.1 hc
  exact (h F hF).2 x hxc
theorem monL.lea : ∀ (xs : List Int) (i : Nat), monL [(i : Int)] (Rl i xs) [((i + xs.length : Nat) : Int)]
 | [], i => leC.rfl_ _
 | x :: r, i => by
  refine ⟨⟨rfl, fun j a b h1 h2 => ?_⟩, ?_⟩
  ·cases j with
   | zero => simp at h1 h2; omega
   | succ j => simp at h1
  ·have := monL.lea r (i + 1)
   simpa [Nat.add_assoc, Nat.add_comm 1] using this
theorem U4 (xs : List Int) : Ni (LA xs) := ⟨by simpa [LA] using monL.lea xs 0, by simp [LA]⟩
theorem Y2 (k o n : Int) (v : List Int) {Fs : List Fut} (h : ∀ F ∈ Fs, Ni F) : Ni (Fo k o n v Fs) := by
 unfold Fo
 split
 ·exact U4 _
 ·split
  ·exact U4 _
  ·split
   ·exact Tq h
   ·split
    ·exact Y5 h
    ·split
     ·exact Z1 k o n (h _ (by simp))
     ·rename_i F G
      have h1 := h F (by simp)
      have h2 := h G (by simp)
      split
      ·refine ⟨h1.1.zip (U7 o) h2.1, fun x hx => ?_⟩
       exact (List.mem_append.1 hx).elim (h1.2 x) (h2.2 x)
      ·refine ⟨h1.1.mer h2.1, fun x hx => ?_⟩
       exact (List.mem_append.1 hx).elim (h1.2 x) (h2.2 x)
     ·exact ⟨leC.rfl_ _, by simp⟩
theorem Ue (s : St) : Ni (Av s) := by
 refine St.ind (Q := fun s => Ni (Av s)) ?_ s
 intro k o n v p ih
 rw [Av, HI]
 refine Y2 k o n v fun F hF => ?_
 obtain ⟨x, hx, rfl⟩ := List.mem_map.1 hF
 exact ih x hx
structure NodeOk (k o n : Int) (v : List Int) (p : List St) : Prop where
 k1 : 1 ≤ k
 k2 : k ≤ 16
 leaf : k = 1 ∨ k = 2 → p = []
 many : k = 13 ∨ k = 14 → p ≠ []
 two : k = 15 ∨ k = 16 → p.length = 2
 one : k ≠ 1 → k ≠ 2 → k ≠ 13 → k ≠ 14 → k ≠ 15 → k ≠ 16 → p.length = 1
 rng : k = 2 → v.length = 3
 nov : k ≠ 1 → k ≠ 2 → v = []
 fn : IG k = true → (1 ≤ o ∧ o ≤ 5) ∨ (k = 3 ∧ o = 6)
 cnd : CP k = true → 1 ≤ o ∧ o ≤ 3
 noo : IG k = false → CP k = false → o = 0
 num : O6 k = true → TI k o ≤ n ∧ n ≤ TU k
 non : O6 k = false → n = 0
 vals : BE k 0 v = true
theorem nz {p : Prop} [Decidable p] {c x : Int} (hc : c ≠ 0) (h : (if p then c else x) = 0) : ¬ p ∧ x = 0 := by
 by_cases hp : p
 ·rw [if_pos hp] at h; exact absurd h hc
 ·rw [if_neg hp] at h; exact ⟨hp, h⟩
theorem HK {k o n : Int} {v : List Int} {p : List St} (h : Bo (.mk k o n v p) = 0) : NodeOk k o n v p := by
 rw [Bo] at h
 obtain ⟨h1, h⟩ := nz (by decide) h
 obtain ⟨h2, h⟩ := nz (by decide) h
 obtain ⟨h3, h⟩ := nz (by decide) h
 obtain ⟨h4, h⟩ := nz (by decide) h
 obtain ⟨h5, h⟩ := nz (by decide) h
 have h6 : BE k 0 v = true := by
  by_cases h6 : BE k 0 v = true
  ·exact h6
  ·rw [if_neg h6] at h; cases h
 have h1 := Decidable.not_not.1 h1
 simp only [not_or, not_and, Decidable.not_not] at h2 h3 h4 h5
 obtain ⟨h21, h22, h23, h24, h25⟩ := h2
 obtain ⟨h31, h32, h33⟩ := h3
 obtain ⟨h41, h42⟩ := h4
 have hl : Bt k = true ↔ k = 1 ∨ k = 2 := by simp [Bt]
 have hm : ET k = true ↔ k = 13 ∨ k = 14 := by simp [ET]
 have ht : G9 k = true ↔ k = 15 ∨ k = 16 := by simp [G9]
 have hl' : Bt k = false ↔ ¬ (k = 1 ∨ k = 2) := by rw [← hl]; simp
 have hm' : ET k = false ↔ ¬ (k = 13 ∨ k = 14) := by rw [← hm]; simp
 have ht' : G9 k = false ↔ ¬ (k = 15 ∨ k = 16) := by rw [← ht]; simp
 refine ⟨h1.1, h1.2, fun e => List.length_eq_zero_iff.1 (h21 (hl.2 e)), fun e e2 => (h22 (hm.2 e)) (by rw [e2]; rfl), fun e => h23 (ht.2 e), fun a b c d e f => h24 (hl'.2 (by omega)) (hm'.2 (by omega)) (ht'.2 (by omega)), h25, fun a b => List.length_eq_zero_iff.1 (h31 (hl'.2 (by omega))), ?_, ?_, fun a b => h33 a b, ?_, h32, h6⟩
 ·intro e
  have := h41 e
  by_cases a : 1 ≤ o ∧ o ≤ 5
  ·exact .inl a
  ·exact .inr (by grind)
 ·intro e
  have := h42 e
  grind
 ·intro e
  have := h5 e
  grind
theorem F0 : ∀ p : List St, p.length ≤ C2 p
 | [] => Nat.le_refl _
 | s :: r => by have h1 := Wi s; have h2 := F0 r; simp only [C2, List.length_cons]; omega
theorem Fb : ∀ {p : List St}, ∀ s ∈ p, Bh s ≤ C2 p
 | [], s, h => by cases h
 | x :: r, s, hs => by
  simp only [C2]
  rcases List.mem_cons.1 hs with e | hs
  ·rw [e]; omega
  ·have := Fb s hs; omega
theorem Ud (c : Nat) : ∀ l : List Nat, min l.sum c = min (l.map (min · c)).sum c
 | [] => rfl
 | a :: r => by
  have := Ud c r
  simp only [List.map_cons, List.sum_cons]
  omega
theorem min_mul (c n b : Nat) : min (n * b) c = min (n * min b c) c := by
 rcases Nat.le_total b c with h | h
 ·rw [Nat.min_eq_left h]
 ·rw [Nat.min_eq_right h]
  rcases Nat.eq_zero_or_pos n with e | e
  ·subst e; simp
  ·have h1 : c ≤ n * c := Nat.le_mul_of_pos_left c e
   have h2 : n * c ≤ n * b := Nat.mul_le_mul_left n h
   omega
theorem Nz (c : Nat) (k n : Int) (v : List Int) (bs : List Nat) : min (Ct k n v bs) c = min (Ct k n v (bs.map (min · c))) c := by
 have g : ∀ i : Nat, (bs.map (min · c)).getD i 0 = min (bs.getD i 0) c := by
  intro i
  simp only [List.getD_eq_getElem?_getD, List.getElem?_map]
  cases bs[i]? <;> simp
 unfold Ct
 rw [g, g]
 split
 ·rfl
 ·split
  ·rfl
  ·split
   ·omega
   ·split
    ·exact min_mul c _ _
    ·split
     ·omega
     ·exact Ud c bs
theorem OR {v : List Int} (hl : v.length = 3) (hv : BE 2 0 v = true) : ∃ a b c : Int, v = [a, b, c] ∧ 0 ≤ a ∧ a ≤ 9999 ∧ 0 ≤ b ∧ b ≤ 10000 ∧ 1 ≤ c ∧ c ≤ 9999 := by
 match v, hl with
 | [a, b, c], _ =>
  simp [BE, Fg] at hv
  exact ⟨a, b, c, rfl, by omega, by omega, by omega, by omega, by omega, by omega⟩
theorem Ou (o m : Int) (v : List Int) (p : List St) (hv : v.length ≤ 140737488355328) : APure Tryz.prog 36 [encS (.mk 1 o m v p)] (aI (v.length : Nat)) := by
 have hvl : (v.map aI).length = v.length := by simp
 rw [AQ]
 generalize v.map aI = va at *
 
 refine A9 Tryz.func36 Pz rfl fun n H hH => ?_
 repeat' (first | (simp -implicitDefEqProofs [Du, E9, Ds, Dq, E1, E7, E5, Dw, Dx, c36, -getElem?_pos, hvl, A8, AC]) | (simp (disch := omega) only [AF]) | (with_reducible first | refine A7 ?_ ?_ ?_ | exact AB | refine SameB.upd ?_ ?_ _ | assumption | refine A3 ?_ | refine KM.of ?_ | refine AG ?_ | refine A2 ?_ | refine A5 ?_ | intro _g _hg | refine AE ?_ ?_ | intro _hc) | omega)
theorem Xv (a b c : Int) (hc : 1 ≤ c) : max 0 ((b - a + c - 1).tdiv c) = (GS [a, b, c] : Int) := by
 show _ = ((((b - a + c - 1) / c).toNat : Nat) : Int)
 rcases Int.lt_or_le (b - a + c - 1) 0 with h | h
 ·have h1 : (b - a + c - 1) / c < 0 := Int.ediv_neg_of_neg_of_pos h (by omega)
  have h2 : (b - a + c - 1).tdiv c ≤ 0 := by
   have := Int.tdiv_nonneg (a := -(b - a + c - 1)) (b := c) (by omega) (by omega)
   rw [Int.neg_tdiv] at this
   omega
  omega
 ·rw [Int.tdiv_eq_ediv_of_nonneg h]
  have := Int.ediv_nonneg h (b := c) (by omega)
  omega
theorem Pb (o m : Int) (v : List Int) (p : List St) (hl : v.length = 3) (hv : BE 2 0 v = true) : APure Tryz.prog 36 [encS (.mk 2 o m v p)] (aI (GS v : Nat)) := by
 obtain ⟨a, b, c, rfl, ha, ha', hb, hb', hc, hc'⟩ := OR hl hv
 have hr := Xv a b c hc
 have hq : -30000 ≤ (b - a + c - 1).tdiv c ∧ (b - a + c - 1).tdiv c ≤ 30000 := by
  have := Int.natAbs_tdiv_le_natAbs (b - a + c - 1) c
  omega
 rw [AQ]
 generalize hz : GS [a, b, c] = z at *
 
 refine A9 Tryz.func36 Pz rfl fun n H hH => ?_
 repeat' (first | (simp -implicitDefEqProofs [Du, E9, Ds, Dq, E1, E7, E5, Dw, Dx, c36, -getElem?_pos, A8, AC]) | (simp (disch := omega) only [AF]) | (with_reducible first | refine A7 ?_ ?_ ?_ | exact AB | refine SameB.upd ?_ ?_ _ | assumption | refine A3 ?_ | refine KM.of ?_ | refine AG ?_ | refine A2 ?_ | refine A5 ?_ | intro _g _hg | refine AE ?_ ?_ | intro _hc) | omega)
 all_goals (rw [IntKind.i64_wrap_id (by omega) (by omega)]; omega)
def rgE (l : Bc) : Prop := ∀ e ∈ l, 0 ≤ e.1 ∧ e.1 ≤ 9999
theorem rgE.nil : rgE [] := fun e h => by cases h
theorem rgE.cons {x : Int} {c : Ai} {l : Bc} (h : 0 ≤ x ∧ x ≤ 9999) (k : rgE l) : rgE ((x, c) :: l) := fun e he => by
 rcases List.mem_cons.1 he with rfl | he
 ·exact h
 ·exact k e he
theorem rgE.hd {x : Int} {c : Ai} {l : Bc} (h : rgE ((x, c) :: l)) : 0 ≤ x ∧ x ≤ 9999 := h (x, c) List.mem_cons_self
theorem rgE.tl {x : Int} {c : Ai} {l : Bc} (h : rgE ((x, c) :: l)) : rgE l := fun e he => h e (List.mem_cons_of_mem _ he)
theorem rgE.app {l m : Bc} (h : rgE l) (k : rgE m) : rgE (l ++ m) := fun e he => (List.mem_append.1 he).elim (h e) (k e)
theorem WH {o x y : Int} (hx : 0 ≤ x ∧ x ≤ 9999) (hy : 0 ≤ y ∧ y ≤ 9999) (hz : o = 1 ∨ o = 2 ∨ o = 3 ∨ o = 4 ∨ o = 5 ∨ 1 ≤ y) : 0 ≤ U7 o x y ∧ U7 o x y ≤ 9999 := by
 unfold U7
 split
 ·omega
 ·split
  ·omega
  ·split
   ·omega
   ·split
    ·omega
    ·split
     ·omega
     ·have h1 := Int.emod_nonneg x (show y ≠ 0 by omega)
      have h2 := Int.emod_lt_of_pos x (show 0 < y by omega)
      omega
theorem Ql : ∀ (xs : List Int) (i : Nat), (Rl i xs).length = xs.length
 | [], _ => rfl
 | x :: r, i => by simp [Rl, Ql r]
theorem RB : ∀ (xs : List Int) (i : Nat), ∀ e ∈ Rl i xs, e.1 ∈ xs
 | [], _, e, h => by cases h
 | x :: r, i, e, h => by
  simp only [Rl, List.mem_cons] at h
  rcases h with rfl | h
  ·simp
  ·exact List.mem_cons_of_mem _ (RB r _ e h)
theorem Tt : ∀ (n : Nat) (cur : Ai) (l : Bc) (fin : Ai), (EP n cur l fin).1.length = min n l.length
 | 0, _, _, _ => by simp [EP]
 | n + 1, _, [], _ => by simp [EP]
 | n + 1, _, (x, c) :: r, fin => by simp [EP, Tt n c r fin]
theorem ZK : ∀ (n : Nat) (cur : Ai) (l : Bc) (fin : Ai), (EP n cur l fin).1 = l.take n
 | 0, _, _, _ => by simp [EP]
 | n + 1, _, [], _ => by simp [EP]
 | n + 1, _, (x, c) :: r, fin => by simp [EP, ZK n c r fin]
theorem R9 (p : Int → Bool) : ∀ (l : Bc) (fin : Ai), (P7 p l fin).1.Sublist l
 | [], _ => by simp [P7]
 | (x, c) :: r, fin => by
  simp only [P7]
  split
  ·exact (R9 p r fin).cons₂ _
  ·exact List.nil_sublist _
theorem Qn (p : Int → Bool) : ∀ (l : Bc), (Tc p l).Sublist l
 | [] => by simp [Tc]
 | (x, c) :: r => by
  simp only [Tc]
  split
  ·exact (Qn p r).cons _
  ·exact List.Sublist.refl _
theorem Nq : ∀ (last : Int) (l : Bc), (RW last l).Sublist l
 | _, [] => by simp [RW]
 | last, (x, c) :: r => by
  simp only [RW]
  split
  ·exact (Nq x r).cons₂ _
  ·exact (Nq last r).cons _
theorem UQ (f : Int → Int → Int) : ∀ (n : Int) (l : Bc), (V4 f n l).length = l.length
 | _, [] => rfl
 | n, (x, c) :: r => by simp [V4, UQ f]
theorem Qm (f : Int → Int → Int) (N : Nat) : ∀ (last : List Int) (l : Bc), (PI f N last l).length ≤ l.length
 | _, [] => by simp [PI]
 | last, (x, c) :: r => by
  simp only [PI]
  split
  ·have := Qm f N (last ++ [x]) r; simp; omega
  ·have := Qm f N ((last ++ [x]).drop (last.length + 1 - N)) r; simp; omega
theorem SF (xs : List Int) (fin : Ai) : ∀ n, (SG xs fin n).length = n * xs.length
 | 0 => by simp [SG]
 | n + 1 => by simp [SG, SF xs fin n, Nat.succ_mul, Nat.add_comm]
theorem Qi : ∀ (m : Nat) (q : List (Nat × Bc × Ai)) (cs : List Ai), (HF m q cs).1.length ≤ (q.map fun e => e.2.1.length).sum
 | 0, _, _ => by simp [HF]
 | _ + 1, [], _ => by simp [HF]
 | m + 1, (i, [], fin) :: q, cs => by
  have := Qi m q (cs.set i fin)
  simpa [HF] using this
 | m + 1, (i, (x, c) :: r, fin) :: q, cs => by
  have := Qi m (q ++ [(i, r, fin)]) (cs.set i c)
  simp only [List.map_append, List.sum_append, List.map_cons, List.map_nil, List.sum_cons, List.sum_nil] at this
  simp only [HF, List.length_cons, List.map_cons, List.sum_cons]
  omega
theorem Tw (f : Int → Int → Int) (fa fb : Ai) : ∀ (a : Bc) (cb : Ai) (b : Bc), (Nh f fa fb a cb b).1.length ≤ min a.length b.length
 | [], _, _ => by simp [Nh]
 | (_, _) :: _, _, [] => by simp [Nh]
 | (x, c) :: r, _, (y, d) :: t => by have := Tw f fa fb r d t; simp [Nh]; omega
theorem M6 (fa fb : Ai) : ∀ (a b : Bc), (DB fa fb a b).length = a.length + b.length
 | [], [] => by rw [DB]; rfl
 | [], (y, d) :: t => by rw [DB]; simp [M6 fa fb [] t]
 | (x, c) :: r, [] => by rw [DB]; simp [M6 fa fb r []]
 | (x, c) :: r, (y, d) :: t => by
  rw [DB]
  split
  ·simp [M6 fa fb r ((y, d) :: t)]; omega
  ·simp [M6 fa fb ((x, c) :: r) t]; omega
 termination_by a b => a.length + b.length
theorem UB : ∀ Fs : List Fut, (M3 Fs).l.length = (Fs.map fun F => F.l.length).sum
 | [] => rfl
 | F :: Fs => by simp [M3, UB Fs]
theorem YD (k o n : Int) (F : Fut) (hk : 3 ≤ k ∧ k ≤ 12) : (IP k o n F).l.length ≤ (if k = 5 then min n.toNat F.l.length else if k = 12 then n.toNat * F.l.length else F.l.length) := by
 unfold IP
 by_cases h3 : k = 3
 ·subst h3; simp
 by_cases h4 : k = 4
 ·subst h4; simpa using List.length_filter_le _ _
 by_cases h5 : k = 5
 ·subst h5; simp [Tt]
 by_cases h6 : k = 6
 ·subst h6; simp
 by_cases h7 : k = 7
 ·subst h7; simpa using (R9 _ _ _).length_le
 by_cases h8 : k = 8
 ·subst h8; simpa using (Qn _ _).length_le
 by_cases h9 : k = 9
 ·subst h9; simp [UQ]
 by_cases h10 : k = 10
 ·subst h10; simpa using Qm _ _ _ _
 by_cases h11 : k = 11
 ·subst h11; simpa using (Nq _ _).length_le
 have h12 : k = 12 := by omega
 subst h12
 simp only [Ve]
 simp
 split
 ·simp
 ·rename_i hn
  simp [SF]
  obtain ⟨m, hm⟩ : ∃ m, n.toNat = m + 1 := ⟨n.toNat - 1, by omega⟩
  rw [hm, Nat.succ_mul]; simp; omega
theorem rgE.sub {l m : Bc} (h : rgE m) (k : l.Sublist m) : rgE l := fun e he => h e (k.subset he)
theorem rgE.map {l : Bc} (f : Int → Int) (h : ∀ x, 0 ≤ x ∧ x ≤ 9999 → 0 ≤ f x ∧ f x ≤ 9999) (k : rgE l) : rgE (l.map fun e => (f e.1, e.2)) := fun e he => by
 obtain ⟨y, hy, rfl⟩ := List.mem_map.1 he
 exact h _ (k y hy)
theorem rgE.sca {f : Int → Int → Int} (hf : ∀ x y, 0 ≤ x ∧ x ≤ 9999 → 0 ≤ y ∧ y ≤ 9999 → 0 ≤ f x y ∧ f x y ≤ 9999) : ∀ {n : Int} {l : Bc}, 0 ≤ n ∧ n ≤ 9999 → rgE l → rgE (V4 f n l)
 | _, [], _, _ => rgE.nil
 | n, (x, c) :: r, hn, h => rgE.cons (hf _ _ hn h.hd) (rgE.sca hf (hf _ _ hn h.hd) h.tl)
theorem Tv {f : Int → Int → Int} (hf : ∀ x y, 0 ≤ x ∧ x ≤ 9999 → 0 ≤ y ∧ y ≤ 9999 → 0 ≤ f x y ∧ f x y ≤ 9999) : ∀ (l : List Int) (a : Int), (0 ≤ a ∧ a ≤ 9999) → (∀ x ∈ l, 0 ≤ x ∧ x ≤ 9999) → 0 ≤ l.foldl f a ∧ l.foldl f a ≤ 9999
 | [], a, h, _ => h
 | x :: r, a, h, k => Tv hf r (f a x) (hf _ _ h (k x List.mem_cons_self)) fun y hy => k y (List.mem_cons_of_mem _ hy)
theorem Wy {f : Int → Int → Int} (hf : ∀ x y, 0 ≤ x ∧ x ≤ 9999 → 0 ≤ y ∧ y ≤ 9999 → 0 ≤ f x y ∧ f x y ≤ 9999) : ∀ (l : List Int), (∀ x ∈ l, 0 ≤ x ∧ x ≤ 9999) → 0 ≤ UN f l ∧ UN f l ≤ 9999
 | [], _ => by simp [UN]
 | x :: r, k => Tv hf r x (k x List.mem_cons_self) fun y hy => k y (List.mem_cons_of_mem _ hy)
theorem rgE.win {f : Int → Int → Int} (hf : ∀ x y, 0 ≤ x ∧ x ≤ 9999 → 0 ≤ y ∧ y ≤ 9999 → 0 ≤ f x y ∧ f x y ≤ 9999) (N : Nat) : ∀ {last : List Int} {l : Bc}, (∀ x ∈ last, 0 ≤ x ∧ x ≤ 9999) → rgE l → rgE (PI f N last l)
 | _, [], _, _ => rgE.nil
 | last, (x, c) :: r, hl, h => by
  have h1 : ∀ y ∈ last ++ [x], 0 ≤ y ∧ y ≤ 9999 := fun y hy => by
   rcases List.mem_append.1 hy with hy | hy
   ·exact hl y hy
   ·simp at hy; subst hy; exact h.hd
  simp only [PI]
  split
  ·exact rgE.win hf N h1 h.tl
  ·have h2 : ∀ y ∈ (last ++ [x]).drop (last.length + 1 - N), 0 ≤ y ∧ y ≤ 9999 := fun y hy => h1 y (List.mem_of_mem_drop hy)
   exact rgE.cons (Wy hf _ h2) (rgE.win hf N h2 h.tl)
theorem rgE.rep {xs : List Int} {fin : Ai} (h : ∀ x ∈ xs, 0 ≤ x ∧ x ≤ 9999) : ∀ n, rgE (SG xs fin n)
 | 0 => rgE.nil
 | n + 1 => by
  rw [SG]
  refine rgE.app (fun e he => ?_) (rgE.rep h n)
  obtain ⟨x, hx, rfl⟩ := List.mem_map.1 he
  exact h x hx
theorem rgE.tur : ∀ (m : Nat) (q : List (Nat × Bc × Ai)) (cs : List Ai), (∀ e ∈ q, rgE e.2.1) → rgE (HF m q cs).1
 | 0, _, _, _ => rgE.nil
 | _ + 1, [], _, _ => rgE.nil
 | m + 1, (i, [], fin) :: q, cs, h => rgE.tur m q _ fun e he => h e (List.mem_cons_of_mem _ he)
 | m + 1, (i, (x, c) :: r, fin) :: q, cs, h => by
  have h1 := h _ List.mem_cons_self
  refine rgE.cons h1.hd (rgE.tur m _ _ fun e he => ?_)
  rcases List.mem_append.1 he with he | he
  ·exact h e (List.mem_cons_of_mem _ he)
  ·simp at he; subst he; exact h1.tl
theorem rgE.zip {f : Int → Int → Int} (hf : ∀ x y, 0 ≤ x ∧ x ≤ 9999 → 0 ≤ y ∧ y ≤ 9999 → 0 ≤ f x y ∧ f x y ≤ 9999) (fa fb : Ai) : ∀ {a : Bc} {cb : Ai} {b : Bc}, rgE a → rgE b → rgE (Nh f fa fb a cb b).1
 | [], _, _, _, _ => rgE.nil
 | (_, _) :: _, _, [], _, _ => rgE.nil
 | (x, c) :: r, _, (y, d) :: t, h, k => rgE.cons (hf _ _ h.hd k.hd) (rgE.zip hf fa fb h.tl k.tl)
theorem rgE.mer (fa fb : Ai) : ∀ {a b : Bc}, rgE a → rgE b → rgE (DB fa fb a b)
 | [], [], _, _ => by rw [DB]; exact rgE.nil
 | [], (y, d) :: t, h, k => by rw [DB]; exact rgE.cons k.hd (rgE.mer fa fb h k.tl)
 | (x, c) :: r, [], h, k => by rw [DB]; exact rgE.cons h.hd (rgE.mer fa fb h.tl k)
 | (x, c) :: r, (y, d) :: t, h, k => by
  rw [DB]
  split
  ·exact rgE.cons h.hd (rgE.mer fa fb h.tl k)
  ·exact rgE.cons k.hd (rgE.mer fa fb h k.tl)
 termination_by a b => a.length + b.length
theorem rgE.cha : ∀ {Fs : List Fut}, (∀ F ∈ Fs, rgE F.l) → rgE (M3 Fs).l
 | [], _ => rgE.nil
 | F :: Fs, h => by
  have h1 := h F List.mem_cons_self
  have h2 := rgE.cha fun G hG => h G (List.mem_cons_of_mem _ hG)
  refine rgE.app (fun e he => ?_) (fun e he => ?_)
  ·obtain ⟨y, hy, rfl⟩ := List.mem_map.1 he; exact h1 y hy
  ·obtain ⟨y, hy, rfl⟩ := List.mem_map.1 he; exact h2 y hy
theorem WD {o : Int} (ho : 1 ≤ o ∧ o ≤ 5) : ∀ x y, 0 ≤ x ∧ x ≤ 9999 → 0 ≤ y ∧ y ≤ 9999 → 0 ≤ U7 o x y ∧ U7 o x y ≤ 9999 := fun x y hx hy => WH hx hy (by omega)
theorem Uc {k : Int} : ∀ {v : List Int} {i : Nat}, k ≠ 2 → BE k i v = true → ∀ x ∈ v, 0 ≤ x ∧ x ≤ 9999
 | [], _, _, _, x, hx => by cases hx
 | y :: r, i, hk, h, x, hx => by
  simp only [BE, Bool.and_eq_true] at h
  rcases List.mem_cons.1 hx with e | hx
  ·rw [e]; have := h.1; simp [Fg, hk] at this; omega
  ·exact Uc hk h.2 x hx
theorem XT {a b c : Int} (ha : 0 ≤ a) (hb : b ≤ 10000) (hc : 1 ≤ c) : ∀ x ∈ Fv [a, b, c], 0 ≤ x ∧ x ≤ 9999 := by
 intro x hx
 simp only [Fv, List.mem_map, List.mem_range, GS] at hx
 obtain ⟨i, hi, rfl⟩ := hx
 have h0 : 0 ≤ (i : Int) * c := Int.mul_nonneg (by omega) (by omega)
 have h1 : (i : Int) + 1 ≤ (b - a + c - 1) / c := by omega
 have h2 := Int.mul_le_of_le_ediv (a := (i : Int) + 1) (by omega : 0 < c) h1
 rw [Int.add_mul] at h2
 omega
theorem Zn {k o n : Int} {v : List Int} {p : List St} (h : NodeOk k o n v p) (hk : 3 ≤ k ∧ k ≤ 12) {F : Fut} (hF : rgE F.l) : rgE (IP k o n F).l := by
 unfold IP
 by_cases h3 : k = 3
 ·subst h3
  have hn := h.num (by decide)
  have ho := h.fn (by decide)
  simp only [TI, TU, CP] at hn
  rw [if_pos rfl]
  exact hF.map (fun x => U7 o x n) fun x hx => WH hx (by grind) (by grind)
 by_cases h4 : k = 4
 ·subst h4; exact hF.sub List.filter_sublist
 by_cases h5 : k = 5
 ·subst h5; simp only [ZK]; exact hF.sub (List.take_sublist _ _)
 by_cases h6 : k = 6
 ·subst h6; exact hF.sub (List.drop_sublist _ _)
 by_cases h7 : k = 7
 ·subst h7; exact hF.sub (R9 _ _ _)
 by_cases h8 : k = 8
 ·subst h8; exact hF.sub (Qn _ _)
 by_cases h9 : k = 9
 ·subst h9
  have hn := h.num (by decide)
  have ho := h.fn (by decide)
  simp only [TI, TU, CP] at hn
  exact rgE.sca (WD (by omega)) (by grind) hF
 by_cases h10 : k = 10
 ·subst h10
  have ho := h.fn (by decide)
  exact rgE.win (WD (by omega)) _ (by simp) hF
 by_cases h11 : k = 11
 ·subst h11; exact hF.sub (Nq _ _)
 have h12 : k = 12 := by omega
 subst h12
 show rgE (Ve n.toNat F).l
 unfold Ve
 split
 ·exact rgE.nil
 ·exact rgE.app hF (rgE.rep (fun x hx => by obtain ⟨e, he, rfl⟩ := List.mem_map.1 hx; exact hF e he) _)
theorem Xr {k o n : Int} {v : List Int} {p : List St} (h : NodeOk k o n v p) (hp : ∀ s ∈ p, (Av s).l.length ≤ Ac s ∧ rgE (Av s).l) : (Fo k o n v (HW p)).l.length ≤ Ct k n v (Nl p) ∧ rgE (Fo k o n v (HW p)).l := by
 by_cases h1 : k = 1
 ·subst h1
  refine ⟨by simp [Fo, LA, Ql, Ct], fun e he => Uc (by decide) h.vals e.1 (RB _ _ e (by simpa [Fo, LA] using he))⟩
 by_cases h2 : k = 2
 ·subst h2
  obtain ⟨a, b, c, rfl, ha, ha', hb, hb', hc, hc'⟩ := OR (h.rng rfl) h.vals
  refine ⟨by simp [Fo, LA, Ql, Ct, Fv], fun e he => XT ha hb' hc e.1 (RB _ _ e (by simpa [Fo, LA] using he))⟩
 have hsum : ((p.map Av).map fun F => F.l.length).sum ≤ (p.map Ac).sum := by
  clear h
  induction p with
  | nil => simp
  | cons s r ih =>
   have h3 := (hp s List.mem_cons_self).1
   have h4 := ih fun x hx => hp x (List.mem_cons_of_mem _ hx)
   simp only [List.map_cons, List.sum_cons]; omega
 by_cases h13 : k = 13
 ·subst h13
  have e : Fo 13 o n v (HW p) = M3 (p.map Av) := by simp [Fo, HI]
  rw [e, UB]
  refine ⟨by simpa [Ct, GV] using hsum, rgE.cha fun F hF => ?_⟩
  obtain ⟨s, hs, rfl⟩ := List.mem_map.1 hF
  exact (hp s hs).2
 by_cases h14 : k = 14
 ·subst h14
  have e : Fo 14 o n v (HW p) = Qv (p.map Av) := by simp [Fo, HI]
  rw [e]
  refine ⟨?_, ?_⟩
  ·refine Nat.le_trans (Qi _ _ _) ?_
   have e2 : (((p.map Av).zipIdx.map fun x => (x.2, x.1.l, x.1.fin)).map fun e => e.2.1.length) = (p.map Av).map fun F => F.l.length := by
    rw [List.map_map]
    have : ((fun (e : Nat × Bc × Ai) => e.2.1.length) ∘ fun (x : Fut × Nat) => (x.2, x.1.l, x.1.fin)) = (fun F => F.l.length) ∘ Prod.fst := rfl
    rw [this, ← List.map_map, List.zipIdx_map_fst]
   rw [e2]
   simpa [Ct, GV] using hsum
  ·refine rgE.tur _ _ _ fun e he => ?_
   obtain ⟨⟨F, i⟩, hm, rfl⟩ := List.mem_map.1 he
   obtain ⟨s, hs, e2⟩ := List.mem_map.1 (List.fst_mem_of_mem_zipIdx hm)
   simp only at e2 ⊢
   rw [← e2]
   exact (hp s hs).2
 by_cases h15 : k = 15
 ·subst h15
  have hl := h.two (.inl rfl)
  obtain ⟨x, y, rfl⟩ : ∃ x y, p = [x, y] := by
   match p, hl with
   | [x, y], _ => exact ⟨x, y, rfl⟩
  ·have hx := hp x (by simp)
   have hy := hp y (by simp)
   have e : (Fo 15 o n v (HW [x, y])).l = (Nh (U7 o) (Av x).fin (Av y).fin (Av x).l (Av y).cur (Av y).l).1 := by simp [Fo, HW]
   rw [e]
   refine ⟨Nat.le_trans (Tw _ _ _ _ _ _) (by simp [Ct, Nl]; omega), rgE.zip (WD ?_) _ _ hx.2 hy.2⟩
   have := h.fn (by decide)
   omega
 by_cases h16 : k = 16
 ·subst h16
  have hl := h.two (.inr rfl)
  obtain ⟨x, y, rfl⟩ : ∃ x y, p = [x, y] := by
   match p, hl with
   | [x, y], _ => exact ⟨x, y, rfl⟩
  ·have hx := hp x (by simp)
   have hy := hp y (by simp)
   have e : (Fo 16 o n v (HW [x, y])).l = DB (Av x).fin (Av y).fin (Av x).l (Av y).l := by simp [Fo, HW]
   rw [e]
   exact ⟨by rw [M6]; simp [Ct, Nl]; omega, rgE.mer _ _ hx.2 hy.2⟩
 have hl := h.one h1 h2 h13 h14 h15 h16
 have hk : 3 ≤ k ∧ k ≤ 12 := by have := h.k1; have := h.k2; omega
 obtain ⟨x, rfl⟩ : ∃ x, p = [x] := by
  match p, hl with
  | [x], _ => exact ⟨x, rfl⟩
 ·have hx := hp x (by simp)
  have e : Fo k o n v (HW [x]) = IP k o n (Av x) := by simp [Fo, HW, h1, h2, h13, h14]
  rw [e]
  refine ⟨Nat.le_trans (YD k o n _ hk) ?_, Zn h hk hx.2⟩
  simp only [Ct, Nl, if_neg h1, if_neg h2, if_neg h15]
  simp
  split
  ·omega
  ·split
   ·exact Nat.mul_le_mul_left _ hx.1
   ·exact hx.1
theorem YF (s : St) : PD s → (Av s).l.length ≤ Ac s ∧ rgE (Av s).l := by
 refine St.ind (Q := fun s => PD s → (Av s).l.length ≤ Ac s ∧ rgE (Av s).l) ?_ s
 intro k o n v p ih ⟨hn, hp⟩
 rw [Av, Ac]
 exact Xr (HK hn) fun s hs => ih s hs (G6 hp s hs)
def asks (x : AV) (n : Nat) (H : A4) (R : Bi) : Prop := match x with
 | .fn f a b => CW Tryz.prog f = true ∧ ACalls Tryz.prog f (a ++ [] ++ b) n H R
 | _ => False
def EA (cs : Ai) (lo : Nat) (c : Ai) : Ai := cs.take lo ++ c ++ cs.drop (lo + c.length)
theorem WM {cs : Ai} {lo : Nat} {c : Ai} (h : lo + c.length ≤ cs.length) : (EA cs lo c).length = cs.length := by simp [EA]; omega
structure Giv (gO lo : Nat) (c : Ai) (H : A4) (gg : Nat) (cs : Ai) : Prop where
 opn : H gO = some (.cells 74 [.slg 1 gg cs.length])
 giv : H gg = some (.grow 3 (cs.map aI))
 fit : lo + c.length ≤ cs.length
 at_ : (cs.drop lo).take c.length = c
structure Aft (lo gg : Nat) (cs c : Ai) (O : Nat → Prop) (n : Nat) (H : A4) (n' : Nat) (H' : A4) (O' : Nat → Prop) : Prop where
 le : n ≤ n'
 sub : ∀ g, O' g → O g ∨ n ≤ g
 bel : ∀ g, O' g → g < n'
 fr : ∀ g, g < n → ¬ O g → g ≠ gg → H' g = H g
 giv : H' gg = some (.grow 3 ((EA cs lo c).map aI))
def Ended (gO lo : Nat) (fin : Ai) (x : AV) (O : Nat → Prop) (H0 : A4) (n0 : Nat) : Prop := ∀ n H gg cs, n0 ≤ n → (∀ g, O g → H g = H0 g) → ¬ O gg → ¬ O gO → Giv gO lo fin H gg cs →
 asks x n H fun r n' H' => r = .tup [aI 0, .bool false] ∧ n' = n ∧ H' = H
def Raw (e : Bool) (gO lo : Nat) (fin : Ai) (x : AV) : Bc → Ai → (Nat → Prop) → A4 → Nat → Prop
 | [], cur, O, H0, n0 => ∀ n H gg cs, n0 ≤ n → (∀ g, O g → H g = H0 g) → ¬ O gg → ¬ O gO → Giv gO lo cur H gg cs →
  asks x n H fun r n' H' => ∃ (v : Int) (O' : Nat → Prop), r = .tup [aI v, .bool false] ∧ Aft lo gg cs fin O n H n' H' O' ∧ (e = true → Ended gO lo fin x O' H' n')
 | (y, c) :: l, cur, O, H0, n0 => ∀ n H gg cs, n0 ≤ n → (∀ g, O g → H g = H0 g) → ¬ O gg → ¬ O gO → Giv gO lo cur H gg cs →
  asks x n H fun r n' H' => ∃ (O' : Nat → Prop), r = .tup [aI y, .bool true] ∧ Aft lo gg cs c O n H n' H' O' ∧ Raw e gO lo fin x l c O' H' n'
def A3f (e : Bool) (gO lo : Nat) (fin : Ai) (x : AV) (gg : Nat) (cs : Ai) (O : Nat → Prop) (n : Nat) (H : A4) : Bi := fun r n' H' => ∃ (v : Int) (O' : Nat → Prop), r = .tup [aI v, .bool false] ∧ Aft lo gg cs fin O n H n' H' O' ∧ (e = true → Ended gO lo fin x O' H' n')
def PEl (e : Bool) (gO lo : Nat) (fin : Ai) (x : AV) (gg : Nat) (cs : Ai) (O : Nat → Prop) (n : Nat) (H : A4) (y : Int) (c : Ai) (l : Bc) : Bi := fun r n' H' => ∃ (O' : Nat → Prop), r = .tup [aI y, .bool true] ∧ Aft lo gg cs c O n H n' H' O' ∧ Raw e gO lo fin x l c O' H' n'
def Om (e : Bool) (gO lo : Nat) (fin : Ai) (x : AV) (gg : Nat) (cs : Ai) (O : Nat → Prop) (n : Nat) (H : A4) : Bc → Bi
 | [] => A3f e gO lo fin x gg cs O n H
 | (y, c) :: l => PEl e gO lo fin x gg cs O n H y c l
theorem Raw.of {e : Bool} {gO lo : Nat} {fin : Ai} {x : AV} {l : Bc} {cur : Ai} {O : Nat → Prop} {H0 : A4} {n0 : Nat} (h : ∀ n H gg cs, n0 ≤ n → (∀ g, O g → H g = H0 g) → ¬ O gg → ¬ O gO → Giv gO lo cur H gg cs → asks x n H (Om e gO lo fin x gg cs O n H l)) : Raw e gO lo fin x l cur O H0 n0 := by
 cases l <;> exact h
theorem Raw.to {e : Bool} {gO lo : Nat} {fin : Ai} {x : AV} {l : Bc} {cur : Ai} {O : Nat → Prop} {H0 : A4} {n0 : Nat} (h : Raw e gO lo fin x l cur O H0 n0) : ∀ n H gg cs, n0 ≤ n → (∀ g, O g → H g = H0 g) → ¬ O gg → ¬ O gO → Giv gO lo cur H gg cs → asks x n H (Om e gO lo fin x gg cs O n H l) := by
 cases l <;> exact h
def A33 (n : Nat) (H : A4) : Bi := fun r n' H' => r = .tup [aI 0, .bool false] ∧ n' = n ∧ H' = H
theorem Ended.at_ {gO lo : Nat} {fin : Ai} {x : AV} {O : Nat → Prop} {H0 H1 : A4} {n0 n1 : Nat} (h : Ended gO lo fin x O H0 n0) (hH : ∀ g, O g → H1 g = H0 g) (hn : n0 ≤ n1) : Ended gO lo fin x O H1 n1 :=
 fun n H gg cs h1 h2 => h n H gg cs (Nat.le_trans hn h1) fun g hg => (h2 g hg).trans (hH g hg)
theorem Raw.at_ {e : Bool} {gO lo : Nat} {fin : Ai} {x : AV} {l : Bc} {cur : Ai} {O : Nat → Prop} {H0 H1 : A4} {n0 n1 : Nat} (h : Raw e gO lo fin x l cur O H0 n0) (hH : ∀ g, O g → H1 g = H0 g) (hn : n0 ≤ n1) : Raw e gO lo fin x l cur O H1 n1 := by
 match l, h with
 | [], h => exact fun n H gg cs h1 h2 => h n H gg cs (Nat.le_trans hn h1) fun g hg => (h2 g hg).trans (hH g hg)
 | (y, c) :: l, h => exact fun n H gg cs h1 h2 => h n H gg cs (Nat.le_trans hn h1) fun g hg => (h2 g hg).trans (hH g hg)
structure GoOn (n : Nat) (R : Bi) (K : AV → Nat → A4 → Prop) : Prop where
 go : ∀ r n' H', n ≤ n' → (∀ g, n' ≤ g → H' g = none) → R r n' H' → K r n' H'
theorem FI {x : AV} {n : Nat} {H : A4} {R : Bi} {d : Option Nat} {K : AS → Prop} {en : AT} (h : asks x n H R) (hk : GoOn n R fun r n' H' => K ⟨AP en d r, n', H'⟩) : Ar Tryz.prog d K en n H [] x := by
 unfold asks at h
 split at h
 ·exact ⟨h.1, R, h.2, fun r n' H' h1 h2 h3 => hk.go r n' H' h1 h2 h3⟩
 ·exact h.elim
theorem Giv.put {gO lo gg : Nat} {c c' cs : Ai} {H H' : A4} (h : Giv gO lo c H gg cs) (hl : c'.length = c.length) (h1 : H' gO = H gO) (h2 : H' gg = some (.grow 3 ((EA cs lo c').map aI))) : Giv gO lo c' H' gg (EA cs lo c') := by
 have h3 := h.fit
 have h4 := WM (cs := cs) (lo := lo) (c := c') (by omega)
 refine ⟨by rw [h1, h.opn, h4], h2, by rw [h4]; omega, ?_⟩
 unfold EA
 rw [List.append_assoc, List.drop_append_of_le_length (by simp; omega)]
 have : (cs.take lo).drop lo = [] := List.drop_eq_nil_of_le (by simp; omega)
 rw [this]
 simp
theorem Hl {cs c c' : Ai} {lo : Nat} (h : lo + c.length ≤ cs.length) (hl : c'.length = c.length) : EA (EA cs lo c) lo c' = EA cs lo c' := by
 unfold EA
 have h1 : (cs.take lo ++ c ++ cs.drop (lo + c.length)).take lo = cs.take lo := by
  rw [List.append_assoc, List.take_append_of_le_length (by simp; omega), List.take_take, Nat.min_self]
 have h2 : (cs.take lo ++ c ++ cs.drop (lo + c.length)).drop (lo + c'.length) = cs.drop (lo + c.length) := by
  rw [List.drop_append]
  have : (cs.take lo ++ c).drop (lo + c'.length) = [] := List.drop_eq_nil_of_le (by simp; omega)
  rw [this]
  have : lo + c'.length - (cs.take lo ++ c).length = 0 := by simp; omega
  rw [this]; simp
 rw [h1, h2, hl]
theorem N9 {gO lo gg : Nat} {c cs : Ai} {H : A4} (h : Giv gO lo c H gg cs) : EA cs lo c = cs := by
 unfold EA
 have h1 : c = (cs.drop lo).take c.length := h.at_.symm
 conv => lhs; rw [h1]
 have h2 : ((cs.drop lo).take c.length).length = c.length := by have := h.fit; simp; omega
 rw [h2, List.append_assoc, ← List.drop_drop, List.take_append_drop, List.take_append_drop]
theorem Giv.lt {gO lo gg n : Nat} {c cs : Ai} {H : A4} (h : Giv gO lo c H gg cs) (hs : ∀ g, n ≤ g → H g = none) : gO < n ∧ gg < n := by
 refine ⟨?_, ?_⟩
 ·rcases Nat.lt_or_ge gO n with h1 | h1
  ·exact h1
  ·have := h.opn; rw [hs gO h1] at this; cases this
 ·rcases Nat.lt_or_ge gg n with h1 | h1
  ·exact h1
  ·have := h.giv; rw [hs gg h1] at this; cases this
theorem Giv.keep {gO lo gg g : Nat} {c cs : Ai} {H : A4} {x : Option AObj} (h : Giv gO lo c H gg cs) (h1 : gO ≠ g) (h2 : gg ≠ g) : Giv gO lo c (upd H g x) gg cs :=
 ⟨by rw [upd_ne h1]; exact h.opn, by rw [upd_ne h2]; exact h.giv, h.fit, h.at_⟩
theorem Giv.ne {gO lo gg : Nat} {c cs : Ai} {H : A4} (h : Giv gO lo c H gg cs) : gO ≠ gg := by
 intro e
 have h1 := h.opn
 rw [e, h.giv] at h1
 cases h1
theorem Aft.same {gO lo gg n : Nat} {c cs : Ai} {H : A4} {O : Nat → Prop} (h : Giv gO lo c H gg cs) (hb : ∀ g, O g → g < n) : Aft lo gg cs c O n H n H O :=
 ⟨Nat.le_refl _, fun g h => .inl h, hb, fun g _ _ _ => rfl, by rw [N9 h]; exact h.giv⟩
theorem Aft.tr {gO lo gg n n1 n2 : Nat} {cs c c1 c2 : Ai} {H H1 H2 : A4} {O O1 O2 : Nat → Prop} (hg : Giv gO lo c H gg cs) (h : Aft lo gg cs c1 O n H n1 H1 O1) (k : Aft lo gg (EA cs lo c1) c2 O1 n1 H1 n2 H2 O2) (l1 : c1.length = c.length) (l2 : c2.length = c.length) : Aft lo gg cs c2 O n H n2 H2 O2 := by
 refine ⟨Nat.le_trans h.le k.le, fun g h1 => ?_, k.bel, fun g h1 h2 h3 => ?_, ?_⟩
 ·rcases k.sub g h1 with h2 | h2
  ·exact h.sub g h2
  ·exact .inr (Nat.le_trans h.le h2)
 ·have h4 : ¬ O1 g := fun h4 => (h.sub g h4).elim h2 (fun h => by omega)
  rw [k.fr g (Nat.lt_of_lt_of_le h1 h.le) h4 h3, h.fr g h1 h2 h3]
 ·rw [k.giv, Hl (by have := hg.fit; omega) (by omega)]
theorem Aft.gv {gO lo gg n n' : Nat} {cs c c1 : Ai} {H H' : A4} {O O' : Nat → Prop} (ha : Aft lo gg cs c1 O n H n' H' O') (hg : Giv gO lo c H gg cs) (hs : ∀ g, n ≤ g → H g = none) (h1 : ¬ O gO) (hl : c1.length = c.length) : Giv gO lo c1 H' gg (EA cs lo c1) :=
 hg.put hl (ha.fr gO (hg.lt hs).1 h1 hg.ne) ha.giv
theorem Aft.nO {gO lo gg n n' : Nat} {cs c : Ai} {O O' : Nat → Prop} {H H' : A4} (ha : Aft lo gg cs c O n H n' H' O') (h1 : ¬ O gO) (h2 : gO < n) : ¬ O' gO := fun h => (ha.sub gO h).elim h1 (fun h => by omega)
theorem Aft.ext {B : Nat → Prop} {lo gg : Nat} {cs c : Ai} {O O' : Nat → Prop} {n n' : Nat} {H H1 H' H2 : A4} (ha : Aft lo gg cs c O n H1 n' H' O') (hB : ∀ g, B g → g < n) (hH1 : ∀ g, ¬ B g → H1 g = H g) (hH : ∀ g, ¬ B g → H2 g = H' g) (hg : ¬ B gg) :
  Aft lo gg cs c (fun g => O g ∨ B g) n H n' H2 (fun g => O' g ∨ B g) := by
 refine ⟨ha.le, fun g h => ?_, fun g h => ?_, fun g h1 h2 h3 => ?_, ?_⟩
 ·rcases h with h | h
  ·exact (ha.sub g h).elim (fun h => .inl (.inl h)) .inr
  ·exact .inl (.inr h)
 ·rcases h with h | h
  ·exact ha.bel g h
  ·have := hB g h; have := ha.le; omega
 ·rw [hH g fun h => h2 (.inr h)]; exact (ha.fr g h1 (fun h => h2 (.inl h)) h3).trans (hH1 g fun h => h2 (.inr h))
 ·rw [hH gg hg]; exact ha.giv
structure Bx (O : Nat → Prop) (gO g : Nat) (H : A4) (n : Nat) (ob : AObj) : Prop where
 no : ¬ O g
 nO : gO ≠ g
 lt : g < n
 at_ : H g = some ob
theorem Bx.to {gO g : Nat} {O : Nat → Prop} {n0 n : Nat} {H0 H : A4} {ob : AObj} (h : Bx O gO g H0 n0 ob) (hn : n0 ≤ n) (hag : H g = H0 g) : Bx O gO g H n ob := ⟨h.no, h.nO, Nat.lt_of_lt_of_le h.lt hn, hag.trans h.at_⟩
theorem Bx.go {lo gg g gO : Nat} {cs c : Ai} {O O' : Nat → Prop} {n n' : Nat} {H H' : A4} {ob : AObj} (h : Bx O gO g H n ob) (hg : gg ≠ g) (ha : Aft lo gg cs c O n H n' H' O') : Bx O' gO g H' n' ob := by
 have h1 := h.lt
 have h2 := ha.le
 exact ⟨fun h => (ha.sub g h).elim ‹Bx O gO g H n ob›.no (fun h => by omega), h.nO, by omega, (ha.fr g h1 h.no (Ne.symm hg)).trans h.at_⟩
theorem Bx.set {gO g : Nat} {O : Nat → Prop} {n : Nat} {H : A4} {ob : AObj} (ob' : AObj) (h : Bx O gO g H n ob) : Bx O gO g (upd H g (some ob')) n ob' := ⟨h.no, h.nO, h.lt, AX _ _ _⟩
theorem Bx.keep {gO g g' : Nat} {O : Nat → Prop} {n : Nat} {H : A4} {ob : AObj} {x : Option AObj} (h : Bx O gO g H n ob) (hn : g ≠ g') : Bx O gO g (upd H g' x) n ob := ⟨h.no, h.nO, h.lt, by rw [upd_ne hn]; exact h.at_⟩
theorem PW {d : Option Nat} {K : AS → Prop} {en : AT} {n : Nat} {H : A4} {xs a b : List AV} {f : Nat} : Ar Tryz.prog d K en n H xs (.fn f a b) = (CW Tryz.prog f = true ∧ CallK Tryz.prog f (a ++ xs ++ b) d K ⟨en, n, H⟩) := rfl
abbrev Aj (k o m : Int) (a b : AV) : AObj := .cells 25 [aI k, aI o, aI m, a, b]
abbrev PN (x : AV) : AObj := .cells 76 [x]
abbrev ML (i : Int) : AObj := .cells 3 [aI i]
abbrev Wu (b : Bool) : AObj := .cells 4 [.bool b]
theorem P0 : CW Tryz.prog 96 = true := by kernel_rfl
theorem W5 {gO lo : Nat} {fin : Ai} {g1 g2 : Nat} {O : Nat → Prop} {H0 : A4} {n0 : Nat} (o1 : O g1) (b1 : H0 g1 = some (Wu true)) :
  Ended gO lo fin (.fn 96 [] [.ptr g1 0, .ptr g2 0]) O H0 n0 := by
 intro n H gg cs hn hag hgg hgO hgv
 have q1 := (hag g1 o1).trans b1
 refine ⟨P0, ?_⟩
 show ACalls _ _ _ _ _ (A33 n H)
 refine Ab Tryz.func96 XJ rfl fun hs => ?_
 repeat' (first | (simp -implicitDefEqProofs [Mz, c96, -getElem?_pos, q1]) | (simp (disch := omega) only [AF]) | (with_reducible first | refine A7 ?_ ?_ ?_ | exact AB | assumption | refine A3 ?_ | refine KM.of ?_ | refine AG ?_ | intro _g _hg | refine AE ?_ ?_ | intro _hc) | omega)
 exact BI (r := .tup [_, _]) rfl (by omega) hs ⟨rfl, rfl, rfl⟩
theorem WV {gO lo : Nat} {fin : Ai} {px : AV} {g1 g2 : Nat} (n12 : g1 ≠ g2) : ∀ (l : Bc) (cur : Ai) (O : Nat → Prop) (H0 : A4) (n0 : Nat), Raw false gO lo fin px l cur O H0 n0 → ¬ O gO → (∀ g, O g → g < n0) →
  Bx O gO g1 H0 n0 (Wu false) → Bx O gO g2 H0 n0 (PN px) → Raw true gO lo fin (.fn 96 [] [.ptr g1 0, .ptr g2 0]) l cur (fun g => O g ∨ g = g1 ∨ g = g2) H0 n0 := by
 intro l
 induction l with
 | nil =>
  intro cur O H0 n0 hr noO hbel B1 B2
  refine Raw.of fun n H gg cs hn hag hgg hgO hgv => ?_
  replace B1 := B1.to hn (hag g1 (.inr (.inl rfl)))
  have q1 := B1.at_
  have ng1 : gg ≠ g1 := fun h => hgg (.inr (.inl h))
  replace B2 := B2.to hn (hag g2 (.inr (.inr rfl)))
  have q2 := B2.at_
  have ng2 : gg ≠ g2 := fun h => hgg (.inr (.inr h))
  have nog : ¬ O gg := fun h => hgg (.inl h)
  replace hbel : ∀ g, O g → g < n := fun g h => Nat.lt_of_lt_of_le (hbel g h) hn
  replace hr := hr.at_ (fun g hg => hag g (.inl hg)) hn
  refine ⟨P0, ?_⟩
  have hc := hr.to n H gg cs (Nat.le_refl _) (fun _ _ => rfl) nog noO hgv
  generalize hR : Om _ _ _ _ _ _ _ _ _ _ _ = R
  refine Ab Tryz.func96 XJ rfl fun hs => ?_
  repeat' (first | (simp -implicitDefEqProofs [Mz, c96, -getElem?_pos, q1, q2, splice, -Ar]) | (simp (disch := omega) only [AF]) | (refine FI hc ⟨?_⟩; rintro r n' H' hle hsup ⟨v, O', rfl, ha, _⟩; have B1' := B1.go ng1 ha; have B2' := B2.go ng2 ha; have q1 := B1'.at_; have q2 := B2'.at_) | (with_reducible first | refine A7 ?_ ?_ ?_ | exact AB | assumption | refine A3 ?_ | refine KM.of ?_ | refine AG ?_ | intro _g _hg | refine AE ?_ ?_ | intro _hc) | omega)
  subst hR
  have := B1'.lt
  exact BI (r := .tup [_, _]) rfl (by omega) (fun k hk => by rw [upd_ne (by omega)]; exact hsup k hk) ⟨v, _, rfl, ((ha).ext (B := fun g => g = g1 ∨ g = g2) (fun g h => by have := B1.lt; have := B2.lt; rcases h with rfl | rfl <;> omega) (fun _ _ => rfl) (fun g h => by rw [upd_ne (fun e => h (.inl e))]) (fun h => h.elim ng1 ng2)), fun _ => W5 (.inr (.inl rfl)) (AX _ _ _)⟩
 | cons e l ih =>
  obtain ⟨y, c⟩ := e
  intro cur O H0 n0 hr noO hbel B1 B2
  refine Raw.of fun n H gg cs hn hag hgg hgO hgv => ?_
  replace B1 := B1.to hn (hag g1 (.inr (.inl rfl)))
  have q1 := B1.at_
  have ng1 : gg ≠ g1 := fun h => hgg (.inr (.inl h))
  replace B2 := B2.to hn (hag g2 (.inr (.inr rfl)))
  have q2 := B2.at_
  have ng2 : gg ≠ g2 := fun h => hgg (.inr (.inr h))
  have nog : ¬ O gg := fun h => hgg (.inl h)
  replace hbel : ∀ g, O g → g < n := fun g h => Nat.lt_of_lt_of_le (hbel g h) hn
  replace hr := hr.at_ (fun g hg => hag g (.inl hg)) hn
  refine ⟨P0, ?_⟩
  have hc := hr.to n H gg cs (Nat.le_refl _) (fun _ _ => rfl) nog noO hgv
  generalize hR : Om _ _ _ _ _ _ _ _ _ _ _ = R
  refine Ab Tryz.func96 XJ rfl fun hs => ?_
  repeat' (first | (simp -implicitDefEqProofs [Mz, c96, -getElem?_pos, q1, q2, splice, -Ar]) | (simp (disch := omega) only [AF]) | (refine FI hc ⟨?_⟩; rintro r n' H' hle hsup ⟨O', rfl, ha, hr'⟩; have B1' := B1.go ng1 ha; have B2' := B2.go ng2 ha; have q1 := B1'.at_; have q2 := B2'.at_) | (with_reducible first | refine A7 ?_ ?_ ?_ | exact AB | assumption | refine A3 ?_ | refine KM.of ?_ | refine AG ?_ | intro _g _hg | refine AE ?_ ?_ | intro _hc) | omega)
  subst hR
  have := B1'.lt
  exact BI (r := .tup [_, _]) rfl (by omega) (fun k hk => by rw [upd_ne (by omega)]; exact hsup k hk) ⟨_, rfl, ((ha).ext (B := fun g => g = g1 ∨ g = g2) (fun g h => by have := B1.lt; have := B2.lt; rcases h with rfl | rfl <;> omega) (fun _ _ => rfl) (fun g h => by rw [upd_ne (fun e => h (.inl e))]) (fun h => h.elim ng1 ng2)), ih c O' _ n' (hr'.at_ (fun g hg => upd_ne (fun h => B1'.no (h ▸ hg))) (Nat.le_refl _)) (ha.nO noO (hgv.lt hs).1) ha.bel (B1'.set _) (B2'.keep (Ne.symm n12))⟩
end Go.Proofs.YtjdccdelcnmocaaGreatDoor

/- Streams: the check of a node by the program; no condition. -/
import Derived.Test.YtjdccdelcnmocaaGreatDoorMgK
import Derived.Test.YtjdccdelcnmocaaGreatDoorMdL
import Derived.Test.YtjdccdelcnmocaaGreatDoorAdG
import Derived.Test.YtjdccdelcnmocaaGreatDoorAdE
import Derived.Test.YtjdccdelcnmocaaGreatDoorAdF
set_option linter.all false
set_option maxHeartbeats 1000000
namespace Go.Proofs.YtjdccdelcnmocaaGreatDoor
theorem YR {k : Int} (h : ¬ (1 ≤ k ∧ k ≤ 16)) : B9 (.int .i64 k) EW = none := by
 have hne : ∀ j : Int, 1 ≤ j → j ≤ 16 → DW (.int .i64 k) (.int .i64 j) = false := fun j h1 h2 => by
  simp only [DW, decide_true, Bool.true_and, decide_eq_false_iff_not]; omega
 simp only [EW, B9, hne _ (by omega : (1 : Int) ≤ 1) (by omega), hne 2 (by omega) (by omega), hne 3 (by omega) (by omega), hne 4 (by omega) (by omega), hne 5 (by omega) (by omega), hne 6 (by omega) (by omega), hne 7 (by omega) (by omega), hne 8 (by omega) (by omega), hne 9 (by omega) (by omega), hne 10 (by omega) (by omega), hne 11 (by omega) (by omega), hne 12 (by omega) (by omega), hne 13 (by omega) (by omega), hne 14 (by omega) (by omega), hne 15 (by omega) (by omega), hne 16 (by omega) (by omega), Bool.false_eq_true, if_false]
attribute [local simp] Ng FD FC Lc MV LI Ni FN FF HQ HO Lg MC Nq MZ Ny No NG NY LV LZ M0 MT Ly LJ Tq pe N9 Ld MD Lv N1 Nf Li O7 Mz N4 Mx Mc Ln FU O5 OC Lk Nt NR Na Mr Ma OD Mh LX NT LR Ms MX LN Np N0 Ls LH Lf Ey MY F4 LL Lo OA O0 M9 Nj M4 MF MA MG NF N7 Mt Mi Mo Lw Mq MQ MH Mj N8 Nv Nr Ns Nm FX M1 Nh Mw Lu Mk Md M8 NZ O8 NJ MJ MS Nd M2 Lp NA N5 Mn Lt NQ NX NN MI Nc NW LW NK Mf Mp Nu Ja Ll List.mem_cons guardK EE G9 GK HN LK F3 FL F8 FO FJ FG FQ FY Ez LF ME FV LM MP M7 Lh N3 MM F1 MW NL NV LG LU Lr HS FT FB FS FM Nn M5 FP LQ F9 Lj F6 FA Nz F5 F2 Lq My ND NU NH MB Lm OB Tt KK Ki Hc KI Ju K7 Eb Gt HA MN Gm Gu EZ ED Wm Jx Kn Gq Ji Js E5 Dd BZ B9 CA DW AA ev get put Fc AC EC Mb MK Lx O4 KL NP Eu part B8 HY N2 HB isNil DA DG Dz DK DH NO O6 OF NS M3 Ke LY Mu Nl MR OE Nk Nb LT Nw Mv AV.fits AV.cells ones AV.one EP Bw EN DX Fb Ev Mm Fy GE CW Bd CB F7 GI AP BD Xd HU N6 Me List.getElem?_cons_zero List.getElem?_cons_succ FW FH F0 NB NM NI HW Ml MO NE Lz ML M6 Mg MU Nx O9 LP
theorem A3a (k o m : Int) (v : List Int) (p : List St) (hvb : v.length ≤ 140737488355328) (g gs n : Nat) (at_ : Int) (H : A1) (hg : H g = some (.cells 70 [.mp gs, aI at_])) (hgs : H gs = some (.map (some .i64) EW)) : APureAt Tryz.prog 69 [.ptr g 0, encS (.mk k o m v p)] n H (aI (Bm (.mk k o m v p))) := by
 by_cases hk : 1 ≤ k ∧ k ≤ 16
 ·rcases (by omega : (k = 1 ∨ k = 2 ∨ k = 3 ∨ k = 4 ∨ k = 5 ∨ k = 6 ∨ k = 7 ∨ k = 8) ∨ (k = 9 ∨ k = 10 ∨ k = 11 ∨ k = 12 ∨ k = 13 ∨ k = 14 ∨ k = 15 ∨ k = 16)) with h | h
  ·exact A0i k o m v p hvb h g gs n at_ H hg hgs
  ·exact A1k k o m v p hvb h g gs n at_ H hg hgs
 ·have hnc : Bm (.mk k o m v p) = 5 := by simp only [Bm]; rw [if_pos hk]
  have hfd := YR hk
  rw [hnc, AN]
  
  refine CE Tryz.func69 YY rfl fun hH => ?_
  have hgn : g < n := by
   rcases Nat.lt_or_ge g n with h | h
   ·exact h
   ·rw [hH g h] at hg; cases hg
  have hsn : gs < n := by
   rcases Nat.lt_or_ge gs n with h | h
   ·exact h
   ·rw [hH gs h] at hgs; cases hgs
  generalize EW = sm at *
  repeat' (first | simp -implicitDefEqProofs [K2, Ko, K3, Kr, c69, -getElem?_pos, hg, hgs, hfd, splice, A4] | simp (disch := omega) only [A6] | (with_reducible first | exact AG | refine Ai ?_ | intro _g _hg | refine A5 ?_ ?_ | intro _hc) | omega)
mutual
def EG : St → Prop
 | .mk _ _ _ v p => v.length ≤ 140737488355328 ∧ p.length ≤ 140737488355328 ∧ Yq p
def Yq : List St → Prop
 | [] => True
 | s :: r => EG s ∧ Yq r
end
theorem EF : ∀ {p : List St}, Yq p → ∀ s ∈ p, EG s
 | [], _, s, h => by cases h
 | x :: r, h, s, hs => by
  rcases List.mem_cons.1 hs with e | hs
  ·rw [e]; exact h.1
  ·exact EF h.2 s hs
theorem C0 (s : St) : (encS s).fits (some 5) = true := by cases s; rw [AN]; rfl
theorem GN {p : List St} {i : Nat} {s : St} (h : p[i]? = some s) : (AZ p)[i]? = some (encS s) := by rw [JH, List.getElem?_map, h]; rfl
theorem Um {p : List St} {i j : Nat} {s : St} (h : p[j]? = some s) : Ie (p.drop j) i = if (E8 s i).2 ≠ 0 then E8 s i else Ie (p.drop (j + 1)) (E8 s i).1 := by
 rw [drop_at h, Ie]
theorem Xv (s : St) : EG s → ∀ i : Nat, i ≤ 60 → APure Tryz.prog 37 [encS s, aI i] (.tup [aI ((E8 s i).1 : Nat), aI (E8 s i).2]) := by
 refine St.ind (Q := fun s => EG s → ∀ i : Nat, i ≤ 60 → APure Tryz.prog 37 [encS s, aI i] (.tup [aI ((E8 s i).1 : Nat), aI (E8 s i).2])) ?_ s
 intro k o m v p ih hfit i hi
 obtain ⟨hv, hp, hpp⟩ := hfit
 have hsf := RE k o m v p hv
 rw [E8]
 rw [AN] at hsf ⊢
 
 refine A8 Tryz.func37 A50 rfl fun n H hH => ?_
 by_cases h60 : 60 ≤ i
 ·rw [if_pos h60]
  have h60' : (60 : Int) ≤ i := by omega
  repeat' (first | simp -implicitDefEqProofs [c37, -getElem?_pos, h60', AH, AK] | simp (disch := omega) only [A6] | (with_reducible first | exact AG | refine Ai ?_ | intro _g _hg | refine A5 ?_ ?_ | intro _hc) | omega)
 ·rw [if_neg h60]
  have h60' : ¬ (60 : Int) ≤ i := by omega
  generalize hc : Bm (.mk k o m v p) = c at *
  by_cases hc0 : c = 0
  ·rw [if_neg (by simpa using hc0)]
   have hpl := Bn p
   subst hc0
   repeat' (first | simp -implicitDefEqProofs [c37, H6, H9, -getElem?_pos, h60'] | simp (disch := omega) only [A6] | ((with_reducible refine AO 68 ?_); refine' Aa (hsf) ?_) | (with_reducible first | exact AG | refine Ai ?_ | intro _g _hg | refine A5 ?_ ?_ | intro _hc) | omega)
   refine LoopK.go (fun r st => ∃ (j q : Nat), j + r = p.length ∧ st = ⟨[(2, .ptr _g 0), (7, aI q), (8, aI j)], _g + 1, upd H _g (some (.cells 25 [aI k, aI o, aI m, BX v, .sl 5 (AZ p) .ro]))⟩ ∧ q ≤ 60 ∧ Ie p (i + 1) = Ie (p.drop j) q) p.length ⟨0, i + 1, by omega, by simp, by omega, rfl⟩ ?_
   rintro r st ⟨j, q, hj, rfl, hq, hE⟩ J hJ
   by_cases hjl : j < p.length
   ·obtain ⟨x, hx⟩ : ∃ x, p[j]? = some x := ⟨_, List.getElem?_eq_getElem hjl⟩
    have hxm := List.mem_of_getElem? hx
    have hst := ih x hxm (EF hpp x hxm) q hq
    have hxe := GN hx
    have hxf := C0 x
    have hjl' : (j : Int) < p.length := by omega
    rw [Um hx] at hE
    generalize encS x = ex at *
    generalize AZ p = ep at *
    by_cases h2 : (E8 x q).2 = 0
    ·rw [if_neg (by simpa using h2)] at hE
     obtain ⟨_, _, h3⟩ := KO x q h2
     rw [h2] at hst
     
     repeat' (first | simp -implicitDefEqProofs [Hz, IF, I8, IK, IC, H9, H6, c37, -getElem?_pos, hpl, hjl', hxe, hxf, -AV.fits] | simp (disch := omega) only [A6] | ((with_reducible refine AO 37 ?_); refine' Aa (hst) ?_) | (with_reducible first | exact AG | refine Ai ?_ | intro _g _hg | refine A5 ?_ ?_ | intro _hc) | omega)
     exact hJ (r - 1) _ (by omega) ⟨j + 1, (E8 x q).1, by omega, rfl, h3, hE⟩
    ·rw [if_pos h2] at hE
     rw [hE]
     
     repeat' (first | simp -implicitDefEqProofs [Hz, IF, I8, IK, IC, H9, H6, c37, -getElem?_pos, hpl, hjl', hxe, hxf, -AV.fits, h2, AH, AK] | simp (disch := omega) only [A6] | ((with_reducible refine AO 37 ?_); refine' Aa (hst) ?_) | (with_reducible first | exact AG | refine Ai ?_ | intro _g _hg | refine A5 ?_ ?_ | intro _hc) | omega)
   ·have hjl' : ¬ (j : Int) < p.length := by omega
    rw [List.drop_eq_nil_of_le (by omega), Ie] at hE
    rw [hE]
    
    repeat' (first | simp -implicitDefEqProofs [Hz, IF, I8, IK, IC, H9, H6, c37, -getElem?_pos, hpl, hjl', AH, AK] | simp (disch := omega) only [A6] | (with_reducible first | exact AG | refine Ai ?_ | intro _g _hg | refine A5 ?_ ?_ | intro _hc) | omega)
  ·rw [if_pos hc0]
   repeat' (first | simp -implicitDefEqProofs [Hz, IF, I8, IK, IC, H9, H6, c37, -getElem?_pos, h60', hc0, AH, AK] | simp (disch := omega) only [A6] | ((with_reducible refine AO 68 ?_); refine' Aa (hsf) ?_) | (with_reducible first | exact AG | refine Ai ?_ | intro _g _hg | refine A5 ?_ ?_ | intro _hc) | omega)
abbrev Xi (gs : Nat) (i : Int) : AObj := .cells 70 [.mp gs, aI i]
def Re (r : Nat × Int) : Int × Int := if r.2 ≠ 0 then (r.2, (r.1 : Int)) else (0, 0)
def Rj (r : Nat × Int) : Nat := if r.2 ≠ 0 then r.1 + 1 else r.1
def RU (s : St) (i : Nat) : Prop := ∀ (g gs n : Nat) (H : A1), H g = some (Xi gs i) → H gs = some (.map (some .i64) EW) → AUpd Tryz.prog 40 [.ptr g 0, encS s] n H (aF (Re (E8 s i))) g (Xi gs (Rj (E8 s i)))
theorem A0v (s : St) : EG s → ∀ i : Nat, i ≤ 60 → RU s i := by
 refine St.ind (Q := fun s => EG s → ∀ i : Nat, i ≤ 60 → RU s i) ?_ s
 intro k o m v p ih hfit i hi g gs n H hg hgs
 obtain ⟨hv, hp, hpp⟩ := hfit
 have hgg : g ≠ gs := fun e => by rw [e, hgs] at hg; cases hg
 have hnode := fun n H h1 h2 => A3a k o m v p hv g gs n ((i : Int) + 1) H h1 h2
 rw [E8]
 rw [AN] at hnode ⊢
 refine Td Tryz.func40 A4w rfl (hg) fun hH => ?_
 have hgn : g < n := by
  rcases Nat.lt_or_ge g n with h | h
  ·exact h
  ·rw [hH g h] at hg; cases hg
 have hsn : gs < n := by
  rcases Nat.lt_or_ge gs n with h | h
  ·exact h
  ·rw [hH gs h] at hgs; cases hgs
 by_cases h60 : 60 ≤ i
 ·rw [if_pos h60]
  have h60' : ¬ (i : Int) < 60 := by omega
  repeat' (first | simp -implicitDefEqProofs [KA, Kq, Hy, Gp, Kl, K4, c40, -getElem?_pos, hg, h60', splice, Re, Rj, A4] | simp (disch := omega) only [A6] | (with_reducible first | exact AG | refine Db ?_ | intro _g _hg | refine A5 ?_ ?_ | intro _hc) | omega)
  intro q hq; simp only [upd]; (repeat' split) <;> first | rfl | omega
 ·rw [if_neg h60]
  have h60' : (i : Int) < 60 := by omega
  generalize hc : Bm (.mk k o m v p) = c at *
  have hpl := Bn p
  by_cases hc0 : c = 0
  ·rw [if_neg (by simpa using hc0)]
   subst hc0
   repeat' (first | simp -implicitDefEqProofs [c40, K4, Kl, -getElem?_pos, hg, h60', splice] | simp (disch := omega) only [A6] | ((with_reducible refine B0 69 ?_); (refine' CallK.sfAt ?_ ((hnode _ _ (by simp (disch := omega) only [upd_ne, AP]) (by simp (disch := omega) only [upd_ne]; exact hgs))) ?_); (focus first | (with_reducible exact A0 _) | (simp [AK, AH, A4, A0]; done))) | (with_reducible first | exact AG | refine Db ?_ | intro _g _hg | refine A5 ?_ ?_ | intro _hc) | omega)
   rename_i g3 hg3
   refine LoopK.go (fun r st => ∃ (j q n1 : Nat) (H1 : A1), j + r = p.length ∧ st = ⟨[(0, .ptr g 0), (4, .ptr _g 0), (32, .sl 5 (AZ p) .ro), (33, aI p.length), (34, aI j)], n1, H1⟩ ∧ q ≤ 60 ∧ Ie p (i + 1) = Ie (p.drop j) q ∧ _g < n1 ∧ H1 g = some (Xi gs q) ∧ H1 gs = some (.map (some .i64) EW) ∧ H1 _g = some (.cells 27 [aI 0, aI 0]) ∧ (∀ k, k < n → k ≠ g → H1 k = H k) ∧ ∀ k, n1 ≤ k → H1 k = none) p.length
    ⟨0, i + 1, _, _, by omega, by simp [hpl]; exact ⟨rfl, rfl⟩, by omega, rfl, by omega, by simp (disch := omega) only [upd_ne, AP]; rfl, by simp (disch := omega) only [upd_ne]; exact hgs, by simp (disch := omega) only [upd_ne, AP], fun k h1 h2 => by simp (disch := omega) only [upd_ne], fun k h1 => by simp (disch := omega) only [upd_ne]; exact hH k (by omega)⟩ ?_
   rintro r st ⟨j, q, n1, H1, hj, rfl, hq, hE, hn1, q1, q2, q4, hsame, hsup⟩ J hJ
   by_cases hjl : j < p.length
   ·obtain ⟨x, hx⟩ : ∃ x, p[j]? = some x := ⟨_, List.getElem?_eq_getElem hjl⟩
    have hxm := List.mem_of_getElem? hx
    have hst := ih x hxm (EF hpp x hxm) q hq
    have hxe := GN hx
    have hxf := C0 x
    have hjl' : (j : Int) < p.length := by omega
    rw [Um hx] at hE
    unfold RU at hst
    generalize hsx : E8 x q = sx at *
    have hok : sx.2 = 0 → sx.1 ≤ 60 := fun h2 => by rw [← hsx] at h2 ⊢; exact (KO x q h2).2.2
    obtain ⟨k', o', m', v', p'⟩ := x
    rw [AN] at hst hxe hxf
    generalize AZ p = ep at *
    generalize AZ p' = ep' at *
    generalize v'.map aI = ev' at *
    by_cases h2 : sx.2 = 0
    ·rw [if_neg (by simpa using h2)] at hE
     have h3 := hok h2
     have e1 : Re sx = (0, 0) := by unfold Re; rw [if_neg (by simpa using h2)]
     have e2 : Rj sx = sx.1 := by unfold Rj; rw [if_neg (by simpa using h2)]
     rw [e1, e2] at hst
     
     repeat' (first | simp -implicitDefEqProofs [Gp, Hy, Kq, -getElem?_pos, hjl', hxe, splice] | simp (disch := omega) only [A6] | ((with_reducible refine B0 40 ?_); (refine' CallK.sfU ?_ ((hst g gs _ _ (by simp (disch := omega) only [upd_ne, AP]; exact q1) (by simp (disch := omega) only [upd_ne]; exact q2))) ?_); (focus first | (with_reducible exact A0 _) | (simp [AK, AH, A4, A0]; done))) | (with_reducible first | exact AG | refine Db ?_ | intro _g _hg | refine A5 ?_ ?_ | intro _hc) | omega)
     exact hJ (r - 1) _ (by omega) ⟨j + 1, sx.1, _, _, by omega, rfl, h3, hE, by omega, by simp (disch := omega) only [upd_ne, AP], by simp (disch := omega) only [upd_ne]; exact q2, by simp (disch := omega) only [upd_ne]; exact q4, fun k h1 h2 => by simp (disch := omega) only [upd_ne]; exact hsame k h1 h2, fun k h1 => by simp (disch := omega) only [upd_ne]; exact hsup k (by omega)⟩
    ·rw [if_pos h2] at hE
     rw [hE]
     have e1 : Re sx = (sx.2, (sx.1 : Int)) := by unfold Re; rw [if_pos h2]
     have e2 : Rj sx = sx.1 + 1 := by unfold Rj; rw [if_pos h2]
     rw [e1, e2] at hst ⊢
     
     repeat' (first | simp -implicitDefEqProofs [Gp, Hy, -getElem?_pos, hjl', hxe, h2, q4, splice, A4] | simp (disch := omega) only [A6] | ((with_reducible refine B0 40 ?_); (refine' CallK.sfU ?_ ((hst g gs _ _ (by simp (disch := omega) only [upd_ne, AP]; exact q1) (by simp (disch := omega) only [upd_ne]; exact q2))) ?_); (focus first | (with_reducible exact A0 _) | (simp [AK, AH, A4, A0]; done))) | (with_reducible first | exact AG | refine Db ?_ | intro _g _hg | refine A5 ?_ ?_ | intro _hc) | omega)
     all_goals first | exact A4 _ | (intro q' hq'; simp only [upd]; (repeat' split) <;> first | rfl | omega | (exact hsame _ hq' (by assumption)))
   ·have hjl' : ¬ (j : Int) < p.length := by omega
    rw [List.drop_eq_nil_of_le (by omega), Ie] at hE
    rw [hE]
    
    repeat' (first | simp -implicitDefEqProofs [Gp, KA, -getElem?_pos, hjl', q4, splice, Re, Rj, A4] | simp (disch := omega) only [A6] | (with_reducible first | exact AG | refine Db ?_ | intro _g _hg | refine A5 ?_ ?_ | intro _hc) | omega)
    all_goals first | exact A4 _ | (intro q' hq'; simp only [upd]; (repeat' split) <;> first | rfl | omega | (subst_vars; exact q1) | (exact hsame _ hq' (by assumption)))
  ·rw [if_pos hc0]
   repeat' (first | simp -implicitDefEqProofs [KA, Kq, Hy, Gp, Kl, K4, c40, -getElem?_pos, hg, h60', hc0, splice, Re, Rj, A4] | simp (disch := omega) only [A6] | ((with_reducible refine B0 69 ?_); (refine' CallK.sfAt ?_ ((hnode _ _ (by simp (disch := omega) only [upd_ne, AP]) (by simp (disch := omega) only [upd_ne]; exact hgs))) ?_); (focus first | (with_reducible exact A0 _) | (simp [AK, AH, A4, A0]; done))) | (with_reducible first | exact AG | refine Db ?_ | intro _g _hg | refine A5 ?_ ?_ | intro _hc) | omega)
   all_goals first | exact A4 _ | (intro q hq; simp only [upd]; (repeat' split) <;> first | rfl | omega)
open Go.RowKit
def acc (c : UInt8) (s : R4) : R4 × Bool := match s with
 | x :: r => if x = c then (r, true) else (x :: r, false)
 | [] => ([], false)
def RQ (F : Fut) : List Int := F.l.map (·.1)
def leC (a b : AQ) : Prop := a.length = b.length ∧ ∀ (i : Nat) (x y : Int), a[i]? = some x → b[i]? = some y → x ≤ y
theorem leC.rfl_ (a : AQ) : leC a a := ⟨rfl, fun i x y h1 h2 => by rw [h1] at h2; injection h2 with h2; omega⟩
theorem leC.tr {a b c : AQ} (h : leC a b) (k : leC b c) : leC a c := by
 refine ⟨h.1.trans k.1, fun i x z h1 h2 => ?_⟩
 have hi : i < b.length := by rw [← h.1]; exact (List.getElem?_eq_some_iff.1 h1).1
 have h3 : b[i]? = some b[i] := List.getElem?_eq_getElem hi
 have := h.2 i x _ h1 h3
 have := k.2 i _ z h3 h2
 omega
theorem leC.app {a b c d : AQ} (h : leC a b) (k : leC c d) : leC (a ++ c) (b ++ d) := by
 refine ⟨by simp [h.1, k.1], fun i x y h1 h2 => ?_⟩
 by_cases hi : i < a.length
 ·rw [List.getElem?_append_left hi] at h1
  rw [List.getElem?_append_left (by rw [← h.1]; exact hi)] at h2
  exact h.2 i x y h1 h2
 ·rw [List.getElem?_append_right (by omega)] at h1
  rw [List.getElem?_append_right (by rw [← h.1]; omega), ← h.1] at h2
  exact k.2 _ x y h1 h2
def monL : AQ → Ad → AQ → Prop
 | cur, [], fin => leC cur fin
 | cur, (_, c) :: r, fin => leC cur c ∧ monL c r fin
def Jk (F : Fut) : Prop := monL F.cur F.l F.fin ∧ ∀ x ∈ F.cur, 0 ≤ x
theorem monL.fin : ∀ {l : Ad} {cur fin : AQ}, monL cur l fin → leC cur fin
 | [], _, _, h => h
 | (_, c) :: r, cur, fin, h => h.1.tr (monL.fin h.2)
theorem monL.cur : ∀ {l : Ad} {cur cur' fin : AQ}, leC cur' cur → monL cur l fin → monL cur' l fin
 | [], _, _, _, hc, h => hc.tr h
 | (_, c) :: r, _, _, _, hc, h => ⟨hc.tr h.1, h.2⟩
theorem monL.map : ∀ {l : Ad} {cur fin : AQ} (f : Int → Int), monL cur l fin → monL cur (l.map fun e => (f e.1, e.2)) fin
 | [], _, _, _, h => h
 | (_, c) :: r, _, _, f, h => ⟨h.1, monL.map f h.2⟩
theorem monL.filter : ∀ {l : Ad} {cur fin : AQ} (p : Int × AQ → Bool), monL cur l fin → monL cur (l.filter p) fin
 | [], _, _, _, h => h
 | e :: r, _, _, p, h => by
  rw [List.filter_cons]
  split
  ·exact ⟨h.1, monL.filter p h.2⟩
  ·exact monL.cur h.1 (monL.filter p h.2)
theorem monL.tak : ∀ {l : Ad} {cur fin : AQ} (n : Nat), monL cur l fin → monL cur (Da n cur l fin).1 (Da n cur l fin).2
 | _, cur, _, 0, _ => by simp only [Da]; exact leC.rfl_ cur
 | [], _, _, _ + 1, h => h
 | (_, c) :: r, _, _, n + 1, h => ⟨h.1, monL.tak n h.2⟩
theorem monL.drop : ∀ {l : Ad} {cur fin : AQ} (n : Nat), monL cur l fin → monL cur (l.drop n) fin
 | _, _, _, 0, h => by simpa using h
 | [], _, _, _ + 1, h => h
 | (_, c) :: r, _, _, n + 1, h => by simpa using monL.cur h.1 (monL.drop n h.2)
theorem monL.whi : ∀ {l : Ad} {cur fin : AQ} (p : Int → Bool), monL cur l fin → monL cur (Di p l fin).1 (Di p l fin).2
 | [], _, _, _, h => h
 | (x, c) :: r, _, _, p, h => by
  simp only [Di]
  split
  ·exact ⟨h.1, monL.whi p h.2⟩
  ·exact h.1
theorem monL.ski : ∀ {l : Ad} {cur fin : AQ} (p : Int → Bool), monL cur l fin → monL cur (GG p l) fin
 | [], _, _, _, h => h
 | (x, c) :: r, _, _, p, h => by
  simp only [GG]
  split
  ·exact monL.cur h.1 (monL.ski p h.2)
  ·exact h
theorem monL.sca : ∀ {l : Ad} {cur fin : AQ} (f : Int → Int → Int) (n : Int), monL cur l fin → monL cur (IT f n l) fin
 | [], _, _, _, _, h => h
 | (x, c) :: r, _, _, f, n, h => ⟨h.1, monL.sca f _ h.2⟩
theorem monL.win : ∀ {l : Ad} {cur fin : AQ} (f : Int → Int → Int) (N : Nat) (last : List Int), monL cur l fin → monL cur (EB f N last l) fin
 | [], _, _, _, _, _, h => h
 | (x, c) :: r, _, _, f, N, last, h => by
  simp only [EB]
  split
  ·exact monL.cur h.1 (monL.win f N _ h.2)
  ·exact ⟨h.1, monL.win f N _ h.2⟩
theorem monL.run : ∀ {l : Ad} {cur fin : AQ} (last : Int), monL cur l fin → monL cur (GB last l) fin
 | [], _, _, _, h => h
 | (x, c) :: r, _, _, last, h => by
  simp only [GB]
  split
  ·exact ⟨h.1, monL.run _ h.2⟩
  ·exact monL.cur h.1 (monL.run _ h.2)
theorem monL.same (xs : List Int) (fin : AQ) {l : Ad} (h : monL fin l fin) : monL fin (xs.map (fun x => (x, fin)) ++ l) fin := by
 induction xs with
 | nil => exact h
 | cons x xs ih => exact ⟨leC.rfl_ _, ih⟩
theorem monL.rep (xs : List Int) (fin : AQ) : ∀ n, monL fin (DJ xs fin n) fin
 | 0 => leC.rfl_ _
 | n + 1 => monL.same xs fin (monL.rep xs fin n)
theorem monL.app : ∀ {l m : Ad} {cur mid fin : AQ}, monL cur l mid → monL mid m fin → monL cur (l ++ m) fin
 | [], _, _, _, _, h, k => monL.cur h k
 | (_, c) :: r, _, _, _, _, h, k => ⟨h.1, monL.app h.2 k⟩
theorem monL.left : ∀ {l : Ad} {cur fin : AQ} (d : AQ), monL cur l fin → monL (cur ++ d) (l.map fun e => (e.1, e.2 ++ d)) (fin ++ d)
 | [], _, _, d, h => leC.app h (leC.rfl_ d)
 | (_, c) :: r, _, _, d, h => ⟨leC.app h.1 (leC.rfl_ d), monL.left d h.2⟩
theorem monL.right : ∀ {l : Ad} {cur fin : AQ} (d : AQ), monL cur l fin → monL (d ++ cur) (l.map fun e => (e.1, d ++ e.2)) (d ++ fin)
 | [], _, _, d, h => leC.app (leC.rfl_ d) h
 | (_, c) :: r, _, _, d, h => ⟨leC.app (leC.rfl_ d) h.1, monL.right d h.2⟩
theorem A1v {F : Fut} (k o n : Int) (h : Jk F) : Jk (B6 k o n F) := by
 obtain ⟨h, hc⟩ := h
 unfold B6
 (repeat' split) <;> try refine ⟨?_, hc⟩
 ·exact h.map (fun x => CH o x n)
 ·exact h.filter _
 ·exact h.tak _
 ·exact h.drop _
 ·exact h.whi _
 ·exact h.ski _
 ·exact h.sca _ _
 ·exact h.win _ _ _
 ·exact h.run _
 ·unfold FR
  split
  ·exact ⟨leC.rfl_ _, hc⟩
  ·exact ⟨h.app (monL.rep _ _ _), hc⟩
theorem V3 : ∀ {Fs : List Fut}, (∀ F ∈ Fs, Jk F) → Jk (BU Fs)
 | [], _ => ⟨leC.rfl_ _, by simp [BU]⟩
 | F :: Fs, h => by
  have ih := V3 fun G hG => h G (List.mem_cons_of_mem _ hG)
  have h1 := h F List.mem_cons_self
  refine ⟨(h1.1.left _).app (ih.1.right _), fun x hx => ?_⟩
  simp only [BU, List.mem_append] at hx
  exact hx.elim (h1.2 x) (ih.2 x)
theorem monL.zip : ∀ {la lb : Ad} {ca cb fa fb : AQ} (f : Int → Int → Int), monL ca la fa → monL cb lb fb → monL (ca ++ cb) (De f fa fb la cb lb).1 (De f fa fb la cb lb).2
 | [], _, _, _, _, _, _, h, _ => leC.app h (leC.rfl_ _)
 | (x, c) :: r, [], _, _, _, _, _, h, k => leC.app h.1 k
 | (x, c) :: r, (y, d) :: t, _, _, _, _, f, h, k => ⟨leC.app h.1 k.1, monL.zip f h.2 k.2⟩
theorem monL.mer : ∀ {la lb : Ad} {ca cb fa fb : AQ}, monL ca la fa → monL cb lb fb → monL (ca ++ cb) (Bf fa fb la lb) (fa ++ fb)
 | [], [], _, _, _, _, h, k => by rw [Bf]; exact leC.app h k
 | [], (y, d) :: t, _, _, fa, _, h, k => by
  rw [Bf]
  exact ⟨leC.app h k.1, monL.mer (la := []) (leC.rfl_ fa) k.2⟩
 | (x, c) :: r, [], _, _, _, fb, h, k => by
  rw [Bf]
  exact ⟨leC.app h.1 k, monL.mer (lb := []) h.2 (leC.rfl_ fb)⟩
 | (x, c) :: r, (y, d) :: t, _, _, _, _, h, k => by
  rw [Bf]
  split
  ·exact ⟨leC.app h.1 k.1, monL.mer (lb := (y, d) :: t) h.2 ⟨leC.rfl_ d, k.2⟩⟩
  ·exact ⟨leC.app h.1 k.1, monL.mer (la := (x, c) :: r) ⟨leC.rfl_ c, h.2⟩ k.2⟩
 termination_by la lb => la.length + lb.length
theorem RN : ∀ (cs : List AQ) (i : Nat) (c : AQ), leC (cs.getD i []) c → leC cs.flatten (cs.set i c).flatten
 | [], i, c, _ => by simpa using leC.rfl_ []
 | a :: r, 0, c, h => by
  simp only [List.set_cons_zero, List.flatten_cons]
  exact leC.app (by simpa using h) (leC.rfl_ _)
 | a :: r, i + 1, c, h => by
  simp only [List.set_cons_succ, List.flatten_cons]
  exact leC.app (leC.rfl_ _) (RN r i c (by simpa using h))
theorem getD_set_ne {cs : List AQ} {i j : Nat} {c : AQ} (h : j ≠ i) : (cs.set i c).getD j [] = cs.getD j [] := by
 simp only [List.getD_eq_getElem?_getD, List.getElem?_set_ne (Ne.symm h)]
theorem Rz {cs : List AQ} {i : Nat} {c : AQ} (h : i < cs.length) : (cs.set i c).getD i [] = c := by
 simp [List.getD_eq_getElem?_getD, h]
theorem monL.tur : ∀ (m : Nat) (q : List (Nat × Ad × AQ)) (cs : List AQ), (∀ e ∈ q, e.1 < cs.length ∧ monL (cs.getD e.1 []) e.2.1 e.2.2) → (q.map (·.1)).Nodup → monL cs.flatten (E6 m q cs).1 (E6 m q cs).2.flatten
 | 0, _, cs, _, _ => leC.rfl_ _
 | _ + 1, [], cs, _, _ => leC.rfl_ _
 | m + 1, (i, [], fin) :: q, cs, h, hn => by
  obtain ⟨h1, h2⟩ := h _ List.mem_cons_self
  simp only [List.map_cons, List.nodup_cons] at hn
  simp only [E6]
  refine monL.cur (RN cs i fin h2) (monL.tur m q (cs.set i fin) (fun e he => ?_) hn.2)
  obtain ⟨h3, h4⟩ := h e (List.mem_cons_of_mem _ he)
  have hne : e.1 ≠ i := fun e1 => hn.1 (by rw [← e1]; exact List.mem_map_of_mem he)
  exact ⟨by simpa using h3, by rw [getD_set_ne hne]; exact h4⟩
 | m + 1, (i, (x, c) :: r, fin) :: q, cs, h, hn => by
  obtain ⟨h1, h2⟩ := h _ List.mem_cons_self
  simp only [List.map_cons, List.nodup_cons] at hn
  simp only [E6]
  refine ⟨RN cs i c h2.1, monL.tur m (q ++ [(i, r, fin)]) (cs.set i c) (fun e he => ?_) ?_⟩
  ·rcases List.mem_append.1 he with he | he
   ·obtain ⟨h3, h4⟩ := h e (List.mem_cons_of_mem _ he)
    have hne : e.1 ≠ i := fun e1 => hn.1 (by rw [← e1]; exact List.mem_map_of_mem he)
    exact ⟨by simpa using h3, by rw [getD_set_ne hne]; exact h4⟩
   ·simp only [List.mem_singleton] at he
    subst he
    exact ⟨by simpa using h1, by rw [Rz h1]; exact h2.2⟩
  ·simp only [List.map_append, List.map_cons, List.map_nil]
   exact List.nodup_append.2 ⟨hn.2, by simp, fun a ha b hb => by simp at hb; subst hb; exact fun e => hn.1 (e ▸ ha)⟩
theorem A1s {Fs : List Fut} (h : ∀ F ∈ Fs, Jk F) : Jk (Dc Fs) := by
 refine ⟨?_, fun x hx => ?_⟩
 ·refine monL.tur _ _ _ (fun e he => ?_) ?_
  ·obtain ⟨⟨F, i⟩, hm, rfl⟩ := List.mem_map.1 he
   obtain ⟨h1, h2, h3⟩ := List.mem_zipIdx hm
   simp only [Nat.zero_add] at h2
   refine ⟨by simpa using h2, ?_⟩
   have h4 : Fs[i]? = some F := by
    rw [List.getElem?_eq_getElem (by omega)]; simp at h3; rw [h3]
   have : (Fs.map (·.cur)).getD i [] = F.cur := by simp [List.getD_eq_getElem?_getD, h4]
   simp only
   rw [this]
   exact (h F (List.mem_of_getElem? h4)).1
  ·have : (Fs.zipIdx.map fun x => (x.2, x.1.l, x.1.fin)).map (·.1) = List.range' 0 Fs.length := by
    rw [List.map_map]
    show Fs.zipIdx.map (fun x => x.2) = _
    exact List.zipIdx_map_snd 0 Fs
   rw [this]
   exact List.nodup_range'
 ·obtain ⟨c, hc, hxc⟩ := List.mem_flatten.1 hx
  obtain ⟨F, hF, rfl⟩ := List.mem_map.1 hc
  exact (h F hF).2 x hxc
theorem monL.lea : ∀ (xs : List Int) (i : Nat), monL [(i : Int)] (LO i xs) [((i + xs.length : Nat) : Int)]
 | [], i => leC.rfl_ _
 | x :: r, i => by
  refine ⟨⟨rfl, fun j a b h1 h2 => ?_⟩, ?_⟩
  ·cases j with
   | zero => simp at h1 h2; omega
   | succ j => simp at h1
  ·have := monL.lea r (i + 1)
   simpa [Nat.add_assoc, Nat.add_comm 1] using this
theorem VT (xs : List Int) : Jk (EK xs) := ⟨by simpa [EK] using monL.lea xs 0, by simp [EK]⟩
theorem A0q (k o n : Int) (v : List Int) {Fs : List Fut} (h : ∀ F ∈ Fs, Jk F) : Jk (DZ k o n v Fs) := by
 unfold DZ
 split
 ·exact VT _
 ·split
  ·exact VT _
  ·split
   ·exact V3 h
   ·split
    ·exact A1s h
    ·split
     ·exact A1v k o n (h _ (by simp))
     ·rename_i F G
      have h1 := h F (by simp)
      have h2 := h G (by simp)
      split
      ·refine ⟨h1.1.zip (CH o) h2.1, fun x hx => ?_⟩
       exact (List.mem_append.1 hx).elim (h1.2 x) (h2.2 x)
      ·refine ⟨h1.1.mer h2.1, fun x hx => ?_⟩
       exact (List.mem_append.1 hx).elim (h1.2 x) (h2.2 x)
     ·exact ⟨leC.rfl_ _, by simp⟩
theorem Rk (s : St) : Jk (AR s) := by
 refine St.ind (Q := fun s => Jk (AR s)) ?_ s
 intro k o n v p ih
 rw [AR, D5]
 refine A0q k o n v fun F hF => ?_
 obtain ⟨x, hx, rfl⟩ := List.mem_map.1 hF
 exact ih x hx
structure NodeOk (k o n : Int) (v : List Int) (p : List St) : Prop where
 k1 : 1 ≤ k
 k2 : k ≤ 16
 leaf : k = 1 ∨ k = 2 → p = []
 many : k = 13 ∨ k = 14 → p ≠ []
 two : k = 15 ∨ k = 16 → p.length = 2
 one : k ≠ 1 → k ≠ 2 → k ≠ 13 → k ≠ 14 → k ≠ 15 → k ≠ 16 → p.length = 1
 rng : k = 2 → v.length = 3
 nov : k ≠ 1 → k ≠ 2 → v = []
 fn : Sg k = true → (1 ≤ o ∧ o ≤ 5) ∨ (k = 3 ∧ o = 6)
 cnd : Cj k = true → 1 ≤ o ∧ o ≤ 3
 noo : Sg k = false → Cj k = false → o = 0
 num : Pm k = true → Io k o ≤ n ∧ n ≤ Iv k
 non : Pm k = false → n = 0
 vals : B5 k 0 v = true
theorem nz {p : Prop} [Decidable p] {c x : Int} (hc : c ≠ 0) (h : (if p then c else x) = 0) : ¬ p ∧ x = 0 := by
 by_cases hp : p
 ·rw [if_pos hp] at h; exact absurd h hc
 ·rw [if_neg hp] at h; exact ⟨hp, h⟩
theorem Hk {k o n : Int} {v : List Int} {p : List St} (h : Bm (.mk k o n v p) = 0) : NodeOk k o n v p := by
 rw [Bm] at h
 obtain ⟨h1, h⟩ := nz (by decide) h
 obtain ⟨h2, h⟩ := nz (by decide) h
 obtain ⟨h3, h⟩ := nz (by decide) h
 obtain ⟨h4, h⟩ := nz (by decide) h
 obtain ⟨h5, h⟩ := nz (by decide) h
 have h6 : B5 k 0 v = true := by
  by_cases h6 : B5 k 0 v = true
  ·exact h6
  ·rw [if_neg h6] at h; cases h
 have h1 := Decidable.not_not.1 h1
 simp only [not_or, not_and, Decidable.not_not] at h2 h3 h4 h5
 obtain ⟨h21, h22, h23, h24, h25⟩ := h2
 obtain ⟨h31, h32, h33⟩ := h3
 obtain ⟨h41, h42⟩ := h4
 have hl : DY k = true ↔ k = 1 ∨ k = 2 := by simp [DY]
 have hm : Hb k = true ↔ k = 13 ∨ k = 14 := by simp [Hb]
 have ht : Oc k = true ↔ k = 15 ∨ k = 16 := by simp [Oc]
 have hl' : DY k = false ↔ ¬ (k = 1 ∨ k = 2) := by rw [← hl]; simp
 have hm' : Hb k = false ↔ ¬ (k = 13 ∨ k = 14) := by rw [← hm]; simp
 have ht' : Oc k = false ↔ ¬ (k = 15 ∨ k = 16) := by rw [← ht]; simp
 refine ⟨h1.1, h1.2, fun e => List.length_eq_zero_iff.1 (h21 (hl.2 e)), fun e e2 => (h22 (hm.2 e)) (by rw [e2]; rfl), fun e => h23 (ht.2 e), fun a b c d e f => h24 (hl'.2 (by omega)) (hm'.2 (by omega)) (ht'.2 (by omega)), h25, fun a b => List.length_eq_zero_iff.1 (h31 (hl'.2 (by omega))), ?_, ?_, fun a b => h33 a b, ?_, h32, h6⟩
 ·intro e
  have := h41 e
  by_cases a : 1 ≤ o ∧ o ≤ 5
  ·exact .inl a
  ·exact .inr (by grind)
 ·intro e
  have := h42 e
  grind
 ·intro e
  have := h5 e
  grind
theorem EI : ∀ p : List St, p.length ≤ CX p
 | [] => Nat.le_refl _
 | s :: r => by have h1 := Xh s; have h2 := EI r; simp only [CX, List.length_cons]; omega
theorem Fz : ∀ {p : List St}, ∀ s ∈ p, Bj s ≤ CX p
 | [], s, h => by cases h
 | x :: r, s, hs => by
  simp only [CX]
  rcases List.mem_cons.1 hs with e | hs
  ·rw [e]; omega
  ·have := Fz s hs; omega
theorem VS (c : Nat) : ∀ l : List Nat, min l.sum c = min (l.map (min · c)).sum c
 | [] => rfl
 | a :: r => by
  have := VS c r
  simp only [List.map_cons, List.sum_cons]
  omega
theorem min_mul (c n b : Nat) : min (n * b) c = min (n * min b c) c := by
 rcases Nat.le_total b c with h | h
 ·rw [Nat.min_eq_left h]
 ·rw [Nat.min_eq_right h]
  rcases Nat.eq_zero_or_pos n with e | e
  ·subst e; simp
  ·have h1 : c ≤ n * c := Nat.le_mul_of_pos_left c e
   have h2 : n * c ≤ n * b := Nat.mul_le_mul_left n h
   omega
theorem P5 (c : Nat) (k n : Int) (v : List Int) (bs : List Nat) : min (Ei k n v bs) c = min (Ei k n v (bs.map (min · c))) c := by
 have g : ∀ i : Nat, (bs.map (min · c)).getD i 0 = min (bs.getD i 0) c := by
  intro i
  simp only [List.getD_eq_getElem?_getD, List.getElem?_map]
  cases bs[i]? <;> simp
 unfold Ei
 rw [g, g]
 split
 ·rfl
 ·split
  ·rfl
  ·split
   ·omega
   ·split
    ·exact min_mul c _ _
    ·split
     ·omega
     ·exact VS c bs
theorem JA {v : List Int} (hl : v.length = 3) (hv : B5 2 0 v = true) : ∃ a b c : Int, v = [a, b, c] ∧ 0 ≤ a ∧ a ≤ 9999 ∧ 0 ≤ b ∧ b ≤ 10000 ∧ 1 ≤ c ∧ c ≤ 9999 := by
 match v, hl with
 | [a, b, c], _ =>
  simp [B5, Fw] at hv
  exact ⟨a, b, c, rfl, by omega, by omega, by omega, by omega, by omega, by omega⟩
theorem UM (o m : Int) (v : List Int) (p : List St) (hv : v.length ≤ 140737488355328) : APure Tryz.prog 36 [encS (.mk 1 o m v p)] (aI (v.length : Nat)) := by
 have hvl : (v.map aI).length = v.length := by simp
 rw [AN]
 generalize v.map aI = va at *
 
 refine A8 Tryz.func36 A20 rfl fun n H hH => ?_
 repeat' (first | simp -implicitDefEqProofs [Q7, Qd, QP, Q9, QN, Qe, Q2, Qi, QJ, c36, -getElem?_pos, hvl, AH, AK] | simp (disch := omega) only [A6] | (with_reducible first | exact AG | refine Ai ?_ | intro _g _hg | refine A5 ?_ ?_ | intro _hc) | omega)
theorem A0t (a b c : Int) (hc : 1 ≤ c) : max 0 ((b - a + c - 1).tdiv c) = (Eg [a, b, c] : Int) := by
 show _ = ((((b - a + c - 1) / c).toNat : Nat) : Int)
 rcases Int.lt_or_le (b - a + c - 1) 0 with h | h
 ·have h1 : (b - a + c - 1) / c < 0 := Int.ediv_neg_of_neg_of_pos h (by omega)
  have h2 : (b - a + c - 1).tdiv c ≤ 0 := by
   have := Int.tdiv_nonneg (a := -(b - a + c - 1)) (b := c) (by omega) (by omega)
   rw [Int.neg_tdiv] at this
   omega
  omega
 ·rw [Int.tdiv_eq_ediv_of_nonneg h]
  have := Int.ediv_nonneg h (b := c) (by omega)
  omega
theorem WI (o m : Int) (v : List Int) (p : List St) (hl : v.length = 3) (hv : B5 2 0 v = true) : APure Tryz.prog 36 [encS (.mk 2 o m v p)] (aI (Eg v : Nat)) := by
 obtain ⟨a, b, c, rfl, ha, ha', hb, hb', hc, hc'⟩ := JA hl hv
 have hr := A0t a b c hc
 have hq : -30000 ≤ (b - a + c - 1).tdiv c ∧ (b - a + c - 1).tdiv c ≤ 30000 := by
  have := Int.natAbs_tdiv_le_natAbs (b - a + c - 1) c
  omega
 rw [AN]
 generalize hz : Eg [a, b, c] = z at *
 
 refine A8 Tryz.func36 A20 rfl fun n H hH => ?_
 repeat' (first | simp -implicitDefEqProofs [Q7, Qd, QP, Q9, QN, Qe, Q2, Qi, QJ, c36, -getElem?_pos, AH, AK] | simp (disch := omega) only [A6] | (with_reducible first | exact AG | refine Ai ?_ | intro _g _hg | refine A5 ?_ ?_ | intro _hc) | omega)
 all_goals (rw [IntKind.i64_wrap_id (by omega) (by omega)]; omega)
def rgE (l : Ad) : Prop := ∀ e ∈ l, 0 ≤ e.1 ∧ e.1 ≤ 9999
theorem rgE.nil : rgE [] := fun e h => by cases h
theorem rgE.cons {x : Int} {c : AQ} {l : Ad} (h : 0 ≤ x ∧ x ≤ 9999) (k : rgE l) : rgE ((x, c) :: l) := fun e he => by
 rcases List.mem_cons.1 he with rfl | he
 ·exact h
 ·exact k e he
theorem rgE.hd {x : Int} {c : AQ} {l : Ad} (h : rgE ((x, c) :: l)) : 0 ≤ x ∧ x ≤ 9999 := h (x, c) List.mem_cons_self
theorem rgE.tl {x : Int} {c : AQ} {l : Ad} (h : rgE ((x, c) :: l)) : rgE l := fun e he => h e (List.mem_cons_of_mem _ he)
theorem rgE.app {l m : Ad} (h : rgE l) (k : rgE m) : rgE (l ++ m) := fun e he => (List.mem_append.1 he).elim (h e) (k e)
theorem YD {o x y : Int} (hx : 0 ≤ x ∧ x ≤ 9999) (hy : 0 ≤ y ∧ y ≤ 9999) (hz : o = 1 ∨ o = 2 ∨ o = 3 ∨ o = 4 ∨ o = 5 ∨ 1 ≤ y) : 0 ≤ CH o x y ∧ CH o x y ≤ 9999 := by
 unfold CH
 split
 ·omega
 ·split
  ·omega
  ·split
   ·omega
   ·split
    ·omega
    ·split
     ·omega
     ·have h1 := Int.emod_nonneg x (show y ≠ 0 by omega)
      have h2 := Int.emod_lt_of_pos x (show 0 < y by omega)
      omega
theorem Rq : ∀ (xs : List Int) (i : Nat), (LO i xs).length = xs.length
 | [], _ => rfl
 | x :: r, i => by simp [LO, Rq r]
theorem Rs : ∀ (xs : List Int) (i : Nat), ∀ e ∈ LO i xs, e.1 ∈ xs
 | [], _, e, h => by cases h
 | x :: r, i, e, h => by
  simp only [LO, List.mem_cons] at h
  rcases h with rfl | h
  ·simp
  ·exact List.mem_cons_of_mem _ (Rs r _ e h)
theorem Ui : ∀ (n : Nat) (cur : AQ) (l : Ad) (fin : AQ), (Da n cur l fin).1.length = min n l.length
 | 0, _, _, _ => by simp [Da]
 | n + 1, _, [], _ => by simp [Da]
 | n + 1, _, (x, c) :: r, fin => by simp [Da, Ui n c r fin]
theorem A2d : ∀ (n : Nat) (cur : AQ) (l : Ad) (fin : AQ), (Da n cur l fin).1 = l.take n
 | 0, _, _, _ => by simp [Da]
 | n + 1, _, [], _ => by simp [Da]
 | n + 1, _, (x, c) :: r, fin => by simp [Da, A2d n c r fin]
theorem Rt (p : Int → Bool) : ∀ (l : Ad) (fin : AQ), (Di p l fin).1.Sublist l
 | [], _ => by simp [Di]
 | (x, c) :: r, fin => by
  simp only [Di]
  split
  ·exact (Rt p r fin).cons₂ _
  ·exact List.nil_sublist _
theorem RM (p : Int → Bool) : ∀ (l : Ad), (GG p l).Sublist l
 | [] => by simp [GG]
 | (x, c) :: r => by
  simp only [GG]
  split
  ·exact (RM p r).cons _
  ·exact List.Sublist.refl _
theorem OK : ∀ (last : Int) (l : Ad), (GB last l).Sublist l
 | _, [] => by simp [GB]
 | last, (x, c) :: r => by
  simp only [GB]
  split
  ·exact (OK x r).cons₂ _
  ·exact (OK last r).cons _
theorem Vc (f : Int → Int → Int) : ∀ (n : Int) (l : Ad), (IT f n l).length = l.length
 | _, [] => rfl
 | n, (x, c) :: r => by simp [IT, Vc f]
theorem Rp (f : Int → Int → Int) (N : Nat) : ∀ (last : List Int) (l : Ad), (EB f N last l).length ≤ l.length
 | _, [] => by simp [EB]
 | last, (x, c) :: r => by
  simp only [EB]
  split
  ·have := Rp f N (last ++ [x]) r; simp; omega
  ·have := Rp f N ((last ++ [x]).drop (last.length + 1 - N)) r; simp; omega
theorem Sj (xs : List Int) (fin : AQ) : ∀ n, (DJ xs fin n).length = n * xs.length
 | 0 => by simp [DJ]
 | n + 1 => by simp [DJ, Sj xs fin n, Nat.succ_mul, Nat.add_comm]
theorem R6 : ∀ (m : Nat) (q : List (Nat × Ad × AQ)) (cs : List AQ), (E6 m q cs).1.length ≤ (q.map fun e => e.2.1.length).sum
 | 0, _, _ => by simp [E6]
 | _ + 1, [], _ => by simp [E6]
 | m + 1, (i, [], fin) :: q, cs => by
  have := R6 m q (cs.set i fin)
  simpa [E6] using this
 | m + 1, (i, (x, c) :: r, fin) :: q, cs => by
  have := R6 m (q ++ [(i, r, fin)]) (cs.set i c)
  simp only [List.map_append, List.sum_append, List.map_cons, List.map_nil, List.sum_cons, List.sum_nil] at this
  simp only [E6, List.length_cons, List.map_cons, List.sum_cons]
  omega
theorem Ut (f : Int → Int → Int) (fa fb : AQ) : ∀ (a : Ad) (cb : AQ) (b : Ad), (De f fa fb a cb b).1.length ≤ min a.length b.length
 | [], _, _ => by simp [De]
 | (_, _) :: _, _, [] => by simp [De]
 | (x, c) :: r, _, (y, d) :: t => by have := Ut f fa fb r d t; simp [De]; omega
theorem JS (fa fb : AQ) : ∀ (a b : Ad), (Bf fa fb a b).length = a.length + b.length
 | [], [] => by rw [Bf]; rfl
 | [], (y, d) :: t => by rw [Bf]; simp [JS fa fb [] t]
 | (x, c) :: r, [] => by rw [Bf]; simp [JS fa fb r []]
 | (x, c) :: r, (y, d) :: t => by
  rw [Bf]
  split
  ·simp [JS fa fb r ((y, d) :: t)]; omega
  ·simp [JS fa fb ((x, c) :: r) t]; omega
 termination_by a b => a.length + b.length
theorem VU : ∀ Fs : List Fut, (BU Fs).l.length = (Fs.map fun F => F.l.length).sum
 | [] => rfl
 | F :: Fs => by simp [BU, VU Fs]
theorem A1m (k o n : Int) (F : Fut) (hk : 3 ≤ k ∧ k ≤ 12) : (B6 k o n F).l.length ≤ (if k = 5 then min n.toNat F.l.length else if k = 12 then n.toNat * F.l.length else F.l.length) := by
 unfold B6
 by_cases h3 : k = 3
 ·subst h3; simp
 by_cases h4 : k = 4
 ·subst h4; simpa using List.length_filter_le _ _
 by_cases h5 : k = 5
 ·subst h5; simp [Ui]
 by_cases h6 : k = 6
 ·subst h6; simp
 by_cases h7 : k = 7
 ·subst h7; simpa using (Rt _ _ _).length_le
 by_cases h8 : k = 8
 ·subst h8; simpa using (RM _ _).length_le
 by_cases h9 : k = 9
 ·subst h9; simp [Vc]
 by_cases h10 : k = 10
 ·subst h10; simpa using Rp _ _ _ _
 by_cases h11 : k = 11
 ·subst h11; simpa using (OK _ _).length_le
 have h12 : k = 12 := by omega
 subst h12
 simp only [FR]
 simp
 split
 ·simp
 ·rename_i hn
  simp [Sj]
  obtain ⟨m, hm⟩ : ∃ m, n.toNat = m + 1 := ⟨n.toNat - 1, by omega⟩
  rw [hm, Nat.succ_mul]; simp; omega
theorem rgE.sub {l m : Ad} (h : rgE m) (k : l.Sublist m) : rgE l := fun e he => h e (k.subset he)
theorem rgE.map {l : Ad} (f : Int → Int) (h : ∀ x, 0 ≤ x ∧ x ≤ 9999 → 0 ≤ f x ∧ f x ≤ 9999) (k : rgE l) : rgE (l.map fun e => (f e.1, e.2)) := fun e he => by
 obtain ⟨y, hy, rfl⟩ := List.mem_map.1 he
 exact h _ (k y hy)
theorem rgE.sca {f : Int → Int → Int} (hf : ∀ x y, 0 ≤ x ∧ x ≤ 9999 → 0 ≤ y ∧ y ≤ 9999 → 0 ≤ f x y ∧ f x y ≤ 9999) : ∀ {n : Int} {l : Ad}, 0 ≤ n ∧ n ≤ 9999 → rgE l → rgE (IT f n l)
 | _, [], _, _ => rgE.nil
 | n, (x, c) :: r, hn, h => rgE.cons (hf _ _ hn h.hd) (rgE.sca hf (hf _ _ hn h.hd) h.tl)
theorem RK {f : Int → Int → Int} (hf : ∀ x y, 0 ≤ x ∧ x ≤ 9999 → 0 ≤ y ∧ y ≤ 9999 → 0 ≤ f x y ∧ f x y ≤ 9999) : ∀ (l : List Int) (a : Int), (0 ≤ a ∧ a ≤ 9999) → (∀ x ∈ l, 0 ≤ x ∧ x ≤ 9999) → 0 ≤ l.foldl f a ∧ l.foldl f a ≤ 9999
 | [], a, h, _ => h
 | x :: r, a, h, k => RK hf r (f a x) (hf _ _ h (k x List.mem_cons_self)) fun y hy => k y (List.mem_cons_of_mem _ hy)
theorem Sn {f : Int → Int → Int} (hf : ∀ x y, 0 ≤ x ∧ x ≤ 9999 → 0 ≤ y ∧ y ≤ 9999 → 0 ≤ f x y ∧ f x y ≤ 9999) : ∀ (l : List Int), (∀ x ∈ l, 0 ≤ x ∧ x ≤ 9999) → 0 ≤ G0 f l ∧ G0 f l ≤ 9999
 | [], _ => by simp [G0]
 | x :: r, k => RK hf r x (k x List.mem_cons_self) fun y hy => k y (List.mem_cons_of_mem _ hy)
theorem rgE.win {f : Int → Int → Int} (hf : ∀ x y, 0 ≤ x ∧ x ≤ 9999 → 0 ≤ y ∧ y ≤ 9999 → 0 ≤ f x y ∧ f x y ≤ 9999) (N : Nat) : ∀ {last : List Int} {l : Ad}, (∀ x ∈ last, 0 ≤ x ∧ x ≤ 9999) → rgE l → rgE (EB f N last l)
 | _, [], _, _ => rgE.nil
 | last, (x, c) :: r, hl, h => by
  have h1 : ∀ y ∈ last ++ [x], 0 ≤ y ∧ y ≤ 9999 := fun y hy => by
   rcases List.mem_append.1 hy with hy | hy
   ·exact hl y hy
   ·simp at hy; subst hy; exact h.hd
  simp only [EB]
  split
  ·exact rgE.win hf N h1 h.tl
  ·have h2 : ∀ y ∈ (last ++ [x]).drop (last.length + 1 - N), 0 ≤ y ∧ y ≤ 9999 := fun y hy => h1 y (List.mem_of_mem_drop hy)
   exact rgE.cons (Sn hf _ h2) (rgE.win hf N h2 h.tl)
theorem rgE.rep {xs : List Int} {fin : AQ} (h : ∀ x ∈ xs, 0 ≤ x ∧ x ≤ 9999) : ∀ n, rgE (DJ xs fin n)
 | 0 => rgE.nil
 | n + 1 => by
  rw [DJ]
  refine rgE.app (fun e he => ?_) (rgE.rep h n)
  obtain ⟨x, hx, rfl⟩ := List.mem_map.1 he
  exact h x hx
theorem rgE.tur : ∀ (m : Nat) (q : List (Nat × Ad × AQ)) (cs : List AQ), (∀ e ∈ q, rgE e.2.1) → rgE (E6 m q cs).1
 | 0, _, _, _ => rgE.nil
 | _ + 1, [], _, _ => rgE.nil
 | m + 1, (i, [], fin) :: q, cs, h => rgE.tur m q _ fun e he => h e (List.mem_cons_of_mem _ he)
 | m + 1, (i, (x, c) :: r, fin) :: q, cs, h => by
  have h1 := h _ List.mem_cons_self
  refine rgE.cons h1.hd (rgE.tur m _ _ fun e he => ?_)
  rcases List.mem_append.1 he with he | he
  ·exact h e (List.mem_cons_of_mem _ he)
  ·simp at he; subst he; exact h1.tl
theorem rgE.zip {f : Int → Int → Int} (hf : ∀ x y, 0 ≤ x ∧ x ≤ 9999 → 0 ≤ y ∧ y ≤ 9999 → 0 ≤ f x y ∧ f x y ≤ 9999) (fa fb : AQ) : ∀ {a : Ad} {cb : AQ} {b : Ad}, rgE a → rgE b → rgE (De f fa fb a cb b).1
 | [], _, _, _, _ => rgE.nil
 | (_, _) :: _, _, [], _, _ => rgE.nil
 | (x, c) :: r, _, (y, d) :: t, h, k => rgE.cons (hf _ _ h.hd k.hd) (rgE.zip hf fa fb h.tl k.tl)
theorem rgE.mer (fa fb : AQ) : ∀ {a b : Ad}, rgE a → rgE b → rgE (Bf fa fb a b)
 | [], [], _, _ => by rw [Bf]; exact rgE.nil
 | [], (y, d) :: t, h, k => by rw [Bf]; exact rgE.cons k.hd (rgE.mer fa fb h k.tl)
 | (x, c) :: r, [], h, k => by rw [Bf]; exact rgE.cons h.hd (rgE.mer fa fb h.tl k)
 | (x, c) :: r, (y, d) :: t, h, k => by
  rw [Bf]
  split
  ·exact rgE.cons h.hd (rgE.mer fa fb h.tl k)
  ·exact rgE.cons k.hd (rgE.mer fa fb h k.tl)
 termination_by a b => a.length + b.length
theorem rgE.cha : ∀ {Fs : List Fut}, (∀ F ∈ Fs, rgE F.l) → rgE (BU Fs).l
 | [], _ => rgE.nil
 | F :: Fs, h => by
  have h1 := h F List.mem_cons_self
  have h2 := rgE.cha fun G hG => h G (List.mem_cons_of_mem _ hG)
  refine rgE.app (fun e he => ?_) (fun e he => ?_)
  ·obtain ⟨y, hy, rfl⟩ := List.mem_map.1 he; exact h1 y hy
  ·obtain ⟨y, hy, rfl⟩ := List.mem_map.1 he; exact h2 y hy
theorem PR {o : Int} (ho : 1 ≤ o ∧ o ≤ 5) : ∀ x y, 0 ≤ x ∧ x ≤ 9999 → 0 ≤ y ∧ y ≤ 9999 → 0 ≤ CH o x y ∧ CH o x y ≤ 9999 := fun x y hx hy => YD hx hy (by omega)
theorem VV {k : Int} : ∀ {v : List Int} {i : Nat}, k ≠ 2 → B5 k i v = true → ∀ x ∈ v, 0 ≤ x ∧ x ≤ 9999
 | [], _, _, _, x, hx => by cases hx
 | y :: r, i, hk, h, x, hx => by
  simp only [B5, Bool.and_eq_true] at h
  rcases List.mem_cons.1 hx with e | hx
  ·rw [e]; have := h.1; simp [Fw, hk] at this; omega
  ·exact VV hk h.2 x hx
theorem A12 {a b c : Int} (ha : 0 ≤ a) (hb : b ≤ 10000) (hc : 1 ≤ c) : ∀ x ∈ E7 [a, b, c], 0 ≤ x ∧ x ≤ 9999 := by
 intro x hx
 simp only [E7, List.mem_map, List.mem_range, Eg] at hx
 obtain ⟨i, hi, rfl⟩ := hx
 have h0 : 0 ≤ (i : Int) * c := Int.mul_nonneg (by omega) (by omega)
 have h1 : (i : Int) + 1 ≤ (b - a + c - 1) / c := by omega
 have h2 := Int.mul_le_of_le_ediv (a := (i : Int) + 1) (by omega : 0 < c) h1
 rw [Int.add_mul] at h2
 omega
theorem A3e {k o n : Int} {v : List Int} {p : List St} (h : NodeOk k o n v p) (hk : 3 ≤ k ∧ k ≤ 12) {F : Fut} (hF : rgE F.l) : rgE (B6 k o n F).l := by
 unfold B6
 by_cases h3 : k = 3
 ·subst h3
  have hn := h.num (by decide)
  have ho := h.fn (by decide)
  simp only [Io, Iv, Cj] at hn
  rw [if_pos rfl]
  exact hF.map (fun x => CH o x n) fun x hx => YD hx (by grind) (by grind)
 by_cases h4 : k = 4
 ·subst h4; exact hF.sub List.filter_sublist
 by_cases h5 : k = 5
 ·subst h5; simp only [A2d]; exact hF.sub (List.take_sublist _ _)
 by_cases h6 : k = 6
 ·subst h6; exact hF.sub (List.drop_sublist _ _)
 by_cases h7 : k = 7
 ·subst h7; exact hF.sub (Rt _ _ _)
 by_cases h8 : k = 8
 ·subst h8; exact hF.sub (RM _ _)
 by_cases h9 : k = 9
 ·subst h9
  have hn := h.num (by decide)
  have ho := h.fn (by decide)
  simp only [Io, Iv, Cj] at hn
  exact rgE.sca (PR (by omega)) (by grind) hF
 by_cases h10 : k = 10
 ·subst h10
  have ho := h.fn (by decide)
  exact rgE.win (PR (by omega)) _ (by simp) hF
 by_cases h11 : k = 11
 ·subst h11; exact hF.sub (OK _ _)
 have h12 : k = 12 := by omega
 subst h12
 show rgE (FR n.toNat F).l
 unfold FR
 split
 ·exact rgE.nil
 ·exact rgE.app hF (rgE.rep (fun x hx => by obtain ⟨e, he, rfl⟩ := List.mem_map.1 hx; exact hF e he) _)
theorem Zp {k o n : Int} {v : List Int} {p : List St} (h : NodeOk k o n v p) (hp : ∀ s ∈ p, (AR s).l.length ≤ Ac s ∧ rgE (AR s).l) : (DZ k o n v (BA p)).l.length ≤ Ei k n v (Of p) ∧ rgE (DZ k o n v (BA p)).l := by
 by_cases h1 : k = 1
 ·subst h1
  refine ⟨by simp [DZ, EK, Rq, Ei], fun e he => VV (by decide) h.vals e.1 (Rs _ _ e (by simpa [DZ, EK] using he))⟩
 by_cases h2 : k = 2
 ·subst h2
  obtain ⟨a, b, c, rfl, ha, ha', hb, hb', hc, hc'⟩ := JA (h.rng rfl) h.vals
  refine ⟨by simp [DZ, EK, Rq, Ei, E7], fun e he => A12 ha hb' hc e.1 (Rs _ _ e (by simpa [DZ, EK] using he))⟩
 have hsum : ((p.map AR).map fun F => F.l.length).sum ≤ (p.map Ac).sum := by
  clear h
  induction p with
  | nil => simp
  | cons s r ih =>
   have h3 := (hp s List.mem_cons_self).1
   have h4 := ih fun x hx => hp x (List.mem_cons_of_mem _ hx)
   simp only [List.map_cons, List.sum_cons]; omega
 by_cases h13 : k = 13
 ·subst h13
  have e : DZ 13 o n v (BA p) = BU (p.map AR) := by simp [DZ, D5]
  rw [e, VU]
  refine ⟨by simpa [Ei, Hm] using hsum, rgE.cha fun F hF => ?_⟩
  obtain ⟨s, hs, rfl⟩ := List.mem_map.1 hF
  exact (hp s hs).2
 by_cases h14 : k = 14
 ·subst h14
  have e : DZ 14 o n v (BA p) = Dc (p.map AR) := by simp [DZ, D5]
  rw [e]
  refine ⟨?_, ?_⟩
  ·refine Nat.le_trans (R6 _ _ _) ?_
   have e2 : (((p.map AR).zipIdx.map fun x => (x.2, x.1.l, x.1.fin)).map fun e => e.2.1.length) = (p.map AR).map fun F => F.l.length := by
    rw [List.map_map]
    have : ((fun (e : Nat × Ad × AQ) => e.2.1.length) ∘ fun (x : Fut × Nat) => (x.2, x.1.l, x.1.fin)) = (fun F => F.l.length) ∘ Prod.fst := rfl
    rw [this, ← List.map_map, List.zipIdx_map_fst]
   rw [e2]
   simpa [Ei, Hm] using hsum
  ·refine rgE.tur _ _ _ fun e he => ?_
   obtain ⟨⟨F, i⟩, hm, rfl⟩ := List.mem_map.1 he
   obtain ⟨s, hs, e2⟩ := List.mem_map.1 (List.fst_mem_of_mem_zipIdx hm)
   simp only at e2 ⊢
   rw [← e2]
   exact (hp s hs).2
 by_cases h15 : k = 15
 ·subst h15
  have hl := h.two (.inl rfl)
  obtain ⟨x, y, rfl⟩ : ∃ x y, p = [x, y] := by
   match p, hl with
   | [x, y], _ => exact ⟨x, y, rfl⟩
  ·have hx := hp x (by simp)
   have hy := hp y (by simp)
   have e : (DZ 15 o n v (BA [x, y])).l = (De (CH o) (AR x).fin (AR y).fin (AR x).l (AR y).cur (AR y).l).1 := by simp [DZ, BA]
   rw [e]
   refine ⟨Nat.le_trans (Ut _ _ _ _ _ _) (by simp [Ei, Of]; omega), rgE.zip (PR ?_) _ _ hx.2 hy.2⟩
   have := h.fn (by decide)
   omega
 by_cases h16 : k = 16
 ·subst h16
  have hl := h.two (.inr rfl)
  obtain ⟨x, y, rfl⟩ : ∃ x y, p = [x, y] := by
   match p, hl with
   | [x, y], _ => exact ⟨x, y, rfl⟩
  ·have hx := hp x (by simp)
   have hy := hp y (by simp)
   have e : (DZ 16 o n v (BA [x, y])).l = Bf (AR x).fin (AR y).fin (AR x).l (AR y).l := by simp [DZ, BA]
   rw [e]
   exact ⟨by rw [JS]; simp [Ei, Of]; omega, rgE.mer _ _ hx.2 hy.2⟩
 have hl := h.one h1 h2 h13 h14 h15 h16
 have hk : 3 ≤ k ∧ k ≤ 12 := by have := h.k1; have := h.k2; omega
 obtain ⟨x, rfl⟩ : ∃ x, p = [x] := by
  match p, hl with
  | [x], _ => exact ⟨x, rfl⟩
 ·have hx := hp x (by simp)
  have e : DZ k o n v (BA [x]) = B6 k o n (AR x) := by simp [DZ, BA, h1, h2, h13, h14]
  rw [e]
  refine ⟨Nat.le_trans (A1m k o n _ hk) ?_, A3e h hk hx.2⟩
  simp only [Ei, Of, if_neg h1, if_neg h2, if_neg h15]
  simp
  split
  ·omega
  ·split
   ·exact Nat.mul_le_mul_left _ hx.1
   ·exact hx.1
theorem IN (s : St) : T8 s → (AR s).l.length ≤ Ac s ∧ rgE (AR s).l := by
 refine St.ind (Q := fun s => T8 s → (AR s).l.length ≤ Ac s ∧ rgE (AR s).l) ?_ s
 intro k o n v p ih ⟨hn, hp⟩
 rw [AR, Ac]
 exact Zp (Hk hn) fun s hs => ih s hs (GM hp s hs)
def asks (x : AV) (n : Nat) (H : A1) (R : DD) : Prop := match x with
 | .fn f a b => Ae Tryz.prog f = true ∧ ACalls Tryz.prog f (a ++ [] ++ b) n H R
 | _ => False
def Ci (cs : AQ) (lo : Nat) (c : AQ) : AQ := cs.take lo ++ c ++ cs.drop (lo + c.length)
theorem Y1 {cs : AQ} {lo : Nat} {c : AQ} (h : lo + c.length ≤ cs.length) : (Ci cs lo c).length = cs.length := by simp [Ci]; omega
structure Giv (gO lo : Nat) (c : AQ) (H : A1) (gg : Nat) (cs : AQ) : Prop where
 opn : H gO = some (.cells 74 [.slg 1 gg cs.length])
 giv : H gg = some (.grow 3 (cs.map aI))
 fit : lo + c.length ≤ cs.length
 at_ : (cs.drop lo).take c.length = c
structure Aft (lo gg : Nat) (cs c : AQ) (O : Nat → Prop) (n : Nat) (H : A1) (n' : Nat) (H' : A1) (O' : Nat → Prop) : Prop where
 le : n ≤ n'
 sub : ∀ g, O' g → O g ∨ n ≤ g
 bel : ∀ g, O' g → g < n'
 fr : ∀ g, g < n → ¬ O g → g ≠ gg → H' g = H g
 giv : H' gg = some (.grow 3 ((Ci cs lo c).map aI))
def Ended (gO lo : Nat) (fin : AQ) (x : AV) (O : Nat → Prop) (H0 : A1) (n0 : Nat) : Prop := ∀ n H gg cs, n0 ≤ n → (∀ g, O g → H g = H0 g) → ¬ O gg → ¬ O gO → Giv gO lo fin H gg cs →
 asks x n H fun r n' H' => r = .tup [aI 0, .bool false] ∧ n' = n ∧ H' = H
def Raw (e : Bool) (gO lo : Nat) (fin : AQ) (x : AV) : Ad → AQ → (Nat → Prop) → A1 → Nat → Prop
 | [], cur, O, H0, n0 => ∀ n H gg cs, n0 ≤ n → (∀ g, O g → H g = H0 g) → ¬ O gg → ¬ O gO → Giv gO lo cur H gg cs →
  asks x n H fun r n' H' => ∃ (v : Int) (O' : Nat → Prop), r = .tup [aI v, .bool false] ∧ Aft lo gg cs fin O n H n' H' O' ∧ (e = true → Ended gO lo fin x O' H' n')
 | (y, c) :: l, cur, O, H0, n0 => ∀ n H gg cs, n0 ≤ n → (∀ g, O g → H g = H0 g) → ¬ O gg → ¬ O gO → Giv gO lo cur H gg cs →
  asks x n H fun r n' H' => ∃ (O' : Nat → Prop), r = .tup [aI y, .bool true] ∧ Aft lo gg cs c O n H n' H' O' ∧ Raw e gO lo fin x l c O' H' n'
def A6f (e : Bool) (gO lo : Nat) (fin : AQ) (x : AV) (gg : Nat) (cs : AQ) (O : Nat → Prop) (n : Nat) (H : A1) : DD := fun r n' H' => ∃ (v : Int) (O' : Nat → Prop), r = .tup [aI v, .bool false] ∧ Aft lo gg cs fin O n H n' H' O' ∧ (e = true → Ended gO lo fin x O' H' n')
def PEl (e : Bool) (gO lo : Nat) (fin : AQ) (x : AV) (gg : Nat) (cs : AQ) (O : Nat → Prop) (n : Nat) (H : A1) (y : Int) (c : AQ) (l : Ad) : DD := fun r n' H' => ∃ (O' : Nat → Prop), r = .tup [aI y, .bool true] ∧ Aft lo gg cs c O n H n' H' O' ∧ Raw e gO lo fin x l c O' H' n'
def Cz (e : Bool) (gO lo : Nat) (fin : AQ) (x : AV) (gg : Nat) (cs : AQ) (O : Nat → Prop) (n : Nat) (H : A1) : Ad → DD
 | [] => A6f e gO lo fin x gg cs O n H
 | (y, c) :: l => PEl e gO lo fin x gg cs O n H y c l
theorem Raw.of {e : Bool} {gO lo : Nat} {fin : AQ} {x : AV} {l : Ad} {cur : AQ} {O : Nat → Prop} {H0 : A1} {n0 : Nat} (h : ∀ n H gg cs, n0 ≤ n → (∀ g, O g → H g = H0 g) → ¬ O gg → ¬ O gO → Giv gO lo cur H gg cs → asks x n H (Cz e gO lo fin x gg cs O n H l)) : Raw e gO lo fin x l cur O H0 n0 := by
 cases l <;> exact h
theorem Raw.to {e : Bool} {gO lo : Nat} {fin : AQ} {x : AV} {l : Ad} {cur : AQ} {O : Nat → Prop} {H0 : A1} {n0 : Nat} (h : Raw e gO lo fin x l cur O H0 n0) : ∀ n H gg cs, n0 ≤ n → (∀ g, O g → H g = H0 g) → ¬ O gg → ¬ O gO → Giv gO lo cur H gg cs → asks x n H (Cz e gO lo fin x gg cs O n H l) := by
 cases l <;> exact h
def A54 (n : Nat) (H : A1) : DD := fun r n' H' => r = .tup [aI 0, .bool false] ∧ n' = n ∧ H' = H
theorem Ended.at_ {gO lo : Nat} {fin : AQ} {x : AV} {O : Nat → Prop} {H0 H1 : A1} {n0 n1 : Nat} (h : Ended gO lo fin x O H0 n0) (hH : ∀ g, O g → H1 g = H0 g) (hn : n0 ≤ n1) : Ended gO lo fin x O H1 n1 :=
 fun n H gg cs h1 h2 => h n H gg cs (Nat.le_trans hn h1) fun g hg => (h2 g hg).trans (hH g hg)
theorem Raw.at_ {e : Bool} {gO lo : Nat} {fin : AQ} {x : AV} {l : Ad} {cur : AQ} {O : Nat → Prop} {H0 H1 : A1} {n0 n1 : Nat} (h : Raw e gO lo fin x l cur O H0 n0) (hH : ∀ g, O g → H1 g = H0 g) (hn : n0 ≤ n1) : Raw e gO lo fin x l cur O H1 n1 := by
 match l, h with
 | [], h => exact fun n H gg cs h1 h2 => h n H gg cs (Nat.le_trans hn h1) fun g hg => (h2 g hg).trans (hH g hg)
 | (y, c) :: l, h => exact fun n H gg cs h1 h2 => h n H gg cs (Nat.le_trans hn h1) fun g hg => (h2 g hg).trans (hH g hg)
structure GoOn (n : Nat) (R : DD) (K : AV → Nat → A1 → Prop) : Prop where
 go : ∀ r n' H', n ≤ n' → (∀ g, n' ≤ g → H' g = none) → R r n' H' → K r n' H'
theorem BS {x : AV} {n : Nat} {H : A1} {R : DD} {d : Option Nat} {K : AS → Prop} {en : AJ} (h : asks x n H R) (hk : GoOn n R fun r n' H' => K ⟨AC en d r, n', H'⟩) : AA Tryz.prog d K en n H [] x := by
 unfold asks at h
 split at h
 ·exact ⟨h.1, R, h.2, fun r n' H' h1 h2 h3 => hk.go r n' H' h1 h2 h3⟩
 ·exact h.elim
theorem Giv.put {gO lo gg : Nat} {c c' cs : AQ} {H H' : A1} (h : Giv gO lo c H gg cs) (hl : c'.length = c.length) (h1 : H' gO = H gO) (h2 : H' gg = some (.grow 3 ((Ci cs lo c').map aI))) : Giv gO lo c' H' gg (Ci cs lo c') := by
 have h3 := h.fit
 have h4 := Y1 (cs := cs) (lo := lo) (c := c') (by omega)
 refine ⟨by rw [h1, h.opn, h4], h2, by rw [h4]; omega, ?_⟩
 unfold Ci
 rw [List.append_assoc, List.drop_append_of_le_length (by simp; omega)]
 have : (cs.take lo).drop lo = [] := List.drop_eq_nil_of_le (by simp; omega)
 rw [this]
 simp
theorem C6 {cs c c' : AQ} {lo : Nat} (h : lo + c.length ≤ cs.length) (hl : c'.length = c.length) : Ci (Ci cs lo c) lo c' = Ci cs lo c' := by
 unfold Ci
 have h1 : (cs.take lo ++ c ++ cs.drop (lo + c.length)).take lo = cs.take lo := by
  rw [List.append_assoc, List.take_append_of_le_length (by simp; omega), List.take_take, Nat.min_self]
 have h2 : (cs.take lo ++ c ++ cs.drop (lo + c.length)).drop (lo + c'.length) = cs.drop (lo + c.length) := by
  rw [List.drop_append]
  have : (cs.take lo ++ c).drop (lo + c'.length) = [] := List.drop_eq_nil_of_le (by simp; omega)
  rw [this]
  have : lo + c'.length - (cs.take lo ++ c).length = 0 := by simp; omega
  rw [this]; simp
 rw [h1, h2, hl]
theorem Dx {gO lo gg : Nat} {c cs : AQ} {H : A1} (h : Giv gO lo c H gg cs) : Ci cs lo c = cs := by
 unfold Ci
 have h1 : c = (cs.drop lo).take c.length := h.at_.symm
 conv => lhs; rw [h1]
 have h2 : ((cs.drop lo).take c.length).length = c.length := by have := h.fit; simp; omega
 rw [h2, List.append_assoc, ← List.drop_drop, List.take_append_drop, List.take_append_drop]
theorem Giv.lt {gO lo gg n : Nat} {c cs : AQ} {H : A1} (h : Giv gO lo c H gg cs) (hs : ∀ g, n ≤ g → H g = none) : gO < n ∧ gg < n := by
 refine ⟨?_, ?_⟩
 ·rcases Nat.lt_or_ge gO n with h1 | h1
  ·exact h1
  ·have := h.opn; rw [hs gO h1] at this; cases this
 ·rcases Nat.lt_or_ge gg n with h1 | h1
  ·exact h1
  ·have := h.giv; rw [hs gg h1] at this; cases this
theorem Giv.keep {gO lo gg g : Nat} {c cs : AQ} {H : A1} {x : Option AObj} (h : Giv gO lo c H gg cs) (h1 : gO ≠ g) (h2 : gg ≠ g) : Giv gO lo c (upd H g x) gg cs :=
 ⟨by rw [upd_ne h1]; exact h.opn, by rw [upd_ne h2]; exact h.giv, h.fit, h.at_⟩
theorem Giv.ne {gO lo gg : Nat} {c cs : AQ} {H : A1} (h : Giv gO lo c H gg cs) : gO ≠ gg := by
 intro e
 have h1 := h.opn
 rw [e, h.giv] at h1
 cases h1
theorem Aft.same {gO lo gg n : Nat} {c cs : AQ} {H : A1} {O : Nat → Prop} (h : Giv gO lo c H gg cs) (hb : ∀ g, O g → g < n) : Aft lo gg cs c O n H n H O :=
 ⟨Nat.le_refl _, fun g h => .inl h, hb, fun g _ _ _ => rfl, by rw [Dx h]; exact h.giv⟩
theorem Aft.tr {gO lo gg n n1 n2 : Nat} {cs c c1 c2 : AQ} {H H1 H2 : A1} {O O1 O2 : Nat → Prop} (hg : Giv gO lo c H gg cs) (h : Aft lo gg cs c1 O n H n1 H1 O1) (k : Aft lo gg (Ci cs lo c1) c2 O1 n1 H1 n2 H2 O2) (l1 : c1.length = c.length) (l2 : c2.length = c.length) : Aft lo gg cs c2 O n H n2 H2 O2 := by
 refine ⟨Nat.le_trans h.le k.le, fun g h1 => ?_, k.bel, fun g h1 h2 h3 => ?_, ?_⟩
 ·rcases k.sub g h1 with h2 | h2
  ·exact h.sub g h2
  ·exact .inr (Nat.le_trans h.le h2)
 ·have h4 : ¬ O1 g := fun h4 => (h.sub g h4).elim h2 (fun h => by omega)
  rw [k.fr g (Nat.lt_of_lt_of_le h1 h.le) h4 h3, h.fr g h1 h2 h3]
 ·rw [k.giv, C6 (by have := hg.fit; omega) (by omega)]
theorem Aft.gv {gO lo gg n n' : Nat} {cs c c1 : AQ} {H H' : A1} {O O' : Nat → Prop} (ha : Aft lo gg cs c1 O n H n' H' O') (hg : Giv gO lo c H gg cs) (hs : ∀ g, n ≤ g → H g = none) (h1 : ¬ O gO) (hl : c1.length = c.length) : Giv gO lo c1 H' gg (Ci cs lo c1) :=
 hg.put hl (ha.fr gO (hg.lt hs).1 h1 hg.ne) ha.giv
theorem Aft.nO {gO lo gg n n' : Nat} {cs c : AQ} {O O' : Nat → Prop} {H H' : A1} (ha : Aft lo gg cs c O n H n' H' O') (h1 : ¬ O gO) (h2 : gO < n) : ¬ O' gO := fun h => (ha.sub gO h).elim h1 (fun h => by omega)
theorem Aft.ext {B : Nat → Prop} {lo gg : Nat} {cs c : AQ} {O O' : Nat → Prop} {n n' : Nat} {H H1 H' H2 : A1} (ha : Aft lo gg cs c O n H1 n' H' O') (hB : ∀ g, B g → g < n) (hH1 : ∀ g, ¬ B g → H1 g = H g) (hH : ∀ g, ¬ B g → H2 g = H' g) (hg : ¬ B gg) :
  Aft lo gg cs c (fun g => O g ∨ B g) n H n' H2 (fun g => O' g ∨ B g) := by
 refine ⟨ha.le, fun g h => ?_, fun g h => ?_, fun g h1 h2 h3 => ?_, ?_⟩
 ·rcases h with h | h
  ·exact (ha.sub g h).elim (fun h => .inl (.inl h)) .inr
  ·exact .inl (.inr h)
 ·rcases h with h | h
  ·exact ha.bel g h
  ·have := hB g h; have := ha.le; omega
 ·rw [hH g fun h => h2 (.inr h)]; exact (ha.fr g h1 (fun h => h2 (.inl h)) h3).trans (hH1 g fun h => h2 (.inr h))
 ·rw [hH gg hg]; exact ha.giv
structure Bx (O : Nat → Prop) (gO g : Nat) (H : A1) (n : Nat) (ob : AObj) : Prop where
 no : ¬ O g
 nO : gO ≠ g
 lt : g < n
 at_ : H g = some ob
variable {gO g n0 n lo g1 g2 : Nat} {O : Nat → Prop} {H0 H : A1} {ob : AObj} {fin : AQ}
theorem Bx.to (h : Bx O gO g H0 n0 ob) (hn : n0 ≤ n) (hag : H g = H0 g) : Bx O gO g H n ob := ⟨h.no, h.nO, Nat.lt_of_lt_of_le h.lt hn, hag.trans h.at_⟩
theorem Bx.go {lo gg g gO : Nat} {cs c : AQ} {O O' : Nat → Prop} {n n' : Nat} {H H' : A1} (h : Bx O gO g H n ob) (hg : gg ≠ g) (ha : Aft lo gg cs c O n H n' H' O') : Bx O' gO g H' n' ob := by
 have h1 := h.lt
 have h2 := ha.le
 exact ⟨fun h => (ha.sub g h).elim ‹Bx O gO g H n ob›.no (fun h => by omega), h.nO, by omega, (ha.fr g h1 h.no (Ne.symm hg)).trans h.at_⟩
theorem Bx.set (ob' : AObj) (h : Bx O gO g H n ob) : Bx O gO g (upd H g (some ob')) n ob' := ⟨h.no, h.nO, h.lt, AP _ _ _⟩
theorem Bx.keep {gO g g' : Nat} {x : Option AObj} (h : Bx O gO g H n ob) (hn : g ≠ g') : Bx O gO g (upd H g' x) n ob := ⟨h.no, h.nO, h.lt, by rw [upd_ne hn]; exact h.at_⟩
theorem QK {d : Option Nat} {K : AS → Prop} {en : AJ} {xs a b : List AV} {f : Nat} : AA Tryz.prog d K en n H xs (.fn f a b) = (Ae Tryz.prog f = true ∧ CallK Tryz.prog f (a ++ xs ++ b) d K ⟨en, n, H⟩) := rfl
abbrev Ah (k o m : Int) (a b : AV) : AObj := .cells 25 [aI k, aI o, aI m, a, b]
abbrev Bg (x : AV) : AObj := .cells 76 [x]
abbrev BW (i : Int) : AObj := .cells 3 [aI i]
abbrev GT (b : Bool) : AObj := .cells 4 [.bool b]
theorem OW : Ae Tryz.prog 96 = true := by kernel_rfl
theorem ZO (o1 : O g1) (b1 : H0 g1 = some (GT true)) :
  Ended gO lo fin (.fn 96 [] [.ptr g1 0, .ptr g2 0]) O H0 n0 := by
 intro n H gg cs hn hag hgg hgO hgv
 have q1 := (hag g1 o1).trans b1
 refine ⟨OW, ?_⟩
 show ACalls _ _ _ _ _ (A54 n H)
 refine A2 Tryz.func96 Y2 rfl fun hs => ?_
 repeat' (first | simp -implicitDefEqProofs [Jz, c96, -getElem?_pos, q1] | simp (disch := omega) only [A6] | (with_reducible first | exact AG | refine Bb ?_ | intro _g _hg | refine A5 ?_ ?_ | intro _hc) | omega)
 exact A9 (r := .tup [_, _]) rfl (by omega) hs ⟨rfl, rfl, rfl⟩
theorem ZV {px : AV} (n12 : g1 ≠ g2) : ∀ (l : Ad) (cur : AQ) (O : Nat → Prop) (H0 : A1) (n0 : Nat), Raw false gO lo fin px l cur O H0 n0 → ¬ O gO → (∀ g, O g → g < n0) →
  Bx O gO g1 H0 n0 (GT false) → Bx O gO g2 H0 n0 (Bg px) → Raw true gO lo fin (.fn 96 [] [.ptr g1 0, .ptr g2 0]) l cur (fun g => O g ∨ g = g1 ∨ g = g2) H0 n0 := by
 intro l
 induction l with
 | nil =>
  intro cur O H0 n0 hr noO hbel B1 B2
  refine Raw.of fun n H gg cs hn hag hgg hgO hgv => ?_
  replace B1 := B1.to hn (hag g1 (.inr (.inl rfl)))
  have q1 := B1.at_
  have ng1 : gg ≠ g1 := fun h => hgg (.inr (.inl h))
  replace B2 := B2.to hn (hag g2 (.inr (.inr rfl)))
  have q2 := B2.at_
  have ng2 : gg ≠ g2 := fun h => hgg (.inr (.inr h))
  have nog : ¬ O gg := fun h => hgg (.inl h)
  replace hbel : ∀ g, O g → g < n := fun g h => Nat.lt_of_lt_of_le (hbel g h) hn
  replace hr := hr.at_ (fun g hg => hag g (.inl hg)) hn
  refine ⟨OW, ?_⟩
  have hc := hr.to n H gg cs (Nat.le_refl _) (fun _ _ => rfl) nog noO hgv
  generalize hR : Cz _ _ _ _ _ _ _ _ _ _ _ = R
  refine A2 Tryz.func96 Y2 rfl fun hs => ?_
  repeat' (first | simp -implicitDefEqProofs [Jz, c96, -getElem?_pos, q1, q2, splice, -AA] | simp (disch := omega) only [A6] | (refine BS hc ⟨?_⟩; rintro r n' H' hle hsup ⟨v, O', rfl, ha, _⟩; have B1' := B1.go ng1 ha; have B2' := B2.go ng2 ha; have q1 := B1'.at_; have q2 := B2'.at_) | (with_reducible first | exact AG | refine Bb ?_ | intro _g _hg | refine A5 ?_ ?_ | intro _hc) | omega)
  subst hR
  have := B1'.lt
  exact A9 (r := .tup [_, _]) rfl (by omega) (fun k hk => by rw [upd_ne (by omega)]; exact hsup k hk) ⟨v, _, rfl, ((ha).ext (B := fun g => g = g1 ∨ g = g2) (fun g h => by have := B1.lt; have := B2.lt; rcases h with rfl | rfl <;> omega) (fun _ _ => rfl) (fun g h => by rw [upd_ne (fun e => h (.inl e))]) (fun h => h.elim ng1 ng2)), fun _ => ZO (.inr (.inl rfl)) (AP _ _ _)⟩
 | cons e l ih =>
  obtain ⟨y, c⟩ := e
  intro cur O H0 n0 hr noO hbel B1 B2
  refine Raw.of fun n H gg cs hn hag hgg hgO hgv => ?_
  replace B1 := B1.to hn (hag g1 (.inr (.inl rfl)))
  have q1 := B1.at_
  have ng1 : gg ≠ g1 := fun h => hgg (.inr (.inl h))
  replace B2 := B2.to hn (hag g2 (.inr (.inr rfl)))
  have q2 := B2.at_
  have ng2 : gg ≠ g2 := fun h => hgg (.inr (.inr h))
  have nog : ¬ O gg := fun h => hgg (.inl h)
  replace hbel : ∀ g, O g → g < n := fun g h => Nat.lt_of_lt_of_le (hbel g h) hn
  replace hr := hr.at_ (fun g hg => hag g (.inl hg)) hn
  refine ⟨OW, ?_⟩
  have hc := hr.to n H gg cs (Nat.le_refl _) (fun _ _ => rfl) nog noO hgv
  generalize hR : Cz _ _ _ _ _ _ _ _ _ _ _ = R
  refine A2 Tryz.func96 Y2 rfl fun hs => ?_
  repeat' (first | simp -implicitDefEqProofs [Jz, c96, -getElem?_pos, q1, q2, splice, -AA] | simp (disch := omega) only [A6] | (refine BS hc ⟨?_⟩; rintro r n' H' hle hsup ⟨O', rfl, ha, hr'⟩; have B1' := B1.go ng1 ha; have B2' := B2.go ng2 ha; have q1 := B1'.at_; have q2 := B2'.at_) | (with_reducible first | exact AG | refine Bb ?_ | intro _g _hg | refine A5 ?_ ?_ | intro _hc) | omega)
  subst hR
  have := B1'.lt
  exact A9 (r := .tup [_, _]) rfl (by omega) (fun k hk => by rw [upd_ne (by omega)]; exact hsup k hk) ⟨_, rfl, ((ha).ext (B := fun g => g = g1 ∨ g = g2) (fun g h => by have := B1.lt; have := B2.lt; rcases h with rfl | rfl <;> omega) (fun _ _ => rfl) (fun g h => by rw [upd_ne (fun e => h (.inl e))]) (fun h => h.elim ng1 ng2)), ih c O' _ n' (hr'.at_ (fun g hg => upd_ne (fun h => B1'.no (h ▸ hg))) (Nat.le_refl _)) (ha.nO noO (hgv.lt hs).1) ha.bel (B1'.set _) (B2'.keep (Ne.symm n12))⟩
theorem Uz : Ae Tryz.prog 104 = true := by kernel_rfl
theorem A0h {px a b : AV} {k op m : Int} (hop : 1 ≤ op ∧ op ≤ 6) (hm : AW m) (h6 : op = 6 → 1 ≤ m) : ∀ (l : Ad) (cur : AQ) (O : Nat → Prop) (H0 : A1) (n0 : Nat), Raw true gO lo fin px l cur O H0 n0 → rgE l → ¬ O gO → (∀ g, O g → g < n0) →
  Bx O gO g1 H0 n0 (Bg px) → Bx O gO g2 H0 n0 (Ah k op m a b) → Raw false gO lo fin (.fn 104 [] [.ptr g1 0, .ptr g2 0]) (l.map fun e => (CH op e.1 m, e.2)) cur (fun g => O g ∨ g = g1 ∨ g = g2) H0 n0 := by
 intro l
 induction l with
 | nil =>
  intro cur O H0 n0 hr hrg noO hbel B1 B2
  refine Raw.of fun n H gg cs hn hag hgg hgO hgv => ?_
  replace B1 := B1.to hn (hag g1 (.inr (.inl rfl)))
  have q1 := B1.at_
  have ng1 : gg ≠ g1 := fun h => hgg (.inr (.inl h))
  replace B2 := B2.to hn (hag g2 (.inr (.inr rfl)))
  have q2 := B2.at_
  have ng2 : gg ≠ g2 := fun h => hgg (.inr (.inr h))
  have nog : ¬ O gg := fun h => hgg (.inl h)
  replace hbel : ∀ g, O g → g < n := fun g h => Nat.lt_of_lt_of_le (hbel g h) hn
  replace hr := hr.at_ (fun g hg => hag g (.inl hg)) hn
  refine ⟨Uz, ?_⟩
  have hc := hr.to n H gg cs (Nat.le_refl _) (fun _ _ => rfl) nog noO hgv
  generalize hR : Cz _ _ _ _ _ _ _ _ _ _ _ = R
  refine A2 Tryz.func104 Yn rfl fun hs => ?_
  repeat' (first | simp -implicitDefEqProofs [Ox, A38, -getElem?_pos, q1, q2, splice, -AA] | simp (disch := omega) only [A6] | (refine BS hc ⟨?_⟩; rintro r n' H' hle hsup ⟨v, O', rfl, ha, _⟩) | (with_reducible first | exact AG | refine Bb ?_ | intro _g _hg | refine A5 ?_ ?_ | intro _hc) | omega)
  subst hR
  exact A9 (r := .tup [_, _]) rfl (by omega) hsup ⟨0, _, rfl, ((ha).ext (B := fun g => g = g1 ∨ g = g2) (fun g h => by have := B1.lt; have := B2.lt; rcases h with rfl | rfl <;> omega) (fun _ _ => rfl) (fun _ _ => rfl) (fun h => h.elim ng1 ng2)), fun h => by cases h⟩
 | cons e l ih =>
  obtain ⟨y, c⟩ := e
  intro cur O H0 n0 hr hrg noO hbel B1 B2
  refine Raw.of fun n H gg cs hn hag hgg hgO hgv => ?_
  replace B1 := B1.to hn (hag g1 (.inr (.inl rfl)))
  have q1 := B1.at_
  have ng1 : gg ≠ g1 := fun h => hgg (.inr (.inl h))
  replace B2 := B2.to hn (hag g2 (.inr (.inr rfl)))
  have q2 := B2.at_
  have ng2 : gg ≠ g2 := fun h => hgg (.inr (.inr h))
  have nog : ¬ O gg := fun h => hgg (.inl h)
  replace hbel : ∀ g, O g → g < n := fun g h => Nat.lt_of_lt_of_le (hbel g h) hn
  replace hr := hr.at_ (fun g hg => hag g (.inl hg)) hn
  refine ⟨Uz, ?_⟩
  have hc := hr.to n H gg cs (Nat.le_refl _) (fun _ _ => rfl) nog noO hgv
  have hap := OL op y m hop hrg.hd hm h6
  generalize hR : Cz _ _ _ _ _ _ _ _ _ _ _ = R
  refine A2 Tryz.func104 Yn rfl fun hs => ?_
  repeat' (first | simp -implicitDefEqProofs [Ox, A38, -getElem?_pos, q1, q2, splice, -AA] | simp (disch := omega) only [A6] | (refine BS hc ⟨?_⟩; rintro r n' H' hle hsup ⟨O', rfl, ha, hr'⟩; have B1' := B1.go ng1 ha; have B2' := B2.go ng2 ha; have q2 := B2'.at_) | ((with_reducible refine AO 102 ?_); refine' Aa (hap) ?_) | (with_reducible first | exact AG | refine Bb ?_ | intro _g _hg | refine A5 ?_ ?_ | intro _hc) | omega)
  subst hR
  exact A9 (r := .tup [_, _]) rfl (by omega) hsup ⟨_, rfl, ((ha).ext (B := fun g => g = g1 ∨ g = g2) (fun g h => by have := B1.lt; have := B2.lt; rcases h with rfl | rfl <;> omega) (fun _ _ => rfl) (fun _ _ => rfl) (fun h => h.elim ng1 ng2)), ih c O' _ n' hr' hrg.tl (ha.nO noO (hgv.lt hs).1) ha.bel B1' B2'⟩
end Go.Proofs.YtjdccdelcnmocaaGreatDoor

/- Rules on plain data: lists, checks; no condition. -/
import Derived.Test.YtecpfmhminkalaaGreatDoorMgE
import Derived.Test.YtecpfmhminkalaaGreatDoorMdB
import Derived.Test.YtecpfmhminkalaaGreatDoorMrA
set_option linter.all false
set_option linter.unusedSimpArgs false
set_option linter.unusedVariables false
namespace Go.Proofs.YtecpfmhminkalaaGreatDoor
abbrev aL (l : List Int) : AV := .sl 1 (l.map aI) .ro
abbrev aWd (w : Int × Int) : AV := .agg [.int .i64 w.1, .int .i64 w.2]
abbrev aWs (l : List (Int × Int)) : AV := .sl 2 (l.map aWd) .ro
abbrev aRc (r : Rule) : List AV := [aI r.unit, aI r.step, aL r.months, aL r.mdays, aWs r.wdays, aL r.picks, aI r.count, aI r.untl]
abbrev aR (r : Rule) : AV := .agg (aRc r)
attribute [local simp] YL Z7 Z9 YM YN YO YP Z8 Z3 Z5 Z4 YQ YR YS YT YU YV YW YX YY YZ Ya Yb Yc Yd scV pe Ye Yf Yg Yh Yi Yj Yk Yl Ym Yn Yo spg_mv Yp Yq Yr Ys Yt Yu Yv Yw Yx Yy Yz X0 X1 X2 X3 X4 X5 X6 X7 X8 X9 spg_mm XA YD XB XC XD XE XF XG XH XI XJ XK XL XM XN XO XP XQ XR XS XT XU XV XW XX XY XZ YC Xa Xb Xc Xd Xe Xf Xg Xh Xi Xj Xk Xl Xm Xn Xo Xp Xq Xr Xs Xt Xu Xv Xw Xx List.mem_cons ZO ZN Z1 YG Zu Xy Zi Zr Zn Zp Zq Zo Zv Zw Zm Xz Q0 Zl Q1 Q2 Q4 Q5 Q6 Q7 Zs Q8 Q9 QA QB QC QD Zt Zh Zx Y1 Y2 QE QF Y3 QG Zj QH Zk Zg QI Zy Zz QJ QK QM QN QO QP QR QS Zd ZK ZI Zc Zf ZH ZM YB Z0 QT ZV ZL Ze ZC ZZ ZA Y5 ZJ Y8 Y9 Zb ZY ZU ZX Za ZT ZD ev get put Y4 ZS QU QV QW QX QY QZ ZE part ZW Qb Qc Qd isNil ZR ZQ ZB ZP YE Qe Qf Qg Qh Qi Qj Qk Ql Qm Qn Qo Qp Qq Qr Qs Qt AV.fits AV.cells ones AV.one YH YI YJ YK ZF ZG Qu Qv Qw Qx Y6 Y7 resV Z2 Qy YA u8e YF Qz V0 List.getElem?_cons_zero List.getElem?_cons_succ
theorem within_a (x a b : Int) : APure Tryz.prog 27 [aI x, aI a, aI b] (aI (wthF x a b)) := by
  refine apure_intro Tryz.func27 cmp27 rfl fun n H hH => ?_
  repeat' (first | (simp -implicitDefEqProofs [c27_k1_go, c27, -getElem?_pos, simA]) | (simp (disch := omega) only [upd_ne, Qy, if_pos, if_neg, IntWalk.i64_in, Int.tdiv_eq_ediv_of_nonneg, Int.tmod_eq_emod_of_nonneg]) | (with_reducible refine fin_r ?_ ?_ ?_) | (with_reducible exact SameB.rfl_ _ _) | (with_reducible refine SameB.upd ?_ ?_ _) | (with_reducible assumption) | (with_reducible intro _g _hg) | (with_reducible refine And.intro ?_ ?_) | (with_reducible intro _hc) | omega)
  all_goals unfold wthF
  all_goals first | (rw [if_pos (by omega)]) | (rw [if_neg (by omega)])
theorem signed_a (x m : Int) (h : 0 ≤ m ∧ m ≤ 1000) : APure Tryz.prog 33 [aI x, aI m] (.bool (pSgn m x)) := by
  refine apure_intro Tryz.func33 cmp33 rfl fun n H hH => ?_
  repeat' (first | (simp -implicitDefEqProofs [c33, -getElem?_pos, simA]) | (simp (disch := omega) only [upd_ne, Qy, if_pos, if_neg, IntWalk.i64_in, Int.tdiv_eq_ediv_of_nonneg, Int.tmod_eq_emod_of_nonneg]) | (with_reducible refine fin_r ?_ ?_ ?_) | (with_reducible exact SameB.rfl_ _ _) | (with_reducible refine SameB.upd ?_ ?_ _) | (with_reducible assumption) | (with_reducible intro _g _hg) | (with_reducible refine And.intro ?_ ?_) | (with_reducible intro _hc) | omega)
  all_goals (unfold pSgn; first | (simp_all; done) | rfl | (rw [Bool.eq_iff_iff]; simp))
/-- the first place, or -1 -/
def pos {α : Type} [DecidableEq α] (x : α) : List α → Nat → Int
  | [], _ => -1
  | y :: ys, k => if x = y then (k : Int) else pos x ys (k + 1)
theorem pos_iff {α : Type} [DecidableEq α] (x : α) : ∀ (l : List α) (k : Nat), 0 ≤ pos x l k ↔ x ∈ l
  | [], k => by simp [pos]
  | y :: ys, k => by
    simp only [pos, List.mem_cons]
    split
    · rename_i h; simp [h]
    · rename_i h; rw [pos_iff x ys (k + 1)]; simp [h]
theorem drop_at {α : Type} {l : List α} {k : Nat} {x : α} (h : l[k]? = some x) : l.drop k = x :: l.drop (k + 1) := by
  obtain ⟨hk, rfl⟩ := List.getElem?_eq_some_iff.1 h
  exact (List.getElem_cons_drop hk).symm
theorem take_at {α : Type} {l : List α} {k : Nat} {x : α} (h : l[k]? = some x) : l.take (k + 1) = l.take k ++ [x] := by
  rw [List.take_succ, h]; rfl
theorem index_a (l : List Int) (x : Int) (hmx : l.length ≤ 1000000000) : APure Tryz.prog 103 [aL l, aI x] (aI (pos x l 0)) := by
  refine apure_intro Tryz.func103 cmp103 rfl fun n H hH => ?_
  repeat' (first | (simp -implicitDefEqProofs [c103, -getElem?_pos, simA]) | (simp (disch := omega) only [upd_ne, Qy, if_pos, if_neg, IntWalk.i64_in, Int.tdiv_eq_ediv_of_nonneg, Int.tmod_eq_emod_of_nonneg]) | (with_reducible refine fin_r ?_ ?_ ?_) | (with_reducible exact SameB.rfl_ _ _) | (with_reducible refine SameB.upd ?_ ?_ _) | (with_reducible assumption) | (with_reducible intro _g _hg) | (with_reducible refine And.intro ?_ ?_) | (with_reducible intro _hc) | omega)
  refine LoopK.go (fun m s => ∃ (k : Nat), k + m = l.length ∧ s = ⟨[(0, aL l), (1, aI x), (7, aI l.length), (8, aI k)], n, H⟩ ∧ pos x l 0 = pos x (l.drop k) k) l.length ⟨0, by omega, rfl, by simp⟩ ?_
  rintro m s ⟨k, hkm, rfl, hE⟩ J hJ
  by_cases hk : k < l.length
  · obtain ⟨y, hy⟩ : ∃ y, l[k]? = some y := ⟨_, List.getElem?_eq_getElem hk⟩
    rw [drop_at hy, pos] at hE
    repeat' (first | (simp -implicitDefEqProofs [c103_k1_go, c103_k2_go, c103_k3_go, c103_L4_go, c103, -getElem?_pos, simA, hy]) | (simp (disch := omega) only [upd_ne, Qy, if_pos, if_neg, IntWalk.i64_in, Int.tdiv_eq_ediv_of_nonneg, Int.tmod_eq_emod_of_nonneg]) | (with_reducible refine fin_r ?_ ?_ ?_) | (with_reducible exact SameB.rfl_ _ _) | (with_reducible refine SameB.upd ?_ ?_ _) | (with_reducible assumption) | (with_reducible intro _g _hg) | (with_reducible refine And.intro ?_ ?_) | (with_reducible intro _hc) | omega)
    all_goals first
      | exact hJ (m - 1) _ (by omega) ⟨k + 1, by omega, rfl, by rw [hE, if_neg (by simp_all)]⟩
      | (rw [hE, if_pos (by simp_all)])
  · have hk0 : k = l.length := by omega
    subst hk0
    simp [pos] at hE
    repeat' (first | (simp -implicitDefEqProofs [c103_k1_go, c103_k2_go, c103_k3_go, c103_L4_go, c103, -getElem?_pos, simA, hE]) | (simp (disch := omega) only [upd_ne, Qy, if_pos, if_neg, IntWalk.i64_in, Int.tdiv_eq_ediv_of_nonneg, Int.tmod_eq_emod_of_nonneg]) | (with_reducible refine fin_r ?_ ?_ ?_) | (with_reducible exact SameB.rfl_ _ _) | (with_reducible refine SameB.upd ?_ ?_ _) | (with_reducible assumption) | (with_reducible intro _g _hg) | (with_reducible refine And.intro ?_ ?_) | (with_reducible intro _hc) | omega)
theorem contains_a (l : List Int) (x : Int) (hmx : l.length ≤ 1000000000) : APure Tryz.prog 72 [aL l, aI x] (.bool (decide (x ∈ l))) := by
  have hp := pos_iff x l 0
  refine apure_intro Tryz.func72 cmp72 rfl fun n H hH => ?_
  repeat' (first | (simp -implicitDefEqProofs [c72, -getElem?_pos, simA]) | (simp (disch := omega) only [upd_ne, Qy, if_pos, if_neg, IntWalk.i64_in, Int.tdiv_eq_ediv_of_nonneg, Int.tmod_eq_emod_of_nonneg]) | ((with_reducible refine CallP.chk (f := 103) ?_); (refine' CallP.sf ?_ (index_a l x hmx) ?_); (focus first | (with_reducible exact simL_refl _) | (simp [simL, simA, simA_refl, simL_refl]; done))) | (with_reducible refine fin_r ?_ ?_ ?_) | (with_reducible exact SameB.rfl_ _ _) | (with_reducible refine SameB.upd ?_ ?_ _) | (with_reducible assumption) | (with_reducible intro _g _hg) | (with_reducible refine And.intro ?_ ?_) | (with_reducible intro _hc) | omega)
  all_goals simp_all
theorem chk_at {n : Nat} {H : AHeap} (l : List Int) (f : Nat) (a b : List AV) (p : Int → Bool) (hc : callable Tryz.prog f = true) (hf : ∀ x, APureAt Tryz.prog f (a ++ [aI x] ++ b) n H (.bool (p x))) :
    APureAt Tryz.prog 29 [aL l, .fn f a b] n H (aI (chkF p l)) := by
  refine apureAt_intro Tryz.func29 cmp29 rfl fun hH => ?_
  by_cases h12 : 12 < l.length
  · have : chkF p l = 2 := by unfold chkF; rw [if_pos h12]
    repeat' (first | (simp -implicitDefEqProofs [c29, -getElem?_pos, simA, this]) | (simp (disch := omega) only [upd_ne, Qy, if_pos, if_neg, IntWalk.i64_in, Int.tdiv_eq_ediv_of_nonneg, Int.tmod_eq_emod_of_nonneg]) | (with_reducible refine fin_r ?_ ?_ ?_) | (with_reducible exact SameB.rfl_ _ _) | (with_reducible refine SameB.upd ?_ ?_ _) | (with_reducible assumption) | (with_reducible intro _g _hg) | (with_reducible refine And.intro ?_ ?_) | (with_reducible intro _hc) | omega)
  have hF : chkF p l = chkG p l [] := by unfold chkF; rw [if_neg h12]
  rw [hF]
  repeat' (first | (simp -implicitDefEqProofs [c29_k1_go, c29_k2_go, c29_e3_go, c29_k4_go, c29_L5_go, c29_k6_go, c29, -getElem?_pos, simA]) | (simp (disch := omega) only [upd_ne, Qy, if_pos, if_neg, IntWalk.i64_in, Int.tdiv_eq_ediv_of_nonneg, Int.tmod_eq_emod_of_nonneg]) | (with_reducible refine fin_r ?_ ?_ ?_) | (with_reducible exact SameB.rfl_ _ _) | (with_reducible refine SameB.upd ?_ ?_ _) | (with_reducible assumption) | (with_reducible intro _g _hg) | (with_reducible refine And.intro ?_ ?_) | (with_reducible intro _hc) | omega)
  refine LoopK.go (fun m s => ∃ (k : Nat), k + m = l.length ∧ s = ⟨[(0, aL l), (1, .fn f a b), (10, aL l), (11, aI l.length), (12, aI k)], n, H⟩ ∧ chkG p l [] = chkG p (l.drop k) (l.take k)) l.length ⟨0, by omega, rfl, by simp⟩ ?_
  rintro m s ⟨k, hkm, rfl, hE⟩ J hJ
  by_cases hk : k < l.length
  · obtain ⟨y, hy⟩ : ∃ y, l[k]? = some y := ⟨_, List.getElem?_eq_getElem hk⟩
    rw [drop_at hy, chkG, ← take_at hy] at hE
    have hfy := hf y
    rw [List.append_assoc] at hfy
    have hcn := contains_a (l.take k) y (by simp; omega)
    simp only [aL, List.map_take] at hcn
    repeat' (first | (simp -implicitDefEqProofs [c29_k1_go, c29_k2_go, c29_e3_go, c29_k4_go, c29_L5_go, c29_k6_go, c29, -getElem?_pos, simA, hy, hc]) | (simp (disch := omega) only [upd_ne, Qy, if_pos, if_neg, IntWalk.i64_in, Int.tdiv_eq_ediv_of_nonneg, Int.tmod_eq_emod_of_nonneg]) | ((with_reducible refine CallK.chk (f := f) ?_); (refine' CallK.sfAt ?_ (hfy) ?_); (focus first | (with_reducible exact simL_refl _) | (simp [simL, simA, simA_refl, simL_refl]; done))) | ((with_reducible refine CallP.chk (f := 72) ?_); (refine' CallP.sf ?_ (hcn) ?_); (focus first | (with_reducible exact simL_refl _) | (simp [simL, simA, simA_refl, simL_refl]; done))) | (with_reducible refine fin_r ?_ ?_ ?_) | (with_reducible exact SameB.rfl_ _ _) | (with_reducible refine SameB.upd ?_ ?_ _) | (with_reducible assumption) | (with_reducible intro _g _hg) | (with_reducible refine And.intro ?_ ?_) | (with_reducible intro _hc) | omega)
    all_goals first
      | exact hJ (m - 1) _ (by omega) ⟨k + 1, by omega, rfl, by rw [hE]; (repeat' split) <;> first | rfl | (exfalso; simp_all; done)⟩
      | (rw [hE]; (repeat' split) <;> first | rfl | (exfalso; simp_all; done))
  · have hk0 : k = l.length := by omega
    subst hk0
    simp [chkG] at hE
    repeat' (first | (simp -implicitDefEqProofs [c29_k1_go, c29_k2_go, c29_e3_go, c29_k4_go, c29_L5_go, c29_k6_go, c29, -getElem?_pos, simA, hE]) | (simp (disch := omega) only [upd_ne, Qy, if_pos, if_neg, IntWalk.i64_in, Int.tdiv_eq_ediv_of_nonneg, Int.tmod_eq_emod_of_nonneg]) | (with_reducible refine fin_r ?_ ?_ ?_) | (with_reducible exact SameB.rfl_ _ _) | (with_reducible refine SameB.upd ?_ ?_ _) | (with_reducible assumption) | (with_reducible intro _g _hg) | (with_reducible refine And.intro ?_ ?_) | (with_reducible intro _hc) | omega)
end Go.Proofs.YtecpfmhminkalaaGreatDoor
namespace Go.Proofs.YtecpfmhminkalaaGreatDoor
attribute [local simp] YL Z7 Z9 YM YN YO YP Z8 Z3 Z5 Z4 YQ YR YS YT YU YV YW YX YY YZ Ya Yb Yc Yd scV pe Ye Yf Yg Yh Yi Yj Yk Yl Ym Yn Yo spg_mv Yp Yq Yr Ys Yt Yu Yv Yw Yx Yy Yz X0 X1 X2 X3 X4 X5 X6 X7 X8 X9 spg_mm XA YD XB XC XD XE XF XG XH XI XJ XK XL XM XN XO XP XQ XR XS XT XU XV XW XX XY XZ YC Xa Xb Xc Xd Xe Xf Xg Xh Xi Xj Xk Xl Xm Xn Xo Xp Xq Xr Xs Xt Xu Xv Xw Xx List.mem_cons ZO ZN Z1 YG Zu Xy Zi Zr Zn Zp Zq Zo Zv Zw Zm Xz Q0 Zl Q1 Q2 Q4 Q5 Q6 Q7 Zs Q8 Q9 QA QB QC QD Zt Zh Zx Y1 Y2 QE QF Y3 QG Zj QH Zk Zg QI Zy Zz QJ QK QM QN QO QP QR QS Zd ZK ZI Zc Zf ZH ZM YB Z0 QT ZV ZL Ze ZC ZZ ZA Y5 ZJ Y8 Y9 Zb ZY ZU ZX Za ZT ZD ev get put Y4 ZS QU QV QW QX QY QZ ZE part ZW Qb Qc Qd isNil ZR ZQ ZB ZP YE Qe Qf Qg Qh Qi Qj Qk Ql Qm Qn Qo Qp Qq Qr Qs Qt AV.fits AV.cells ones AV.one YH YI YJ YK ZF ZG Qu Qv Qw Qx Y6 Y7 resV Z2 Qy YA u8e YF Qz V0 List.getElem?_cons_zero List.getElem?_cons_succ
theorem indexW_a (l : List (Int × Int)) (x : Int × Int) (hmx : l.length ≤ 1000000000) : APure Tryz.prog 104 [aWs l, aWd x] (aI (pos x l 0)) := by
  refine apure_intro Tryz.func104 cmp104 rfl fun n H hH => ?_
  repeat' (first | (simp -implicitDefEqProofs [c104, -getElem?_pos, simA]) | (simp (disch := omega) only [upd_ne, Qy, if_pos, if_neg, IntWalk.i64_in, Int.tdiv_eq_ediv_of_nonneg, Int.tmod_eq_emod_of_nonneg]) | (with_reducible refine fin_r ?_ ?_ ?_) | (with_reducible exact SameB.rfl_ _ _) | (with_reducible refine SameB.upd ?_ ?_ _) | (with_reducible assumption) | (with_reducible refine newPM_of ?_) | (with_reducible refine newP_go ?_) | (with_reducible intro _g _hg) | (with_reducible refine And.intro ?_ ?_) | (with_reducible intro _hc) | omega)
  refine LoopK.go (fun m s => ∃ (k : Nat), k + m = l.length ∧ s = ⟨[(0, aWs l), (3, .ptr _g 0), (7, aI l.length), (8, aI k)], _g + 1, upd H _g (some (.cells 56 [aI x.1, aI x.2]))⟩ ∧ pos x l 0 = pos x (l.drop k) k) l.length ⟨0, by omega, rfl, by simp⟩ ?_
  rintro m s ⟨k, hkm, rfl, hE⟩ J hJ
  by_cases hk : k < l.length
  · obtain ⟨y, hy⟩ : ∃ y, l[k]? = some y := ⟨_, List.getElem?_eq_getElem hk⟩
    rw [drop_at hy, pos] at hE
    have hxy := @Prod.ext_iff _ _ x y
    by_cases hc : x = y
    · subst hc
      repeat' (first | (simp -implicitDefEqProofs [c104_k1_go, c104_k2_go, c104_k3_go, c104_L4_go, c104, -getElem?_pos, simA, hy]) | (simp (disch := omega) only [upd_ne, Qy, if_pos, if_neg, IntWalk.i64_in, Int.tdiv_eq_ediv_of_nonneg, Int.tmod_eq_emod_of_nonneg]) | (with_reducible refine fin_r ?_ ?_ ?_) | (with_reducible exact SameB.rfl_ _ _) | (with_reducible refine SameB.upd ?_ ?_ _) | (with_reducible assumption) | (with_reducible refine newPM_of ?_) | (with_reducible refine newP_go ?_) | (with_reducible intro _g _hg) | (with_reducible refine And.intro ?_ ?_) | (with_reducible intro _hc) | omega)
      all_goals (rw [hE, if_pos rfl])
    · rw [if_neg hc] at hE
      repeat' (first | (simp -implicitDefEqProofs [c104_k1_go, c104_k2_go, c104_k3_go, c104_L4_go, c104, -getElem?_pos, simA, hy]) | (simp (disch := omega) only [upd_ne, Qy, if_pos, if_neg, IntWalk.i64_in, Int.tdiv_eq_ediv_of_nonneg, Int.tmod_eq_emod_of_nonneg]) | (with_reducible refine fin_r ?_ ?_ ?_) | (with_reducible exact SameB.rfl_ _ _) | (with_reducible refine SameB.upd ?_ ?_ _) | (with_reducible assumption) | (with_reducible refine newPM_of ?_) | (with_reducible refine newP_go ?_) | (with_reducible intro _g _hg) | (with_reducible refine And.intro ?_ ?_) | (with_reducible intro _hc) | omega)
      all_goals first
        | exact hJ (m - 1) _ (by omega) ⟨k + 1, by omega, rfl, hE⟩
        | (exfalso; exact hc (hxy.2 (by simp_all)))
        | skip
  · have hk0 : k = l.length := by omega
    subst hk0
    simp [pos] at hE
    repeat' (first | (simp -implicitDefEqProofs [c104_k1_go, c104_k2_go, c104_k3_go, c104_L4_go, c104, -getElem?_pos, simA, hE]) | (simp (disch := omega) only [upd_ne, Qy, if_pos, if_neg, IntWalk.i64_in, Int.tdiv_eq_ediv_of_nonneg, Int.tmod_eq_emod_of_nonneg]) | (with_reducible refine fin_r ?_ ?_ ?_) | (with_reducible exact SameB.rfl_ _ _) | (with_reducible refine SameB.upd ?_ ?_ _) | (with_reducible assumption) | (with_reducible refine newPM_of ?_) | (with_reducible refine newP_go ?_) | (with_reducible intro _g _hg) | (with_reducible refine And.intro ?_ ?_) | (with_reducible intro _hc) | omega)
theorem containsW_a (l : List (Int × Int)) (x : Int × Int) (hmx : l.length ≤ 1000000000) : APure Tryz.prog 73 [aWs l, aWd x] (.bool (decide (x ∈ l))) := by
  have hp := pos_iff x l 0
  refine apure_intro Tryz.func73 cmp73 rfl fun n H hH => ?_
  repeat' (first | (simp -implicitDefEqProofs [c73, -getElem?_pos, simA]) | (simp (disch := omega) only [upd_ne, Qy, if_pos, if_neg, IntWalk.i64_in, Int.tdiv_eq_ediv_of_nonneg, Int.tmod_eq_emod_of_nonneg]) | ((with_reducible refine CallP.chk (f := 104) ?_); (refine' CallP.sf ?_ (indexW_a l x hmx) ?_); (focus first | (with_reducible exact simL_refl _) | (simp [simL, simA, simA_refl, simL_refl]; done))) | (with_reducible refine fin_r ?_ ?_ ?_) | (with_reducible exact SameB.rfl_ _ _) | (with_reducible refine SameB.upd ?_ ?_ _) | (with_reducible assumption) | (with_reducible refine newPM_of ?_) | (with_reducible refine newP_go ?_) | (with_reducible intro _g _hg) | (with_reducible refine And.intro ?_ ?_) | (with_reducible intro _hc) | omega)
  all_goals simp_all
theorem chkW_at {n : Nat} {H : AHeap} (l : List (Int × Int)) (f : Nat) (a b : List AV) (p : Int × Int → Bool) (hc : callable Tryz.prog f = true) (hf : ∀ x n H, APureAt Tryz.prog f (a ++ [aWd x] ++ b) n H (.bool (p x))) :
    APureAt Tryz.prog 35 [aWs l, .fn f a b] n H (aI (chkF p l)) := by
  refine apureAt_intro Tryz.func35 cmp35 rfl fun hH => ?_
  have _hb : True := trivial
  have _hO : Owns n H [] [] n H := Owns.start hH
  by_cases h12 : 12 < l.length
  · have : chkF p l = 2 := by unfold chkF; rw [if_pos h12]
    repeat' (first | (simp -implicitDefEqProofs [c35, -getElem?_pos, simA, this, _hb]) | (simp (disch := omega) only [upd_ne, Qy, if_pos, if_neg, IntWalk.i64_in, Int.tdiv_eq_ediv_of_nonneg, Int.tmod_eq_emod_of_nonneg]) | (with_reducible refine fin_r ?_ ?_ ?_) | (with_reducible exact SameB.rfl_ _ _) | (with_reducible refine SameB.upd ?_ ?_ _) | (with_reducible assumption) | (with_reducible refine newPM_of ?_) | ((with_reducible refine newP_own (by assumption) (fun _g _hg _hO => ?_)); (have _hb := And.intro _hb _hO.boxF); dsimp only [BoxF, BoxF0, RowF] at _hb) | (first | (with_reducible exact Owns.fit0 (by assumption)) | (with_reducible exact Owns.fit1 (by assumption))) | (with_reducible exact Owns.le (by assumption)) | (with_reducible exact Owns.same (by assumption)) | (with_reducible refine newPM_of ?_) | (with_reducible refine newP_go ?_) | (with_reducible intro _g _hg) | (with_reducible refine And.intro ?_ ?_) | (with_reducible intro _hc) | omega)
  have hF : chkF p l = chkG p l [] := by unfold chkF; rw [if_neg h12]
  rw [hF]
  repeat' (first | (simp -implicitDefEqProofs [c35_k1_go, c35_k2_go, c35_e3_go, c35_k4_go, c35_L5_go, c35_k6_go, c35, -getElem?_pos, simA, _hb]) | (simp (disch := omega) only [upd_ne, Qy, if_pos, if_neg, IntWalk.i64_in, Int.tdiv_eq_ediv_of_nonneg, Int.tmod_eq_emod_of_nonneg]) | (with_reducible refine fin_r ?_ ?_ ?_) | (with_reducible exact SameB.rfl_ _ _) | (with_reducible refine SameB.upd ?_ ?_ _) | (with_reducible assumption) | (with_reducible refine newPM_of ?_) | ((with_reducible refine newP_own (by assumption) (fun _g _hg _hO => ?_)); (have _hb := And.intro _hb _hO.boxF); dsimp only [BoxF, BoxF0, RowF] at _hb) | (first | (with_reducible exact Owns.fit0 (by assumption)) | (with_reducible exact Owns.fit1 (by assumption))) | (with_reducible exact Owns.le (by assumption)) | (with_reducible exact Owns.same (by assumption)) | (with_reducible refine newPM_of ?_) | (with_reducible refine newP_go ?_) | (with_reducible intro _g _hg) | (with_reducible refine And.intro ?_ ?_) | (with_reducible intro _hc) | omega)
  refine LoopK.go (fun m s => ∃ (k : Nat) (n' : Nat) (H' : AHeap), k + m = l.length ∧ s = ⟨[(0, aWs l), (1, .fn f a b), (10, aWs l), (11, aI l.length), (12, aI k)], n', H'⟩ ∧ Owns n H [] [] n' H' ∧ chkG p l [] = chkG p (l.drop k) (l.take k)) l.length ⟨0, n, H, by omega, rfl, _hO, by simp⟩ ?_
  rintro m s ⟨k, n1, H1, hkm, rfl, _hO, hE⟩ J hJ
  have hle := _hO.le
  have _hb := _hO.boxF
  dsimp only [BoxF, BoxF0, RowF] at _hb
  by_cases hk : k < l.length
  · obtain ⟨y, hy⟩ : ∃ y, l[k]? = some y := ⟨_, List.getElem?_eq_getElem hk⟩
    rw [drop_at hy, chkG, ← take_at hy] at hE
    have hfy := hf y
    simp only [List.append_assoc] at hfy
    have hcn := containsW_a (l.take k) y (by simp; omega)
    simp only [aWs, List.map_take] at hcn
    repeat' (first | (simp -implicitDefEqProofs [c35_k1_go, c35_k2_go, c35_e3_go, c35_k4_go, c35_L5_go, c35_k6_go, c35, -getElem?_pos, simA, hy, hc, splice, _hb]) | (simp (disch := omega) only [upd_ne, Qy, if_pos, if_neg, IntWalk.i64_in, Int.tdiv_eq_ediv_of_nonneg, Int.tmod_eq_emod_of_nonneg]) | ((with_reducible refine CallK.chk (f := f) ?_); (refine' CallK.sfAt ?_ (hfy _ _) ?_); (focus first | (with_reducible exact simL_refl _) | (exact Owns.simC0 (by assumption)) | (exact Owns.simC1 (by assumption)) | (simp [simL, simA, simA_refl, simL_refl]; done))) | ((with_reducible refine CallP.chk (f := 73) ?_); (refine' CallP.sf ?_ (hcn) ?_); (focus first | (with_reducible exact simL_refl _) | (exact Owns.simC0 (by assumption)) | (exact Owns.simC1 (by assumption)) | (simp [simL, simA, simA_refl, simL_refl]; done))) | (with_reducible refine fin_r ?_ ?_ ?_) | (with_reducible exact SameB.rfl_ _ _) | (with_reducible refine SameB.upd ?_ ?_ _) | (with_reducible assumption) | (with_reducible refine newPM_of ?_) | ((with_reducible refine newP_own (by assumption) (fun _g _hg _hO => ?_)); (have _hb := And.intro _hb _hO.boxF); dsimp only [BoxF, BoxF0, RowF] at _hb) | (first | (with_reducible exact Owns.fit0 (by assumption)) | (with_reducible exact Owns.fit1 (by assumption))) | (with_reducible exact Owns.le (by assumption)) | (with_reducible exact Owns.same (by assumption)) | (with_reducible refine newPM_of ?_) | (with_reducible refine newP_go ?_) | (with_reducible intro _g _hg) | (with_reducible refine And.intro ?_ ?_) | (with_reducible intro _hc) | omega)
    all_goals first
      | exact hJ (m - 1) _ (by omega) ⟨k + 1, _, _, by omega, rfl, (_hO.set0 (by simp) _ _).dropBox, by rw [hE]; (repeat' split) <;> first | rfl | (exfalso; simp_all; done)⟩
      | (rw [hE]; (repeat' split) <;> first | rfl | (exfalso; simp_all; done))
  · have hk0 : k = l.length := by omega
    subst hk0
    simp [chkG] at hE
    repeat' (first | (simp -implicitDefEqProofs [c35_k1_go, c35_k2_go, c35_e3_go, c35_k4_go, c35_L5_go, c35_k6_go, c35, -getElem?_pos, simA, hE, _hb]) | (simp (disch := omega) only [upd_ne, Qy, if_pos, if_neg, IntWalk.i64_in, Int.tdiv_eq_ediv_of_nonneg, Int.tmod_eq_emod_of_nonneg]) | (with_reducible refine fin_r ?_ ?_ ?_) | (with_reducible exact SameB.rfl_ _ _) | (with_reducible refine SameB.upd ?_ ?_ _) | (with_reducible assumption) | (with_reducible refine newPM_of ?_) | ((with_reducible refine newP_own (by assumption) (fun _g _hg _hO => ?_)); (have _hb := And.intro _hb _hO.boxF); dsimp only [BoxF, BoxF0, RowF] at _hb) | (first | (with_reducible exact Owns.fit0 (by assumption)) | (with_reducible exact Owns.fit1 (by assumption))) | (with_reducible exact Owns.le (by assumption)) | (with_reducible exact Owns.same (by assumption)) | (with_reducible refine newPM_of ?_) | (with_reducible refine newP_go ?_) | (with_reducible intro _g _hg) | (with_reducible refine And.intro ?_ ?_) | (with_reducible intro _hc) | omega)
end Go.Proofs.YtecpfmhminkalaaGreatDoor
namespace Go.Proofs.YtecpfmhminkalaaGreatDoor
theorem chkG_congr {α : Type} [DecidableEq α] {p q : α → Bool} (h : ∀ x, p x = q x) : ∀ l pre : List α, chkG p l pre = chkG q l pre
  | [], _ => rfl
  | x :: xs, pre => by simp only [chkG, h, chkG_congr h xs]
theorem chkF_congr {α : Type} [DecidableEq α] {p q : α → Bool} (h : ∀ x, p x = q x) (l : List α) : chkF p l = chkF q l := by unfold chkF; rw [chkG_congr h]
def pRng (a b x : Int) : Bool := decide (a ≤ x) && decide (x ≤ b) && decide (x ≠ 0)
/-- the fault of an element -/
def badF {α : Type} [DecidableEq α] (p : α → Bool) (x : α) (pre : List α) : Int := if p x = false then 4 else if x ∈ pre then 8 else 0
attribute [local simp] YL Z7 Z9 YM YN YO YP Z8 Z3 Z5 Z4 YQ YR YS YT YU YV YW YX YY YZ Ya Yb Yc Yd scV pe Ye Yf Yg Yh Yi Yj Yk Yl Ym Yn Yo spg_mv Yp Yq Yr Ys Yt Yu Yv Yw Yx Yy Yz X0 X1 X2 X3 X4 X5 X6 X7 X8 X9 spg_mm XA YD XB XC XD XE XF XG XH XI XJ XK XL XM XN XO XP XQ XR XS XT XU XV XW XX XY XZ YC Xa Xb Xc Xd Xe Xf Xg Xh Xi Xj Xk Xl Xm Xn Xo Xp Xq Xr Xs Xt Xu Xv Xw Xx List.mem_cons ZO ZN Z1 YG Zu Xy Zi Zr Zn Zp Zq Zo Zv Zw Zm Xz Q0 Zl Q1 Q2 Q4 Q5 Q6 Q7 Zs Q8 Q9 QA QB QC QD Zt Zh Zx Y1 Y2 QE QF Y3 QG Zj QH Zk Zg QI Zy Zz QJ QK QM QN QO QP QR QS Zd ZK ZI Zc Zf ZH ZM YB Z0 QT ZV ZL Ze ZC ZZ ZA Y5 ZJ Y8 Y9 Zb ZY ZU ZX Za ZT ZD ev get put Y4 ZS QU QV QW QX QY QZ ZE part ZW Qb Qc Qd isNil ZR ZQ ZB ZP YE Qe Qf Qg Qh Qi Qj Qk Ql Qm Qn Qo Qp Qq Qr Qs Qt AV.fits AV.cells ones AV.one YH YI YJ YK ZF ZG Qu Qv Qw Qx Y6 Y7 resV Z2 Qy YA u8e YF Qz V0 List.getElem?_cons_zero List.getElem?_cons_succ
theorem bad_a (l : List Int) (i : Nat) (x a b : Int) (hi : l[i]? = some x) (hmx : l.length ≤ 1000000) : APure Tryz.prog 74 [aL l, aI i, aI a, aI b] (aI (badF (pRng a b) x (l.take i))) := by
  refine apure_intro Tryz.func74 cmp74 rfl fun n H hH => ?_
  have hil := (List.getElem?_eq_some_iff.1 hi).1
  by_cases hp : pRng a b x = false
  · have hb : badF (pRng a b) x (l.take i) = 4 := by unfold badF; rw [if_pos hp]
    rw [hb]
    repeat' (first | (simp -implicitDefEqProofs [c74_k1_go, c74_k2_go, c74_k3_go, c74_L4_go, c74_k5_go, c74, -getElem?_pos, simA, hi]) | (simp (disch := omega) only [upd_ne, Qy, if_pos, if_neg, IntWalk.i64_in, Int.tdiv_eq_ediv_of_nonneg, Int.tmod_eq_emod_of_nonneg]) | ((with_reducible refine CallP.chk (f := 11) ?_); (refine' CallP.sf ?_ (in_a _ _ _) ?_); (focus first | (with_reducible exact simL_refl _) | (simp [simL, simA, simA_refl, simL_refl]; done))) | (with_reducible refine fin_r ?_ ?_ ?_) | (with_reducible exact SameB.rfl_ _ _) | (with_reducible refine SameB.upd ?_ ?_ _) | (with_reducible assumption) | (with_reducible intro _g _hg) | (with_reducible refine And.intro ?_ ?_) | (with_reducible intro _hc) | omega)
    all_goals (exfalso; simp_all [pRng]; try omega)
  · have hp2 : a ≤ x ∧ x ≤ b ∧ x ≠ 0 := by simp [pRng] at hp; omega
    have hb : badF (pRng a b) x (l.take i) = if x ∈ l.take i then 8 else 0 := by unfold badF; rw [if_neg hp]
    rw [hb]
    repeat' (first | (simp -implicitDefEqProofs [c74_k1_go, c74_k2_go, c74_k3_go, c74_L4_go, c74_k5_go, c74, -getElem?_pos, simA, hi, hp2]) | (simp (disch := omega) only [upd_ne, Qy, if_pos, if_neg, IntWalk.i64_in, Int.tdiv_eq_ediv_of_nonneg, Int.tmod_eq_emod_of_nonneg]) | ((with_reducible refine CallP.chk (f := 11) ?_); (refine' CallP.sf ?_ (in_a _ _ _) ?_); (focus first | (with_reducible exact simL_refl _) | (simp [simL, simA, simA_refl, simL_refl]; done))) | (with_reducible refine fin_r ?_ ?_ ?_) | (with_reducible exact SameB.rfl_ _ _) | (with_reducible refine SameB.upd ?_ ?_ _) | (with_reducible assumption) | (with_reducible intro _g _hg) | (with_reducible refine And.intro ?_ ?_) | (with_reducible intro _hc) | omega)
    refine LoopK.go (fun m s => ∃ (k : Nat), k + m = i ∧ s = ⟨[(0, aL l), (1, aI i), (9, aI k)], n, H⟩ ∧ x ∉ l.take k) i ⟨0, by omega, rfl, by simp⟩ ?_
    rintro m s ⟨k, hkm, rfl, hE⟩ J hJ
    by_cases hk : k < i
    · obtain ⟨y, hy⟩ : ∃ y, l[k]? = some y := ⟨_, List.getElem?_eq_getElem (by omega)⟩
      have hki := take_at hy
      by_cases hc : y = x
      · subst hc
        have hmem : y ∈ l.take i := List.mem_of_getElem? (i := k) (by rw [List.getElem?_take_of_lt hk]; exact hy)
        repeat' (first | (simp -implicitDefEqProofs [c74_k1_go, c74_k2_go, c74_k3_go, c74_L4_go, c74_k5_go, c74, -getElem?_pos, simA, hy, hi, hmem]) | (simp (disch := omega) only [upd_ne, Qy, if_pos, if_neg, IntWalk.i64_in, Int.tdiv_eq_ediv_of_nonneg, Int.tmod_eq_emod_of_nonneg]) | (with_reducible refine fin_r ?_ ?_ ?_) | (with_reducible exact SameB.rfl_ _ _) | (with_reducible refine SameB.upd ?_ ?_ _) | (with_reducible assumption) | (with_reducible intro _g _hg) | (with_reducible refine And.intro ?_ ?_) | (with_reducible intro _hc) | omega)
      · repeat' (first | (simp -implicitDefEqProofs [c74_k1_go, c74_k2_go, c74_k3_go, c74_L4_go, c74_k5_go, c74, -getElem?_pos, simA, hy, hi, hc]) | (simp (disch := omega) only [upd_ne, Qy, if_pos, if_neg, IntWalk.i64_in, Int.tdiv_eq_ediv_of_nonneg, Int.tmod_eq_emod_of_nonneg]) | (with_reducible refine fin_r ?_ ?_ ?_) | (with_reducible exact SameB.rfl_ _ _) | (with_reducible refine SameB.upd ?_ ?_ _) | (with_reducible assumption) | (with_reducible intro _g _hg) | (with_reducible refine And.intro ?_ ?_) | (with_reducible intro _hc) | omega)
        all_goals exact hJ (m - 1) _ (by omega) ⟨k + 1, by omega, rfl, by rw [hki]; simp [hE]; exact fun h => hc h.symm⟩
    · have hk0 : k = i := by omega
      subst hk0
      repeat' (first | (simp -implicitDefEqProofs [c74_k1_go, c74_k2_go, c74_k3_go, c74_L4_go, c74_k5_go, c74, -getElem?_pos, simA, hE]) | (simp (disch := omega) only [upd_ne, Qy, if_pos, if_neg, IntWalk.i64_in, Int.tdiv_eq_ediv_of_nonneg, Int.tmod_eq_emod_of_nonneg]) | (with_reducible refine fin_r ?_ ?_ ?_) | (with_reducible exact SameB.rfl_ _ _) | (with_reducible refine SameB.upd ?_ ?_ _) | (with_reducible assumption) | (with_reducible intro _g _hg) | (with_reducible refine And.intro ?_ ?_) | (with_reducible intro _hc) | omega)
theorem listFault_a (l : List Int) (a b : Int) : APure Tryz.prog 41 [aL l, aI a, aI b] (aI (chkF (pRng a b) l)) := by
  refine apure_intro Tryz.func41 cmp41 rfl fun n H hH => ?_
  by_cases h12 : 12 < l.length
  · have : chkF (pRng a b) l = 2 := by unfold chkF; rw [if_pos h12]
    repeat' (first | (simp -implicitDefEqProofs [c41_k1_go, c41_k2_go, c41_k3_go, c41_L4_go, c41_k5_go, c41, -getElem?_pos, simA, this]) | (simp (disch := omega) only [upd_ne, Qy, if_pos, if_neg, IntWalk.i64_in, Int.tdiv_eq_ediv_of_nonneg, Int.tmod_eq_emod_of_nonneg]) | (with_reducible refine fin_r ?_ ?_ ?_) | (with_reducible exact SameB.rfl_ _ _) | (with_reducible refine SameB.upd ?_ ?_ _) | (with_reducible assumption) | (with_reducible intro _g _hg) | (with_reducible refine And.intro ?_ ?_) | (with_reducible intro _hc) | omega)
  have hF : chkF (pRng a b) l = chkG (pRng a b) l [] := by unfold chkF; rw [if_neg h12]
  rw [hF]
  repeat' (first | (simp -implicitDefEqProofs [c41_k1_go, c41_k2_go, c41_k3_go, c41_L4_go, c41_k5_go, c41, -getElem?_pos, simA]) | (simp (disch := omega) only [upd_ne, Qy, if_pos, if_neg, IntWalk.i64_in, Int.tdiv_eq_ediv_of_nonneg, Int.tmod_eq_emod_of_nonneg]) | (with_reducible refine fin_r ?_ ?_ ?_) | (with_reducible exact SameB.rfl_ _ _) | (with_reducible refine SameB.upd ?_ ?_ _) | (with_reducible assumption) | (with_reducible intro _g _hg) | (with_reducible refine And.intro ?_ ?_) | (with_reducible intro _hc) | omega)
  refine LoopK.go (fun m s => ∃ (k : Nat), k + m = l.length ∧ s = ⟨[(0, aL l), (1, aI a), (2, aI b), (7, aI k)], n, H⟩ ∧ chkG (pRng a b) l [] = chkG (pRng a b) (l.drop k) (l.take k)) l.length ⟨0, by omega, rfl, by simp⟩ ?_
  rintro m s ⟨k, hkm, rfl, hE⟩ J hJ
  by_cases hk : k < l.length
  · obtain ⟨y, hy⟩ : ∃ y, l[k]? = some y := ⟨_, List.getElem?_eq_getElem hk⟩
    rw [drop_at hy, chkG, ← take_at hy] at hE
    have hba := bad_a l k y a b hy (by omega)
    generalize hbv : badF (pRng a b) y (l.take k) = v at hba
    unfold badF at hbv
    repeat' (first | (simp -implicitDefEqProofs [c41_k1_go, c41_k2_go, c41_k3_go, c41_L4_go, c41_k5_go, c41, -getElem?_pos, simA, hy]) | (simp (disch := omega) only [upd_ne, Qy, if_pos, if_neg, IntWalk.i64_in, Int.tdiv_eq_ediv_of_nonneg, Int.tmod_eq_emod_of_nonneg]) | ((with_reducible refine CallP.chk (f := 74) ?_); (refine' CallP.sf ?_ (hba) ?_); (focus first | (with_reducible exact simL_refl _) | (simp [simL, simA, simA_refl, simL_refl]; done))) | (with_reducible refine fin_r ?_ ?_ ?_) | (with_reducible exact SameB.rfl_ _ _) | (with_reducible refine SameB.upd ?_ ?_ _) | (with_reducible assumption) | (with_reducible intro _g _hg) | (with_reducible refine And.intro ?_ ?_) | (with_reducible intro _hc) | omega)
    all_goals first
      | exact hJ (m - 1) _ (by omega) ⟨k + 1, by omega, rfl, by rw [hE]; (repeat' split) <;> first | rfl | (exfalso; simp_all; done)⟩
      | (rw [hE, ← hbv]; (repeat' split) <;> first | rfl | (exfalso; simp_all; done))
  · have hk0 : k = l.length := by omega
    subst hk0
    simp [chkG] at hE
    repeat' (first | (simp -implicitDefEqProofs [c41_k1_go, c41_k2_go, c41_k3_go, c41_L4_go, c41_k5_go, c41, -getElem?_pos, simA, hE]) | (simp (disch := omega) only [upd_ne, Qy, if_pos, if_neg, IntWalk.i64_in, Int.tdiv_eq_ediv_of_nonneg, Int.tmod_eq_emod_of_nonneg]) | (with_reducible refine fin_r ?_ ?_ ?_) | (with_reducible exact SameB.rfl_ _ _) | (with_reducible refine SameB.upd ?_ ?_ _) | (with_reducible assumption) | (with_reducible intro _g _hg) | (with_reducible refine And.intro ?_ ?_) | (with_reducible intro _hc) | omega)
end Go.Proofs.YtecpfmhminkalaaGreatDoor

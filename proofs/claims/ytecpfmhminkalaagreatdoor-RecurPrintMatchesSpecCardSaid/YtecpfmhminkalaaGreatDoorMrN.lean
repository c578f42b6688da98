/- The lists of a rule, read; no condition. -/
import Derived.Test.YtecpfmhminkalaaGreatDoorMrM
import Derived.Test.YtecpfmhminkalaaGreatDoorAdI
set_option linter.all false
set_option linter.unusedSimpArgs false
set_option linter.unusedVariables false
namespace Go.Proofs.YtecpfmhminkalaaGreatDoor
theorem spl_mem_len (c : UInt8) : ∀ (s p : Str), p ∈ spl c s → p.length ≤ s.length
  | [], p, h => by rw [List.mem_singleton.1 h]; simp
  | x :: r, p, h => by
    unfold spl at h
    split at h
    · rcases List.mem_cons.1 h with rfl | h
      · simp
      · have := spl_mem_len c r p h; simp only [List.length_cons]; omega
    · split at h
      · rw [List.mem_singleton.1 h]; simp
      · rename_i hd t e
        rcases List.mem_cons.1 h with rfl | h
        · have := spl_mem_len c r hd (by rw [e]; exact List.mem_cons_self); simp only [List.length_cons]; omega
        · have := spl_mem_len c r p (by rw [e]; exact List.mem_cons_of_mem _ h); simp only [List.length_cons]; omega
theorem calNum : callable Tryz.prog 85 = true := by kernel_rfl
theorem calWd : callable Tryz.prog 91 = true := by kernel_rfl
theorem str_at {l : List Str} {k : Nat} {y : Str} (h : l[k]? = some y) : (aStrs l)[k]? = some (.str y) := by rw [List.getElem?_map, h]; rfl
attribute [local simp] YL Z7 Z9 YM YN YO YP Z8 Z3 Z5 Z4 YQ YR YS YT YU YV YW YX YY YZ Ya Yb Yc Yd scV pe Ye Yf Yg Yh Yi Yj Yk Yl Ym Yn Yo spg_mv Yp Yq Yr Ys Yt Yu Yv Yw Yx Yy Yz X0 X1 X2 X3 X4 X5 X6 X7 X8 X9 spg_mm XA YD XB XC XD XE XF XG XH XI XJ XK XL XM XN XO XP XQ XR XS XT XU XV XW XX XY XZ YC Xa Xb Xc Xd Xe Xf Xg Xh Xi Xj Xk Xl Xm Xn Xo Xp Xq Xr Xs Xt Xu Xv Xw Xx List.mem_cons ZO ZN Z1 YG Zu Xy Zi Zr Zn Zp Zq Zo Zv Zw Zm Xz Q0 Zl Q1 Q2 Q4 Q5 Q6 Q7 Zs Q8 Q9 QA QB QC QD Zt Zh Zx Y1 Y2 QE QF Y3 QG Zj QH Zk Zg QI Zy Zz QJ QK QM QN QO QP QR QS Zd ZK ZI Zc Zf ZH ZM YB Z0 QT ZV ZL Ze ZC ZZ ZA Y5 ZJ Y8 Y9 Zb ZY ZU ZX Za ZT ZD ev get put Y4 ZS QU QV QW QX QY QZ ZE part ZW Qb Qc Qd isNil ZR ZQ ZB ZP YE Qe Qf Qg Qh Qi Qj Qk Ql Qm Qn Qo Qp Qq Qr Qs Qt AV.fits AV.cells ones AV.one YH YI YJ YK ZF ZG Qu Qv Qw Qx Y6 Y7 resV Z2 Qy YA u8e YF Qz V0 List.getElem?_cons_zero List.getElem?_cons_succ
set_option maxHeartbeats 2000000 in
theorem itemsI_a (s : Str) (hs : s.length ≤ 1000000) : APure Tryz.prog 87 [.str s, .fn 85 [] []] (.tup [aL (itemsV numI s).1, .bool (itemsV numI s).2]) := by
  have hsp := split_a s 44 hs
  have hml := fun p => spl_mem_len 44 s p
  have hln := spl_len 44 s
  unfold itemsV
  generalize spl 44 s = L at *
  generalize hBB : (L.all fun x => (numI x).2) = B
  generalize hMM : L.map (fun x => (numI x).1) = M
  have hc := calNum
  refine apure_intro Tryz.func87 cmp87 rfl fun n H hH => ?_
  have _hb : True := trivial
  have _hO : Owns n H [] [⟨3, 1, .sl 0 [] .nil, []⟩] n H := (Owns.start hH).addNil _ _ _
  repeat' (first | (simp -implicitDefEqProofs [c87_k1_go, c87_k2_go, c87_k3_go, c87_k4_go, c87_L5_go, c87, -getElem?_pos, simA_refl, _hb]) | (simp (disch := omega) only [upd_ne, Qy, if_pos, if_neg, IntWalk.i64_in, Int.tdiv_eq_ediv_of_nonneg, Int.tmod_eq_emod_of_nonneg]) | ((with_reducible refine CallP.chk (f := 56) ?_); (refine' CallP.sf ?_ (hsp) ?_); (focus first | (with_reducible exact simL_refl _) | (exact Owns.simC0 (by assumption)) | (exact Owns.simC1 (by assumption)) | (simp [simL, simA, simA_refl, simL_refl]; done))) | (with_reducible refine fin_r ?_ ?_ ?_) | (with_reducible exact SameB.rfl_ _ _) | (with_reducible refine SameB.upd ?_ ?_ _) | (with_reducible assumption) | (with_reducible refine newSM_of ?_) | ((with_reducible refine newS_own (by assumption) (fun _g _hg _hO => ?_))) | ((with_reducible refine appKS.chk ?_); first | ((refine Owns.app (by assumption) (.inl rfl) (by first | (exact Owns.simL0 (by assumption)) | (exact Owns.simL1 (by assumption)) | (with_reducible exact simL_refl _) | assumption | (simp [simL, simA, simA_refl, simL_refl]; done)) ?_ ?_ (fun _x _n _H _hle _hO _hb => ?_)); rotate_left 2; dsimp only [BoxF, BoxF0, RowF] at _hb) | ((refine Owns.app1 (by assumption) (.inl rfl) (by first | (exact Owns.simL0 (by assumption)) | (exact Owns.simL1 (by assumption)) | (with_reducible exact simL_refl _) | assumption | (simp [simL, simA, simA_refl, simL_refl]; done)) ?_ ?_ (fun _x _n _H _hle _hO _hb => ?_)); rotate_left 2; dsimp only [BoxF, BoxF0, RowF] at _hb)) | (first | (with_reducible exact Owns.fit0 (by assumption)) | (with_reducible exact Owns.fit1 (by assumption))) | (with_reducible exact Owns.le (by assumption)) | (with_reducible exact Owns.same (by assumption)) | (with_reducible refine newSM_of ?_) | (with_reducible refine newS_go ?_) | (with_reducible intro _g _hg) | (with_reducible refine And.intro ?_ ?_) | (with_reducible intro _hc) | omega)
  refine LoopK.go (fun q st => ∃ (k n' : Nat) (H' : AHeap) (x : AV) (l2 : List Int), k + q = L.length ∧ st = ⟨[(1, .fn 85 [] []), (6, x), (12, aSs L), (13, aI L.length), (14, aI k)], n', H'⟩ ∧ Owns n H [] [⟨3, 1, x, l2.map aI⟩] n' H' ∧
    l2.length = k ∧ B = ((L.drop k).all fun x => (numI x).2) ∧ M = l2 ++ (L.drop k).map (fun x => (numI x).1)) L.length ⟨0, _, _, _, [], by omega, rfl, _hO, by simp, by simpa using hBB.symm, by simpa using hMM.symm⟩ ?_
  rintro q st ⟨k, n1, H1, xb, l2, hkq, rfl, _hO, hl2, hE, hM⟩ J hJ
  have _hb := _hO.boxF
  dsimp only [BoxF, BoxF0, RowF] at _hb
  have hle := _hO.le
  by_cases hk : k < L.length
  · obtain ⟨y, hy⟩ : ∃ y, L[k]? = some y := ⟨_, List.getElem?_eq_getElem hk⟩
    have hy2 := str_at hy
    have hyl := hml y (List.mem_of_getElem? hy)
    have hny := rnum_a y (by omega)
    rw [drop_at hy, List.all_cons] at hE
    rw [drop_at hy, List.map_cons] at hM
    generalize numI y = nm at *
    obtain ⟨v, ok⟩ := nm
    dsimp only at *
    cases ok with
    | true =>
      repeat' (first | (simp -implicitDefEqProofs [c87_k1_go, c87_k2_go, c87_k3_go, c87_k4_go, c87_L5_go, c87, -getElem?_pos, simA_refl, hy, hy2, hc, splice, maxLen, _hb]) | (simp (disch := omega) only [upd_ne, Qy, if_pos, if_neg, IntWalk.i64_in, Int.tdiv_eq_ediv_of_nonneg, Int.tmod_eq_emod_of_nonneg]) | ((with_reducible refine CallK.chk (f := 85) ?_); (refine' CallK.sfAt ?_ (hny.at_ _ _) ?_); (focus first | (with_reducible exact simL_refl _) | (exact Owns.simC0 (by assumption)) | (exact Owns.simC1 (by assumption)) | (simp [simL, simA, simA_refl, simL_refl]; done))) | (with_reducible refine fin_r ?_ ?_ ?_) | (with_reducible exact SameB.rfl_ _ _) | (with_reducible refine SameB.upd ?_ ?_ _) | (with_reducible assumption) | (with_reducible refine newSM_of ?_) | ((with_reducible refine newS_own (by assumption) (fun _g _hg _hO => ?_))) | ((with_reducible refine appKS.chk ?_); first | ((refine Owns.app (by assumption) (.inl rfl) (by first | (exact Owns.simL0 (by assumption)) | (exact Owns.simL1 (by assumption)) | (with_reducible exact simL_refl _) | assumption | (simp [simL, simA, simA_refl, simL_refl]; done)) ?_ ?_ (fun _x _n _H _hle _hO _hb => ?_)); rotate_left 2; dsimp only [BoxF, BoxF0, RowF] at _hb) | ((refine Owns.app1 (by assumption) (.inl rfl) (by first | (exact Owns.simL0 (by assumption)) | (exact Owns.simL1 (by assumption)) | (with_reducible exact simL_refl _) | assumption | (simp [simL, simA, simA_refl, simL_refl]; done)) ?_ ?_ (fun _x _n _H _hle _hO _hb => ?_)); rotate_left 2; dsimp only [BoxF, BoxF0, RowF] at _hb)) | (first | (with_reducible exact Owns.fit0 (by assumption)) | (with_reducible exact Owns.fit1 (by assumption))) | (with_reducible exact Owns.le (by assumption)) | (with_reducible exact Owns.same (by assumption)) | (with_reducible refine newSM_of ?_) | (with_reducible refine newS_go ?_) | (with_reducible intro _g _hg) | (with_reducible refine And.intro ?_ ?_) | (with_reducible intro _hc) | omega)
      exact hJ (q - 1) _ (by omega) ⟨k + 1, _, _, _, l2 ++ [v], by omega, rfl, by rw [List.map_append]; exact _hO, by simp; omega, by rw [hE]; rfl, by rw [hM]; simp⟩
    | false =>
      rw [hE]
      repeat' (first | (simp -implicitDefEqProofs [c87_k1_go, c87_k2_go, c87_k3_go, c87_k4_go, c87_L5_go, c87, -getElem?_pos, simA_refl, hy, hy2, hc, splice, _hb]) | (simp (disch := omega) only [upd_ne, Qy, if_pos, if_neg, IntWalk.i64_in, Int.tdiv_eq_ediv_of_nonneg, Int.tmod_eq_emod_of_nonneg]) | ((with_reducible refine CallK.chk (f := 85) ?_); (refine' CallK.sfAt ?_ (hny.at_ _ _) ?_); (focus first | (with_reducible exact simL_refl _) | (exact Owns.simC0 (by assumption)) | (exact Owns.simC1 (by assumption)) | (simp [simL, simA, simA_refl, simL_refl]; done))) | (with_reducible refine fin_r ?_ ?_ ?_) | (with_reducible exact SameB.rfl_ _ _) | (with_reducible refine SameB.upd ?_ ?_ _) | (with_reducible assumption) | (with_reducible refine newSM_of ?_) | ((with_reducible refine newS_own (by assumption) (fun _g _hg _hO => ?_))) | ((with_reducible refine appKS.chk ?_); first | ((refine Owns.app (by assumption) (.inl rfl) (by first | (exact Owns.simL0 (by assumption)) | (exact Owns.simL1 (by assumption)) | (with_reducible exact simL_refl _) | assumption | (simp [simL, simA, simA_refl, simL_refl]; done)) ?_ ?_ (fun _x _n _H _hle _hO _hb => ?_)); rotate_left 2; dsimp only [BoxF, BoxF0, RowF] at _hb) | ((refine Owns.app1 (by assumption) (.inl rfl) (by first | (exact Owns.simL0 (by assumption)) | (exact Owns.simL1 (by assumption)) | (with_reducible exact simL_refl _) | assumption | (simp [simL, simA, simA_refl, simL_refl]; done)) ?_ ?_ (fun _x _n _H _hle _hO _hb => ?_)); rotate_left 2; dsimp only [BoxF, BoxF0, RowF] at _hb)) | (first | (with_reducible exact Owns.fit0 (by assumption)) | (with_reducible exact Owns.fit1 (by assumption))) | (with_reducible exact Owns.le (by assumption)) | (with_reducible exact Owns.same (by assumption)) | (with_reducible refine newSM_of ?_) | (with_reducible refine newS_go ?_) | (with_reducible intro _g _hg) | (with_reducible refine And.intro ?_ ?_) | (with_reducible intro _hc) | omega)
      all_goals exact simA_tup (simL_cons simA_nil (simL_refl _))
  · have hk0 : k = L.length := by omega
    subst hk0
    rw [List.drop_length] at hE hM
    rw [hE, hM]
    simp only [List.all_nil, List.map_nil, List.append_nil, if_true]
    repeat' (first | (simp -implicitDefEqProofs [c87_k1_go, c87_k2_go, c87_k3_go, c87_k4_go, c87_L5_go, c87, -getElem?_pos, simA_refl, _hb]) | (simp (disch := omega) only [upd_ne, Qy, if_pos, if_neg, IntWalk.i64_in, Int.tdiv_eq_ediv_of_nonneg, Int.tmod_eq_emod_of_nonneg]) | (with_reducible refine fin_r ?_ ?_ ?_) | (with_reducible exact SameB.rfl_ _ _) | (with_reducible refine SameB.upd ?_ ?_ _) | (with_reducible assumption) | (with_reducible refine newSM_of ?_) | ((with_reducible refine newS_own (by assumption) (fun _g _hg _hO => ?_))) | ((with_reducible refine appKS.chk ?_); first | ((refine Owns.app (by assumption) (.inl rfl) (by first | (exact Owns.simL0 (by assumption)) | (exact Owns.simL1 (by assumption)) | (with_reducible exact simL_refl _) | assumption | (simp [simL, simA, simA_refl, simL_refl]; done)) ?_ ?_ (fun _x _n _H _hle _hO _hb => ?_)); rotate_left 2; dsimp only [BoxF, BoxF0, RowF] at _hb) | ((refine Owns.app1 (by assumption) (.inl rfl) (by first | (exact Owns.simL0 (by assumption)) | (exact Owns.simL1 (by assumption)) | (with_reducible exact simL_refl _) | assumption | (simp [simL, simA, simA_refl, simL_refl]; done)) ?_ ?_ (fun _x _n _H _hle _hO _hb => ?_)); rotate_left 2; dsimp only [BoxF, BoxF0, RowF] at _hb)) | (first | (with_reducible exact Owns.fit0 (by assumption)) | (with_reducible exact Owns.fit1 (by assumption))) | (with_reducible exact Owns.le (by assumption)) | (with_reducible exact Owns.same (by assumption)) | (with_reducible refine newSM_of ?_) | (with_reducible refine newS_go ?_) | (with_reducible intro _g _hg) | (with_reducible refine And.intro ?_ ?_) | (with_reducible intro _hc) | omega)
    exact simA_tup (simL_cons (_hO.sim0 (simL_refl _)) (simL_refl _))
set_option maxHeartbeats 2000000 in
theorem itemsW_a (s : Str) (hs : s.length ≤ 1000000) : APure Tryz.prog 90 [.str s, .fn 91 [] []] (.tup [aWs (itemsV wdI s).1, .bool (itemsV wdI s).2]) := by
  have hsp := split_a s 44 hs
  have hml := fun p => spl_mem_len 44 s p
  have hln := spl_len 44 s
  unfold itemsV
  generalize spl 44 s = L at *
  generalize hBB : (L.all fun x => (wdI x).2) = B
  generalize hMM : L.map (fun x => (wdI x).1) = M
  have hc := calWd
  refine apure_intro Tryz.func90 cmp90 rfl fun n H hH => ?_
  have _hb : True := trivial
  have _hO : Owns n H [] [⟨56, 2, .sl 0 [] .nil, []⟩] n H := (Owns.start hH).addNil _ _ _
  repeat' (first | (simp -implicitDefEqProofs [c90_k1_go, c90_k2_go, c90_k3_go, c90_k4_go, c90_L5_go, c90, -getElem?_pos, simA_refl, _hb]) | (simp (disch := omega) only [upd_ne, Qy, if_pos, if_neg, IntWalk.i64_in, Int.tdiv_eq_ediv_of_nonneg, Int.tmod_eq_emod_of_nonneg]) | ((with_reducible refine CallP.chk (f := 56) ?_); (refine' CallP.sf ?_ (hsp) ?_); (focus first | (with_reducible exact simL_refl _) | (exact Owns.simC0 (by assumption)) | (exact Owns.simC1 (by assumption)) | (simp [simL, simA, simA_refl, simL_refl]; done))) | (with_reducible refine fin_r ?_ ?_ ?_) | (with_reducible exact SameB.rfl_ _ _) | (with_reducible refine SameB.upd ?_ ?_ _) | (with_reducible assumption) | (with_reducible refine newPM_of ?_) | (with_reducible refine newSM_of ?_) | ((with_reducible refine newP_own (by assumption) (fun _g _hg _hO => ?_)); (have _hb := And.intro _hb _hO.boxF); dsimp only [BoxF, BoxF0, RowF] at _hb) | ((with_reducible refine newS_own (by assumption) (fun _g _hg _hO => ?_))) | ((with_reducible refine appKS.chk ?_); first | ((refine Owns.app (by assumption) (.inl rfl) (by first | (exact Owns.simL0 (by assumption)) | (exact Owns.simL1 (by assumption)) | (with_reducible exact simL_refl _) | assumption | (simp [simL, simA, simA_refl, simL_refl]; done)) ?_ ?_ (fun _x _n _H _hle _hO _hb => ?_)); rotate_left 2; dsimp only [BoxF, BoxF0, RowF] at _hb) | ((refine Owns.app1 (by assumption) (.inl rfl) (by first | (exact Owns.simL0 (by assumption)) | (exact Owns.simL1 (by assumption)) | (with_reducible exact simL_refl _) | assumption | (simp [simL, simA, simA_refl, simL_refl]; done)) ?_ ?_ (fun _x _n _H _hle _hO _hb => ?_)); rotate_left 2; dsimp only [BoxF, BoxF0, RowF] at _hb)) | (first | (with_reducible exact Owns.fit0 (by assumption)) | (with_reducible exact Owns.fit1 (by assumption))) | (with_reducible exact Owns.le (by assumption)) | (with_reducible exact Owns.same (by assumption)) | (with_reducible refine newPM_of ?_) | (with_reducible refine newSM_of ?_) | (with_reducible refine newP_go ?_) | (with_reducible refine newS_go ?_) | (with_reducible intro _g _hg) | (with_reducible refine And.intro ?_ ?_) | (with_reducible intro _hc) | omega)
  refine LoopK.go (fun q st => ∃ (k n' : Nat) (H' : AHeap) (x : AV) (l2 : List (Int × Int)), k + q = L.length ∧ st = ⟨[(1, .fn 91 [] []), (6, x), (12, aSs L), (13, aI L.length), (14, aI k)], n', H'⟩ ∧ Owns n H [] [⟨56, 2, x, l2.map aWd⟩] n' H' ∧
    l2.length = k ∧ B = ((L.drop k).all fun x => (wdI x).2) ∧ M = l2 ++ (L.drop k).map (fun x => (wdI x).1)) L.length ⟨0, _, _, _, [], by omega, rfl, _hO, by simp, by simpa using hBB.symm, by simpa using hMM.symm⟩ ?_
  rintro q st ⟨k, n1, H1, xb, l2, hkq, rfl, _hO, hl2, hE, hM⟩ J hJ
  have _hb := _hO.boxF
  dsimp only [BoxF, BoxF0, RowF] at _hb
  have hle := _hO.le
  by_cases hk : k < L.length
  · obtain ⟨y, hy⟩ : ∃ y, L[k]? = some y := ⟨_, List.getElem?_eq_getElem hk⟩
    have hy2 := str_at hy
    have hyl := hml y (List.mem_of_getElem? hy)
    have hny := rwd_a y (by omega)
    rw [drop_at hy, List.all_cons] at hE
    rw [drop_at hy, List.map_cons] at hM
    generalize wdI y = nm at *
    obtain ⟨v, ok⟩ := nm
    dsimp only at *
    cases ok with
    | true =>
      repeat' (first | (simp -implicitDefEqProofs [c90_L5_go, c90_k4_go, -getElem?_pos, simA_refl, hy, hy2, hc, splice, maxLen, _hb]) | (simp (disch := omega) only [upd_ne, Qy, if_pos, if_neg, IntWalk.i64_in, Int.tdiv_eq_ediv_of_nonneg, Int.tmod_eq_emod_of_nonneg]) | ((with_reducible refine CallK.chk (f := 91) ?_); (refine' CallK.sfAt ?_ (hny.at_ _ _) ?_); (focus first | (with_reducible exact simL_refl _) | (exact Owns.simC0 (by assumption)) | (exact Owns.simC1 (by assumption)) | (simp [simL, simA, simA_refl, simL_refl]; done))) | (with_reducible refine fin_r ?_ ?_ ?_) | (with_reducible exact SameB.rfl_ _ _) | (with_reducible refine SameB.upd ?_ ?_ _) | (with_reducible assumption) | (with_reducible refine newPM_of ?_) | (with_reducible refine newSM_of ?_) | ((with_reducible refine newP_own (by assumption) (fun _g _hg _hO => ?_)); (have _hb := And.intro _hb _hO.boxF); dsimp only [BoxF, BoxF0, RowF] at _hb) | ((with_reducible refine newS_own (by assumption) (fun _g _hg _hO => ?_))) | ((with_reducible refine appKS.chk ?_); first | ((refine Owns.app (by assumption) (.inl rfl) (by first | (exact Owns.simL0 (by assumption)) | (exact Owns.simL1 (by assumption)) | (with_reducible exact simL_refl _) | assumption | (simp [simL, simA, simA_refl, simL_refl]; done)) ?_ ?_ (fun _x _n _H _hle _hO _hb => ?_)); rotate_left 2; dsimp only [BoxF, BoxF0, RowF] at _hb) | ((refine Owns.app1 (by assumption) (.inl rfl) (by first | (exact Owns.simL0 (by assumption)) | (exact Owns.simL1 (by assumption)) | (with_reducible exact simL_refl _) | assumption | (simp [simL, simA, simA_refl, simL_refl]; done)) ?_ ?_ (fun _x _n _H _hle _hO _hb => ?_)); rotate_left 2; dsimp only [BoxF, BoxF0, RowF] at _hb)) | (first | (with_reducible exact Owns.fit0 (by assumption)) | (with_reducible exact Owns.fit1 (by assumption))) | (with_reducible exact Owns.le (by assumption)) | (with_reducible exact Owns.same (by assumption)) | (with_reducible refine newPM_of ?_) | (with_reducible refine newSM_of ?_) | (with_reducible refine newP_go ?_) | (with_reducible refine newS_go ?_) | (with_reducible intro _g _hg) | (with_reducible refine And.intro ?_ ?_) | (with_reducible intro _hc) | omega)
      replace _hO := _hO.set0 (by simp) 56 [aI v.1, aI v.2]
      have _hb := _hO.boxF
      dsimp only [BoxF, BoxF0, RowF] at _hb
      repeat' (first | (simp -implicitDefEqProofs [c90_k3_go, c90_k2_go, -getElem?_pos, simA_refl, splice, maxLen, _hb]) | (simp (disch := omega) only [upd_ne, Qy, if_pos, if_neg, IntWalk.i64_in, Int.tdiv_eq_ediv_of_nonneg, Int.tmod_eq_emod_of_nonneg]) | (with_reducible refine fin_r ?_ ?_ ?_) | (with_reducible exact SameB.rfl_ _ _) | (with_reducible refine SameB.upd ?_ ?_ _) | (with_reducible assumption) | (with_reducible refine newPM_of ?_) | (with_reducible refine newSM_of ?_) | ((with_reducible refine newP_own (by assumption) (fun _g _hg _hO => ?_)); (have _hb := And.intro _hb _hO.boxF); dsimp only [BoxF, BoxF0, RowF] at _hb) | ((with_reducible refine newS_own (by assumption) (fun _g _hg _hO => ?_))) | ((with_reducible refine appKS.chk ?_); first | ((refine Owns.app (by assumption) (.inl rfl) (by first | (exact Owns.simL0 (by assumption)) | (exact Owns.simL1 (by assumption)) | (with_reducible exact simL_refl _) | assumption | (simp [simL, simA, simA_refl, simL_refl]; done)) ?_ ?_ (fun _x _n _H _hle _hO _hb => ?_)); rotate_left 2; dsimp only [BoxF, BoxF0, RowF] at _hb) | ((refine Owns.app1 (by assumption) (.inl rfl) (by first | (exact Owns.simL0 (by assumption)) | (exact Owns.simL1 (by assumption)) | (with_reducible exact simL_refl _) | assumption | (simp [simL, simA, simA_refl, simL_refl]; done)) ?_ ?_ (fun _x _n _H _hle _hO _hb => ?_)); rotate_left 2; dsimp only [BoxF, BoxF0, RowF] at _hb)) | (first | (with_reducible exact Owns.fit0 (by assumption)) | (with_reducible exact Owns.fit1 (by assumption))) | (with_reducible exact Owns.le (by assumption)) | (with_reducible exact Owns.same (by assumption)) | (with_reducible refine newPM_of ?_) | (with_reducible refine newSM_of ?_) | (with_reducible refine newP_go ?_) | (with_reducible refine newS_go ?_) | (with_reducible intro _g _hg) | (with_reducible refine And.intro ?_ ?_) | (with_reducible intro _hc) | omega)
      exact hJ (q - 1) _ (by omega) ⟨k + 1, _, _, _, l2 ++ [v], by omega, rfl, by rw [List.map_append]; exact _hO.dropBox, by simp; omega, by rw [hE]; rfl, by rw [hM]; simp⟩
    | false =>
      rw [hE]
      repeat' (first | (simp -implicitDefEqProofs [c90_k1_go, c90_k2_go, c90_k3_go, c90_k4_go, c90_L5_go, c90, -getElem?_pos, simA_refl, hy, hy2, hc, splice, _hb]) | (simp (disch := omega) only [upd_ne, Qy, if_pos, if_neg, IntWalk.i64_in, Int.tdiv_eq_ediv_of_nonneg, Int.tmod_eq_emod_of_nonneg]) | ((with_reducible refine CallK.chk (f := 91) ?_); (refine' CallK.sfAt ?_ (hny.at_ _ _) ?_); (focus first | (with_reducible exact simL_refl _) | (exact Owns.simC0 (by assumption)) | (exact Owns.simC1 (by assumption)) | (simp [simL, simA, simA_refl, simL_refl]; done))) | (with_reducible refine fin_r ?_ ?_ ?_) | (with_reducible exact SameB.rfl_ _ _) | (with_reducible refine SameB.upd ?_ ?_ _) | (with_reducible assumption) | (with_reducible refine newPM_of ?_) | (with_reducible refine newSM_of ?_) | ((with_reducible refine newP_own (by assumption) (fun _g _hg _hO => ?_)); (have _hb := And.intro _hb _hO.boxF); dsimp only [BoxF, BoxF0, RowF] at _hb) | ((with_reducible refine newS_own (by assumption) (fun _g _hg _hO => ?_))) | ((with_reducible refine appKS.chk ?_); first | ((refine Owns.app (by assumption) (.inl rfl) (by first | (exact Owns.simL0 (by assumption)) | (exact Owns.simL1 (by assumption)) | (with_reducible exact simL_refl _) | assumption | (simp [simL, simA, simA_refl, simL_refl]; done)) ?_ ?_ (fun _x _n _H _hle _hO _hb => ?_)); rotate_left 2; dsimp only [BoxF, BoxF0, RowF] at _hb) | ((refine Owns.app1 (by assumption) (.inl rfl) (by first | (exact Owns.simL0 (by assumption)) | (exact Owns.simL1 (by assumption)) | (with_reducible exact simL_refl _) | assumption | (simp [simL, simA, simA_refl, simL_refl]; done)) ?_ ?_ (fun _x _n _H _hle _hO _hb => ?_)); rotate_left 2; dsimp only [BoxF, BoxF0, RowF] at _hb)) | (first | (with_reducible exact Owns.fit0 (by assumption)) | (with_reducible exact Owns.fit1 (by assumption))) | (with_reducible exact Owns.le (by assumption)) | (with_reducible exact Owns.same (by assumption)) | (with_reducible refine newPM_of ?_) | (with_reducible refine newSM_of ?_) | (with_reducible refine newP_go ?_) | (with_reducible refine newS_go ?_) | (with_reducible intro _g _hg) | (with_reducible refine And.intro ?_ ?_) | (with_reducible intro _hc) | omega)
      all_goals exact simA_tup (simL_cons simA_nil (simL_refl _))
  · have hk0 : k = L.length := by omega
    subst hk0
    rw [List.drop_length] at hE hM
    rw [hE, hM]
    simp only [List.all_nil, List.map_nil, List.append_nil, if_true]
    repeat' (first | (simp -implicitDefEqProofs [c90_k1_go, c90_k2_go, c90_k3_go, c90_k4_go, c90_L5_go, c90, -getElem?_pos, simA_refl, _hb]) | (simp (disch := omega) only [upd_ne, Qy, if_pos, if_neg, IntWalk.i64_in, Int.tdiv_eq_ediv_of_nonneg, Int.tmod_eq_emod_of_nonneg]) | (with_reducible refine fin_r ?_ ?_ ?_) | (with_reducible exact SameB.rfl_ _ _) | (with_reducible refine SameB.upd ?_ ?_ _) | (with_reducible assumption) | (with_reducible refine newPM_of ?_) | (with_reducible refine newSM_of ?_) | ((with_reducible refine newP_own (by assumption) (fun _g _hg _hO => ?_)); (have _hb := And.intro _hb _hO.boxF); dsimp only [BoxF, BoxF0, RowF] at _hb) | ((with_reducible refine newS_own (by assumption) (fun _g _hg _hO => ?_))) | ((with_reducible refine appKS.chk ?_); first | ((refine Owns.app (by assumption) (.inl rfl) (by first | (exact Owns.simL0 (by assumption)) | (exact Owns.simL1 (by assumption)) | (with_reducible exact simL_refl _) | assumption | (simp [simL, simA, simA_refl, simL_refl]; done)) ?_ ?_ (fun _x _n _H _hle _hO _hb => ?_)); rotate_left 2; dsimp only [BoxF, BoxF0, RowF] at _hb) | ((refine Owns.app1 (by assumption) (.inl rfl) (by first | (exact Owns.simL0 (by assumption)) | (exact Owns.simL1 (by assumption)) | (with_reducible exact simL_refl _) | assumption | (simp [simL, simA, simA_refl, simL_refl]; done)) ?_ ?_ (fun _x _n _H _hle _hO _hb => ?_)); rotate_left 2; dsimp only [BoxF, BoxF0, RowF] at _hb)) | (first | (with_reducible exact Owns.fit0 (by assumption)) | (with_reducible exact Owns.fit1 (by assumption))) | (with_reducible exact Owns.le (by assumption)) | (with_reducible exact Owns.same (by assumption)) | (with_reducible refine newPM_of ?_) | (with_reducible refine newSM_of ?_) | (with_reducible refine newP_go ?_) | (with_reducible refine newS_go ?_) | (with_reducible intro _g _hg) | (with_reducible refine And.intro ?_ ?_) | (with_reducible intro _hc) | omega)
    exact simA_tup (simL_cons (_hO.sim0 (simL_refl _)) (simL_refl _))
/-- the cells of a rule that is being read -/
def RCells (cs : List AV) (r : Rule) : Prop := ∃ m d w p, cs = [aI r.unit, aI r.step, m, d, w, p, aI r.count, aI r.untl] ∧ simA m (aL r.months) ∧ simA d (aL r.mdays) ∧ simA w (aWs r.wdays) ∧ simA p (aL r.picks)
theorem RCells.agg {cs : List AV} {r : Rule} (h : RCells cs r) : simA (.agg cs) (aR r) := by
  obtain ⟨m, d, w, p, rfl, h1, h2, h3, h4⟩ := h
  exact simA_agg (simL_cons (simA_refl _) (simL_cons (simA_refl _) (simL_cons h1 (simL_cons h2 (simL_cons h3 (simL_cons h4 (simL_refl _)))))))
section
variable {gr : Nat} {cs : List AV} (r : Rule) (hr : RCells cs r) (s : Str) (hs : s.length ≤ 1000000)
include hr hs
theorem parse1_u : ∃ cs', RCells cs' (readK 0 s r).1 ∧ ∀ n H, H gr = some (.cells 25 cs) → AUpd Tryz.prog 86 [.str s, .ptr gr 0] n H (.bool (readK 0 s r).2) gr (.cells 25 cs') := by
  have hi := itemsI_a s hs
  obtain ⟨m, d, w, p, rfl, h1, h2, h3, h4⟩ := hr
  refine ⟨_, ⟨_, d, w, p, rfl, simA_refl _, h2, h3, h4⟩, fun n H hg => ?_⟩
  simp only [readK]
  generalize itemsV numI s = q at *
  refine aupd_intro Tryz.func86 cmp86 rfl (hg) fun hH => ?_
  repeat' (first | (simp -implicitDefEqProofs [c86, -getElem?_pos, simA_refl, hg, splice]) | (simp (disch := omega) only [upd_ne, Qy, if_pos, if_neg, IntWalk.i64_in, Int.tdiv_eq_ediv_of_nonneg, Int.tmod_eq_emod_of_nonneg]) | ((with_reducible refine CallP.chk (f := 87) ?_); (refine' CallP.sf ?_ (hi) ?_); (focus first | (with_reducible exact simL_refl _) | (simp [simL, simA, simA_refl, simL_refl]; done))) | (with_reducible refine fin_r ?_ ?_ ?_) | (with_reducible exact SameB.rfl_ _ _) | (with_reducible refine SameB.upd ?_ ?_ _) | (with_reducible assumption) | (with_reducible intro _g _hg) | (with_reducible refine And.intro ?_ ?_) | (with_reducible intro _hc) | omega)
theorem parse2_u : ∃ cs', RCells cs' (readK 1 s r).1 ∧ ∀ n H, H gr = some (.cells 25 cs) → AUpd Tryz.prog 88 [.str s, .ptr gr 0] n H (.bool (readK 1 s r).2) gr (.cells 25 cs') := by
  have hi := itemsI_a s hs
  obtain ⟨m, d, w, p, rfl, h1, h2, h3, h4⟩ := hr
  refine ⟨_, ⟨m, _, w, p, rfl, h1, simA_refl _, h3, h4⟩, fun n H hg => ?_⟩
  simp only [readK]
  generalize itemsV numI s = q at *
  refine aupd_intro Tryz.func88 cmp88 rfl (hg) fun hH => ?_
  repeat' (first | (simp -implicitDefEqProofs [c88, -getElem?_pos, simA_refl, hg, splice]) | (simp (disch := omega) only [upd_ne, Qy, if_pos, if_neg, IntWalk.i64_in, Int.tdiv_eq_ediv_of_nonneg, Int.tmod_eq_emod_of_nonneg]) | ((with_reducible refine CallP.chk (f := 87) ?_); (refine' CallP.sf ?_ (hi) ?_); (focus first | (with_reducible exact simL_refl _) | (simp [simL, simA, simA_refl, simL_refl]; done))) | (with_reducible refine fin_r ?_ ?_ ?_) | (with_reducible exact SameB.rfl_ _ _) | (with_reducible refine SameB.upd ?_ ?_ _) | (with_reducible assumption) | (with_reducible intro _g _hg) | (with_reducible refine And.intro ?_ ?_) | (with_reducible intro _hc) | omega)
theorem parse3_u : ∃ cs', RCells cs' (readK 2 s r).1 ∧ ∀ n H, H gr = some (.cells 25 cs) → AUpd Tryz.prog 89 [.str s, .ptr gr 0] n H (.bool (readK 2 s r).2) gr (.cells 25 cs') := by
  have hi := itemsW_a s hs
  obtain ⟨m, d, w, p, rfl, h1, h2, h3, h4⟩ := hr
  refine ⟨_, ⟨m, d, _, p, rfl, h1, h2, simA_refl _, h4⟩, fun n H hg => ?_⟩
  simp only [readK]
  generalize itemsV wdI s = q at *
  refine aupd_intro Tryz.func89 cmp89 rfl (hg) fun hH => ?_
  repeat' (first | (simp -implicitDefEqProofs [c89, -getElem?_pos, simA_refl, hg, splice]) | (simp (disch := omega) only [upd_ne, Qy, if_pos, if_neg, IntWalk.i64_in, Int.tdiv_eq_ediv_of_nonneg, Int.tmod_eq_emod_of_nonneg]) | ((with_reducible refine CallP.chk (f := 90) ?_); (refine' CallP.sf ?_ (hi) ?_); (focus first | (with_reducible exact simL_refl _) | (simp [simL, simA, simA_refl, simL_refl]; done))) | (with_reducible refine fin_r ?_ ?_ ?_) | (with_reducible exact SameB.rfl_ _ _) | (with_reducible refine SameB.upd ?_ ?_ _) | (with_reducible assumption) | (with_reducible intro _g _hg) | (with_reducible refine And.intro ?_ ?_) | (with_reducible intro _hc) | omega)
theorem parse4_u : ∃ cs', RCells cs' (readK 3 s r).1 ∧ ∀ n H, H gr = some (.cells 25 cs) → AUpd Tryz.prog 92 [.str s, .ptr gr 0] n H (.bool (readK 3 s r).2) gr (.cells 25 cs') := by
  have hi := itemsI_a s hs
  obtain ⟨m, d, w, p, rfl, h1, h2, h3, h4⟩ := hr
  refine ⟨_, ⟨m, d, w, _, rfl, h1, h2, h3, simA_refl _⟩, fun n H hg => ?_⟩
  simp only [readK]
  generalize itemsV numI s = q at *
  refine aupd_intro Tryz.func92 cmp92 rfl (hg) fun hH => ?_
  repeat' (first | (simp -implicitDefEqProofs [c92, -getElem?_pos, simA_refl, hg, splice]) | (simp (disch := omega) only [upd_ne, Qy, if_pos, if_neg, IntWalk.i64_in, Int.tdiv_eq_ediv_of_nonneg, Int.tmod_eq_emod_of_nonneg]) | ((with_reducible refine CallP.chk (f := 87) ?_); (refine' CallP.sf ?_ (hi) ?_); (focus first | (with_reducible exact simL_refl _) | (simp [simL, simA, simA_refl, simL_refl]; done))) | (with_reducible refine fin_r ?_ ?_ ?_) | (with_reducible exact SameB.rfl_ _ _) | (with_reducible refine SameB.upd ?_ ?_ _) | (with_reducible assumption) | (with_reducible intro _g _hg) | (with_reducible refine And.intro ?_ ?_) | (with_reducible intro _hc) | omega)
theorem parse5_u : ∃ cs', RCells cs' (readK 4 s r).1 ∧ ∀ n H, H gr = some (.cells 25 cs) → AUpd Tryz.prog 93 [.str s, .ptr gr 0] n H (.bool (readK 4 s r).2) gr (.cells 25 cs') := by
  have hi := rnum_a s hs
  obtain ⟨m, d, w, p, rfl, h1, h2, h3, h4⟩ := hr
  refine ⟨_, ⟨m, d, w, p, rfl, h1, h2, h3, h4⟩, fun n H hg => ?_⟩
  simp only [readK]
  generalize numI s = nm at *
  obtain ⟨v, ok⟩ := nm
  dsimp only at *
  refine aupd_intro Tryz.func93 cmp93 rfl (hg) fun hH => ?_
  cases ok with
  | false => repeat' (first | (simp -implicitDefEqProofs [c93, -getElem?_pos, simA_refl, hg, splice]) | (simp (disch := omega) only [upd_ne, Qy, if_pos, if_neg, IntWalk.i64_in, Int.tdiv_eq_ediv_of_nonneg, Int.tmod_eq_emod_of_nonneg]) | ((with_reducible refine CallP.chk (f := 85) ?_); (refine' CallP.sf ?_ (hi) ?_); (focus first | (with_reducible exact simL_refl _) | (simp [simL, simA, simA_refl, simL_refl]; done))) | (with_reducible refine fin_r ?_ ?_ ?_) | (with_reducible exact SameB.rfl_ _ _) | (with_reducible refine SameB.upd ?_ ?_ _) | (with_reducible assumption) | (with_reducible intro _g _hg) | (with_reducible refine And.intro ?_ ?_) | (with_reducible intro _hc) | omega)
  | true =>
    by_cases hv : v = 0
    · subst hv
      repeat' (first | (simp -implicitDefEqProofs [c93, -getElem?_pos, simA_refl, hg, splice]) | (simp (disch := omega) only [upd_ne, Qy, if_pos, if_neg, IntWalk.i64_in, Int.tdiv_eq_ediv_of_nonneg, Int.tmod_eq_emod_of_nonneg]) | ((with_reducible refine CallP.chk (f := 85) ?_); (refine' CallP.sf ?_ (hi) ?_); (focus first | (with_reducible exact simL_refl _) | (simp [simL, simA, simA_refl, simL_refl]; done))) | (with_reducible refine fin_r ?_ ?_ ?_) | (with_reducible exact SameB.rfl_ _ _) | (with_reducible refine SameB.upd ?_ ?_ _) | (with_reducible assumption) | (with_reducible intro _g _hg) | (with_reducible refine And.intro ?_ ?_) | (with_reducible intro _hc) | omega)
    · have hvb : (v != 0) = true := by simp [hv]
      repeat' (first | (simp -implicitDefEqProofs [c93, -getElem?_pos, simA_refl, hg, splice, hv, hvb]) | (simp (disch := omega) only [upd_ne, Qy, if_pos, if_neg, IntWalk.i64_in, Int.tdiv_eq_ediv_of_nonneg, Int.tmod_eq_emod_of_nonneg]) | ((with_reducible refine CallP.chk (f := 85) ?_); (refine' CallP.sf ?_ (hi) ?_); (focus first | (with_reducible exact simL_refl _) | (simp [simL, simA, simA_refl, simL_refl]; done))) | (with_reducible refine fin_r ?_ ?_ ?_) | (with_reducible exact SameB.rfl_ _ _) | (with_reducible refine SameB.upd ?_ ?_ _) | (with_reducible assumption) | (with_reducible intro _g _hg) | (with_reducible refine And.intro ?_ ?_) | (with_reducible intro _hc) | omega)
theorem parse6_u : ∃ cs', RCells cs' (readK 5 s r).1 ∧ ∀ n H, H gr = some (.cells 25 cs) → AUpd Tryz.prog 94 [.str s, .ptr gr 0] n H (.bool (readK 5 s r).2) gr (.cells 25 cs') := by
  have hi := rnum_a s hs
  obtain ⟨m, d, w, p, rfl, h1, h2, h3, h4⟩ := hr
  refine ⟨_, ⟨m, d, w, p, rfl, h1, h2, h3, h4⟩, fun n H hg => ?_⟩
  simp only [readK]
  generalize numI s = nm at *
  obtain ⟨v, ok⟩ := nm
  dsimp only at *
  refine aupd_intro Tryz.func94 cmp94 rfl (hg) fun hH => ?_
  cases ok with
  | false => repeat' (first | (simp -implicitDefEqProofs [c94, -getElem?_pos, simA_refl, hg, splice]) | (simp (disch := omega) only [upd_ne, Qy, if_pos, if_neg, IntWalk.i64_in, Int.tdiv_eq_ediv_of_nonneg, Int.tmod_eq_emod_of_nonneg]) | ((with_reducible refine CallP.chk (f := 85) ?_); (refine' CallP.sf ?_ (hi) ?_); (focus first | (with_reducible exact simL_refl _) | (simp [simL, simA, simA_refl, simL_refl]; done))) | (with_reducible refine fin_r ?_ ?_ ?_) | (with_reducible exact SameB.rfl_ _ _) | (with_reducible refine SameB.upd ?_ ?_ _) | (with_reducible assumption) | (with_reducible intro _g _hg) | (with_reducible refine And.intro ?_ ?_) | (with_reducible intro _hc) | omega)
  | true =>
    by_cases hv : v = 0
    · subst hv
      repeat' (first | (simp -implicitDefEqProofs [c94, -getElem?_pos, simA_refl, hg, splice]) | (simp (disch := omega) only [upd_ne, Qy, if_pos, if_neg, IntWalk.i64_in, Int.tdiv_eq_ediv_of_nonneg, Int.tmod_eq_emod_of_nonneg]) | ((with_reducible refine CallP.chk (f := 85) ?_); (refine' CallP.sf ?_ (hi) ?_); (focus first | (with_reducible exact simL_refl _) | (simp [simL, simA, simA_refl, simL_refl]; done))) | (with_reducible refine fin_r ?_ ?_ ?_) | (with_reducible exact SameB.rfl_ _ _) | (with_reducible refine SameB.upd ?_ ?_ _) | (with_reducible assumption) | (with_reducible intro _g _hg) | (with_reducible refine And.intro ?_ ?_) | (with_reducible intro _hc) | omega)
    · have hvb : (v != 0) = true := by simp [hv]
      repeat' (first | (simp -implicitDefEqProofs [c94, -getElem?_pos, simA_refl, hg, splice, hv, hvb]) | (simp (disch := omega) only [upd_ne, Qy, if_pos, if_neg, IntWalk.i64_in, Int.tdiv_eq_ediv_of_nonneg, Int.tmod_eq_emod_of_nonneg]) | ((with_reducible refine CallP.chk (f := 85) ?_); (refine' CallP.sf ?_ (hi) ?_); (focus first | (with_reducible exact simL_refl _) | (simp [simL, simA, simA_refl, simL_refl]; done))) | (with_reducible refine fin_r ?_ ?_ ?_) | (with_reducible exact SameB.rfl_ _ _) | (with_reducible refine SameB.upd ?_ ?_ _) | (with_reducible assumption) | (with_reducible intro _g _hg) | (with_reducible refine And.intro ?_ ?_) | (with_reducible intro _hc) | omega)
end
end Go.Proofs.YtecpfmhminkalaaGreatDoor
namespace Go.Proofs.YtecpfmhminkalaaGreatDoor
/-- the rule of a list of words, as the code reads it -/
def parseP (ws : List Str) : Rule × Bool := if ws.length % 2 = 0 then (zR, false) else parseL ws
theorem goR_even : ∀ (m : Nat) (r : Rule) (ws : List Str), (goR m r ws).2 = true → ws.length % 2 = 0
  | 0, r, ws, h => by
    simp only [goR, List.isEmpty_iff] at h
    rw [h]; rfl
  | m + 1, r, [], h => rfl
  | m + 1, r, [w], h => absurd (goR_even m r [w] h) (by simp)
  | m + 1, r, w :: v :: rest, h => by
    rw [goR] at h
    split at h
    · split at h
      · have := goR_even m _ rest h; simp only [List.length_cons]; omega
      · cases h
    · exact goR_even m r _ h
theorem parseL_odd (ws : List Str) (h : (parseL ws).2 = true) : ws.length % 2 ≠ 0 := by
  unfold parseL at h
  split at h
  · split at h
    · split at h
      · have := goR_even _ _ _ h; simp only [List.length_cons]; omega
      · cases h
    · cases h
  · cases h
theorem parseP_eq (ws : List Str) : (parseP ws).2 = (parseL ws).2 ∧ ((parseL ws).2 = true → parseP ws = parseL ws) := by
  unfold parseP
  split
  · rename_i h
    cases h2 : (parseL ws).2 with
    | true => exact absurd h (parseL_odd ws h2)
    | false => exact ⟨rfl, fun h => by cases h⟩
  · exact ⟨rfl, fun _ => rfl⟩
theorem rcal1 : callable Tryz.prog 86 = true := by kernel_rfl
theorem rcal2 : callable Tryz.prog 88 = true := by kernel_rfl
theorem rcal3 : callable Tryz.prog 89 = true := by kernel_rfl
theorem rcal4 : callable Tryz.prog 92 = true := by kernel_rfl
theorem rcal5 : callable Tryz.prog 93 = true := by kernel_rfl
theorem rcal6 : callable Tryz.prog 94 = true := by kernel_rfl
/-- the readers -/
abbrev rdE (g : Nat) : List AV := [.agg [.str wMonths, .fn 86 [] [.ptr g 0]], .agg [.str wDays, .fn 88 [] [.ptr g 0]], .agg [.str wOn, .fn 89 [] [.ptr g 0]], .agg [.str wPicks, .fn 92 [] [.ptr g 0]], .agg [.str wCount, .fn 93 [] [.ptr g 0]], .agg [.str wUntil, .fn 94 [] [.ptr g 0]]]
theorem reader_at (g k : Nat) (hk : k < 6) : ∃ f, (rdE g)[k]? = some (.agg [.str (keyL.getD k []), .fn f [] [.ptr g 0]]) ∧ callable Tryz.prog f = true ∧
    ∀ (cs : List AV) (r : Rule) (s : Str), RCells cs r → s.length ≤ 1000000 → ∃ cs', RCells cs' (readK k s r).1 ∧ ∀ (n : Nat) (H : AHeap), H g = some (.cells 25 cs) → AUpd Tryz.prog f [.str s, .ptr g 0] n H (.bool (readK k s r).2) g (.cells 25 cs') := by
  rcases (by omega : k = 0 ∨ k = 1 ∨ k = 2 ∨ k = 3 ∨ k = 4 ∨ k = 5) with rfl | rfl | rfl | rfl | rfl | rfl
  · exact ⟨_, rfl, rcal1, fun cs r s h1 h3 => parse1_u r h1 s h3⟩
  · exact ⟨_, rfl, rcal2, fun cs r s h1 h3 => parse2_u r h1 s h3⟩
  · exact ⟨_, rfl, rcal3, fun cs r s h1 h3 => parse3_u r h1 s h3⟩
  · exact ⟨_, rfl, rcal4, fun cs r s h1 h3 => parse4_u r h1 s h3⟩
  · exact ⟨_, rfl, rcal5, fun cs r s h1 h3 => parse5_u r h1 s h3⟩
  · exact ⟨_, rfl, rcal6, fun cs r s h1 h3 => parse6_u r h1 s h3⟩
theorem simA_sl_inv {m : AV} {k : Nat} {l : List AV} {t : Tok} (h : simA m (.sl k l t)) : ∃ k' l' t', m = .sl k' l' t' := by cases m <;> simp [simA] at h ⊢
theorem zcells : RCells [aI 0, aI 0, .sl 0 [] .nil, .sl 0 [] .nil, .sl 0 [] .nil, .sl 0 [] .nil, aI 0, aI 0] zR := ⟨_, _, _, _, rfl, simA_nil, simA_nil, simA_nil, simA_nil⟩
attribute [local simp] YL Z7 Z9 YM YN YO YP Z8 Z3 Z5 Z4 YQ YR YS YT YU YV YW YX YY YZ Ya Yb Yc Yd scV pe Ye Yf Yg Yh Yi Yj Yk Yl Ym Yn Yo spg_mv Yp Yq Yr Ys Yt Yu Yv Yw Yx Yy Yz X0 X1 X2 X3 X4 X5 X6 X7 X8 X9 spg_mm XA YD XB XC XD XE XF XG XH XI XJ XK XL XM XN XO XP XQ XR XS XT XU XV XW XX XY XZ YC Xa Xb Xc Xd Xe Xf Xg Xh Xi Xj Xk Xl Xm Xn Xo Xp Xq Xr Xs Xt Xu Xv Xw Xx List.mem_cons ZO ZN Z1 YG Zu Xy Zi Zr Zn Zp Zq Zo Zv Zw Zm Xz Q0 Zl Q1 Q2 Q4 Q5 Q6 Q7 Zs Q8 Q9 QA QB QC QD Zt Zh Zx Y1 Y2 QE QF Y3 QG Zj QH Zk Zg QI Zy Zz QJ QK QM QN QO QP QR QS Zd ZK ZI Zc Zf ZH ZM YB Z0 QT ZV ZL Ze ZC ZZ ZA Y5 ZJ Y8 Y9 Zb ZY ZU ZX Za ZT ZD ev get put Y4 ZS QU QV QW QX QY QZ ZE part ZW Qb Qc Qd isNil ZR ZQ ZB ZP YE Qe Qf Qg Qh Qi Qj Qk Ql Qm Qn Qo Qp Qq Qr Qs Qt AV.fits AV.cells ones AV.one YH YI YJ YK ZF ZG Qu Qv Qw Qx Y6 Y7 resV Z2 Qy YA u8e YF Qz V0 List.getElem?_cons_zero List.getElem?_cons_succ
set_option maxHeartbeats 4000000 in
theorem parse_main (w1 w2 : Str) (rest L : List Str) (hL : L = wEvery :: w1 :: w2 :: rest) (hw : ∀ x ∈ L, x.length ≤ 1000000) (hl : L.length ≤ 1000000) (he : ¬ L.length % 2 = 0) : APure Tryz.prog 55 [aSs L] (.tup [aR (if (numI w1).2 = true ∧ 0 ≤ idxF w2 unitL then goR 6 (headR w1 w2) rest else (headR w1 w2, false)).1, .bool (if (numI w1).2 = true ∧ 0 ≤ idxF w2 unitL then goR 6 (headR w1 w2) rest else (headR w1 w2, false)).2]) := by
  have he2 : ((L.length : Int) % 2 == 0) = false := by rw [beq_eq_false_iff_ne]; omega
  have hlen : L.length = rest.length + 3 := by rw [hL]; rfl
  have h3' : ¬ (L.length : Int) < 3 := by omega
  have e0 : (aStrs L)[0]? = some (.str wEvery) := by rw [hL]; rfl
  have e1 : (aStrs L)[1]? = some (.str w1) := by rw [hL]; rfl
  have e2 : (aStrs L)[2]? = some (.str w2) := by rw [hL]; rfl
  have f0 : L[0]? = some wEvery := by rw [hL]; rfl
  have f1 : L[1]? = some w1 := by rw [hL]; rfl
  have f2 : L[2]? = some w2 := by rw [hL]; rfl
  have l1 := hw w1 (by rw [hL]; simp)
  have hcut : List.drop 3 (List.take L.length (aStrs L)) = aStrs rest := by
    rw [List.take_of_length_le (by simp), hL]; rfl
  have hn := rnum_a w1 l1
  have hu := unitNames_a
  have hi := idxS_a unitL w2 (by decide)
  have hb := idxF_ge w2 unitL
  unfold headR
  generalize idxF w2 unitL = d at *
  generalize numI w1 = nm at *
  obtain ⟨v, ok⟩ := nm
  dsimp only at *
  have hul : unitL.length = 4 := rfl
  rw [hul] at hb
  generalize unitL = ul at *
  cases ok with
  | false =>
    refine apure_intro Tryz.func55 cmp55 rfl fun n H hH => ?_
    repeat' (first | (simp -implicitDefEqProofs [c55, c55_k8_go, -getElem?_pos, h3', he2, e0, e1, e2, f0, f1, f2, splice]) | (simp (disch := omega) only [upd_ne, Qy, if_pos, if_neg, IntWalk.i64_in, Int.tdiv_eq_ediv_of_nonneg, Int.tmod_eq_emod_of_nonneg]) | ((with_reducible refine CallP.chk (f := 47) ?_); (refine' CallP.sf ?_ (hu) ?_); (focus first | (with_reducible exact simL_refl _) | (simp [simL, simA, simA_refl, simL_refl]; done))) | ((with_reducible refine CallP.chk (f := 84) ?_); (refine' CallP.sf ?_ (hi) ?_); (focus first | (with_reducible exact simL_refl _) | (simp [simL, simA, simA_refl, simL_refl]; done))) | ((with_reducible refine CallP.chk (f := 85) ?_); (refine' CallP.sf ?_ (hn) ?_); (focus first | (with_reducible exact simL_refl _) | (simp [simL, simA, simA_refl, simL_refl]; done))) | (with_reducible refine fin_r ?_ ?_ ?_) | (with_reducible exact SameB.rfl_ _ _) | (with_reducible refine SameB.upd ?_ ?_ _) | (with_reducible assumption) | (with_reducible refine newPM_of ?_) | (with_reducible refine newSM_of ?_) | (with_reducible refine newP_go ?_) | (with_reducible refine newS_go ?_) | (with_reducible intro _g _hg) | (with_reducible refine And.intro ?_ ?_) | (with_reducible intro _hc) | omega)
    all_goals exact simA_tup (simL_cons (RCells.agg (r := ⟨d + 1, v, [], [], [], [], 0, 0⟩) ⟨_, _, _, _, rfl, simA_nil, simA_nil, simA_nil, simA_nil⟩) (simL_refl _))
  | true =>
    by_cases hd : 0 ≤ d
    · rw [if_pos ⟨rfl, hd⟩]
      have hd1 : ¬ d + 1 = 0 := by omega
      refine apure_intro Tryz.func55 cmp55 rfl fun n H hH => ?_
      repeat' (first | (simp -implicitDefEqProofs [c55, c55_k8_go, c55_k7_go, -getElem?_pos, h3', he2, e0, e1, e2, f0, f1, f2, hd1, hcut, splice]) | (simp (disch := omega) only [upd_ne, Qy, if_pos, if_neg, IntWalk.i64_in, Int.tdiv_eq_ediv_of_nonneg, Int.tmod_eq_emod_of_nonneg]) | ((with_reducible refine CallP.chk (f := 47) ?_); (refine' CallP.sf ?_ (hu) ?_); (focus first | (with_reducible exact simL_refl _) | (simp [simL, simA, simA_refl, simL_refl]; done))) | ((with_reducible refine CallP.chk (f := 84) ?_); (refine' CallP.sf ?_ (hi) ?_); (focus first | (with_reducible exact simL_refl _) | (simp [simL, simA, simA_refl, simL_refl]; done))) | ((with_reducible refine CallP.chk (f := 85) ?_); (refine' CallP.sf ?_ (hn) ?_); (focus first | (with_reducible exact simL_refl _) | (simp [simL, simA, simA_refl, simL_refl]; done))) | (with_reducible refine fin_r ?_ ?_ ?_) | (with_reducible exact SameB.rfl_ _ _) | (with_reducible refine SameB.upd ?_ ?_ _) | (with_reducible assumption) | (with_reducible refine newPM_of ?_) | (with_reducible refine newSM_of ?_) | (with_reducible refine newP_go ?_) | (with_reducible refine newS_go ?_) | (with_reducible intro _g _hg) | (with_reducible refine And.intro ?_ ?_) | (with_reducible intro _hc) | omega)
      rename_i g2 hg2
      generalize hR : goR 6 (⟨d + 1, v, [], [], [], [], 0, 0⟩ : Rule) rest = R
      obtain ⟨E, hE⟩ : ∃ E, E = rdE g2 := ⟨_, rfl⟩
      have hrl : rest.length % 2 = 0 := by omega
      have hrw : ∀ x ∈ rest, x.length ≤ 1000000 := fun x hx => hw x (by rw [hL]; simp [hx])
      refine LoopK.go (fun q st => ∃ (k n' : Nat) (H' : AHeap) (ws : List Str) (r : Rule) (cs : List AV), k + q = 6 ∧ st = ⟨[(0, aSs ws), (2, .ptr g2 0), (61, .sl 2 E (.own _g)), (62, aI 6), (63, aI k)], n', H'⟩ ∧ H' g2 = some (.cells 25 cs) ∧ RCells cs r ∧ SameB n H H' ∧ (∀ j, n' ≤ j → H' j = none) ∧ (g2 < n' ∧ n ≤ n') ∧ R = goR q r ws ∧ ws.length % 2 = 0 ∧ (∀ x ∈ ws, x.length ≤ 1000000) ∧ ws.length ≤ 1000000) 6
        ⟨0, _, _, rest, ⟨d + 1, v, [], [], [], [], 0, 0⟩, [aI (d + 1), aI v, .sl 0 [] .nil, .sl 0 [] .nil, .sl 0 [] .nil, .sl 0 [] .nil, aI 0, aI 0], by omega, by rw [hE]; rfl, by simp (disch := omega) only [upd_ne, Qy], ⟨_, _, _, _, rfl, simA_nil, simA_nil, simA_nil, simA_nil⟩, by repeat' (first | exact SameB.rfl_ _ _ | refine SameB.upd ?_ (by omega) _), fun j hj => by simp (disch := omega) only [upd_ne]; exact hH j (by omega), by omega, hR.symm, hrl, hrw, by omega⟩ ?_
      rintro q st ⟨k, n1, H1, ws, r, cs, hkq, rfl, hg, hRC, hS, hsup, ⟨hn1, hn2⟩, hgo, hev, hws, hwl⟩ J hJ
      by_cases hk : k < 6
      · obtain ⟨f, hEk, hcal, hrd⟩ := reader_at g2 k hk
        rw [← hE] at hEk
        have hEs : (E[k]?).isSome := by rw [hEk]; rfl
        obtain ⟨m, rfl⟩ : ∃ m, q = m + 1 := ⟨q - 1, by omega⟩
        have hm5 : 5 - m = k := by omega
        match ws with
        | [] =>
          have hgo' : R = goR m r [] := hgo
          repeat' (first | (simp -implicitDefEqProofs [c55_k1_go, c55_k2_go, c55_k3_go, c55_k4_go, c55_k5_go, c55_L6_go, c55_k7_go, c55_k8_go, c55, -getElem?_pos, hEk, splice, hk]) | (simp (disch := omega) only [upd_ne, Qy, if_pos, if_neg, IntWalk.i64_in, Int.tdiv_eq_ediv_of_nonneg, Int.tmod_eq_emod_of_nonneg]) | (with_reducible refine fin_r ?_ ?_ ?_) | (with_reducible exact SameB.rfl_ _ _) | (with_reducible refine SameB.upd ?_ ?_ _) | (with_reducible assumption) | (with_reducible refine newPM_of ?_) | (with_reducible refine newSM_of ?_) | (with_reducible refine newP_go ?_) | (with_reducible refine newS_go ?_) | (with_reducible intro _g _hg) | (with_reducible refine And.intro ?_ ?_) | (with_reducible intro _hc) | omega)
          exact hJ m _ (by omega) ⟨k + 1, _, _, [], r, cs, by omega, rfl, by simp (disch := omega) only [upd_ne]; exact hg, hRC, by repeat' (first | exact hS | refine SameB.upd ?_ (by omega) _), fun j hj => by simp (disch := omega) only [upd_ne]; exact hsup j (by omega), by omega, hgo', rfl, by simp, by simp⟩
        | [w] => simp at hev
        | w :: u :: rs =>
          rw [goR, hm5] at hgo
          generalize hky : keyL.getD k [] = ky at *
          have hul2 := hws u (by simp)
          by_cases hkey : w = ky
          · rw [if_pos hkey] at hgo
            rw [← hkey] at hEk
            obtain ⟨cs', hRC', hcall⟩ := hrd cs r u hRC hul2
            have hRC2 := hRC'
            obtain ⟨c2, c3, c4, c5, rfl, q2, q3, q4, q5⟩ := hRC'
            obtain ⟨_, _, _, rfl⟩ := simA_sl_inv q2
            obtain ⟨_, _, _, rfl⟩ := simA_sl_inv q3
            obtain ⟨_, _, _, rfl⟩ := simA_sl_inv q4
            obtain ⟨_, _, _, rfl⟩ := simA_sl_inv q5
            generalize readK k u r = rd at *
            obtain ⟨r', ok⟩ := rd
            dsimp only at *
            cases ok with
            | true =>
              rw [if_pos rfl] at hgo
              have hc2 : List.drop 2 (List.take ((rs.length : Int) + 1 + 1).toNat (.str w :: .str u :: aStrs rs)) = aStrs rs := by
                have e : ((rs.length : Int) + 1 + 1).toNat = rs.length + 2 := by omega
                rw [e, List.take_of_length_le (by simp)]; rfl
              repeat' (first | (simp -implicitDefEqProofs [c55_k1_go, c55_k2_go, c55_k3_go, c55_k4_go, c55_k5_go, c55_L6_go, c55_k7_go, c55_k8_go, c55, -getElem?_pos, hEk, splice, hk, hcal, hg, hc2]) | (simp (disch := omega) only [upd_ne, Qy, if_pos, if_neg, IntWalk.i64_in, Int.tdiv_eq_ediv_of_nonneg, Int.tmod_eq_emod_of_nonneg]) | ((with_reducible refine CallK.chk (f := f) ?_); (refine' CallK.sfU ?_ (hcall _ _ ?_) ?_); (focus first | (with_reducible exact simL_refl _) | (simp [simL, simA, simA_refl, simL_refl]; done))) | (with_reducible refine fin_r ?_ ?_ ?_) | (with_reducible exact SameB.rfl_ _ _) | (with_reducible refine SameB.upd ?_ ?_ _) | (with_reducible assumption) | (with_reducible refine newPM_of ?_) | (with_reducible refine newSM_of ?_) | (with_reducible refine newP_go ?_) | (with_reducible refine newS_go ?_) | (with_reducible intro _g _hg) | (with_reducible refine And.intro ?_ ?_) | (with_reducible intro _hc) | omega)
              exact hJ m _ (by omega) ⟨k + 1, _, _, rs, r', _, by omega, rfl, by simp (disch := omega) only [upd_ne, Qy], hRC2, by repeat' (first | exact hS | refine SameB.upd ?_ (by omega) _), fun j hj => by simp (disch := omega) only [upd_ne]; exact hsup j (by omega), by omega, hgo, by simp at hev; omega, fun x hx => hws x (by simp [hx]), by simp at hwl; omega⟩
            | false =>
              rw [if_neg (by simp)] at hgo
              subst hgo
              repeat' (first | (simp -implicitDefEqProofs [c55_k1_go, c55_k2_go, c55_k3_go, c55_k4_go, c55_k5_go, c55_L6_go, c55_k7_go, c55_k8_go, c55, -getElem?_pos, hEk, splice, hk, hcal, hg]) | (simp (disch := omega) only [upd_ne, Qy, if_pos, if_neg, IntWalk.i64_in, Int.tdiv_eq_ediv_of_nonneg, Int.tmod_eq_emod_of_nonneg]) | ((with_reducible refine CallK.chk (f := f) ?_); (refine' CallK.sfU ?_ (hcall _ _ ?_) ?_); (focus first | (with_reducible exact simL_refl _) | (simp [simL, simA, simA_refl, simL_refl]; done))) | (with_reducible refine fin_r ?_ ?_ ?_) | (with_reducible exact SameB.rfl_ _ _) | (with_reducible refine SameB.upd ?_ ?_ _) | (with_reducible assumption) | (with_reducible refine newPM_of ?_) | (with_reducible refine newSM_of ?_) | (with_reducible refine newP_go ?_) | (with_reducible refine newS_go ?_) | (with_reducible intro _g _hg) | (with_reducible refine And.intro ?_ ?_) | (with_reducible intro _hc) | omega)
              all_goals first | exact simA_tup (simL_cons hRC2.agg (simL_refl _)) | exact hS | skip
          · rw [if_neg hkey] at hgo
            repeat' (first | (simp -implicitDefEqProofs [c55_k1_go, c55_k2_go, c55_k3_go, c55_k4_go, c55_k5_go, c55_L6_go, c55_k7_go, c55_k8_go, c55, -getElem?_pos, hEk, splice, hk, hkey]) | (simp (disch := omega) only [upd_ne, Qy, if_pos, if_neg, IntWalk.i64_in, Int.tdiv_eq_ediv_of_nonneg, Int.tmod_eq_emod_of_nonneg]) | (with_reducible refine fin_r ?_ ?_ ?_) | (with_reducible exact SameB.rfl_ _ _) | (with_reducible refine SameB.upd ?_ ?_ _) | (with_reducible assumption) | (with_reducible refine newPM_of ?_) | (with_reducible refine newSM_of ?_) | (with_reducible refine newP_go ?_) | (with_reducible refine newS_go ?_) | (with_reducible intro _g _hg) | (with_reducible refine And.intro ?_ ?_) | (with_reducible intro _hc) | omega)
            exact hJ m _ (by omega) ⟨k + 1, _, _, w :: u :: rs, r, cs, by omega, rfl, by simp (disch := omega) only [upd_ne]; exact hg, hRC, by repeat' (first | exact hS | refine SameB.upd ?_ (by omega) _), fun j hj => by simp (disch := omega) only [upd_ne]; exact hsup j (by omega), by omega, hgo, hev, hws, hwl⟩
      · have hk6 : k = 6 := by omega
        subst hk6
        obtain rfl : q = 0 := by omega
        rw [goR] at hgo
        subst hgo
        have hRC2 := hRC
        obtain ⟨c2, c3, c4, c5, rfl, q2, q3, q4, q5⟩ := hRC
        obtain ⟨_, _, _, rfl⟩ := simA_sl_inv q2
        obtain ⟨_, _, _, rfl⟩ := simA_sl_inv q3
        obtain ⟨_, _, _, rfl⟩ := simA_sl_inv q4
        obtain ⟨_, _, _, rfl⟩ := simA_sl_inv q5
        match ws with
        | [] =>
          repeat' (first | (simp -implicitDefEqProofs [c55_k1_go, c55_k2_go, c55_k3_go, c55_k4_go, c55_k5_go, c55_L6_go, c55_k7_go, c55_k8_go, c55, -getElem?_pos, hg, splice]) | (simp (disch := omega) only [upd_ne, Qy, if_pos, if_neg, IntWalk.i64_in, Int.tdiv_eq_ediv_of_nonneg, Int.tmod_eq_emod_of_nonneg]) | (with_reducible refine fin_r ?_ ?_ ?_) | (with_reducible exact SameB.rfl_ _ _) | (with_reducible refine SameB.upd ?_ ?_ _) | (with_reducible assumption) | (with_reducible refine newPM_of ?_) | (with_reducible refine newSM_of ?_) | (with_reducible refine newP_go ?_) | (with_reducible refine newS_go ?_) | (with_reducible intro _g _hg) | (with_reducible refine And.intro ?_ ?_) | (with_reducible intro _hc) | omega)
          all_goals first | exact simA_tup (simL_cons hRC2.agg (simL_refl _)) | exact hS | skip
        | w :: t =>
          repeat' (first | (simp -implicitDefEqProofs [c55_k1_go, c55_k2_go, c55_k3_go, c55_k4_go, c55_k5_go, c55_L6_go, c55_k7_go, c55_k8_go, c55, -getElem?_pos, hg, splice]) | (simp (disch := omega) only [upd_ne, Qy, if_pos, if_neg, IntWalk.i64_in, Int.tdiv_eq_ediv_of_nonneg, Int.tmod_eq_emod_of_nonneg]) | (with_reducible refine fin_r ?_ ?_ ?_) | (with_reducible exact SameB.rfl_ _ _) | (with_reducible refine SameB.upd ?_ ?_ _) | (with_reducible assumption) | (with_reducible refine newPM_of ?_) | (with_reducible refine newSM_of ?_) | (with_reducible refine newP_go ?_) | (with_reducible refine newS_go ?_) | (with_reducible intro _g _hg) | (with_reducible refine And.intro ?_ ?_) | (with_reducible intro _hc) | omega)
          all_goals first | exact simA_tup (simL_cons hRC2.agg (simL_refl _)) | exact hS | skip
    · have hd1 : d + 1 = 0 := by omega
      rw [if_neg (fun h => hd h.2), hd1]
      refine apure_intro Tryz.func55 cmp55 rfl fun n H hH => ?_
      repeat' (first | (simp -implicitDefEqProofs [c55, c55_k8_go, -getElem?_pos, h3', he2, e0, e1, e2, f0, f1, f2, hd1, splice]) | (simp (disch := omega) only [upd_ne, Qy, if_pos, if_neg, IntWalk.i64_in, Int.tdiv_eq_ediv_of_nonneg, Int.tmod_eq_emod_of_nonneg]) | ((with_reducible refine CallP.chk (f := 47) ?_); (refine' CallP.sf ?_ (hu) ?_); (focus first | (with_reducible exact simL_refl _) | (simp [simL, simA, simA_refl, simL_refl]; done))) | ((with_reducible refine CallP.chk (f := 84) ?_); (refine' CallP.sf ?_ (hi) ?_); (focus first | (with_reducible exact simL_refl _) | (simp [simL, simA, simA_refl, simL_refl]; done))) | ((with_reducible refine CallP.chk (f := 85) ?_); (refine' CallP.sf ?_ (hn) ?_); (focus first | (with_reducible exact simL_refl _) | (simp [simL, simA, simA_refl, simL_refl]; done))) | (with_reducible refine fin_r ?_ ?_ ?_) | (with_reducible exact SameB.rfl_ _ _) | (with_reducible refine SameB.upd ?_ ?_ _) | (with_reducible assumption) | (with_reducible refine newPM_of ?_) | (with_reducible refine newSM_of ?_) | (with_reducible refine newP_go ?_) | (with_reducible refine newS_go ?_) | (with_reducible intro _g _hg) | (with_reducible refine And.intro ?_ ?_) | (with_reducible intro _hc) | omega)
      all_goals exact simA_tup (simL_cons (RCells.agg (r := ⟨0, v, [], [], [], [], 0, 0⟩) ⟨_, _, _, _, rfl, simA_nil, simA_nil, simA_nil, simA_nil⟩) (simL_refl _))
set_option maxHeartbeats 4000000 in
theorem parse_a (ws : List Str) (hw : ∀ x ∈ ws, x.length ≤ 1000000) (hl : ws.length ≤ 1000000) : APure Tryz.prog 55 [aSs ws] (.tup [aR (parseP ws).1, .bool (parseP ws).2]) := by
  have z : ∀ {a : AV}, simA a (aR zR) → simA (.tup [a, .bool false]) (.tup [aR zR, .bool false]) := fun h => simA_tup (simL_cons h (simL_refl _))
  have z0 : simA (.agg [aI 0, aI 0, .sl 0 [] .nil, .sl 0 [] .nil, .sl 0 [] .nil, .sl 0 [] .nil, aI 0, aI 0]) (aR zR) := RCells.agg (r := zR) ⟨_, _, _, _, rfl, simA_nil, simA_nil, simA_nil, simA_nil⟩
  by_cases hnil : ws = []
  · subst hnil
    have e : parseP [] = (zR, false) := rfl
    rw [e]
    refine apure_intro Tryz.func55 cmp55 rfl fun n H hH => ?_
    repeat' (first | (simp -implicitDefEqProofs [c55_k1_go, c55_k2_go, c55_k3_go, c55_k4_go, c55_k5_go, c55_L6_go, c55_k7_go, c55_k8_go, c55, -getElem?_pos, splice]) | (simp (disch := omega) only [upd_ne, Qy, if_pos, if_neg, IntWalk.i64_in, Int.tdiv_eq_ediv_of_nonneg, Int.tmod_eq_emod_of_nonneg]) | (with_reducible refine fin_r ?_ ?_ ?_) | (with_reducible exact SameB.rfl_ _ _) | (with_reducible refine SameB.upd ?_ ?_ _) | (with_reducible assumption) | (with_reducible refine newPM_of ?_) | (with_reducible refine newSM_of ?_) | (with_reducible refine newP_go ?_) | (with_reducible refine newS_go ?_) | (with_reducible intro _g _hg) | (with_reducible refine And.intro ?_ ?_) | (with_reducible intro _hc) | omega)
    all_goals exact z z0
  obtain ⟨x0, hx0⟩ : ∃ x, ws[0]? = some x := ⟨_, List.getElem?_eq_getElem (List.length_pos_iff.2 hnil)⟩
  by_cases h3 : ws.length < 3
  · have e : parseP ws = (zR, false) := by
      unfold parseP
      split
      · rfl
      · match ws with
        | [] => rfl
        | [_] => rfl
        | [_, _] => rfl
        | _ :: _ :: _ :: _ => simp at h3; omega
    rw [e]
    have h3' : (ws.length : Int) < 3 := by omega
    refine apure_intro Tryz.func55 cmp55 rfl fun n H hH => ?_
    repeat' (first | (simp -implicitDefEqProofs [c55_k1_go, c55_k2_go, c55_k3_go, c55_k4_go, c55_k5_go, c55_L6_go, c55_k7_go, c55_k8_go, c55, -getElem?_pos, h3', hx0, splice]) | (simp (disch := omega) only [upd_ne, Qy, if_pos, if_neg, IntWalk.i64_in, Int.tdiv_eq_ediv_of_nonneg, Int.tmod_eq_emod_of_nonneg]) | (with_reducible refine fin_r ?_ ?_ ?_) | (with_reducible exact SameB.rfl_ _ _) | (with_reducible refine SameB.upd ?_ ?_ _) | (with_reducible assumption) | (with_reducible refine newPM_of ?_) | (with_reducible refine newSM_of ?_) | (with_reducible refine newP_go ?_) | (with_reducible refine newS_go ?_) | (with_reducible intro _g _hg) | (with_reducible refine And.intro ?_ ?_) | (with_reducible intro _hc) | omega)
    all_goals exact z z0
  by_cases he : ws.length % 2 = 0
  · have e : parseP ws = (zR, false) := by unfold parseP; rw [if_pos he]
    rw [e]
    have he2 : ((ws.length : Int) % 2 == 0) = true := by rw [beq_iff_eq]; omega
    have h3' : ¬ (ws.length : Int) < 3 := by omega
    refine apure_intro Tryz.func55 cmp55 rfl fun n H hH => ?_
    repeat' (first | (simp -implicitDefEqProofs [c55_k1_go, c55_k2_go, c55_k3_go, c55_k4_go, c55_k5_go, c55_L6_go, c55_k7_go, c55_k8_go, c55, -getElem?_pos, h3', hx0, he2, splice]) | (simp (disch := omega) only [upd_ne, Qy, if_pos, if_neg, IntWalk.i64_in, Int.tdiv_eq_ediv_of_nonneg, Int.tmod_eq_emod_of_nonneg]) | (with_reducible refine fin_r ?_ ?_ ?_) | (with_reducible exact SameB.rfl_ _ _) | (with_reducible refine SameB.upd ?_ ?_ _) | (with_reducible assumption) | (with_reducible refine newPM_of ?_) | (with_reducible refine newSM_of ?_) | (with_reducible refine newP_go ?_) | (with_reducible refine newS_go ?_) | (with_reducible intro _g _hg) | (with_reducible refine And.intro ?_ ?_) | (with_reducible intro _hc) | omega)
    all_goals exact z z0
  clear hx0
  have e : parseP ws = parseL ws := by unfold parseP; rw [if_neg he]
  rw [e]
  obtain ⟨w0, w1, w2, rest, rfl⟩ : ∃ w0 w1 w2 rest, ws = w0 :: w1 :: w2 :: rest := by
    match ws with
    | [] => simp at h3
    | [_] => simp at h3
    | [_, _] => simp at h3
    | a :: b :: c :: r => exact ⟨a, b, c, r, rfl⟩
  obtain ⟨L, hL⟩ : ∃ L, L = w0 :: w1 :: w2 :: rest := ⟨_, rfl⟩
  rw [← hL] at h3 he hl hw ⊢
  have he2 : ((L.length : Int) % 2 == 0) = false := by rw [beq_eq_false_iff_ne]; omega
  have h3' : ¬ (L.length : Int) < 3 := by omega
  have eq : parseL L = if w0 = wEvery then (if (numI w1).2 = true ∧ 0 ≤ idxF w2 unitL then goR 6 (headR w1 w2) rest else (headR w1 w2, false)) else (zR, false) := by rw [hL]; rfl
  rw [eq]
  clear eq
  have e0 : (aStrs L)[0]? = some (.str w0) := by rw [hL]; rfl
  have f0 : L[0]? = some w0 := by rw [hL]; rfl
  by_cases hev : w0 = wEvery
  · rw [if_pos hev]
    exact parse_main w1 w2 rest L (by rw [hL, hev]) hw hl he
  · rw [if_neg hev]
    refine apure_intro Tryz.func55 cmp55 rfl fun n H hH => ?_
    repeat' (first | (simp -implicitDefEqProofs [c55_k1_go, c55_k2_go, c55_k3_go, c55_k4_go, c55_k5_go, c55_L6_go, c55_k7_go, c55_k8_go, c55, -getElem?_pos, h3', he2, e0, f0, hev, splice]) | (simp (disch := omega) only [upd_ne, Qy, if_pos, if_neg, IntWalk.i64_in, Int.tdiv_eq_ediv_of_nonneg, Int.tmod_eq_emod_of_nonneg]) | (with_reducible refine fin_r ?_ ?_ ?_) | (with_reducible exact SameB.rfl_ _ _) | (with_reducible refine SameB.upd ?_ ?_ _) | (with_reducible assumption) | (with_reducible refine newPM_of ?_) | (with_reducible refine newSM_of ?_) | (with_reducible refine newP_go ?_) | (with_reducible refine newS_go ?_) | (with_reducible intro _g _hg) | (with_reducible refine And.intro ?_ ?_) | (with_reducible intro _hc) | omega)
    all_goals exact z z0
end Go.Proofs.YtecpfmhminkalaaGreatDoor

/- The walker; what is picked; no condition. -/
import Derived.Test.YtecpfmhminkalaaGreatDoorMrD
import Derived.Test.YtecpfmhminkalaaGreatDoorAdD
set_option linter.all false
set_option linter.unusedSimpArgs false
set_option linter.unusedVariables false
namespace Go.Proofs.YtecpfmhminkalaaGreatDoor
/-- what stands of the walker's day; behind the last day only the number is right -/
def wkD (x : Int) : List AV := if x ≤ 3652059 then aDc x else [aI x, aI 9999, aI 12, aI 31, aI 1, aI (wdF 3652059)]
theorem max_day : dateM 3652059 = ⟨9999, 12, 31, 0, 0, 0⟩ := dateM_uniq (by omega) ⟨by omega, by omega, by omega, by omega, by decide⟩ (by decide)
theorem max_left : leftF 3652059 = 1 := by
  unfold leftF; rw [max_day]; decide
theorem wd_succ (x : Int) (h : 1 ≤ x) : (wdF x + 1) % 7 = wdF (x + 1) := by
  unfold wdF; omega
attribute [local simp] YL Z7 Z9 YM YN YO YP Z8 Z3 Z5 Z4 YQ YR YS YT YU YV YW YX YY YZ Ya Yb Yc Yd scV pe Ye Yf Yg Yh Yi Yj Yk Yl Ym Yn Yo spg_mv Yp Yq Yr Ys Yt Yu Yv Yw Yx Yy Yz X0 X1 X2 X3 X4 X5 X6 X7 X8 X9 spg_mm XA YD XB XC XD XE XF XG XH XI XJ XK XL XM XN XO XP XQ XR XS XT XU XV XW XX XY XZ YC Xa Xb Xc Xd Xe Xf Xg Xh Xi Xj Xk Xl Xm Xn Xo Xp Xq Xr Xs Xt Xu Xv Xw Xx List.mem_cons ZO ZN Z1 YG Zu Xy Zi Zr Zn Zp Zq Zo Zv Zw Zm Xz Q0 Zl Q1 Q2 Q4 Q5 Q6 Q7 Zs Q8 Q9 QA QB QC QD Zt Zh Zx Y1 Y2 QE QF Y3 QG Zj QH Zk Zg QI Zy Zz QJ QK QM QN QO QP QR QS Zd ZK ZI Zc Zf ZH ZM YB Z0 QT ZV ZL Ze ZC ZZ ZA Y5 ZJ Y8 Y9 Zb ZY ZU ZX Za ZT ZD ev get put Y4 ZS QU QV QW QX QY QZ ZE part ZW Qb Qc Qd isNil ZR ZQ ZB ZP YE Qe Qf Qg Qh Qi Qj Qk Ql Qm Qn Qo Qp Qq Qr Qs Qt AV.fits AV.cells ones AV.one YH YI YJ YK ZF ZG Qu Qv Qw Qx Y6 Y7 resV Z2 Qy YA u8e YF Qz V0 List.getElem?_cons_zero List.getElem?_cons_succ
theorem walk_a (x : Int) (h : 1 ≤ x ∧ x ≤ 3652059) (n : Nat) (H : AHeap) : ACalls Tryz.prog 68 [aI x] n H fun r n' H' => ∃ g, n ≤ g ∧ r = .ptr g 0 ∧ n' = g + 1 ∧ H' = upd H g (some (.cells 94 (aDc x))) := by
  have hd := dayOf_a x h
  refine acalls_intro Tryz.func68 cmp68 rfl fun hs => ?_
  repeat' (first | (simp -implicitDefEqProofs [c68, -getElem?_pos, splice]) | (simp (disch := omega) only [upd_ne, Qy, if_pos, if_neg, IntWalk.i64_in, Int.tdiv_eq_ediv_of_nonneg, Int.tmod_eq_emod_of_nonneg]) | ((with_reducible refine CallP.chk (f := 64) ?_); (refine' CallP.sf ?_ (hd) ?_); (focus first | (with_reducible exact simL_refl _) | (simp [simL, simA, simA_refl, simL_refl]; done))) | (with_reducible refine fin_r ?_ ?_ ?_) | (with_reducible exact SameB.rfl_ _ _) | (with_reducible refine SameB.upd ?_ ?_ _) | (with_reducible assumption) | (with_reducible refine newPM_of ?_) | (with_reducible refine newP_go ?_) | (with_reducible intro _g _hg) | (with_reducible refine And.intro ?_ ?_) | (with_reducible intro _hc) | omega)
  exact fin_ret rfl (by omega) (fun k hk => by rw [upd_ne (by omega)]; exact hs k (by omega)) ⟨_g, _hg, rfl, rfl, rfl⟩
set_option maxHeartbeats 2000000 in
theorem step_a (x : Int) (h : 1 ≤ x ∧ x ≤ 3652059) (n g : Nat) (H : AHeap) (hg : H g = some (.cells 94 (aDc x))) : AUpd Tryz.prog 70 [.ptr g 0] n H (.tup []) g (.cells 94 (wkD (x + 1))) := by
  obtain ⟨h1, h2, h3, h4, h5, h6⟩ := date_b h.1 h.2
  have hl := left_pos h.1
  have hw : 0 ≤ wdF x ∧ wdF x ≤ 6 := by unfold wdF; omega
  by_cases hlast : x = 3652059
  · have e : wkD (x + 1) = [aI (x + 1), aI 9999, aI 12, aI 31, aI 1, aI (wdF 3652059)] := by unfold wkD; rw [if_neg (by omega)]
    have hml := max_left
    have hmd := max_day
    subst hlast
    simp only [aDc, hmd, hml] at hg
    rw [e]
    refine aupd_intro Tryz.func70 cmp70 rfl (hg) fun hH => ?_
    repeat' (first | (simp -implicitDefEqProofs [c70_k1_go, c70_k2_go, c70_t3_go, c70, -getElem?_pos, hg, splice, upd_upd, simA_refl]) | (simp (disch := omega) only [upd_ne, Qy, if_pos, if_neg, IntWalk.i64_in, Int.tdiv_eq_ediv_of_nonneg, Int.tmod_eq_emod_of_nonneg]) | (with_reducible refine fin_r ?_ ?_ ?_) | (with_reducible exact SameB.rfl_ _ _) | (with_reducible refine SameB.upd ?_ ?_ _) | (with_reducible assumption) | (with_reducible intro _g _hg) | (with_reducible refine And.intro ?_ ?_) | (with_reducible intro _hc) | omega)
  · have e : wkD (x + 1) = aDc (x + 1) := by unfold wkD; rw [if_pos (by omega)]
    rw [e]
    by_cases hl1 : 1 < leftF x
    · have hsm := same_month (n := x) (j := 1) h.1 (by omega) hl1
      have hls := left_succ h.1 hl1
      have hws := wd_succ x h.1
      have ec : aDc (x + 1) = [aI (x + 1), aI (dateM x).y, aI (dateM x).m, aI ((dateM x).d + 1), aI (leftF x - 1), aI (wdF (x + 1))] := by
        unfold aDc; rw [hsm, hls]
      rw [ec]
      generalize wdF (x + 1) = w2 at *
      refine aupd_intro Tryz.func70 cmp70 rfl (hg) fun hH => ?_
      repeat' (first | (simp -implicitDefEqProofs [c70_k1_go, c70_k2_go, c70_t3_go, c70, -getElem?_pos, hg, splice, hws, upd_upd, simA_refl]) | (simp (disch := omega) only [upd_ne, Qy, if_pos, if_neg, IntWalk.i64_in, Int.tdiv_eq_ediv_of_nonneg, Int.tmod_eq_emod_of_nonneg]) | (with_reducible refine fin_r ?_ ?_ ?_) | (with_reducible exact SameB.rfl_ _ _) | (with_reducible assumption) | (with_reducible intro _g _hg) | (with_reducible refine And.intro ?_ ?_) | (with_reducible intro _hc) | omega)
      all_goals (rw [hws]; exact SameB.rfl_ _ _)
    · have hd := dayOf_a (x + 1) (by omega)
      refine aupd_intro Tryz.func70 cmp70 rfl (hg) fun hH => ?_
      repeat' (first | (simp -implicitDefEqProofs [c70_k1_go, c70_k2_go, c70_t3_go, c70, -getElem?_pos, hg, splice, simA_refl]) | (simp (disch := omega) only [upd_ne, Qy, if_pos, if_neg, IntWalk.i64_in, Int.tdiv_eq_ediv_of_nonneg, Int.tmod_eq_emod_of_nonneg]) | ((with_reducible refine CallP.chk (f := 64) ?_); (refine' CallP.sf ?_ (hd) ?_); (focus first | (with_reducible exact simL_refl _) | (simp [simL, simA, simA_refl, simL_refl]; done))) | (with_reducible refine fin_r ?_ ?_ ?_) | (with_reducible exact SameB.rfl_ _ _) | (with_reducible refine SameB.upd ?_ ?_ _) | (with_reducible assumption) | (with_reducible intro _g _hg) | (with_reducible refine And.intro ?_ ?_) | (with_reducible intro _hc) | omega)
      exact ⟨⟨_, rfl, simA_refl _⟩, Nat.le_refl _, SameB.rfl_ _ _⟩
def pkG (picks : List Int) (len : Nat) : List Int → Nat → List Int
  | [], _ => []
  | x :: xs, i => if (i : Int) + 1 ∈ picks ∨ (i : Int) - len ∈ picks then x :: pkG picks len xs (i + 1) else pkG picks len xs (i + 1)
theorem pkG_zip (picks : List Int) (len : Nat) : ∀ (l : List Int) (i : Nat), ((l.zipIdx i).filter fun x => decide ((x.2 : Int) + 1 ∈ picks) || decide ((x.2 : Int) - len ∈ picks)).map (·.1) = pkG picks len l i
  | [], i => rfl
  | x :: xs, i => by
    rw [List.zipIdx_cons, List.filter_cons]
    simp only [pkG]
    by_cases h : (i : Int) + 1 ∈ picks ∨ (i : Int) - len ∈ picks
    · rw [if_pos h, if_pos (by simpa using h), List.map_cons, pkG_zip picks len xs (i + 1)]
    · rw [if_neg h, if_neg (by simpa using h), pkG_zip picks len xs (i + 1)]
theorem pickF_pk {picks l : List Int} (h : picks ≠ []) : pickF picks l = pkG picks l.length l 0 := by
  unfold pickF; rw [if_neg h, pkG_zip]
set_option maxHeartbeats 2000000 in
theorem picked_a (l p : List Int) (hl : l.length ≤ 10000000) (hp : p.length ≤ 1000000) : APure Tryz.prog 66 [aL l, aL p] (aL (pickF p l)) := by
  by_cases hp0 : p = []
  · subst hp0
    have e : pickF [] l = l := rfl
    rw [e]
    refine apure_intro Tryz.func66 cmp66 rfl fun n H hH => ?_
    repeat' (first | (simp -implicitDefEqProofs [c66_k1_go, c66_k2_go, c66_k3_go, c66_L4_go, c66_k5_go, c66, -getElem?_pos, simA_refl]) | (simp (disch := omega) only [upd_ne, Qy, if_pos, if_neg, IntWalk.i64_in, Int.tdiv_eq_ediv_of_nonneg, Int.tmod_eq_emod_of_nonneg]) | (with_reducible refine fin_r ?_ ?_ ?_) | (with_reducible exact SameB.rfl_ _ _) | (with_reducible refine SameB.upd ?_ ?_ _) | (with_reducible assumption) | (with_reducible refine newSM_of ?_) | (with_reducible refine newS_go ?_) | (with_reducible intro _g _hg) | (with_reducible refine And.intro ?_ ?_) | (with_reducible intro _hc) | omega)
  rw [pickF_pk hp0]
  have hp1 : 0 < p.length := List.length_pos_iff.2 hp0
  refine apure_intro Tryz.func66 cmp66 rfl fun n H hH => ?_
  have _hb : True := trivial
  have _hO : Owns n H [] [⟨3, 1, .sl 0 [] .nil, []⟩] n H := (Owns.start hH).addNil _ _ _
  repeat' (first | (simp -implicitDefEqProofs [c66_k1_go, c66_k2_go, c66_k3_go, c66_L4_go, c66_k5_go, c66, -getElem?_pos, simA_refl, hp0, _hb]) | (simp (disch := omega) only [upd_ne, Qy, if_pos, if_neg, IntWalk.i64_in, Int.tdiv_eq_ediv_of_nonneg, Int.tmod_eq_emod_of_nonneg]) | (with_reducible refine fin_r ?_ ?_ ?_) | (with_reducible exact SameB.rfl_ _ _) | (with_reducible refine SameB.upd ?_ ?_ _) | (with_reducible assumption) | (with_reducible refine newSM_of ?_) | ((with_reducible refine newS_own (by assumption) (fun _g _hg _hO => ?_))) | ((with_reducible refine appKS.chk ?_); first | ((refine Owns.app (by assumption) (.inl rfl) (by first | (exact Owns.simL0 (by assumption)) | (exact Owns.simL1 (by assumption)) | (with_reducible exact simL_refl _) | assumption | (simp [simL, simA, simA_refl, simL_refl]; done)) ?_ ?_ (fun _x _n _H _hle _hO _hb => ?_)); rotate_left 2; dsimp only [BoxF, BoxF0, RowF] at _hb) | ((refine Owns.app1 (by assumption) (.inl rfl) (by first | (exact Owns.simL0 (by assumption)) | (exact Owns.simL1 (by assumption)) | (with_reducible exact simL_refl _) | assumption | (simp [simL, simA, simA_refl, simL_refl]; done)) ?_ ?_ (fun _x _n _H _hle _hO _hb => ?_)); rotate_left 2; dsimp only [BoxF, BoxF0, RowF] at _hb)) | (first | (with_reducible exact Owns.fit0 (by assumption)) | (with_reducible exact Owns.fit1 (by assumption))) | (with_reducible exact Owns.le (by assumption)) | (with_reducible exact Owns.same (by assumption)) | (with_reducible refine newSM_of ?_) | (with_reducible refine newS_go ?_) | (with_reducible intro _g _hg) | (with_reducible refine And.intro ?_ ?_) | (with_reducible intro _hc) | omega)
  refine LoopK.go (fun q s => ∃ (k n' : Nat) (H' : AHeap) (x : AV) (l2 : List Int), k + q = l.length ∧ s = ⟨[(0, aL l), (1, aL p), (5, x), (12, aL l), (13, aI l.length), (14, aI k)], n', H'⟩ ∧ Owns n H [] [⟨3, 1, x, l2.map aI⟩] n' H' ∧ l2.length ≤ k ∧
    pkG p l.length l 0 = l2 ++ pkG p l.length (l.drop k) k) l.length ⟨0, _, _, _, [], by omega, rfl, _hO, by simp, by simp⟩ ?_
  rintro q s ⟨k, n1, H1, xb, l2, hkq, rfl, _hO, hl2, hE⟩ J hJ
  have _hb := _hO.boxF
  dsimp only [BoxF, BoxF0, RowF] at _hb
  have hle := _hO.le
  by_cases hk : k < l.length
  · obtain ⟨y, hy⟩ : ∃ y, l[k]? = some y := ⟨_, List.getElem?_eq_getElem hk⟩
    rw [drop_at hy, pkG] at hE
    have c1 := contains_a p ((k : Int) + 1) (by omega)
    have c2 := contains_a p ((k : Int) - l.length) (by omega)
    repeat' (first | (simp -implicitDefEqProofs [c66_k1_go, c66_k2_go, c66_k3_go, c66_L4_go, c66_k5_go, c66, -getElem?_pos, simA_refl, hy, maxLen, _hb]) | (simp (disch := omega) only [upd_ne, Qy, if_pos, if_neg, IntWalk.i64_in, Int.tdiv_eq_ediv_of_nonneg, Int.tmod_eq_emod_of_nonneg]) | ((with_reducible refine CallP.chk (f := 72) ?_); (refine' CallP.sf ?_ (c1) ?_); (focus first | (with_reducible exact simL_refl _) | (exact Owns.simC0 (by assumption)) | (exact Owns.simC1 (by assumption)) | (simp [simL, simA, simA_refl, simL_refl]; done))) | ((with_reducible refine CallP.chk (f := 72) ?_); (refine' CallP.sf ?_ (c2) ?_); (focus first | (with_reducible exact simL_refl _) | (exact Owns.simC0 (by assumption)) | (exact Owns.simC1 (by assumption)) | (simp [simL, simA, simA_refl, simL_refl]; done))) | (with_reducible refine fin_r ?_ ?_ ?_) | (with_reducible exact SameB.rfl_ _ _) | (with_reducible refine SameB.upd ?_ ?_ _) | (with_reducible assumption) | (with_reducible refine newSM_of ?_) | ((with_reducible refine newS_own (by assumption) (fun _g _hg _hO => ?_))) | ((with_reducible refine appKS.chk ?_); first | ((refine Owns.app (by assumption) (.inl rfl) (by first | (exact Owns.simL0 (by assumption)) | (exact Owns.simL1 (by assumption)) | (with_reducible exact simL_refl _) | assumption | (simp [simL, simA, simA_refl, simL_refl]; done)) ?_ ?_ (fun _x _n _H _hle _hO _hb => ?_)); rotate_left 2; dsimp only [BoxF, BoxF0, RowF] at _hb) | ((refine Owns.app1 (by assumption) (.inl rfl) (by first | (exact Owns.simL0 (by assumption)) | (exact Owns.simL1 (by assumption)) | (with_reducible exact simL_refl _) | assumption | (simp [simL, simA, simA_refl, simL_refl]; done)) ?_ ?_ (fun _x _n _H _hle _hO _hb => ?_)); rotate_left 2; dsimp only [BoxF, BoxF0, RowF] at _hb)) | (first | (with_reducible exact Owns.fit0 (by assumption)) | (with_reducible exact Owns.fit1 (by assumption))) | (with_reducible exact Owns.le (by assumption)) | (with_reducible exact Owns.same (by assumption)) | (with_reducible refine newSM_of ?_) | (with_reducible refine newS_go ?_) | (with_reducible intro _g _hg) | (with_reducible refine And.intro ?_ ?_) | (with_reducible intro _hc) | omega)
    all_goals first
      | exact hJ (q - 1) _ (by omega) ⟨k + 1, _, _, _, l2 ++ [y], by omega, rfl, by rw [List.map_append]; exact _hO, by simp; omega, by rw [hE, if_pos (by simp_all), List.append_assoc]; rfl⟩
      | exact hJ (q - 1) _ (by omega) ⟨k + 1, _, _, _, l2, by omega, rfl, _hO, by omega, by rw [hE, if_neg (by simp_all)]⟩
  · have hk0 : k = l.length := by omega
    subst hk0
    simp [pkG] at hE
    repeat' (first | (simp -implicitDefEqProofs [c66_k1_go, c66_k2_go, c66_k3_go, c66_L4_go, c66_k5_go, c66, -getElem?_pos, hE, _hb]) | (simp (disch := omega) only [upd_ne, Qy, if_pos, if_neg, IntWalk.i64_in, Int.tdiv_eq_ediv_of_nonneg, Int.tmod_eq_emod_of_nonneg]) | (with_reducible refine fin_r ?_ ?_ ?_) | (with_reducible exact SameB.rfl_ _ _) | (with_reducible refine SameB.upd ?_ ?_ _) | (with_reducible assumption) | (with_reducible refine newSM_of ?_) | ((with_reducible refine newS_own (by assumption) (fun _g _hg _hO => ?_))) | ((with_reducible refine appKS.chk ?_); first | ((refine Owns.app (by assumption) (.inl rfl) (by first | (exact Owns.simL0 (by assumption)) | (exact Owns.simL1 (by assumption)) | (with_reducible exact simL_refl _) | assumption | (simp [simL, simA, simA_refl, simL_refl]; done)) ?_ ?_ (fun _x _n _H _hle _hO _hb => ?_)); rotate_left 2; dsimp only [BoxF, BoxF0, RowF] at _hb) | ((refine Owns.app1 (by assumption) (.inl rfl) (by first | (exact Owns.simL0 (by assumption)) | (exact Owns.simL1 (by assumption)) | (with_reducible exact simL_refl _) | assumption | (simp [simL, simA, simA_refl, simL_refl]; done)) ?_ ?_ (fun _x _n _H _hle _hO _hb => ?_)); rotate_left 2; dsimp only [BoxF, BoxF0, RowF] at _hb)) | (first | (with_reducible exact Owns.fit0 (by assumption)) | (with_reducible exact Owns.fit1 (by assumption))) | (with_reducible exact Owns.le (by assumption)) | (with_reducible exact Owns.same (by assumption)) | (with_reducible refine newSM_of ?_) | (with_reducible refine newS_go ?_) | (with_reducible intro _g _hg) | (with_reducible refine And.intro ?_ ?_) | (with_reducible intro _hc) | omega)
    exact _hO.sim0 (simL_refl _)
end Go.Proofs.YtecpfmhminkalaaGreatDoor
namespace Go.Proofs.YtecpfmhminkalaaGreatDoor
/-- a function that is called with days, one after the other, and turns what it owns -/
structure Yld {S : Type} (fy : Nat) (cap : List AV) (J : S → (Nat → Prop) → AHeap → Prop) (nx : Int → S → S × Bool) : Prop where
  loc : ∀ {s : S} {F : Nat → Prop} {H H' : AHeap}, J s F H → (∀ k, F k → H' k = H k) → J s F H'
  liv : ∀ {s : S} {F : Nat → Prop} {H : AHeap} {k : Nat}, J s F H → F k → H k ≠ none
  cal : callable Tryz.prog fy = true
  go : ∀ (s : S) (F : Nat → Prop) (n : Nat) (H : AHeap) (x : Int), 1 ≤ x ∧ x ≤ 3652059 → J s F H → ACalls Tryz.prog fy (aI x :: cap) n H fun r n' H' => r = .bool (nx x s).2 ∧ ∃ F' : Nat → Prop, J (nx x s).1 F' H' ∧ (∀ k, F' k → F k ∨ n ≤ k) ∧ ∀ k, k < n → ¬ F k → H' k = H k
theorem upd_cells {H : AHeap} {g T : Nat} {cs : List AV} {n : Nat} (hs : ∀ k, n ≤ k → H k = none) (hg : H g = some (.cells T cs)) : g < n := by
  rcases Nat.lt_or_ge g n with h | h
  · exact h
  · rw [hs g h] at hg; cases hg
attribute [local simp] YL Z7 Z9 YM YN YO YP Z8 Z3 Z5 Z4 YQ YR YS YT YU YV YW YX YY YZ Ya Yb Yc Yd scV pe Ye Yf Yg Yh Yi Yj Yk Yl Ym Yn Yo spg_mv Yp Yq Yr Ys Yt Yu Yv Yw Yx Yy Yz X0 X1 X2 X3 X4 X5 X6 X7 X8 X9 spg_mm XA YD XB XC XD XE XF XG XH XI XJ XK XL XM XN XO XP XQ XR XS XT XU XV XW XX XY XZ YC Xa Xb Xc Xd Xe Xf Xg Xh Xi Xj Xk Xl Xm Xn Xo Xp Xq Xr Xs Xt Xu Xv Xw Xx List.mem_cons ZO ZN Z1 YG Zu Xy Zi Zr Zn Zp Zq Zo Zv Zw Zm Xz Q0 Zl Q1 Q2 Q4 Q5 Q6 Q7 Zs Q8 Q9 QA QB QC QD Zt Zh Zx Y1 Y2 QE QF Y3 QG Zj QH Zk Zg QI Zy Zz QJ QK QM QN QO QP QR QS Zd ZK ZI Zc Zf ZH ZM YB Z0 QT ZV ZL Ze ZC ZZ ZA Y5 ZJ Y8 Y9 Zb ZY ZU ZX Za ZT ZD ev get put Y4 ZS QU QV QW QX QY QZ ZE part ZW Qb Qc Qd isNil ZR ZQ ZB ZP YE Qe Qf Qg Qh Qi Qj Qk Ql Qm Qn Qo Qp Qq Qr Qs Qt AV.fits AV.cells ones AV.one YH YI YJ YK ZF ZG Qu Qv Qw Qx Y6 Y7 resV Z2 Qy YA u8e YF Qz V0 List.getElem?_cons_zero List.getElem?_cons_succ
section
variable {S : Type}
def giveF (c s last : Int) (nx : Int → S → S × Bool) : List Int → Int → S → Int × S × Bool
  | [], g, t => (g, t, true)
  | x :: xs, g, t => if x < s then giveF c s last nx xs g t else if last < x ∨ (0 < c ∧ g = c) then (g, t, false) else
    if (nx x t).2 then giveF c s last nx xs (g + 1) (nx x t).1 else (g, (nx x t).1, false)
theorem giveF_le (c s last : Int) (nx : Int → S → S × Bool) : ∀ (l : List Int) (g : Int) (t : S), g ≤ (giveF c s last nx l g t).1 ∧ (giveF c s last nx l g t).1 ≤ g + l.length
  | [], g, t => by simp [giveF]
  | x :: xs, g, t => by
    simp only [giveF]
    split
    · have := giveF_le c s last nx xs g t; simp; omega
    · split
      · simp; omega
      · split
        · have := giveF_le c s last nx xs (g + 1) (nx x t).1; simp; omega
        · simp; omega
set_option maxHeartbeats 4000000 in
theorem give_a {fy : Nat} {cap : List AV} {J : S → (Nat → Prop) → AHeap → Prop} {nx : Int → S → S × Bool} (hY : Yld fy cap J nx) (l : List Int) (r : Rule) (hr : okR r) (s last given : Int) (t : S) (F : Nat → Prop) (n : Nat) (H : AHeap) (gr gs gl gg gy : Nat)
    (h1 : H gr = some (.cells 25 (aRc r))) (h2 : H gs = some (.cells 3 [aI s])) (h3 : H gl = some (.cells 3 [aI last])) (h4 : H gg = some (.cells 3 [aI given])) (h5 : H gy = some (.cells 49 [.fn fy [] cap]))
    (n1 : gr ≠ gg) (n2 : gs ≠ gg) (n3 : gl ≠ gg) (n5 : gy ≠ gg) (f1 : ¬ F gr) (f2 : ¬ F gs) (f3 : ¬ F gl) (f4 : ¬ F gg) (f5 : ¬ F gy) (hJ : J t F H) (hl : l.length ≤ 10000000) (hlx : ∀ x ∈ l, 1 ≤ x ∧ x ≤ 3652059) (hgv : 0 ≤ given ∧ given ≤ 1000000000) :
    ACalls Tryz.prog 65 [aL l, .ptr gr 0, .ptr gs 0, .ptr gl 0, .ptr gg 0, .ptr gy 0] n H fun rr n' H' => rr = .bool (giveF r.count s last nx (pickF r.picks l) given t).2.2 ∧ ∃ F' : Nat → Prop, J (giveF r.count s last nx (pickF r.picks l) given t).2.1 F' H' ∧
      H' gg = some (.cells 3 [aI (giveF r.count s last nx (pickF r.picks l) given t).1]) ∧ (∀ k, F' k → F k ∨ n ≤ k) ∧ ∀ k, k < n → ¬ F k → k ≠ gg → H' k = H k := by
  have hpk := picked_a l r.picks hl (by have := hr.pl; omega)
  have hsub := pick_sub r.picks l
  generalize pickF r.picks l = L at *
  have hLl : L.length ≤ 10000000 := Nat.le_trans hsub.length_le hl
  have hLx : ∀ x ∈ L, 1 ≤ x ∧ x ≤ 3652059 := fun x hx => hlx x (hsub.subset hx)
  have hgl := giveF_le r.count s last nx L given t
  obtain ⟨R, hR⟩ : ∃ R, R = giveF r.count s last nx L given t := ⟨_, rfl⟩
  rw [← hR]
  refine acalls_intro Tryz.func65 cmp65 rfl fun hs => ?_
  have b1 := upd_cells hs h1
  have b2 := upd_cells hs h2
  have b3 := upd_cells hs h3
  have b4 := upd_cells hs h4
  have b5 := upd_cells hs h5
  repeat' (first | (simp -implicitDefEqProofs [c65_k1_go, c65_k2_go, c65_k3_go, c65_k4_go, c65_k5_go, c65_L6_go, c65, -getElem?_pos, h1]) | (simp (disch := omega) only [upd_ne, Qy, if_pos, if_neg, IntWalk.i64_in, Int.tdiv_eq_ediv_of_nonneg, Int.tmod_eq_emod_of_nonneg]) | ((with_reducible refine CallP.chk (f := 66) ?_); (refine' CallP.sf ?_ (hpk) ?_); (focus first | (with_reducible exact simL_refl _) | (simp [simL, simA, simA_refl, simL_refl]; done))) | (with_reducible refine fin_r ?_ ?_ ?_) | (with_reducible exact SameB.rfl_ _ _) | (with_reducible refine SameB.upd ?_ ?_ _) | (with_reducible assumption) | (with_reducible intro _g _hg) | (with_reducible refine And.intro ?_ ?_) | (with_reducible intro _hc) | omega)
  refine LoopK.go (fun q st => ∃ (k n' : Nat) (H' : AHeap) (g' : Int) (t' : S) (F' : Nat → Prop), k + q = L.length ∧ st = ⟨[(1, .ptr gr 0), (2, .ptr gs 0), (3, .ptr gl 0), (4, .ptr gg 0), (5, .ptr gy 0), (13, aL L), (14, aI L.length), (15, aI k)], n', H'⟩ ∧
    J t' F' H' ∧ H' gg = some (.cells 3 [aI g']) ∧ (∀ k, F' k → F k ∨ n ≤ k) ∧ (∀ k, k < n → ¬ F k → k ≠ gg → H' k = H k) ∧ n ≤ n' ∧ (∀ k, n' ≤ k → H' k = none) ∧ 0 ≤ g' ∧ g' ≤ given + k ∧ R = giveF r.count s last nx (L.drop k) g' t') L.length
    ⟨0, n, H, given, t, F, by omega, rfl, hJ, h4, fun k hk => .inl hk, fun k _ _ _ => rfl, Nat.le_refl _, hs, by omega, by omega, by simpa using hR⟩ ?_
  rintro q st ⟨k, n', H', g', t', F', hkq, rfl, hJ', h4', hF', hfr, hle, hs', hg0, hgk, hE⟩ X hX
  have h1' := (hfr gr b1 f1 n1).trans h1
  have h2' := (hfr gs b2 f2 n2).trans h2
  have h3' := (hfr gl b3 f3 n3).trans h3
  have h5' := (hfr gy b5 f5 n5).trans h5
  have hcal := hY.cal
  by_cases hk : k < L.length
  · obtain ⟨y, hy⟩ : ∃ y, L[k]? = some y := ⟨_, List.getElem?_eq_getElem hk⟩
    have hyL := hLx y (List.mem_of_getElem? hy)
    rw [drop_at hy, giveF] at hE
    by_cases c1 : y < s
    · rw [if_pos c1] at hE
      repeat' (first | (simp -implicitDefEqProofs [c65_k1_go, c65_k2_go, c65_k3_go, c65_k4_go, c65_k5_go, c65_L6_go, c65, -getElem?_pos, hy, h2', c1]) | (simp (disch := omega) only [upd_ne, Qy, if_pos, if_neg, IntWalk.i64_in, Int.tdiv_eq_ediv_of_nonneg, Int.tmod_eq_emod_of_nonneg]) | (with_reducible refine fin_r ?_ ?_ ?_) | (with_reducible exact SameB.rfl_ _ _) | (with_reducible refine SameB.upd ?_ ?_ _) | (with_reducible assumption) | (with_reducible intro _g _hg) | (with_reducible refine And.intro ?_ ?_) | (with_reducible intro _hc) | omega)
      exact hX (q - 1) _ (by omega) ⟨k + 1, n', H', g', t', F', by omega, rfl, hJ', h4', hF', hfr, hle, hs', hg0, by omega, hE⟩
    · rw [if_neg c1] at hE
      by_cases c2 : last < y ∨ (0 < r.count ∧ g' = r.count)
      · rw [if_pos c2] at hE
        subst hE
        repeat' (first | (simp -implicitDefEqProofs [c65_k1_go, c65_k2_go, c65_k3_go, c65_k4_go, c65_k5_go, c65_L6_go, c65, -getElem?_pos, hy, h1', h2', h3', h4', c1]) | (simp (disch := omega) only [upd_ne, Qy, if_pos, if_neg, IntWalk.i64_in, Int.tdiv_eq_ediv_of_nonneg, Int.tmod_eq_emod_of_nonneg]) | (with_reducible refine fin_r ?_ ?_ ?_) | (with_reducible exact SameB.rfl_ _ _) | (with_reducible refine SameB.upd ?_ ?_ _) | (with_reducible assumption) | (with_reducible intro _g _hg) | (with_reducible refine And.intro ?_ ?_) | (with_reducible intro _hc) | omega)
        all_goals exact fin_ret rfl hle hs' ⟨rfl, F', hJ', h4', hF', hfr⟩
      · rw [if_neg c2] at hE
        have h4n : gg < n' := by omega
        have k4 : ¬ F' gg := fun h => by rcases hF' _ h with h | h; exact f4 h; omega
        repeat' (first | (simp -implicitDefEqProofs [c65_k1_go, c65_k2_go, c65_k3_go, c65_k4_go, c65_k5_go, c65_L6_go, c65, -getElem?_pos, hy, h1', h2', h3', h4', h5', c1, hcal]) | (simp (disch := omega) only [upd_ne, Qy, if_pos, if_neg, IntWalk.i64_in, Int.tdiv_eq_ediv_of_nonneg, Int.tmod_eq_emod_of_nonneg]) | (with_reducible refine fin_r ?_ ?_ ?_) | (with_reducible exact SameB.rfl_ _ _) | (with_reducible refine SameB.upd ?_ ?_ _) | (with_reducible assumption) | (with_reducible intro _g _hg) | (with_reducible refine And.intro ?_ ?_) | (with_reducible intro _hc) | omega)
        all_goals
          refine ⟨_, hY.go t' F' n' H' y hyL hJ', ?_⟩
          rintro r2 n2 H2 hn2 hs2 ⟨rfl, F2, hJ2, hF2, hfr2⟩
          replace hn2 : n' ≤ n2 := hn2
          have h4c := (hfr2 gg h4n k4).trans h4'
          have k2 : ¬ F2 gg := fun h => by rcases hF2 _ h with h | h; exact k4 h; omega
          have q2 : ∀ j, F2 j → F j ∨ n ≤ j := fun j hj => by
            rcases hF2 j hj with h | h
            · exact hF' j h
            · exact .inr (by omega)
          have q3 : ∀ j, j < n → ¬ F j → ¬ j = gg → H2 j = H j := fun j a b c => by
            rw [hfr2 j (by omega) (fun h => by rcases hF' j h with h | h; exact b h; omega)]
            exact hfr j a b c
          have hn02 : n ≤ n2 := by omega
          cases hb : (nx y t').2
          · rw [if_neg (by rw [hb]; simp)] at hE
            subst hE
            repeat' (first | (simp -implicitDefEqProofs [c65_k1_go, c65_k2_go, c65_k3_go, c65_k4_go, c65_k5_go, c65_L6_go, c65, -getElem?_pos, simA_refl]) | (simp (disch := omega) only [upd_ne, Qy, if_pos, if_neg, IntWalk.i64_in, Int.tdiv_eq_ediv_of_nonneg, Int.tmod_eq_emod_of_nonneg]) | (with_reducible refine fin_r ?_ ?_ ?_) | (with_reducible exact SameB.rfl_ _ _) | (with_reducible refine SameB.upd ?_ ?_ _) | (with_reducible assumption) | (with_reducible intro _g _hg) | (with_reducible refine And.intro ?_ ?_) | (with_reducible intro _hc) | omega)
            all_goals exact fin_ret rfl hn02 hs2 ⟨rfl, F2, hJ2, h4c, q2, q3⟩
          · rw [if_pos hb] at hE
            repeat' (first | (simp -implicitDefEqProofs [c65_k1_go, c65_k2_go, c65_k3_go, c65_k4_go, c65_k5_go, c65_L6_go, c65, -getElem?_pos, simA_refl, h4c, splice]) | (simp (disch := omega) only [upd_ne, Qy, if_pos, if_neg, IntWalk.i64_in, Int.tdiv_eq_ediv_of_nonneg, Int.tmod_eq_emod_of_nonneg]) | (with_reducible refine fin_r ?_ ?_ ?_) | (with_reducible exact SameB.rfl_ _ _) | (with_reducible refine SameB.upd ?_ ?_ _) | (with_reducible assumption) | (with_reducible intro _g _hg) | (with_reducible refine And.intro ?_ ?_) | (with_reducible intro _hc) | omega)
            all_goals exact hX (q - 1) _ (by omega) ⟨k + 1, n2, _, g' + 1, (nx y t').1, F2, by omega, rfl, hY.loc hJ2 (fun j hj => upd_ne (fun e => k2 (e ▸ hj))), Qy _ _ _, q2, (fun j a b c => by rw [upd_ne c]; exact q3 j a b c), hn02, (fun j hj => by rw [upd_ne (by omega)]; exact hs2 j hj), by omega, by omega, hE⟩
  · have hk0 : k = L.length := by omega
    subst hk0
    simp [giveF] at hE
    subst hE
    repeat' (first | (simp -implicitDefEqProofs [c65_k1_go, c65_k2_go, c65_k3_go, c65_k4_go, c65_k5_go, c65_L6_go, c65, -getElem?_pos, simA_refl]) | (simp (disch := omega) only [upd_ne, Qy, if_pos, if_neg, IntWalk.i64_in, Int.tdiv_eq_ediv_of_nonneg, Int.tmod_eq_emod_of_nonneg]) | (with_reducible refine fin_r ?_ ?_ ?_) | (with_reducible exact SameB.rfl_ _ _) | (with_reducible refine SameB.upd ?_ ?_ _) | (with_reducible assumption) | (with_reducible intro _g _hg) | (with_reducible refine And.intro ?_ ?_) | (with_reducible intro _hc) | omega)
    exact fin_ret rfl hle hs' ⟨rfl, F', hJ', h4', hF', hfr⟩
end
end Go.Proofs.YtecpfmhminkalaaGreatDoor
namespace Go.Proofs.YtecpfmhminkalaaGreatDoor
section
variable {S : Type}
/-- the function is called with the days, until it says no -/
def runF (nx : Int → S → S × Bool) : List Int → S → S
  | [], t => t
  | x :: xs, t => if (nx x t).2 then runF nx xs (nx x t).1 else (nx x t).1
theorem giveF_app (c s last : Int) (nx : Int → S → S × Bool) : ∀ (l1 l2 : List Int) (g : Int) (t : S), giveF c s last nx (l1 ++ l2) g t = if (giveF c s last nx l1 g t).2.2 then giveF c s last nx l2 (giveF c s last nx l1 g t).1 (giveF c s last nx l1 g t).2.1 else giveF c s last nx l1 g t
  | [], l2, g, t => rfl
  | x :: xs, l2, g, t => by
    simp only [List.cons_append, giveF]
    split
    · exact giveF_app c s last nx xs l2 g t
    · split
      · rfl
      · split
        · exact giveF_app c s last nx xs l2 (g + 1) (nx x t).1
        · rfl
def cutG (c g : Int) (l : List Int) : List Int := if 0 < c then l.take (c - g).toNat else l
theorem giveF_run (c s last : Int) (nx : Int → S → S × Bool) : ∀ (l : List Int) (g : Int) (t : S), l.Pairwise (· < ·) → (0 < c → g ≤ c) →
    (giveF c s last nx l g t).2.1 = runF nx (cutG c g ((l.filter fun n => decide (s ≤ n)).filter fun n => decide (n ≤ last))) t
  | [], g, t, _, _ => by unfold cutG; split <;> simp [giveF, runF]
  | x :: xs, g, t, hp, hg => by
    obtain ⟨h1, h2⟩ := List.pairwise_cons.1 hp
    simp only [giveF]
    by_cases a : x < s
    · have e0 : (x :: xs).filter (fun n => decide (s ≤ n)) = xs.filter fun n => decide (s ≤ n) := List.filter_cons_of_neg (by simp; omega)
      rw [if_pos a, e0]
      exact giveF_run c s last nx xs g t h2 hg
    · have e0 : (x :: xs).filter (fun n => decide (s ≤ n)) = x :: xs.filter fun n => decide (s ≤ n) := List.filter_cons_of_pos (by simp; omega)
      rw [if_neg a, e0]
      by_cases b : last < x
      · have e1 : (x :: xs.filter fun n => decide (s ≤ n)).filter (fun n => decide (n ≤ last)) = (xs.filter fun n => decide (s ≤ n)).filter fun n => decide (n ≤ last) := List.filter_cons_of_neg (by simp; omega)
        rw [if_pos (.inl b), e1]
        have : ((xs.filter fun n => decide (s ≤ n)).filter fun n => decide (n ≤ last)) = [] := by
          rw [List.filter_eq_nil_iff]; intro n hn
          have := h1 n (List.mem_filter.1 hn).1
          simp; omega
        rw [this]
        unfold cutG; split <;> simp [runF]
      · have e1 : (x :: xs.filter fun n => decide (s ≤ n)).filter (fun n => decide (n ≤ last)) = x :: (xs.filter fun n => decide (s ≤ n)).filter fun n => decide (n ≤ last) := List.filter_cons_of_pos (by simp; omega)
        rw [e1]
        by_cases d : 0 < c ∧ g = c
        · rw [if_pos (.inr d)]
          unfold cutG; rw [if_pos d.1]
          have : (c - g).toNat = 0 := by omega
          rw [this]; rfl
        · rw [if_neg (by omega)]
          have e : cutG c g (x :: ((xs.filter fun n => decide (s ≤ n)).filter fun n => decide (n ≤ last))) = x :: cutG c (g + 1) ((xs.filter fun n => decide (s ≤ n)).filter fun n => decide (n ≤ last)) := by
            unfold cutG
            by_cases hc : 0 < c
            · rw [if_pos hc, if_pos hc]
              have : (c - g).toNat = (c - (g + 1)).toNat + 1 := by omega
              rw [this]; rfl
            · rw [if_neg hc, if_neg hc]
          rw [e, runF]
          by_cases hn : (nx x t).2
          · rw [if_pos hn, if_pos hn]
            exact giveF_run c s last nx xs (g + 1) (nx x t).1 h2 (fun hc => by have := hg hc; omega)
          · rw [if_neg hn, if_neg hn]
/-- the days of the first periods, with those before the start -/
def dF (r : Rule) (s : Int) (K : Nat) : List Int := (List.range K).flatMap fun (k : Nat) => pickF r.picks (candF r s k)
theorem dF_succ (r : Rule) (s : Int) (K : Nat) : dF r s (K + 1) = dF r s K ++ pickF r.picks (candF r s K) := by
  unfold dF; rw [List.range_succ, List.flatMap_append]; simp
theorem dF_lt {r : Rule} {s n : Int} {K : Nat} (h : n ∈ dF r s K) : n < fiF r.unit s K := by
  obtain ⟨k, hk, hn⟩ := List.mem_flatMap.1 h
  have hk := List.mem_range.1 hk
  have h1 := cand_mem ((pick_sub _ _).subset hn)
  have h2 := fi_mono r.unit s (show (k : Int) + 1 ≤ K by omega)
  omega
theorem dF_sorted (r : Rule) (s : Int) (K : Nat) : (dF r s K).Pairwise (· < ·) := by
  induction K with
  | zero => exact .nil
  | succ K ih =>
    rw [dF_succ]
    refine List.pairwise_append.2 ⟨ih, (cand_sorted r s K).sublist (pick_sub _ _), fun a ha b hb => ?_⟩
    have := dF_lt ha
    have := cand_mem ((pick_sub _ _).subset hb)
    omega
theorem dF_filter (r : Rule) (s : Int) (K : Nat) : (dF r s K).filter (fun n => decide (s ≤ n)) = daysF r s K := by
  induction K with
  | zero => rfl
  | succ K ih => rw [dF_succ, days_succ, List.filter_append, ih]; rfl
theorem giveF_more {r : Rule} {s last : Int} {nx : Int → S → S × Bool} {t : S} {K : Nat} (h : (giveF r.count s last nx (dF r s K) 0 t).2.2 = false) : ∀ L : Nat, giveF r.count s last nx (dF r s (K + L)) 0 t = giveF r.count s last nx (dF r s K) 0 t
  | 0 => rfl
  | L + 1 => by
    have ih := giveF_more h L
    have e : K + (L + 1) = K + L + 1 := by omega
    rw [e, dF_succ, giveF_app, ih, if_neg (by rw [h]; simp)]
/-- what is given on is the rule's list -/
theorem each_run {r : Rule} {s : Int} {nx : Int → S → S × Bool} {t : S} {K : Nat} (hc : 0 ≤ r.count) (h : (giveF r.count s (lastF r s) nx (dF r s K) 0 t).2.2 = true → lastF r s < fiF r.unit s K) :
    (giveF r.count s (lastF r s) nx (dF r s K) 0 t).2.1 = runF nx (cutF r (allF r s)) t := by
  have key : ∀ M : Nat, lastF r s < fiF r.unit s M → (giveF r.count s (lastF r s) nx (dF r s M) 0 t).2.1 = runF nx (cutF r (allF r s)) t := by
    intro M hM
    rw [giveF_run _ _ _ _ _ _ _ (dF_sorted r s M) (fun h => by omega), dF_filter, all_of hM]
    unfold cutG cutF
    rw [Int.sub_zero]
  cases hb : (giveF r.count s (lastF r s) nx (dF r s K) 0 t).2.2 with
  | true => exact key K (h hb)
  | false =>
    have h1 := giveF_more hb (numF r s)
    rw [← h1]
    refine key _ ?_
    have := fi_mono r.unit s (show (0 : Int) ≤ (K + numF r s : Nat) by omega)
    unfold numF at this ⊢; omega
end
end Go.Proofs.YtecpfmhminkalaaGreatDoor

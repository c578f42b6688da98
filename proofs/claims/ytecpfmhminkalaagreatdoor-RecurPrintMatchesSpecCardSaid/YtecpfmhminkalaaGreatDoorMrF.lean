/- The days of a rule are given on: walked; no condition. -/
import Derived.Test.YtecpfmhminkalaaGreatDoorMrE
set_option linter.all false
set_option linter.unusedSimpArgs false
set_option linter.unusedVariables false
namespace Go.Proofs.YtecpfmhminkalaaGreatDoor
abbrev eKs : List Nat := [4, 6, 7, 9, 10, 11, 12, 13]
/-- what the loop's slots hold -/
abbrev eEnv (gr gd gl gw : Nat) (fv x : AV) (b p : Int) : AEnv := [(4, .ptr gr 0), (6, .ptr gd 0), (7, .ptr gl 0), (9, fv), (10, x), (11, aI b), (12, aI p), (13, .ptr gw 0)]
attribute [local simp] YL Z7 Z9 YM YN YO YP Z8 Z3 Z5 Z4 YQ YR YS YT YU YV YW YX YY YZ Ya Yb Yc Yd scV pe Ye Yf Yg Yh Yi Yj Yk Yl Ym Yn Yo spg_mv Yp Yq Yr Ys Yt Yu Yv Yw Yx Yy Yz X0 X1 X2 X3 X4 X5 X6 X7 X8 X9 spg_mm XA YD XB XC XD XE XF XG XH XI XJ XK XL XM XN XO XP XQ XR XS XT XU XV XW XX XY XZ YC Xa Xb Xc Xd Xe Xf Xg Xh Xi Xj Xk Xl Xm Xn Xo Xp Xq Xr Xs Xt Xu Xv Xw Xx List.mem_cons ZO ZN Z1 YG Zu Xy Zi Zr Zn Zp Zq Zo Zv Zw Zm Xz Q0 Zl Q1 Q2 Q4 Q5 Q6 Q7 Zs Q8 Q9 QA QB QC QD Zt Zh Zx Y1 Y2 QE QF Y3 QG Zj QH Zk Zg QI Zy Zz QJ QK QM QN QO QP QR QS Zd ZK ZI Zc Zf ZH ZM YB Z0 QT ZV ZL Ze ZC ZZ ZA Y5 ZJ Y8 Y9 Zb ZY ZU ZX Za ZT ZD ev get put Y4 ZS QU QV QW QX QY QZ ZE part ZW Qb Qc Qd isNil ZR ZQ ZB ZP YE Qe Qf Qg Qh Qi Qj Qk Ql Qm Qn Qo Qp Qq Qr Qs Qt AV.fits AV.cells ones AV.one YH YI YJ YK ZF ZG Qu Qv Qw Qx Y6 Y7 resV Z2 Qy YA u8e YF Qz V0 List.getElem?_cons_zero List.getElem?_cons_succ
set_option maxHeartbeats 4000000 in
theorem each_fit {X : AS → Prop} {QQ Q3 : AExit → AS → Prop} {fv : AV} {n n' : Nat} {H' : AHeap} {gr gd gl gw : Nat} (s d b p : Int) (K : Nat) (x : AV) (l : List Int) (r : Rule) (hr : okR r) (hs1 : 1 ≤ s ∧ s ≤ 3652059) (hd : 1 ≤ d ∧ d ≤ 3652059)
    (hp : p = b + K) (hb : 0 ≤ b ∧ b ≤ 100000000) (hp2 : 0 ≤ p ∧ p ≤ 100000000) (hle : n ≤ n') (hsup : ∀ k, n' ≤ k → H' k = none) (h1 : H' gr = some (.cells 25 (aRc r))) (h2 : H' gd = some (.cells 85 (aDc s))) (h3 : H' gw = some (.cells 94 (aDc d)))
    (hx : OwnS n H' 3 1 x (l.map aI)) (hll : l.length ≤ 10000000)
    (hX : ∀ (x' : AV) (n'' : Nat) (H'' : AHeap), n' ≤ n'' → (∀ k, n'' ≤ k → H'' k = none) → OwnS n H'' 3 1 x' ((if (K : Int) % r.step = 0 ∧ fitsF r s d = true then l ++ [d] else l).map aI) → (∀ k ob, H' k = some ob → notRow x k → k ≠ gw → H'' k = some ob) →
      (∀ k, k < n → notRow x k → k ≠ gw → H'' k = H' k) → (∀ k, k < n' → notRow x k → notRow x' k) → H'' gw = some (.cells 94 (wkD (d + 1))) → X ⟨eEnv gr gd gl gw fv x' b p, n'', H''⟩) :
    aw Tryz.prog c23_k2 (blockA 1 (thenA (aw Tryz.prog c23_k1 (keepQ eKs (thenA X QQ))) Q3)) ⟨eEnv gr gd gl gw fv x b p ++ [(14, aI p)], n', H'⟩ := by
  have hft := fits_a d s r hd hs1 hr
  have hst := hr.st
  have hgw : gw < n' := upd_cells hsup h3
  have hwd : notRow x gw := fun sz l' e => by
    rcases hx with ⟨_, z, e2⟩ | ⟨g, e2, e3, _⟩
    · rw [e2] at e; injection e with _ _ e; cases e
    · rw [e2] at e; injection e with _ _ e; injection e with e; subst e; rw [h3] at e3; cases e3
  have hk : (p - b).tmod r.step = (K : Int) % r.step := by
    rw [hp, show b + (K : Int) - b = K by omega]; exact Int.tmod_eq_emod_of_nonneg (by omega)
  have hk2 : (p - b) % r.step = (K : Int) % r.step := by rw [hp, show b + (K : Int) - b = K by omega]
  have no : ¬ ((K : Int) % r.step = 0 ∧ fitsF r s d = true) → CallK Tryz.prog 70 [.ptr gw 0] (some 39) (awOps Tryz.prog [] (keepQ eKs (thenA X QQ) .normal)) ⟨eEnv gr gd gl gw fv x b p ++ [(38, .ptr gw 0)], n', H'⟩ := by
    intro hc
    refine CallK.ofU (step_a d hd _ gw _ h3) (simL_refl _) ?_
    rw [if_neg hc] at hX
    simp -implicitDefEqProofs [-getElem?_pos]
    refine hX x n' _ (Nat.le_refl _) (fun k hk => by rw [upd_ne (by omega)]; exact hsup k hk) (hx.keep fun k e m hk => ?_) (fun k ob hk _ hne => by rw [upd_ne hne]; exact hk) (fun k _ _ hne => upd_ne hne) (fun k _ h => h) (Qy _ _ _)
    rw [upd_ne (fun e' => by subst e'; rw [h3] at hk; cases hk)]; exact hk
  have yes : ∀ g, n' ≤ g → ((K : Int) % r.step = 0 ∧ fitsF r s d = true) → ∀ e, ZS e eKs = eEnv gr gd gl gw fv x b p → appKS 3 1 8 (some 95) (awOps Tryz.prog [⟨some 10, .mv (.t 95), none⟩] (blockA 1 (thenA (aw Tryz.prog c23_k1 (keepQ eKs (thenA X QQ))) Q3) .normal)) ⟨e, g + 1, upd H' g (some (.row 3 1))⟩ x (.sl 1 [aI d] (.own g)) := by
    intro g hg hc e he
    rw [if_pos hc] at hX
    have hM : Mem n H' (g + 1) (upd H' g (some (.row 3 1))) := (⟨hle, hsup, SameB.rfl_ _ _⟩ : Mem n H' n' H').alloc hg _
    refine app_any (l := l.map aI) (.inl rfl) (simL_refl _) hM (hx.keep fun k e m hk => ?_) (by simp; omega) (by simp [maxLen]; omega) fun x' n2 H2 ho hm hkeep hnr hle2 => ?_
    · have : k < n' := by rcases Nat.lt_or_ge k n' with h | h; exact h; rw [hsup k h] at hk; cases hk
      rw [upd_ne (by omega)]; exact hk
    · have h3' : H2 gw = some (.cells 94 (aDc d)) := hkeep _ _ (by rw [upd_ne (by omega)]; exact h3) hwd
      have he2 : ZS (put (put e 95 x') 10 x') eKs = eEnv gr gd gl gw fv x' b p := by
        simp only [ZS, eKs, List.map_cons, List.map_nil, get_put] at he ⊢
        simp only [eEnv, List.cons.injEq, Prod.mk.injEq, true_and] at he ⊢
        simp [he]
      simp only [awOps, awO, awOp, pe, ev, K1, Y4, blockA, thenA, get_put, if_true]
      rw [c23_k1_go]
      simp only [aw, he2]
      simp -implicitDefEqProofs [-getElem?_pos]
      refine CallK.ofU (step_a d hd _ gw _ h3') (simL_refl _) ?_
      simp -implicitDefEqProofs [-getElem?_pos]
      refine hX x' n2 _ (by omega) (fun k hk => ?_) ?_ (fun k ob hk hr hne => ?_) (fun k hkn _ hne => ?_) (fun k hk hr => hnr k (by omega) hr) (Qy _ _ _)
      · have : gw < n2 := hm.lt h3'
        rw [upd_ne (by omega)]; exact hm.sup k hk
      · rw [List.map_append]
        refine ho.keep fun k e m hk => ?_
        rw [upd_ne (fun e' => by subst e'; rw [h3'] at hk; cases hk)]; exact hk
      · rw [upd_ne hne]
        have : k < n' := by rcases Nat.lt_or_ge k n' with h | h; exact h; rw [hsup k h] at hk; cases hk
        exact hkeep k ob (by rw [upd_ne (by omega)]; exact hk) hr
      · rw [upd_ne hne]; exact hm.same k hkn
  
  by_cases hc : (K : Int) % r.step = 0
  · cases hf : fitsF r s d
    · rw [hf] at hft
      repeat' (first | (simp -implicitDefEqProofs [c23_k1_go, c23_k2_go, c23_k3_go, c23_t4_go, c23_L5_go, c23_k6_go, c23, -getElem?_pos, h1, h2, h3, hk, hk2, hc]) | (simp (disch := omega) only [upd_ne, Qy, if_pos, if_neg, IntWalk.i64_in, Int.tdiv_eq_ediv_of_nonneg, Int.tmod_eq_emod_of_nonneg]) | ((with_reducible refine CallP.chk (f := 71) ?_); (refine' CallP.sf ?_ (hft) ?_); (focus first | (with_reducible exact simL_refl _) | (simp [simL, simA, simA_refl, simL_refl]; done))) | (with_reducible refine fin_r ?_ ?_ ?_) | (with_reducible exact SameB.rfl_ _ _) | (with_reducible refine SameB.upd ?_ ?_ _) | (with_reducible assumption) | (with_reducible refine newPM_of ?_) | (with_reducible refine newSM_of ?_) | (with_reducible refine newP_go ?_) | (with_reducible refine newS_go ?_) | (with_reducible intro _g _hg) | (with_reducible refine And.intro ?_ ?_) | (with_reducible intro _hc) | omega)
      all_goals exact no (by rw [hf]; simp)
    · rw [hf] at hft
      repeat' (first | (simp -implicitDefEqProofs [c23_k1_go, c23_k2_go, c23_k3_go, c23_t4_go, c23_L5_go, c23_k6_go, c23, -getElem?_pos, h1, h2, h3, hk, hk2, hc]) | (simp (disch := omega) only [upd_ne, Qy, if_pos, if_neg, IntWalk.i64_in, Int.tdiv_eq_ediv_of_nonneg, Int.tmod_eq_emod_of_nonneg]) | ((with_reducible refine CallP.chk (f := 71) ?_); (refine' CallP.sf ?_ (hft) ?_); (focus first | (with_reducible exact simL_refl _) | (simp [simL, simA, simA_refl, simL_refl]; done))) | (with_reducible refine fin_r ?_ ?_ ?_) | (with_reducible exact SameB.rfl_ _ _) | (with_reducible refine SameB.upd ?_ ?_ _) | (with_reducible assumption) | (with_reducible refine newPM_of ?_) | (with_reducible refine newSM_of ?_) | (with_reducible refine newP_go ?_) | (with_reducible refine newS_go ?_) | (with_reducible intro _g _hg) | (with_reducible refine And.intro ?_ ?_) | (with_reducible intro _hc) | omega)
      all_goals first
        | exact yes _ (by assumption) ⟨hc, hf⟩ _ rfl
        | (exfalso; omega)
  · repeat' (first | (simp -implicitDefEqProofs [c23_k1_go, c23_k2_go, c23_k3_go, c23_t4_go, c23_L5_go, c23_k6_go, c23, -getElem?_pos, h1, h2, h3, hk, hk2, hc]) | (simp (disch := omega) only [upd_ne, Qy, if_pos, if_neg, IntWalk.i64_in, Int.tdiv_eq_ediv_of_nonneg, Int.tmod_eq_emod_of_nonneg]) | ((with_reducible refine CallP.chk (f := 71) ?_); (refine' CallP.sf ?_ (hft) ?_); (focus first | (with_reducible exact simL_refl _) | (simp [simL, simA, simA_refl, simL_refl]; done))) | (with_reducible refine fin_r ?_ ?_ ?_) | (with_reducible exact SameB.rfl_ _ _) | (with_reducible refine SameB.upd ?_ ?_ _) | (with_reducible assumption) | (with_reducible refine newPM_of ?_) | (with_reducible refine newSM_of ?_) | (with_reducible refine newP_go ?_) | (with_reducible refine newS_go ?_) | (with_reducible intro _g _hg) | (with_reducible refine And.intro ?_ ?_) | (with_reducible intro _hc) | omega)
    all_goals first
      | exact no (fun h => hc h.1)
      | (exfalso; omega)
end Go.Proofs.YtecpfmhminkalaaGreatDoor
namespace Go.Proofs.YtecpfmhminkalaaGreatDoor
section
variable {S : Type}
theorem last_b (r : Rule) (s : Int) (hr : okR r) (hs : 1 ≤ s ∧ s ≤ 3652059) : lastF r s ≤ 3652059 ∧ 1 ≤ lastF r s := by
  have := hr.ut
  unfold lastF; split <;> omega
theorem perF_b {u d : Int} (h : 1 ≤ d ∧ d ≤ 3652059) : 0 ≤ perF u d ∧ perF u d ≤ 10000000 := by
  obtain ⟨h1, h2, h3, h4, h5, h6⟩ := date_b h.1 h.2
  unfold perF
  split
  · omega
  · split
    · omega
    · split <;> omega
/-- the candidates so far -/
def lstF (r : Rule) (s : Int) (K : Nat) (d : Int) : List Int := if (K : Int) % r.step = 0 then (upto (fiF r.unit s K) (d - 1)).filter (fitsF r s) else []
theorem lst_zero (r : Rule) (s : Int) (K : Nat) {d : Int} (h : d ≤ fiF r.unit s K) : lstF r s K d = [] := by
  unfold lstF; split
  · rw [upto_nil (by omega)]; rfl
  · rfl
theorem lst_succ (r : Rule) (s : Int) (K : Nat) {d : Int} (h : fiF r.unit s K ≤ d) : lstF r s K (d + 1) = if (K : Int) % r.step = 0 ∧ fitsF r s d = true then lstF r s K d ++ [d] else lstF r s K d := by
  unfold lstF
  have e : d + 1 - 1 = d - 1 + 1 := by omega
  rw [e, upto_snoc (by omega), List.filter_append]
  have e2 : d - 1 + 1 = d := by omega
  by_cases hc : (K : Int) % r.step = 0
  · rw [if_pos hc, if_pos hc, e2]
    by_cases hf : fitsF r s d = true
    · rw [if_pos ⟨hc, hf⟩, List.filter_cons_of_pos hf]; rfl
    · rw [if_neg (fun h => hf h.2), List.filter_cons_of_neg hf]; simp
  · rw [if_neg hc, if_neg (fun h => hc h.1), if_neg hc]
theorem lst_cand (r : Rule) (s : Int) (K : Nat) {d : Int} (h : d ≤ fiF r.unit s (K + 1)) (h2 : d ≤ 3652060) (h3 : d = fiF r.unit s (K + 1) ∨ d = 3652060) : lstF r s K d = candF r s K := by
  unfold lstF candF
  have : min (fiF r.unit s (K + 1) - 1) 3652059 = d - 1 := by omega
  rw [this]
theorem lst_len (r : Rule) (s : Int) (K : Nat) {d : Int} (h : fiF r.unit s K ≤ d) : ((lstF r s K d).length : Int) ≤ d - fiF r.unit s K := by
  unfold lstF
  split
  · have h1 := List.length_filter_le (fitsF r s) (upto (fiF r.unit s K) (d - 1))
    have h2 : (upto (fiF r.unit s K) (d - 1)).length = (d - fiF r.unit s K).toNat := by unfold upto; simp
    omega
  · simp; omega
theorem lst_mem {r : Rule} {s : Int} {K : Nat} {d x : Int} (h : x ∈ lstF r s K d) : fiF r.unit s K ≤ x ∧ x < d := by
  unfold lstF at h
  split at h
  · have := upto_mem.1 (List.mem_filter.1 h).1; omega
  · cases h
theorem own_not {n g T : Nat} {H : AHeap} {el sz : Nat} {x : AV} {l cs : List AV} (h : OwnS n H el sz x l) (hg : H g = some (.cells T cs)) : notRow x g := fun sz' l' e => by
  rcases h with ⟨_, z, e2⟩ | ⟨k, e2, e3, _⟩
  · rw [e2] at e; injection e with _ _ e; cases e
  · rw [e2] at e; injection e with _ _ e; injection e with e; subst e; rw [hg] at e3; cases e3
theorem own_low {n g : Nat} {H : AHeap} {el sz : Nat} {x : AV} {l : List AV} (h : OwnS n H el sz x l) (hg : g < n) : notRow x g := fun sz' l' e => by
  rcases h with ⟨_, z, e2⟩ | ⟨k, e2, e3, e4⟩
  · rw [e2] at e; injection e with _ _ e; cases e
  · rw [e2] at e; injection e with _ _ e; injection e with e; omega
/-- what holds at each round -/
structure RInv (fy : Nat) (cap : List AV) (J : S → (Nat → Prop) → AHeap → Prop) (nx : Int → S → S × Bool) (s : Int) (r : Rule) (t0 : S) (F : Nat → Prop) (n : Nat) (H : AHeap) (gs gr gy gd gl gg gw : Nat) (K : Nat) (d : Int) (n' : Nat) (H' : AHeap) (x : AV) (g : Int) (t : S) (F' : Nat → Prop) : Prop where
  le : n ≤ n'
  sup : ∀ k, n' ≤ k → H' k = none
  b1 : H' gs = some (.cells 3 [aI s])
  b2 : H' gr = some (.cells 25 (aRc r))
  b3 : H' gy = some (.cells 49 [.fn fy [] cap])
  b4 : H' gd = some (.cells 85 (aDc s))
  b5 : H' gl = some (.cells 3 [aI (lastF r s)])
  b6 : H' gg = some (.cells 3 [aI g])
  b7 : H' gw = some (.cells 94 (wkD d))
  own : OwnS n H' 3 1 x ((lstF r s K d).map aI)
  j : J t F' H'
  fF : ∀ k, F' k → F k ∨ n ≤ k
  fb : ∀ k, F' k → k ≠ gs ∧ k ≠ gr ∧ k ≠ gy ∧ k ≠ gd ∧ k ≠ gl ∧ k ≠ gg ∧ k ≠ gw
  fx : ∀ k, F' k → notRow x k
  fr : ∀ k, k < n → ¬ F k → H' k = H k
  gv : giveF r.count s (lastF r s) nx (dF r s K) 0 t0 = (g, t, true)
  g0 : 0 ≤ g ∧ g ≤ fiF r.unit s K
  pd : fiF r.unit s K ≤ d ∧ d ≤ fiF r.unit s (K + 1) ∧ 1 ≤ d ∧ d ≤ 3652060
/-- the day is looked at, and the walker goes on -/
theorem each_on {fy : Nat} {cap : List AV} {J : S → (Nat → Prop) → AHeap → Prop} {nx : Int → S → S × Bool} (hY : Yld fy cap J nx) {s : Int} {r : Rule} (hr : okR r) (hs1 : 1 ≤ s ∧ s ≤ 3652059) {t0 : S} {F : Nat → Prop} {n : Nat} {H : AHeap} {gs gr gy gd gl gg gw : Nat}
    (w1 : gs ≠ gw) (w2 : gr ≠ gw) (w3 : gy ≠ gw) (w4 : gd ≠ gw) (w5 : gl ≠ gw) (w6 : gg ≠ gw) (w7 : n ≤ gw)
    {K : Nat} {d : Int} {n' : Nat} {H' : AHeap} {x : AV} {g : Int} {t : S} {F' : Nat → Prop} (hI : RInv fy cap J nx s r t0 F n H gs gr gy gd gl gg gw K d n' H' x g t F') (hd : d < fiF r.unit s (K + 1)) (hd2 : d ≤ 3652059) {X : AS → Prop} {QQ Q3 : AExit → AS → Prop} {fv : AV}
    (hX : ∀ n'' H'' x', RInv fy cap J nx s r t0 F n H gs gr gy gd gl gg gw K (d + 1) n'' H'' x' g t F' → X ⟨eEnv gr gd gl gw fv x' (perF r.unit s) (perF r.unit s + K), n'', H''⟩) :
    aw Tryz.prog c23_k2 (blockA 1 (thenA (aw Tryz.prog c23_k1 (keepQ eKs (thenA X QQ))) Q3)) ⟨eEnv gr gd gl gw fv x (perF r.unit s) (perF r.unit s + K) ++ [(14, aI (perF r.unit s + K))], n', H'⟩ := by
  have hpb := perF_b (u := r.unit) hs1
  have hpd := (per_iff (u := r.unit) K hs1.1 hI.pd.2.2.1).2 ⟨hI.pd.1, hd⟩
  have hpb2 := perF_b (u := r.unit) (show 1 ≤ d ∧ d ≤ 3652059 from ⟨hI.pd.2.2.1, hd2⟩)
  have e7 : wkD d = aDc d := by unfold wkD; rw [if_pos hd2]
  have h7 := hI.b7
  rw [e7] at h7
  have hll := lst_len r s K hI.pd.1
  have hf0 := (fi_zero (u := r.unit) hs1.1).1
  have hfm := fi_mono r.unit s (show (0 : Int) ≤ K by omega)
  refine each_fit s d (perF r.unit s) (perF r.unit s + K) K x (lstF r s K d) r hr hs1 ⟨hI.pd.2.2.1, hd2⟩ rfl (by omega) (by omega) hI.le hI.sup hI.b2 hI.b4 h7 hI.own (by have := hI.pd; omega) fun x' n'' H'' hn hsup ho hk hlow hnr hw => ?_
  rw [← lst_succ r s K hI.pd.1] at ho
  have kp : ∀ {g T cs}, H' g = some (.cells T cs) → g ≠ gw → H'' g = some (.cells T cs) := fun hg hne => hk _ _ hg (own_not hI.own hg) hne
  have hpd2 := hI.pd
  exact hX n'' H'' x' ⟨Nat.le_trans hI.le hn, hsup, kp hI.b1 w1, kp hI.b2 w2, kp hI.b3 w3, kp hI.b4 w4, kp hI.b5 w5, kp hI.b6 w6, hw, ho,
    hY.loc hI.j (fun k hF => by
      have h1 := hY.liv hI.j hF
      cases hob : H' k with
      | none => exact absurd hob h1
      | some ob => exact hk k ob hob (hI.fx k hF) (hI.fb k hF).2.2.2.2.2.2),
    hI.fF, hI.fb, fun k hF => by
      have h1 := hY.liv hI.j hF
      have : k < n' := by rcases Nat.lt_or_ge k n' with h | h; exact h; exact absurd (hI.sup k h) h1
      exact hnr k this (hI.fx k hF),
    fun k hkn hkF => by rw [hlow k hkn (own_low hI.own hkn) (by omega)]; exact hI.fr k hkn hkF,
    hI.gv, hI.g0, ⟨by omega, by omega, by omega, by omega⟩⟩
end
end Go.Proofs.YtecpfmhminkalaaGreatDoor
namespace Go.Proofs.YtecpfmhminkalaaGreatDoor
attribute [local simp] YL Z7 Z9 YM YN YO YP Z8 Z3 Z5 Z4 YQ YR YS YT YU YV YW YX YY YZ Ya Yb Yc Yd scV pe Ye Yf Yg Yh Yi Yj Yk Yl Ym Yn Yo spg_mv Yp Yq Yr Ys Yt Yu Yv Yw Yx Yy Yz X0 X1 X2 X3 X4 X5 X6 X7 X8 X9 spg_mm XA YD XB XC XD XE XF XG XH XI XJ XK XL XM XN XO XP XQ XR XS XT XU XV XW XX XY XZ YC Xa Xb Xc Xd Xe Xf Xg Xh Xi Xj Xk Xl Xm Xn Xo Xp Xq Xr Xs Xt Xu Xv Xw Xx List.mem_cons ZO ZN Z1 YG Zu Xy Zi Zr Zn Zp Zq Zo Zv Zw Zm Xz Q0 Zl Q1 Q2 Q4 Q5 Q6 Q7 Zs Q8 Q9 QA QB QC QD Zt Zh Zx Y1 Y2 QE QF Y3 QG Zj QH Zk Zg QI Zy Zz QJ QK QM QN QO QP QR QS Zd ZK ZI Zc Zf ZH ZM YB Z0 QT ZV ZL Ze ZC ZZ ZA Y5 ZJ Y8 Y9 Zb ZY ZU ZX Za ZT ZD ev get put Y4 ZS QU QV QW QX QY QZ ZE part ZW Qb Qc Qd isNil ZR ZQ ZB ZP YE Qe Qf Qg Qh Qi Qj Qk Ql Qm Qn Qo Qp Qq Qr Qs Qt AV.fits AV.cells ones AV.one YH YI YJ YK ZF ZG Qu Qv Qw Qx Y6 Y7 resV Z2 Qy YA u8e YF Qz V0 List.getElem?_cons_zero List.getElem?_cons_succ
section
variable {S : Type}
theorem calG : callable Tryz.prog 65 = true := by kernel_rfl
theorem wk_shape {d : Int} (h : 1 ≤ d ∧ d ≤ 3652060) : ∃ y m dd l w, wkD d = [aI d, aI y, aI m, aI dd, aI l, aI w] ∧ 0 ≤ y ∧ y ≤ 100000 ∧ 0 ≤ m ∧ m ≤ 100 ∧ (d ≤ 3652059 → y = (dateM d).y ∧ m = (dateM d).m) := by
  unfold wkD
  split
  · rename_i h2
    have := date_b h.1 h2
    exact ⟨_, _, _, _, _, rfl, by omega, by omega, by omega, by omega, fun _ => ⟨rfl, rfl⟩⟩
  · exact ⟨_, _, _, _, _, rfl, by omega, by omega, by omega, by omega, fun h3 => by omega⟩
set_option maxHeartbeats 8000000 in
theorem each_loop {fy : Nat} {cap : List AV} {J : S → (Nat → Prop) → AHeap → Prop} {nx : Int → S → S × Bool} (hY : Yld fy cap J nx) {s : Int} {r : Rule} (hr : okR r) (hs1 : 1 ≤ s ∧ s ≤ 3652059) {t0 : S} {F : Nat → Prop} {n : Nat} {H : AHeap} {gs gr gy gd gl gg gw : Nat}
    (w1 : gs ≠ gw) (w2 : gr ≠ gw) (w3 : gy ≠ gw) (w4 : gd ≠ gw) (w5 : gl ≠ gw) (w6 : gg ≠ gw) (w7 : n ≤ gw) (v1 : gs ≠ gg) (v2 : gr ≠ gg) (v3 : gy ≠ gg) (v4 : gd ≠ gg) (v5 : gl ≠ gg) (v7 : n ≤ gg)
    {R : APost} (hR : ∀ n' H' F', n ≤ n' → J (runF nx (cutF r (allF r s)) t0) F' H' → (∀ k, F' k → F k ∨ n ≤ k) → (∀ k, k < n → ¬ F k → H' k = H k) → R (.tup []) n' H') {QL : AExit → AS → Prop} (hQL : ∀ st, fin R n [] .ret st → QL .ret st)
    {n1 : Nat} {H1 : AHeap} {x1 : AV} (hI1 : RInv fy cap J nx s r t0 F n H gs gr gy gd gl gg gw 0 (fiF r.unit s 0) n1 H1 x1 0 t0 F) :
    LoopK (fun Q st => aw Tryz.prog c23_L5 Q st) QL ⟨eEnv gr gd gl gw (.fn 65 [] [.ptr gr 0, .ptr gs 0, .ptr gl 0, .ptr gg 0, .ptr gy 0]) x1 (perF r.unit s) (perF r.unit s), n1, H1⟩ := by
  have hf0 := (fi_zero (u := r.unit) hs1.1).1
  refine LoopK.go (fun q st => ∃ (K : Nat) (d : Int) (n' : Nat) (H' : AHeap) (x : AV) (g : Int) (t : S) (F' : Nat → Prop), d + q = 3652061 ∧ st = ⟨eEnv gr gd gl gw (.fn 65 [] [.ptr gr 0, .ptr gs 0, .ptr gl 0, .ptr gg 0, .ptr gy 0]) x (perF r.unit s) (perF r.unit s + K), n', H'⟩ ∧
    RInv fy cap J nx s r t0 F n H gs gr gy gd gl gg gw K d n' H' x g t F') (3652061 - fiF r.unit s 0).toNat ⟨0, fiF r.unit s 0, n1, H1, x1, 0, t0, F, by have := hI1.pd; omega, by simp, hI1⟩ ?_
  rintro q st ⟨K, d, n', H', x, g, t, F', hdq, rfl, hI⟩ X hX
  have hpd := hI.pd
  have b2 := hI.b2
  have b5 := hI.b5
  have b7 := hI.b7
  have hcg := calG
  have hll := lst_len r s K hpd.1
  have hlb := last_b r s hr hs1
  have hfm := fi_mono r.unit s (show (0 : Int) ≤ K by omega)
  obtain ⟨y, m, dd, l, w, ew, y0, y1, m0, m1, hym⟩ := wk_shape (d := d) (by omega)
  have hper := period_a d y m dd l w r.unit (by omega)
  rw [ew] at b7
  
  by_cases hB : d < fiF r.unit s (K + 1) ∧ d ≤ 3652059
  · have hp := (per_iff (u := r.unit) K hs1.1 hpd.2.2.1).2 ⟨hpd.1, hB.1⟩
    obtain ⟨e1, e2⟩ := hym hB.2
    rw [e1, e2, per_c hpd.2.2.1, hp] at hper
    rw [e1, e2] at b7
    repeat' (first | (simp -implicitDefEqProofs [c23_L5_go, -getElem?_pos, b2, b7, hB]) | (simp (disch := omega) only [upd_ne, Qy, if_pos, if_neg, IntWalk.i64_in, Int.tdiv_eq_ediv_of_nonneg, Int.tmod_eq_emod_of_nonneg]) | ((with_reducible refine CallP.chk (f := 67) ?_); (refine' CallP.sf ?_ (hper) ?_); (focus first | (with_reducible exact simL_refl _) | (simp [simL, simA, simA_refl, simL_refl]; done))) | (with_reducible refine fin_r ?_ ?_ ?_) | (with_reducible exact SameB.rfl_ _ _) | (with_reducible refine SameB.upd ?_ ?_ _) | (with_reducible assumption) | (with_reducible refine newPM_of ?_) | (with_reducible refine newSM_of ?_) | (with_reducible refine newP_go ?_) | (with_reducible refine newS_go ?_) | (with_reducible intro _g _hg) | (with_reducible refine And.intro ?_ ?_) | (with_reducible intro _hc) | omega)
    exact each_on hY hr hs1 w1 w2 w3 w4 w5 w6 w7 hI hB.1 hB.2 fun n'' H'' x' hI' => hX (q - 1) _ (by omega) ⟨K, d + 1, n'', H'', x', g, t, F', by omega, rfl, hI'⟩
  · have hA : d = fiF r.unit s (K + 1) ∨ d = 3652060 := by omega
    have hlc := lst_cand r s K hpd.2.1 hpd.2.2.2 hA
    have eK : ((K + 1 : Nat) : Int) = (K : Int) + 1 := by omega
    have hcond : ¬ (perC r.unit d y m = perF r.unit s + K) ∨ 3652059 < d := by
      rcases Int.lt_or_le 3652059 d with h | h
      · exact .inr h
      · left
        obtain ⟨e1, e2⟩ := hym h
        rw [e1, e2, per_c hpd.2.2.1]
        intro hc
        have := ((per_iff (u := r.unit) K hs1.1 hpd.2.2.1).1 hc).2
        omega
    have hpn : d ≤ 3652059 → perC r.unit d y m = perF r.unit s + ((K + 1 : Nat) : Int) := fun h => by
      obtain ⟨e1, e2⟩ := hym h
      rw [e1, e2, per_c hpd.2.2.1, eK]
      refine (per_iff (u := r.unit) (K + 1) hs1.1 hpd.2.2.1).2 ⟨by omega, ?_⟩
      have := fi_step r.unit s ((K : Int) + 1)
      omega
    generalize perC r.unit d y m = p' at *
    have lt : ∀ {g T cs}, H' g = some (.cells T cs) → g < n' := fun h => upd_cells hI.sup h
    have nF : ∀ {g T cs}, H' g = some (.cells T cs) → (g = gs ∨ g = gr ∨ g = gy ∨ g = gd ∨ g = gl ∨ g = gg ∨ g = gw) → ¬ F' g := fun _ ho hF => by
      have := hI.fb _ hF; omega
    have hgv := give_a hY (lstF r s K d) r hr s (lastF r s) g t F' n' H' gr gs gl gg gy hI.b2 hI.b1 hI.b5 hI.b6 hI.b3 v2 v1 v5 v3 (nF hI.b2 (by simp)) (nF hI.b1 (by simp)) (nF hI.b5 (by simp)) (nF hI.b6 (by simp)) (nF hI.b3 (by simp)) hI.j (by omega) (fun z hz => by have := lst_mem hz; omega) (by have := hI.g0; omega)
    have hgv2 := ACalls.sim hgv (simL_cons (hI.own.sim (simL_refl _)) (simL_refl [.ptr gr 0, .ptr gs 0, .ptr gl 0, .ptr gg 0, .ptr gy 0]))
    have hgle := giveF_le r.count s (lastF r s) nx (pickF r.picks (candF r s K)) g t
    have hpl : ((pickF r.picks (candF r s K)).length : Int) ≤ d - fiF r.unit s K := by
      have := (pick_sub r.picks (candF r s K)).length_le
      rw [hlc] at hll; omega
    rw [hlc] at hgv2
    rcases hgr : giveF r.count s (lastF r s) nx (pickF r.picks (candF r s K)) g t with ⟨g2, t2, bb⟩
    rw [hgr] at hgv2 hgle
    have hnext : giveF r.count s (lastF r s) nx (dF r s (K + 1)) 0 t0 = (g2, t2, bb) := by rw [dF_succ, giveF_app, hI.gv]; exact hgr
    have hrun := fun hh => each_run (nx := nx) (t := t0) (s := s) (K := K + 1) hr.ct.1 hh
    rw [hnext] at hrun
    repeat' (first | (simp -implicitDefEqProofs [c23_L5_go, c23_t4_go, -getElem?_pos, b2, b5, b7, hcg]) | (simp (disch := omega) only [upd_ne, Qy, if_pos, if_neg, IntWalk.i64_in, Int.tdiv_eq_ediv_of_nonneg, Int.tmod_eq_emod_of_nonneg]) | ((with_reducible refine CallP.chk (f := 67) ?_); (refine' CallP.sf ?_ (hper) ?_); (focus first | (with_reducible exact simL_refl _) | (simp [simL, simA, simA_refl, simL_refl]; done))) | (with_reducible refine fin_r ?_ ?_ ?_) | (with_reducible exact SameB.rfl_ _ _) | (with_reducible refine SameB.upd ?_ ?_ _) | (with_reducible assumption) | (with_reducible refine newPM_of ?_) | (with_reducible refine newSM_of ?_) | (with_reducible refine newP_go ?_) | (with_reducible refine newS_go ?_) | (with_reducible intro _g _hg) | (with_reducible refine And.intro ?_ ?_) | (with_reducible intro _hc) | omega)
    refine ⟨_, hgv2, ?_⟩
    rintro rr n2 H2 hn2 hs2 ⟨rfl, F2, hJ2, hg2, hF2, hfr2⟩
    replace hn2 : n' ≤ n2 := hn2
    have hle := hI.le
    have kp : ∀ {g T cs}, H' g = some (.cells T cs) → (g = gs ∨ g = gr ∨ g = gy ∨ g = gd ∨ g = gl ∨ g = gg ∨ g = gw) → g ≠ gg → H2 g = some (.cells T cs) := fun h ho hne => by rw [hfr2 _ (lt h) (nF h ho) hne]; exact h
    have hFF : ∀ k, F2 k → F k ∨ n ≤ k := fun k hk => by
      rcases hF2 k hk with h | h
      · exact hI.fF k h
      · exact .inr (by omega)
    have hfr : ∀ k, k < n → ¬ F k → H2 k = H k := fun k hk hn => by
      rw [hfr2 k (by omega) (fun h => by rcases hI.fF k h with h | h; exact hn h; omega) (by omega)]
      exact hI.fr k hk hn
    have hn02 : n ≤ n2 := by omega
    have b7' : H2 gw = _ := kp b7 (by simp) (Ne.symm w6)
    have b5' : H2 gl = _ := kp hI.b5 (by simp) v5
    have b2' : H2 gr = _ := kp hI.b2 (by simp) v2
    simp only at hJ2 hg2
    cases bb
    · have ht := hrun (fun h => by cases h)
      simp only at ht
      rw [ht] at hJ2
      repeat' (first | (simp -implicitDefEqProofs [c23_t4_go, c23_k3_go, -getElem?_pos, b7', b5']) | (simp (disch := omega) only [upd_ne, Qy, if_pos, if_neg, IntWalk.i64_in, Int.tdiv_eq_ediv_of_nonneg, Int.tmod_eq_emod_of_nonneg]) | (with_reducible refine fin_r ?_ ?_ ?_) | (with_reducible exact SameB.rfl_ _ _) | (with_reducible refine SameB.upd ?_ ?_ _) | (with_reducible assumption) | (with_reducible refine newPM_of ?_) | (with_reducible refine newSM_of ?_) | (with_reducible refine newP_go ?_) | (with_reducible refine newS_go ?_) | (with_reducible intro _g _hg) | (with_reducible refine And.intro ?_ ?_) | (with_reducible intro _hc) | omega)
      all_goals exact hQL _ (fin_ret rfl hn02 hs2 (hR n2 H2 F2 hn02 hJ2 hFF hfr))
    · by_cases hlast : lastF r s < d
      · have ht := hrun (fun _ => by rw [eK]; omega)
        simp only at ht
        rw [ht] at hJ2
        repeat' (first | (simp -implicitDefEqProofs [c23_t4_go, c23_k3_go, -getElem?_pos, b7', b5', hlast]) | (simp (disch := omega) only [upd_ne, Qy, if_pos, if_neg, IntWalk.i64_in, Int.tdiv_eq_ediv_of_nonneg, Int.tmod_eq_emod_of_nonneg]) | (with_reducible refine fin_r ?_ ?_ ?_) | (with_reducible exact SameB.rfl_ _ _) | (with_reducible refine SameB.upd ?_ ?_ _) | (with_reducible assumption) | (with_reducible refine newPM_of ?_) | (with_reducible refine newSM_of ?_) | (with_reducible refine newP_go ?_) | (with_reducible refine newS_go ?_) | (with_reducible intro _g _hg) | (with_reducible refine And.intro ?_ ?_) | (with_reducible intro _hc) | omega)
        all_goals exact hQL _ (fin_ret rfl hn02 hs2 (hR n2 H2 F2 hn02 hJ2 hFF hfr))
      · have hd2 : d ≤ 3652059 := by omega
        have hdK : d = fiF r.unit s (K + 1) := by omega
        have hpe := hpn hd2
        have hst := fi_step r.unit s ((K : Int) + 1)
        have hI' : RInv fy cap J nx s r t0 F n H gs gr gy gd gl gg gw (K + 1) d n2 H2 (.sl 0 [] .nil) g2 t2 F2 := by
          refine ⟨hn02, hs2, kp hI.b1 (by simp) v1, b2', kp hI.b3 (by simp) v3, kp hI.b4 (by simp) v4, b5', hg2, by rw [ew]; exact b7', ?_, hJ2, hFF, fun k hk => ?_, fun k hk => ?_, hfr, hnext, ?_, ?_⟩
          · rw [lst_zero r s (K + 1) (by rw [eK]; omega)]; exact .inl ⟨rfl, 0, rfl⟩
          · have h1 := lt hI.b1
            have h2 := lt hI.b2
            have h3 := lt hI.b3
            have h4 := lt hI.b4
            have h5 := lt hI.b5
            have h6 := lt hI.b6
            have h7 := lt b7
            rcases hF2 k hk with h | h
            · exact hI.fb k h
            · omega
          · intro sz l e; injection e with _ _ e; cases e
          · have := hI.g0
            simp only at hgle
            rw [eK]; omega
          · rw [eK]; omega
        subst hpe
        repeat' (first | (simp -implicitDefEqProofs [c23_t4_go, c23_k3_go, -getElem?_pos, b7', b5', hlast]) | (simp (disch := omega) only [upd_ne, Qy, if_pos, if_neg, IntWalk.i64_in, Int.tdiv_eq_ediv_of_nonneg, Int.tmod_eq_emod_of_nonneg]) | (with_reducible refine fin_r ?_ ?_ ?_) | (with_reducible exact SameB.rfl_ _ _) | (with_reducible refine SameB.upd ?_ ?_ _) | (with_reducible assumption) | (with_reducible refine newPM_of ?_) | (with_reducible refine newSM_of ?_) | (with_reducible refine newP_go ?_) | (with_reducible refine newS_go ?_) | (with_reducible intro _g _hg) | (with_reducible refine And.intro ?_ ?_) | (with_reducible intro _hc) | omega)
        all_goals exact each_on hY hr hs1 w1 w2 w3 w4 w5 w6 w7 hI' (by rw [eK]; omega) hd2 fun n'' H'' x' hI'' => hX (q - 1) _ (by omega) ⟨K + 1, d + 1, n'', H'', x', g2, t2, F2, by omega, rfl, hI''⟩
end
end Go.Proofs.YtecpfmhminkalaaGreatDoor
namespace Go.Proofs.YtecpfmhminkalaaGreatDoor
attribute [local simp] YL Z7 Z9 YM YN YO YP Z8 Z3 Z5 Z4 YQ YR YS YT YU YV YW YX YY YZ Ya Yb Yc Yd scV pe Ye Yf Yg Yh Yi Yj Yk Yl Ym Yn Yo spg_mv Yp Yq Yr Ys Yt Yu Yv Yw Yx Yy Yz X0 X1 X2 X3 X4 X5 X6 X7 X8 X9 spg_mm XA YD XB XC XD XE XF XG XH XI XJ XK XL XM XN XO XP XQ XR XS XT XU XV XW XX XY XZ YC Xa Xb Xc Xd Xe Xf Xg Xh Xi Xj Xk Xl Xm Xn Xo Xp Xq Xr Xs Xt Xu Xv Xw Xx List.mem_cons ZO ZN Z1 YG Zu Xy Zi Zr Zn Zp Zq Zo Zv Zw Zm Xz Q0 Zl Q1 Q2 Q4 Q5 Q6 Q7 Zs Q8 Q9 QA QB QC QD Zt Zh Zx Y1 Y2 QE QF Y3 QG Zj QH Zk Zg QI Zy Zz QJ QK QM QN QO QP QR QS Zd ZK ZI Zc Zf ZH ZM YB Z0 QT ZV ZL Ze ZC ZZ ZA Y5 ZJ Y8 Y9 Zb ZY ZU ZX Za ZT ZD ev get put Y4 ZS QU QV QW QX QY QZ ZE part ZW Qb Qc Qd isNil ZR ZQ ZB ZP YE Qe Qf Qg Qh Qi Qj Qk Ql Qm Qn Qo Qp Qq Qr Qs Qt AV.fits AV.cells ones AV.one YH YI YJ YK ZF ZG Qu Qv Qw Qx Y6 Y7 resV Z2 Qy YA u8e YF Qz V0 List.getElem?_cons_zero List.getElem?_cons_succ
section
variable {S : Type}
set_option maxHeartbeats 8000000 in
theorem each_a {fy : Nat} {cap : List AV} {J : S → (Nat → Prop) → AHeap → Prop} {nx : Int → S → S × Bool} (hY : Yld fy cap J nx) (s : Int) (r : Rule) (hr : okR r) (hs1 : 1 ≤ s ∧ s ≤ 3652059) (t0 : S) (F : Nat → Prop) (n : Nat) (H : AHeap) (hJ : J t0 F H) :
    ACalls Tryz.prog 23 [aI s, aR r, .fn fy [] cap] n H fun rr n' H' => rr = .tup [] ∧ ∃ F' : Nat → Prop, J (runF nx (cutF r (allF r s)) t0) F' H' ∧ (∀ k, F' k → F k ∨ n ≤ k) ∧ ∀ k, k < n → ¬ F k → H' k = H k := by
  have hdo := dayOf_a s hs1
  obtain ⟨s1, s2, s3, s4, s5, s6⟩ := date_b hs1.1 hs1.2
  have hper := fun u => period_a s (dateM s).y (dateM s).m (dateM s).d (leftF s) (wdF s) u (by omega)
  simp only [per_c hs1.1] at hper
  have hfst := first_a s r.unit hs1
  have hfz := fi_zero (u := r.unit) hs1.1
  have hwk := walk_a (fiF r.unit s 0) (by omega)
  have hlb := last_b r s hr hs1
  have hut := hr.ut
  refine acalls_intro Tryz.func23 cmp23 rfl fun hs => ?_
  by_cases hun : 0 < r.untl
  · have el : lastF r s = min (min (s + 20000) 3652059) r.untl := by unfold lastF; rw [if_pos hun]
    rw [el] at hlb
    repeat' (first | (simp -implicitDefEqProofs [c23_k1_go, c23_k2_go, c23_k3_go, c23_t4_go, c23_L5_go, c23_k6_go, c23, -getElem?_pos, splice, hun]) | (simp (disch := omega) only [upd_ne, Qy, if_pos, if_neg, IntWalk.i64_in, Int.tdiv_eq_ediv_of_nonneg, Int.tmod_eq_emod_of_nonneg]) | ((with_reducible refine CallP.chk (f := 64) ?_); (refine' CallP.sf ?_ (hdo) ?_); (focus first | (with_reducible exact simL_refl _) | (simp [simL, simA, simA_refl, simL_refl]; done))) | ((with_reducible refine CallP.chk (f := 67) ?_); (refine' CallP.sf ?_ (hper r.unit) ?_); (focus first | (with_reducible exact simL_refl _) | (simp [simL, simA, simA_refl, simL_refl]; done))) | ((with_reducible refine CallP.chk (f := 69) ?_); (refine' CallP.sf ?_ (hfst) ?_); (focus first | (with_reducible exact simL_refl _) | (simp [simL, simA, simA_refl, simL_refl]; done))) | (with_reducible refine fin_r ?_ ?_ ?_) | (with_reducible exact SameB.rfl_ _ _) | (with_reducible refine SameB.upd ?_ ?_ _) | (with_reducible assumption) | (with_reducible refine newPM_of ?_) | (with_reducible refine newSM_of ?_) | (with_reducible refine newP_go ?_) | (with_reducible refine newS_go ?_) | (with_reducible intro _g _hg) | (with_reducible refine And.intro ?_ ?_) | (with_reducible intro _hc) | omega)
    refine ⟨_, hwk _ _, ?_⟩
    rintro rr n2 H2 hn2 hs2 ⟨gw, hgw, rfl, rfl, rfl⟩
    rename_i gs hgs gr hgr gy hgy gd hgd gl hgl
    simp only at hgw
    have hnl : ∀ k, F k → k < n := fun k hF => by
      rcases Nat.lt_or_ge k n with h | h
      · exact h
      · exact absurd (hs k h) (hY.liv hJ hF)
    repeat' (first | (simp -implicitDefEqProofs [c23, -getElem?_pos, splice]) | (simp (disch := omega) only [upd_ne, Qy, if_pos, if_neg, IntWalk.i64_in, Int.tdiv_eq_ediv_of_nonneg, Int.tmod_eq_emod_of_nonneg]) | (with_reducible refine fin_r ?_ ?_ ?_) | (with_reducible exact SameB.rfl_ _ _) | (with_reducible refine SameB.upd ?_ ?_ _) | (with_reducible assumption) | (with_reducible refine newPM_of ?_) | (with_reducible refine newSM_of ?_) | (with_reducible refine newP_go ?_) | (with_reducible refine newS_go ?_) | (with_reducible intro _g _hg) | (with_reducible refine And.intro ?_ ?_) | (with_reducible intro _hc) | omega)
    refine each_loop (gs := gs) (gr := gr) (gy := gy) (gd := gd) (gl := gl) (gg := _g) (gw := gw) (n := n) (H := H) (F := F) (t0 := t0) (R := fun rr n' H' => rr = .tup [] ∧ ∃ F' : Nat → Prop, J (runF nx (cutF r (allF r s)) t0) F' H' ∧ (∀ k, F' k → F k ∨ n ≤ k) ∧ ∀ k, k < n → ¬ F k → H' k = H k) hY hr hs1 (by omega) (by omega) (by omega) (by omega) (by omega) (by omega) (by omega) (by omega) (by omega) (by omega) (by omega) (by omega) (by omega)
      (fun n' H' F' _ h1 h2 h3 => ⟨rfl, F', h1, h2, h3⟩) (fun st h => h) ?_
    refine ⟨by omega, hs2, ?_, ?_, ?_, ?_, ?_, ?_, ?_, ?_, ?_, fun k hk => .inl hk, fun k hk => ?_, fun k hk => ?_, fun k hk _ => ?_, rfl, (show (0 : Int) ≤ 0 ∧ 0 ≤ fiF r.unit s 0 from ⟨Int.le_refl _, by omega⟩), ?_⟩
    · simp (disch := omega) only [upd_ne, Qy]
    · simp (disch := omega) only [upd_ne, Qy]
    · simp (disch := omega) only [upd_ne, Qy]
    · simp (disch := omega) only [upd_ne, Qy]
    · rw [el]; simp (disch := omega) only [upd_ne, Qy]; try rw [Int.min_assoc]
    · simp (disch := omega) only [upd_ne, Qy]
    · simp (disch := omega) only [upd_ne, Qy]
      unfold wkD; rw [if_pos (by omega)]
    · rw [lst_zero r s 0 (d := fiF r.unit s 0) (Int.le_refl _)]; exact .inl ⟨rfl, 0, rfl⟩
    · refine hY.loc hJ fun k hF => ?_
      have := hnl k hF
      simp (disch := omega) only [upd_ne]
    · have := hnl k hk
      omega
    · intro sz l e; injection e with _ _ e; cases e
    · simp (disch := omega) only [upd_ne]
    · have := fi_step r.unit s 0
      exact ⟨Int.le_refl _, by simpa using Int.le_of_lt this, by omega, by omega⟩
  · have el : lastF r s = min (s + 20000) 3652059 := by unfold lastF; rw [if_neg hun]
    rw [el] at hlb
    repeat' (first | (simp -implicitDefEqProofs [c23_k1_go, c23_k2_go, c23_k3_go, c23_t4_go, c23_L5_go, c23_k6_go, c23, -getElem?_pos, splice, hun]) | (simp (disch := omega) only [upd_ne, Qy, if_pos, if_neg, IntWalk.i64_in, Int.tdiv_eq_ediv_of_nonneg, Int.tmod_eq_emod_of_nonneg]) | ((with_reducible refine CallP.chk (f := 64) ?_); (refine' CallP.sf ?_ (hdo) ?_); (focus first | (with_reducible exact simL_refl _) | (simp [simL, simA, simA_refl, simL_refl]; done))) | ((with_reducible refine CallP.chk (f := 67) ?_); (refine' CallP.sf ?_ (hper r.unit) ?_); (focus first | (with_reducible exact simL_refl _) | (simp [simL, simA, simA_refl, simL_refl]; done))) | ((with_reducible refine CallP.chk (f := 69) ?_); (refine' CallP.sf ?_ (hfst) ?_); (focus first | (with_reducible exact simL_refl _) | (simp [simL, simA, simA_refl, simL_refl]; done))) | (with_reducible refine fin_r ?_ ?_ ?_) | (with_reducible exact SameB.rfl_ _ _) | (with_reducible refine SameB.upd ?_ ?_ _) | (with_reducible assumption) | (with_reducible refine newPM_of ?_) | (with_reducible refine newSM_of ?_) | (with_reducible refine newP_go ?_) | (with_reducible refine newS_go ?_) | (with_reducible intro _g _hg) | (with_reducible refine And.intro ?_ ?_) | (with_reducible intro _hc) | omega)
    refine ⟨_, hwk _ _, ?_⟩
    rintro rr n2 H2 hn2 hs2 ⟨gw, hgw, rfl, rfl, rfl⟩
    rename_i gs hgs gr hgr gy hgy gd hgd gl hgl
    simp only at hgw
    have hnl : ∀ k, F k → k < n := fun k hF => by
      rcases Nat.lt_or_ge k n with h | h
      · exact h
      · exact absurd (hs k h) (hY.liv hJ hF)
    repeat' (first | (simp -implicitDefEqProofs [c23, -getElem?_pos, splice]) | (simp (disch := omega) only [upd_ne, Qy, if_pos, if_neg, IntWalk.i64_in, Int.tdiv_eq_ediv_of_nonneg, Int.tmod_eq_emod_of_nonneg]) | (with_reducible refine fin_r ?_ ?_ ?_) | (with_reducible exact SameB.rfl_ _ _) | (with_reducible refine SameB.upd ?_ ?_ _) | (with_reducible assumption) | (with_reducible refine newPM_of ?_) | (with_reducible refine newSM_of ?_) | (with_reducible refine newP_go ?_) | (with_reducible refine newS_go ?_) | (with_reducible intro _g _hg) | (with_reducible refine And.intro ?_ ?_) | (with_reducible intro _hc) | omega)
    refine each_loop (gs := gs) (gr := gr) (gy := gy) (gd := gd) (gl := gl) (gg := _g) (gw := gw) (n := n) (H := H) (F := F) (t0 := t0) (R := fun rr n' H' => rr = .tup [] ∧ ∃ F' : Nat → Prop, J (runF nx (cutF r (allF r s)) t0) F' H' ∧ (∀ k, F' k → F k ∨ n ≤ k) ∧ ∀ k, k < n → ¬ F k → H' k = H k) hY hr hs1 (by omega) (by omega) (by omega) (by omega) (by omega) (by omega) (by omega) (by omega) (by omega) (by omega) (by omega) (by omega) (by omega)
      (fun n' H' F' _ h1 h2 h3 => ⟨rfl, F', h1, h2, h3⟩) (fun st h => h) ?_
    refine ⟨by omega, hs2, ?_, ?_, ?_, ?_, ?_, ?_, ?_, ?_, ?_, fun k hk => .inl hk, fun k hk => ?_, fun k hk => ?_, fun k hk _ => ?_, rfl, (show (0 : Int) ≤ 0 ∧ 0 ≤ fiF r.unit s 0 from ⟨Int.le_refl _, by omega⟩), ?_⟩
    · simp (disch := omega) only [upd_ne, Qy]
    · simp (disch := omega) only [upd_ne, Qy]
    · simp (disch := omega) only [upd_ne, Qy]
    · simp (disch := omega) only [upd_ne, Qy]
    · rw [el]; simp (disch := omega) only [upd_ne, Qy]; try rw [Int.min_assoc]
    · simp (disch := omega) only [upd_ne, Qy]
    · simp (disch := omega) only [upd_ne, Qy]
      unfold wkD; rw [if_pos (by omega)]
    · rw [lst_zero r s 0 (d := fiF r.unit s 0) (Int.le_refl _)]; exact .inl ⟨rfl, 0, rfl⟩
    · refine hY.loc hJ fun k hF => ?_
      have := hnl k hF
      simp (disch := omega) only [upd_ne]
    · have := hnl k hk
      omega
    · intro sz l e; injection e with _ _ e; cases e
    · simp (disch := omega) only [upd_ne]
    · have := fi_step r.unit s 0
      exact ⟨Int.le_refl _, by simpa using Int.le_of_lt this, by omega, by omega⟩
end
end Go.Proofs.YtecpfmhminkalaaGreatDoor

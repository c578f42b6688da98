/- The text of a rule as the reference writes it; no condition. -/
import Derived.Test.YtecpfmhminkalaaGreatDoorMrO
import Derived.Test.YtecpfmhminkalaaGreatDoorMrI
import Derived.Test.YtecpfmhminkalaaGreatDoorMrN
set_option linter.all false
set_option linter.unusedSimpArgs false
set_option linter.unusedVariables false
namespace Go.Proofs.YtecpfmhminkalaaGreatDoor
/-- texts, each one behind a blank -/
def spF (l : List Str) : Str := l.flatMap fun x => 32 :: x
theorem join_sp (x : Str) (l : List Str) : Lib.join (x :: l) [32] = x ++ spF l := by
  rw [Lib.join_cons]
  have e : Lib.joinTail [32] l = spF l := by
    induction l with
    | nil => rfl
    | cons y l ih => simp only [Lib.joinTail, spF, List.map_cons, List.flatten_cons, List.flatMap_cons] at ih ⊢; rw [ih]; rfl
  rw [e]
theorem spF_app (a b : List Str) : spF (a ++ b) = spF a ++ spF b := by simp [spF]
theorem sp_words (word : Str) (l : List Str) : spF (wordsL word l) = if l = [] then [] else 32 :: (word ++ 32 :: Lib.join l [44]) := by
  unfold wordsL
  split
  · rfl
  · simp [spF]
theorem sp_nums (word : Str) (l : List Int) : spF (wordsL word (l.map Lib.itoa)) = numsT word l := by
  rw [sp_words]; unfold numsT; simp
theorem sp_numT (word : Str) (n : Int) : spF (numT word n) = if n = 0 then [] else 32 :: (word ++ 32 :: Lib.itoa n) := by
  unfold numT
  split
  · rfl
  · simp [spF]
theorem text_eq (r : Rule) : Lib.join (printW r) [32] = wEvery ++ 32 :: (Lib.itoa r.step ++ 32 :: (unitL.getD (r.unit - 1).toNat [] ++ (numsT wMonths r.months ++ (numsT wDays r.mdays ++ ((if r.wdays.map wdT = [] then [] else 32 :: (wOn ++ 32 :: Lib.join (r.wdays.map wdT) [44])) ++ (numsT wPicks r.picks ++ ((if r.count = 0 then [] else 32 :: (wCount ++ 32 :: Lib.itoa r.count)) ++ (if r.untl = 0 then [] else 32 :: (wUntil ++ 32 :: Lib.itoa r.untl))))))))) := by
  have e : printW r = wEvery :: ([Lib.itoa r.step, unitL.getD (r.unit - 1).toNat []] ++ (wordsL wMonths (r.months.map Lib.itoa) ++ (wordsL wDays (r.mdays.map Lib.itoa) ++ (wordsL wOn (r.wdays.map wdT) ++ (wordsL wPicks (r.picks.map Lib.itoa) ++ (numT wCount r.count ++ numT wUntil r.untl)))))) := by
    simp [printW, headW]
  rw [e, join_sp]
  simp only [spF_app, sp_nums, sp_words wOn, sp_numT]
  simp [spF]
theorem numsT_len {word : Str} {l : List Int} (hw : word.length ≤ 10) (hl : l.length ≤ 12) (hv : ∀ x ∈ l, -1000 ≤ x ∧ x ≤ 1000) : (numsT word l).length ≤ 100 := by
  have h5 : ∀ x ∈ l.map Lib.itoa, x.length ≤ 5 := by
    intro x hx
    obtain ⟨y, hy, rfl⟩ := List.mem_map.1 hx
    exact itoa_le5 (hv y hy)
  have := join_len (c := 44) h5 (by simpa using hl)
  unfold numsT
  split
  · simp
  · simp only [List.length_cons, List.length_append]; omega
/-- the days of the week, one behind the other, as far as they are written -/
def onT (l : List (Int × Int)) : Str := if l = [] then [] else 32 :: (wOn ++ 32 :: Lib.join (l.map wdT) [44])
theorem onT_next {l : List (Int × Int)} {k : Nat} {w : Int × Int} (h : l[k]? = some w) : onT (l.take (k + 1)) = onT (l.take k) ++ ((if k = 0 then 32 :: (wOn ++ [32]) else [44]) ++ wdT w) := by
  have h' : (l.map wdT)[k]? = some (wdT w) := by rw [List.getElem?_map, h]; rfl
  have e := join_take [44] (l.map wdT) k _ h'
  have hne : l.take (k + 1) ≠ [] := by rw [take_at h]; simp
  unfold onT
  rw [if_neg hne, List.map_take, e]
  by_cases hk : k = 0
  · subst hk
    simp [Lib.join]
  · have hne2 : l.take k ≠ [] := by
      intro e
      have : l.length = 0 ∨ k = 0 := by
        have := congrArg List.length e
        simp at this
        rcases this with h | h
        · exact .inr h
        · exact .inl (by simp [h])
      rcases this with h0 | h0
      · have : l = [] := List.length_eq_zero_iff.1 h0
        rw [this] at h; simp at h
      · exact hk h0
    rw [if_neg hne2, if_neg hk, if_pos (by omega), List.map_take]
    simp
theorem onT_len {l : List (Int × Int)} (hl : l.length ≤ 12) (hv : ∀ w ∈ l, -5 ≤ w.2 ∧ w.2 ≤ 5) : (onT l).length ≤ 150 := by
  have h9 : ∀ x ∈ l.map wdT, x.length ≤ 9 := by
    intro x hx
    obtain ⟨w, hw, rfl⟩ := List.mem_map.1 hx
    have := hv w hw
    have h5 := itoa_le5 (n := w.2) (by omega)
    have h3 := day_len w.1.toNat
    unfold wdT
    split
    · omega
    · simp only [List.length_append, List.length_cons, List.length_nil]; omega
  have := join_len (c := 44) h9 (by simpa using hl)
  unfold onT
  split
  · simp
  · simp only [List.length_cons, List.length_append, List.length_nil]; omega
theorem unitR_eq {u : Int} (h : 1 ≤ u ∧ u ≤ 4) : unitR u = unitL.getD (u - 1).toNat [] := by
  rcases (by omega : u = 1 ∨ u = 2 ∨ u = 3 ∨ u = 4) with rfl | rfl | rfl | rfl <;> rfl
attribute [local simp] YL Z7 Z9 YM YN YO YP Z8 Z3 Z5 Z4 YQ YR YS YT YU YV YW YX YY YZ Ya Yb Yc Yd scV pe Ye Yf Yg Yh Yi Yj Yk Yl Ym Yn Yo spg_mv Yp Yq Yr Ys Yt Yu Yv Yw Yx Yy Yz X0 X1 X2 X3 X4 X5 X6 X7 X8 X9 spg_mm XA YD XB XC XD XE XF XG XH XI XJ XK XL XM XN XO XP XQ XR XS XT XU XV XW XX XY XZ YC Xa Xb Xc Xd Xe Xf Xg Xh Xi Xj Xk Xl Xm Xn Xo Xp Xq Xr Xs Xt Xu Xv Xw Xx List.mem_cons ZO ZN Z1 YG Zu Xy Zi Zr Zn Zp Zq Zo Zv Zw Zm Xz Q0 Zl Q1 Q2 Q4 Q5 Q6 Q7 Zs Q8 Q9 QA QB QC QD Zt Zh Zx Y1 Y2 QE QF Y3 QG Zj QH Zk Zg QI Zy Zz QJ QK QM QN QO QP QR QS Zd ZK ZI Zc Zf ZH ZM YB Z0 QT ZV ZL Ze ZC ZZ ZA Y5 ZJ Y8 Y9 Zb ZY ZU ZX Za ZT ZD ev get put Y4 ZS QU QV QW QX QY QZ ZE part ZW Qb Qc Qd isNil ZR ZQ ZB ZP YE Qe Qf Qg Qh Qi Qj Qk Ql Qm Qn Qo Qp Qq Qr Qs Qt AV.fits AV.cells ones AV.one YH YI YJ YK ZF ZG Qu Qv Qw Qx Y6 Y7 resV Z2 Qy YA u8e YF Qz V0 List.getElem?_cons_zero List.getElem?_cons_succ
set_option maxHeartbeats 8000000 in
theorem ruleText_a (r : Rule) (h : (ruleF r).1 = 0) : APure Tryz.prog 19 [aR r] (.str (Lib.join (printW r) [32])) := by
  obtain ⟨b1, b2, b3, b4, b5, b6, b7, b8, n1, n2, n3, n4⟩ := ruleF_more h
  obtain ⟨a1, a2, a3, a4⟩ := ruleF_all h
  have hm := numbers_a wMonths r.months (by decide) n1 (fun x hx => by have := a1 x hx; omega)
  have hd := numbers_a wDays r.mdays (by decide) n2 (fun x hx => by have := a2 x hx; omega)
  have hp := numbers_a wPicks r.picks (by decide) n4 (fun x hx => by have := a4 x hx; omega)
  have lm := numsT_len (word := wMonths) (by decide) n1 (fun x hx => by have := a1 x hx; omega)
  have ld := numsT_len (word := wDays) (by decide) n2 (fun x hx => by have := a2 x hx; omega)
  have lp := numsT_len (word := wPicks) (by decide) n4 (fun x hx => by have := a4 x hx; omega)
  have hs := decimal_a r.step (by omega)
  have ls := itoa_le5 (n := r.step) (by omega)
  have hu := unit_a r.unit
  rw [unitR_eq ⟨b1, b2⟩] at hu
  have lu := unit_len (r.unit - 1).toNat
  have hct := decimal_a r.count (by omega)
  have lct := itoa_le9 (n := r.count) (by omega)
  have hut := decimal_a r.untl (by omega)
  have lut := itoa_le9 (n := r.untl) (by omega)
  have hon : (if r.wdays.map wdT = [] then [] else 32 :: (wOn ++ 32 :: Lib.join (r.wdays.map wdT) [44])) = onT r.wdays := by unfold onT; simp
  have hol := fun k => onT_len (l := r.wdays.take k) (by simp; omega) (fun w hw => by have := a3 w (List.mem_of_mem_take hw); omega)
  rw [text_eq, hon]
  generalize numsT wMonths r.months = tm at *
  generalize numsT wDays r.mdays = td at *
  generalize numsT wPicks r.picks = tp at *
  generalize Lib.itoa r.step = ts at *
  generalize unitL.getD (r.unit - 1).toNat [] = tu at *
  generalize Lib.itoa r.count = tc at *
  generalize Lib.itoa r.untl = tt at *
  have eT : ∀ X : Str, wEvery ++ 32 :: (ts ++ 32 :: (tu ++ (tm ++ (td ++ X)))) = (101 :: 118 :: 101 :: 114 :: 121 :: 32 :: (ts ++ 32 :: (tu ++ (tm ++ td)))) ++ X := by intro X; simp
  rw [eT]
  obtain ⟨A, hA⟩ : ∃ A : Str, A = 101 :: 118 :: 101 :: 114 :: 121 :: 32 :: (ts ++ 32 :: (tu ++ (tm ++ td))) := ⟨_, rfl⟩
  have lA : A.length ≤ 250 := by rw [hA]; simp only [List.length_cons, List.length_append]; omega
  rw [← hA]
  have hoA := hol r.wdays.length
  rw [List.take_length] at hoA
  refine apure_intro Tryz.func19 cmp19 rfl fun n H hH => ?_
  repeat' (first | (simp -implicitDefEqProofs [c19, -getElem?_pos, simA_refl, splice]) | (simp (disch := omega) only [upd_ne, Qy, if_pos, if_neg, IntWalk.i64_in, Int.tdiv_eq_ediv_of_nonneg, Int.tmod_eq_emod_of_nonneg]) | ((with_reducible refine CallP.chk (f := 57) ?_); (refine' CallP.sf ?_ (hs) ?_); (focus first | (with_reducible exact simL_refl _) | (simp [simL, simA, simA_refl, simL_refl]; done))) | ((with_reducible refine CallP.chk (f := 58) ?_); (refine' CallP.sf ?_ (hu) ?_); (focus first | (with_reducible exact simL_refl _) | (simp [simL, simA, simA_refl, simL_refl]; done))) | ((with_reducible refine CallP.chk (f := 59) ?_); (refine' CallP.sf ?_ (hm) ?_); (focus first | (with_reducible exact simL_refl _) | (simp [simL, simA, simA_refl, simL_refl]; done))) | ((with_reducible refine CallP.chk (f := 59) ?_); (refine' CallP.sf ?_ (hd) ?_); (focus first | (with_reducible exact simL_refl _) | (simp [simL, simA, simA_refl, simL_refl]; done))) | (with_reducible refine fin_r ?_ ?_ ?_) | (with_reducible exact SameB.rfl_ _ _) | (with_reducible refine SameB.upd ?_ ?_ _) | (with_reducible assumption) | (with_reducible refine newPM_of ?_) | (with_reducible refine newP_go ?_) | (with_reducible intro _g _hg) | (with_reducible refine And.intro ?_ ?_) | (with_reducible intro _hc) | omega)
  rw [← hA]
  refine LoopK.go (fun q st => ∃ (k : Nat), k + q = r.wdays.length ∧ st = ⟨[(1, .ptr _g 0), (3, .str (A ++ onT (r.wdays.take k))), (4, aI k)], _g + 1, upd H _g (some (.cells 25 (aRc r)))⟩) r.wdays.length ⟨0, by omega, by simp [onT]⟩ ?_
  rintro q st ⟨k, hkq, rfl⟩ J hJ
  by_cases hk : k < r.wdays.length
  · obtain ⟨w, hw⟩ : ∃ w, r.wdays[k]? = some w := ⟨_, List.getElem?_eq_getElem hk⟩
    have hw2 : (r.wdays.map aWd)[k]? = some (aWd w) := by rw [List.getElem?_map, hw]; rfl
    have ha3 := a3 w (List.mem_of_getElem? hw)
    have hnx : A ++ onT (r.wdays.take (k + 1)) = (A ++ onT (r.wdays.take k)) ++ ((if k = 0 then 32 :: (wOn ++ [32]) else [44]) ++ wdT w) := by rw [onT_next hw]; simp
    have hlB : (A ++ onT (r.wdays.take k)).length ≤ 400 := by have := hol k; rw [List.length_append]; omega
    have hdw := decimal_a w.2 (by omega)
    have ldw := itoa_le5 (n := w.2) (by omega)
    obtain ⟨wd, wn⟩ := w
    obtain ⟨dn, rfl⟩ : ∃ dn : Nat, wd = dn := ⟨wd.toNat, by omega⟩
    have hcut := dayS_at ⟨dn, by simp only at ha3; omega⟩
    have hdl := day_len dn
    unfold wdT at hnx
    simp only [Int.toNat_natCast] at hcut hdl hnx ha3 hdw ldw
    have hcutI : List.drop (4 * (dn : Int)).toNat (List.take (4 * (dn : Int) + 3).toNat dayS) = dayL.getD dn [] := by
      have e1 : (4 * (dn : Int)).toNat = 4 * dn := by omega
      have e2 : (4 * (dn : Int) + 3).toNat = 4 * dn + 3 := by omega
      rw [e1, e2]; exact hcut
    have hne : ¬ r.wdays = [] := fun e => by rw [e] at hk; simp at hk
    generalize dayL.getD dn [] = nm at *
    generalize Lib.itoa wn = tw at *
    generalize A ++ onT (r.wdays.take k) = B at *
    by_cases h0 : k = 0
    · subst h0
      rw [if_pos rfl] at hnx
      by_cases hm0 : wn = 0
      · rw [if_pos hm0] at hnx
        repeat' (first | (simp -implicitDefEqProofs [c19_k1_go, c19_k2_go, c19_k3_go, c19_k4_go, c19_k5_go, c19_k6_go, c19_L7_go, c19, -getElem?_pos, simA_refl, hw, hw2, hm0, hne, splice]) | (simp (disch := omega) only [upd_ne, Qy, if_pos, if_neg, IntWalk.i64_in, Int.tdiv_eq_ediv_of_nonneg, Int.tmod_eq_emod_of_nonneg]) | ((with_reducible refine CallP.chk (f := 57) ?_); (refine' CallP.sf ?_ (hdw) ?_); (focus first | (with_reducible exact simL_refl _) | (simp [simL, simA, simA_refl, simL_refl]; done))) | (with_reducible refine fin_r ?_ ?_ ?_) | (with_reducible exact SameB.rfl_ _ _) | (with_reducible refine SameB.upd ?_ ?_ _) | (with_reducible assumption) | (with_reducible refine newPM_of ?_) | (with_reducible refine newP_go ?_) | (with_reducible intro _g _hg) | (with_reducible refine And.intro ?_ ?_) | (with_reducible intro _hc) | omega)
        exact hJ (q - 1) _ (by omega) ⟨1, by omega, by rw [hnx]; simp [hcutI]⟩
      · rw [if_neg hm0] at hnx
        repeat' (first | (simp -implicitDefEqProofs [c19_k1_go, c19_k2_go, c19_k3_go, c19_k4_go, c19_k5_go, c19_k6_go, c19_L7_go, c19, -getElem?_pos, simA_refl, hw, hw2, hm0, hne, splice]) | (simp (disch := omega) only [upd_ne, Qy, if_pos, if_neg, IntWalk.i64_in, Int.tdiv_eq_ediv_of_nonneg, Int.tmod_eq_emod_of_nonneg]) | ((with_reducible refine CallP.chk (f := 57) ?_); (refine' CallP.sf ?_ (hdw) ?_); (focus first | (with_reducible exact simL_refl _) | (simp [simL, simA, simA_refl, simL_refl]; done))) | (with_reducible refine fin_r ?_ ?_ ?_) | (with_reducible exact SameB.rfl_ _ _) | (with_reducible refine SameB.upd ?_ ?_ _) | (with_reducible assumption) | (with_reducible refine newPM_of ?_) | (with_reducible refine newP_go ?_) | (with_reducible intro _g _hg) | (with_reducible refine And.intro ?_ ?_) | (with_reducible intro _hc) | omega)
        exact hJ (q - 1) _ (by omega) ⟨1, by omega, by rw [hnx]; simp [hcutI]⟩
    · rw [if_neg h0] at hnx
      have h0' : ¬ (k : Int) = 0 := by omega
      by_cases hm0 : wn = 0
      · rw [if_pos hm0] at hnx
        repeat' (first | (simp -implicitDefEqProofs [c19_k1_go, c19_k2_go, c19_k3_go, c19_k4_go, c19_k5_go, c19_k6_go, c19_L7_go, c19, -getElem?_pos, simA_refl, hw, hw2, hm0, h0, h0', splice]) | (simp (disch := omega) only [upd_ne, Qy, if_pos, if_neg, IntWalk.i64_in, Int.tdiv_eq_ediv_of_nonneg, Int.tmod_eq_emod_of_nonneg]) | ((with_reducible refine CallP.chk (f := 57) ?_); (refine' CallP.sf ?_ (hdw) ?_); (focus first | (with_reducible exact simL_refl _) | (simp [simL, simA, simA_refl, simL_refl]; done))) | (with_reducible refine fin_r ?_ ?_ ?_) | (with_reducible exact SameB.rfl_ _ _) | (with_reducible refine SameB.upd ?_ ?_ _) | (with_reducible assumption) | (with_reducible refine newPM_of ?_) | (with_reducible refine newP_go ?_) | (with_reducible intro _g _hg) | (with_reducible refine And.intro ?_ ?_) | (with_reducible intro _hc) | omega)
        exact hJ (q - 1) _ (by omega) ⟨k + 1, by omega, by rw [hnx]; simp [hcutI]⟩
      · rw [if_neg hm0] at hnx
        repeat' (first | (simp -implicitDefEqProofs [c19_k1_go, c19_k2_go, c19_k3_go, c19_k4_go, c19_k5_go, c19_k6_go, c19_L7_go, c19, -getElem?_pos, simA_refl, hw, hw2, hm0, h0, h0', splice]) | (simp (disch := omega) only [upd_ne, Qy, if_pos, if_neg, IntWalk.i64_in, Int.tdiv_eq_ediv_of_nonneg, Int.tmod_eq_emod_of_nonneg]) | ((with_reducible refine CallP.chk (f := 57) ?_); (refine' CallP.sf ?_ (hdw) ?_); (focus first | (with_reducible exact simL_refl _) | (simp [simL, simA, simA_refl, simL_refl]; done))) | (with_reducible refine fin_r ?_ ?_ ?_) | (with_reducible exact SameB.rfl_ _ _) | (with_reducible refine SameB.upd ?_ ?_ _) | (with_reducible assumption) | (with_reducible refine newPM_of ?_) | (with_reducible refine newP_go ?_) | (with_reducible intro _g _hg) | (with_reducible refine And.intro ?_ ?_) | (with_reducible intro _hc) | omega)
        exact hJ (q - 1) _ (by omega) ⟨k + 1, by omega, by rw [hnx]; simp [hcutI]⟩
  · have hk0 : k = r.wdays.length := by omega
    subst hk0
    rw [List.take_length]
    generalize onT r.wdays = tow at *
    by_cases hc0 : r.count = 0
    · by_cases hu0 : r.untl = 0
      · rw [if_pos hc0, if_pos hu0]
        repeat' (first | (simp -implicitDefEqProofs [c19_k1_go, c19_k2_go, c19_k3_go, c19_k4_go, c19_k5_go, c19_k6_go, c19_L7_go, c19, -getElem?_pos, simA_refl, hc0, hu0, splice]) | (simp (disch := omega) only [upd_ne, Qy, if_pos, if_neg, IntWalk.i64_in, Int.tdiv_eq_ediv_of_nonneg, Int.tmod_eq_emod_of_nonneg]) | ((with_reducible refine CallP.chk (f := 57) ?_); (refine' CallP.sf ?_ (hct) ?_); (focus first | (with_reducible exact simL_refl _) | (simp [simL, simA, simA_refl, simL_refl]; done))) | ((with_reducible refine CallP.chk (f := 57) ?_); (refine' CallP.sf ?_ (hut) ?_); (focus first | (with_reducible exact simL_refl _) | (simp [simL, simA, simA_refl, simL_refl]; done))) | ((with_reducible refine CallP.chk (f := 59) ?_); (refine' CallP.sf ?_ (hp) ?_); (focus first | (with_reducible exact simL_refl _) | (simp [simL, simA, simA_refl, simL_refl]; done))) | (with_reducible refine fin_r ?_ ?_ ?_) | (with_reducible exact SameB.rfl_ _ _) | (with_reducible refine SameB.upd ?_ ?_ _) | (with_reducible assumption) | (with_reducible refine newPM_of ?_) | (with_reducible refine newP_go ?_) | (with_reducible intro _g _hg) | (with_reducible refine And.intro ?_ ?_) | (with_reducible intro _hc) | omega)
      · rw [if_pos hc0, if_neg hu0]
        repeat' (first | (simp -implicitDefEqProofs [c19_k1_go, c19_k2_go, c19_k3_go, c19_k4_go, c19_k5_go, c19_k6_go, c19_L7_go, c19, -getElem?_pos, simA_refl, hc0, hu0, splice]) | (simp (disch := omega) only [upd_ne, Qy, if_pos, if_neg, IntWalk.i64_in, Int.tdiv_eq_ediv_of_nonneg, Int.tmod_eq_emod_of_nonneg]) | ((with_reducible refine CallP.chk (f := 57) ?_); (refine' CallP.sf ?_ (hct) ?_); (focus first | (with_reducible exact simL_refl _) | (simp [simL, simA, simA_refl, simL_refl]; done))) | ((with_reducible refine CallP.chk (f := 57) ?_); (refine' CallP.sf ?_ (hut) ?_); (focus first | (with_reducible exact simL_refl _) | (simp [simL, simA, simA_refl, simL_refl]; done))) | ((with_reducible refine CallP.chk (f := 59) ?_); (refine' CallP.sf ?_ (hp) ?_); (focus first | (with_reducible exact simL_refl _) | (simp [simL, simA, simA_refl, simL_refl]; done))) | (with_reducible refine fin_r ?_ ?_ ?_) | (with_reducible exact SameB.rfl_ _ _) | (with_reducible refine SameB.upd ?_ ?_ _) | (with_reducible assumption) | (with_reducible refine newPM_of ?_) | (with_reducible refine newP_go ?_) | (with_reducible intro _g _hg) | (with_reducible refine And.intro ?_ ?_) | (with_reducible intro _hc) | omega)
    · by_cases hu0 : r.untl = 0
      · rw [if_neg hc0, if_pos hu0]
        repeat' (first | (simp -implicitDefEqProofs [c19_k1_go, c19_k2_go, c19_k3_go, c19_k4_go, c19_k5_go, c19_k6_go, c19_L7_go, c19, -getElem?_pos, simA_refl, hc0, hu0, splice]) | (simp (disch := omega) only [upd_ne, Qy, if_pos, if_neg, IntWalk.i64_in, Int.tdiv_eq_ediv_of_nonneg, Int.tmod_eq_emod_of_nonneg]) | ((with_reducible refine CallP.chk (f := 57) ?_); (refine' CallP.sf ?_ (hct) ?_); (focus first | (with_reducible exact simL_refl _) | (simp [simL, simA, simA_refl, simL_refl]; done))) | ((with_reducible refine CallP.chk (f := 57) ?_); (refine' CallP.sf ?_ (hut) ?_); (focus first | (with_reducible exact simL_refl _) | (simp [simL, simA, simA_refl, simL_refl]; done))) | ((with_reducible refine CallP.chk (f := 59) ?_); (refine' CallP.sf ?_ (hp) ?_); (focus first | (with_reducible exact simL_refl _) | (simp [simL, simA, simA_refl, simL_refl]; done))) | (with_reducible refine fin_r ?_ ?_ ?_) | (with_reducible exact SameB.rfl_ _ _) | (with_reducible refine SameB.upd ?_ ?_ _) | (with_reducible assumption) | (with_reducible refine newPM_of ?_) | (with_reducible refine newP_go ?_) | (with_reducible intro _g _hg) | (with_reducible refine And.intro ?_ ?_) | (with_reducible intro _hc) | omega)
      · rw [if_neg hc0, if_neg hu0]
        repeat' (first | (simp -implicitDefEqProofs [c19_k1_go, c19_k2_go, c19_k3_go, c19_k4_go, c19_k5_go, c19_k6_go, c19_L7_go, c19, -getElem?_pos, simA_refl, hc0, hu0, splice]) | (simp (disch := omega) only [upd_ne, Qy, if_pos, if_neg, IntWalk.i64_in, Int.tdiv_eq_ediv_of_nonneg, Int.tmod_eq_emod_of_nonneg]) | ((with_reducible refine CallP.chk (f := 57) ?_); (refine' CallP.sf ?_ (hct) ?_); (focus first | (with_reducible exact simL_refl _) | (simp [simL, simA, simA_refl, simL_refl]; done))) | ((with_reducible refine CallP.chk (f := 57) ?_); (refine' CallP.sf ?_ (hut) ?_); (focus first | (with_reducible exact simL_refl _) | (simp [simL, simA, simA_refl, simL_refl]; done))) | ((with_reducible refine CallP.chk (f := 59) ?_); (refine' CallP.sf ?_ (hp) ?_); (focus first | (with_reducible exact simL_refl _) | (simp [simL, simA, simA_refl, simL_refl]; done))) | (with_reducible refine fin_r ?_ ?_ ?_) | (with_reducible exact SameB.rfl_ _ _) | (with_reducible refine SameB.upd ?_ ?_ _) | (with_reducible assumption) | (with_reducible refine newPM_of ?_) | (with_reducible refine newP_go ?_) | (with_reducible intro _g _hg) | (with_reducible refine And.intro ?_ ?_) | (with_reducible intro _hc) | omega)
end Go.Proofs.YtecpfmhminkalaaGreatDoor
namespace Go.Proofs.YtecpfmhminkalaaGreatDoor
attribute [local simp] YL Z7 Z9 YM YN YO YP Z8 Z3 Z5 Z4 YQ YR YS YT YU YV YW YX YY YZ Ya Yb Yc Yd scV pe Ye Yf Yg Yh Yi Yj Yk Yl Ym Yn Yo spg_mv Yp Yq Yr Ys Yt Yu Yv Yw Yx Yy Yz X0 X1 X2 X3 X4 X5 X6 X7 X8 X9 spg_mm XA YD XB XC XD XE XF XG XH XI XJ XK XL XM XN XO XP XQ XR XS XT XU XV XW XX XY XZ YC Xa Xb Xc Xd Xe Xf Xg Xh Xi Xj Xk Xl Xm Xn Xo Xp Xq Xr Xs Xt Xu Xv Xw Xx List.mem_cons ZO ZN Z1 YG Zu Xy Zi Zr Zn Zp Zq Zo Zv Zw Zm Xz Q0 Zl Q1 Q2 Q4 Q5 Q6 Q7 Zs Q8 Q9 QA QB QC QD Zt Zh Zx Y1 Y2 QE QF Y3 QG Zj QH Zk Zg QI Zy Zz QJ QK QM QN QO QP QR QS Zd ZK ZI Zc Zf ZH ZM YB Z0 QT ZV ZL Ze ZC ZZ ZA Y5 ZJ Y8 Y9 Zb ZY ZU ZX Za ZT ZD ev get put Y4 ZS QU QV QW QX QY QZ ZE part ZW Qb Qc Qd isNil ZR ZQ ZB ZP YE Qe Qf Qg Qh Qi Qj Qk Ql Qm Qn Qo Qp Qq Qr Qs Qt AV.fits AV.cells ones AV.one YH YI YJ YK ZF ZG Qu Qv Qw Qx Y6 Y7 resV Z2 Qy YA u8e YF Qz V0 List.getElem?_cons_zero List.getElem?_cons_succ
set_option maxHeartbeats 4000000 in
theorem parse_t (s : Str) : APure Tryz.prog 18 [.str s] (.tup [aR (parseV s).1, aF (parseV s).2]) := by
  by_cases hlong : 500 < s.length
  · have e : parseV s = (zR, (3, -1)) := by unfold parseV; rw [if_pos hlong]
    rw [e]
    have h' : (500 : Int) < s.length := by omega
    refine apure_intro Tryz.func18 cmp18 rfl fun n H hH => ?_
    repeat' (first | (simp -implicitDefEqProofs [c18_k1_go, c18_k2_go, c18_k3_go, c18, -getElem?_pos, hlong, h', splice]) | (simp (disch := omega) only [upd_ne, Qy, if_pos, if_neg, IntWalk.i64_in, Int.tdiv_eq_ediv_of_nonneg, Int.tmod_eq_emod_of_nonneg]) | (with_reducible refine fin_r ?_ ?_ ?_) | (with_reducible exact SameB.rfl_ _ _) | (with_reducible refine SameB.upd ?_ ?_ _) | (with_reducible assumption) | (with_reducible refine newPM_of ?_) | (with_reducible refine newP_go ?_) | (with_reducible intro _g _hg) | (with_reducible refine And.intro ?_ ?_) | (with_reducible intro _hc) | omega)
    all_goals exact simA_tup (simL_cons zcells.agg (simL_refl _))
  have hsp := split_a s 32 (by omega)
  have hml := fun p => spl_mem_len 32 s p
  have hln := spl_len 32 s
  have hlong' : ¬ (500 : Int) < s.length := by omega
  have hV : parseV s = if (parseL (spl 32 s)).2 = false then (zR, (1, -1)) else if (ruleF (parseL (spl 32 s)).1).1 ≠ 0 then (zR, ruleF (parseL (spl 32 s)).1) else ((parseL (spl 32 s)).1, (0, 0)) := by unfold parseV; rw [if_neg hlong]
  generalize spl 32 s = L at *
  generalize parseV s = V at *
  have hpa := parse_a L (fun x hx => by have := hml x hx; omega) (by omega)
  obtain ⟨p1, p2⟩ := parseP_eq L
  rw [p1] at hpa
  generalize parseL L = p at *
  obtain ⟨r, ok⟩ := p
  dsimp only at *
  cases ok with
  | false =>
    rw [if_pos rfl] at hV
    subst hV
    generalize (parseP L).1 = r' at *
    refine apure_intro Tryz.func18 cmp18 rfl fun n H hH => ?_
    repeat' (first | (simp -implicitDefEqProofs [c18_k1_go, c18_k2_go, c18_k3_go, c18, -getElem?_pos, hlong, hlong', splice]) | (simp (disch := omega) only [upd_ne, Qy, if_pos, if_neg, IntWalk.i64_in, Int.tdiv_eq_ediv_of_nonneg, Int.tmod_eq_emod_of_nonneg]) | ((with_reducible refine CallP.chk (f := 56) ?_); (refine' CallP.sf ?_ (hsp) ?_); (focus first | (with_reducible exact simL_refl _) | (simp [simL, simA, simA_refl, simL_refl]; done))) | ((with_reducible refine CallP.chk (f := 55) ?_); (refine' CallP.sf ?_ (hpa) ?_); (focus first | (with_reducible exact simL_refl _) | (simp [simL, simA, simA_refl, simL_refl]; done))) | (with_reducible refine fin_r ?_ ?_ ?_) | (with_reducible exact SameB.rfl_ _ _) | (with_reducible refine SameB.upd ?_ ?_ _) | (with_reducible assumption) | (with_reducible refine newPM_of ?_) | (with_reducible refine newP_go ?_) | (with_reducible intro _g _hg) | (with_reducible refine And.intro ?_ ?_) | (with_reducible intro _hc) | omega)
    all_goals exact simA_tup (simL_cons zcells.agg (simL_refl _))
  | true =>
    rw [p2 rfl] at hpa
    have hva := validate_a r
    rw [if_neg (by simp)] at hV
    by_cases h0 : (ruleF r).1 = 0
    · rw [if_neg (by simpa using h0)] at hV
      subst hV
      generalize ruleF r = f at *
      refine apure_intro Tryz.func18 cmp18 rfl fun n H hH => ?_
      repeat' (first | (simp -implicitDefEqProofs [c18_k1_go, c18_k2_go, c18_k3_go, c18, -getElem?_pos, hlong, hlong', h0, splice]) | (simp (disch := omega) only [upd_ne, Qy, if_pos, if_neg, IntWalk.i64_in, Int.tdiv_eq_ediv_of_nonneg, Int.tmod_eq_emod_of_nonneg]) | ((with_reducible refine CallP.chk (f := 56) ?_); (refine' CallP.sf ?_ (hsp) ?_); (focus first | (with_reducible exact simL_refl _) | (simp [simL, simA, simA_refl, simL_refl]; done))) | ((with_reducible refine CallP.chk (f := 55) ?_); (refine' CallP.sf ?_ (hpa) ?_); (focus first | (with_reducible exact simL_refl _) | (simp [simL, simA, simA_refl, simL_refl]; done))) | ((with_reducible refine CallP.chk (f := 8) ?_); (refine' CallP.sf ?_ (hva) ?_); (focus first | (with_reducible exact simL_refl _) | (simp [simL, simA, simA_refl, simL_refl]; done))) | (with_reducible refine fin_r ?_ ?_ ?_) | (with_reducible exact SameB.rfl_ _ _) | (with_reducible refine SameB.upd ?_ ?_ _) | (with_reducible assumption) | (with_reducible refine newPM_of ?_) | (with_reducible refine newP_go ?_) | (with_reducible intro _g _hg) | (with_reducible refine And.intro ?_ ?_) | (with_reducible intro _hc) | omega)
      all_goals exact simA_refl _
    · rw [if_pos h0] at hV
      subst hV
      generalize ruleF r = f at *
      refine apure_intro Tryz.func18 cmp18 rfl fun n H hH => ?_
      repeat' (first | (simp -implicitDefEqProofs [c18_k1_go, c18_k2_go, c18_k3_go, c18, -getElem?_pos, hlong, hlong', h0, splice]) | (simp (disch := omega) only [upd_ne, Qy, if_pos, if_neg, IntWalk.i64_in, Int.tdiv_eq_ediv_of_nonneg, Int.tmod_eq_emod_of_nonneg]) | ((with_reducible refine CallP.chk (f := 56) ?_); (refine' CallP.sf ?_ (hsp) ?_); (focus first | (with_reducible exact simL_refl _) | (simp [simL, simA, simA_refl, simL_refl]; done))) | ((with_reducible refine CallP.chk (f := 55) ?_); (refine' CallP.sf ?_ (hpa) ?_); (focus first | (with_reducible exact simL_refl _) | (simp [simL, simA, simA_refl, simL_refl]; done))) | ((with_reducible refine CallP.chk (f := 8) ?_); (refine' CallP.sf ?_ (hva) ?_); (focus first | (with_reducible exact simL_refl _) | (simp [simL, simA, simA_refl, simL_refl]; done))) | (with_reducible refine fin_r ?_ ?_ ?_) | (with_reducible exact SameB.rfl_ _ _) | (with_reducible refine SameB.upd ?_ ?_ _) | (with_reducible assumption) | (with_reducible refine newPM_of ?_) | (with_reducible refine newP_go ?_) | (with_reducible intro _g _hg) | (with_reducible refine And.intro ?_ ?_) | (with_reducible intro _hc) | omega)
      all_goals exact simA_tup (simL_cons zcells.agg (simL_refl _))
set_option maxHeartbeats 2000000 in
theorem sameRule_a (r : Rule) (h1 : r.months.length ≤ 1000) (h2 : r.mdays.length ≤ 1000) (h3 : r.picks.length ≤ 1000) (h4 : r.wdays.length ≤ 1000) : APure Tryz.prog 20 [aR r, aR r] (.bool true) := by
  have i1 := ints_a r.months r.months (by omega)
  have i2 := ints_a r.mdays r.mdays (by omega)
  have i3 := ints_a r.picks r.picks (by omega)
  rw [decide_eq_true rfl] at i1 i2 i3
  refine apure_intro Tryz.func20 cmp20 rfl fun n H hH => ?_
  repeat' (first | (simp -implicitDefEqProofs [c20, c20_k5_go, -getElem?_pos, simA_refl, splice]) | (simp (disch := omega) only [upd_ne, Qy, if_pos, if_neg, IntWalk.i64_in, Int.tdiv_eq_ediv_of_nonneg, Int.tmod_eq_emod_of_nonneg]) | (with_reducible refine fin_r ?_ ?_ ?_) | (with_reducible exact SameB.rfl_ _ _) | (with_reducible refine SameB.upd ?_ ?_ _) | (with_reducible assumption) | (with_reducible refine newPM_of ?_) | (with_reducible refine newP_go ?_) | (with_reducible intro _g _hg) | (with_reducible refine And.intro ?_ ?_) | (with_reducible intro _hc) | omega)
  rename_i g2 hg2
  refine LoopK.go (fun q st => ∃ k : Nat, k + q = r.wdays.length ∧ st = ⟨[(2, .ptr g2 0), (3, .ptr _g 0), (5, aI k)], _g + 1, upd (upd H g2 (some (.cells 25 (aRc r)))) _g (some (.cells 25 (aRc r)))⟩) r.wdays.length ⟨0, by omega, rfl⟩ ?_
  rintro q st ⟨k, hkq, rfl⟩ J hJ
  by_cases hk : k < r.wdays.length
  · obtain ⟨w, hw⟩ : ∃ w, r.wdays[k]? = some w := ⟨_, List.getElem?_eq_getElem hk⟩
    have hw2 : (r.wdays.map aWd)[k]? = some (aWd w) := by rw [List.getElem?_map, hw]; rfl
    repeat' (first | (simp -implicitDefEqProofs [c20_k1_go, c20_k2_go, c20_k3_go, c20_L4_go, c20_k5_go, c20, -getElem?_pos, simA_refl, hw, hw2, splice]) | (simp (disch := omega) only [upd_ne, Qy, if_pos, if_neg, IntWalk.i64_in, Int.tdiv_eq_ediv_of_nonneg, Int.tmod_eq_emod_of_nonneg]) | (with_reducible refine fin_r ?_ ?_ ?_) | (with_reducible exact SameB.rfl_ _ _) | (with_reducible refine SameB.upd ?_ ?_ _) | (with_reducible assumption) | (with_reducible refine newPM_of ?_) | (with_reducible refine newP_go ?_) | (with_reducible intro _g _hg) | (with_reducible refine And.intro ?_ ?_) | (with_reducible intro _hc) | omega)
    exact hJ (q - 1) _ (by omega) ⟨k + 1, by omega, rfl⟩
  · have hk0 : k = r.wdays.length := by omega
    subst hk0
    repeat' (first | (simp -implicitDefEqProofs [c20_k1_go, c20_k2_go, c20_k3_go, c20_L4_go, c20_k5_go, c20, -getElem?_pos, simA_refl, splice]) | (simp (disch := omega) only [upd_ne, Qy, if_pos, if_neg, IntWalk.i64_in, Int.tdiv_eq_ediv_of_nonneg, Int.tmod_eq_emod_of_nonneg]) | ((with_reducible refine CallP.chk (f := 14) ?_); (refine' CallP.sf ?_ (i1) ?_); (focus first | (with_reducible exact simL_refl _) | (simp [simL, simA, simA_refl, simL_refl]; done))) | ((with_reducible refine CallP.chk (f := 14) ?_); (refine' CallP.sf ?_ (i2) ?_); (focus first | (with_reducible exact simL_refl _) | (simp [simL, simA, simA_refl, simL_refl]; done))) | ((with_reducible refine CallP.chk (f := 14) ?_); (refine' CallP.sf ?_ (i3) ?_); (focus first | (with_reducible exact simL_refl _) | (simp [simL, simA, simA_refl, simL_refl]; done))) | (with_reducible refine fin_r ?_ ?_ ?_) | (with_reducible exact SameB.rfl_ _ _) | (with_reducible refine SameB.upd ?_ ?_ _) | (with_reducible assumption) | (with_reducible refine newPM_of ?_) | (with_reducible refine newP_go ?_) | (with_reducible intro _g _hg) | (with_reducible refine And.intro ?_ ?_) | (with_reducible intro _hc) | omega)
set_option maxHeartbeats 4000000 in
theorem printSpec_a (r : Rule) : APure Tryz.prog 5 [aR r] (.bool true) := by
  have hp := print_a r
  have hr := ruleFault_a r
  have hrec := recurred_a
  by_cases h : (ruleF r).1 = 0
  · have e : printV r = (Lib.join (printW r) [32], (0, 0)) := by unfold printV; rw [if_neg (by simpa using h)]
    rw [e] at hp
    have hps := parse_t (Lib.join (printW r) [32])
    rw [print_parse h] at hps
    have ht := ruleText_a r h
    obtain ⟨_, _, _, _, _, _, _, _, n1, n2, n3, n4⟩ := ruleF_more h
    have hsm := sameRule_a r (by omega) (by omega) (by omega) (by omega)
    rw [(ruleF_ok h).2] at hr
    generalize Lib.join (printW r) [32] = tx at *
    refine apure_intro Tryz.func5 cmp5 rfl fun n H hH => ?_
    repeat' (first | (simp -implicitDefEqProofs [c5_k1_go, c5, -getElem?_pos, simA_refl, splice]) | (simp (disch := omega) only [upd_ne, Qy, if_pos, if_neg, IntWalk.i64_in, Int.tdiv_eq_ediv_of_nonneg, Int.tmod_eq_emod_of_nonneg]) | ((with_reducible refine CallP.chk (f := 17) ?_); (refine' CallP.sf ?_ (hp) ?_); (focus first | (with_reducible exact simL_refl _) | (simp [simL, simA, simA_refl, simL_refl]; done))) | ((with_reducible refine CallP.chk (f := 9) ?_); (refine' CallP.sf ?_ (hr) ?_); (focus first | (with_reducible exact simL_refl _) | (simp [simL, simA, simA_refl, simL_refl]; done))) | ((with_reducible refine CallP.chk (f := 18) ?_); (refine' CallP.sf ?_ (hps) ?_); (focus first | (with_reducible exact simL_refl _) | (simp [simL, simA, simA_refl, simL_refl]; done))) | ((with_reducible refine CallP.chk (f := 19) ?_); (refine' CallP.sf ?_ (ht) ?_); (focus first | (with_reducible exact simL_refl _) | (simp [simL, simA, simA_refl, simL_refl]; done))) | ((with_reducible refine CallP.chk (f := 20) ?_); (refine' CallP.sf ?_ (hsm) ?_); (focus first | (with_reducible exact simL_refl _) | (simp [simL, simA, simA_refl, simL_refl]; done))) | ((with_reducible refine CallP.chk (f := 13) ?_); (refine' CallP.sf ?_ (hrec) ?_); (focus first | (with_reducible exact simL_refl _) | (simp [simL, simA, simA_refl, simL_refl]; done))) | (with_reducible refine fin_r ?_ ?_ ?_) | (with_reducible exact SameB.rfl_ _ _) | (with_reducible refine SameB.upd ?_ ?_ _) | (with_reducible assumption) | (with_reducible refine newPM_of ?_) | (with_reducible refine newP_go ?_) | (with_reducible intro _g _hg) | (with_reducible refine And.intro ?_ ?_) | (with_reducible intro _hc) | omega)
  · have e : printV r = ([], ruleF r) := by unfold printV; rw [if_pos h]
    rw [e] at hp
    generalize ruleF r = f at *
    refine apure_intro Tryz.func5 cmp5 rfl fun n H hH => ?_
    repeat' (first | (simp -implicitDefEqProofs [c5_k1_go, c5, -getElem?_pos, simA_refl, h, splice]) | (simp (disch := omega) only [upd_ne, Qy, if_pos, if_neg, IntWalk.i64_in, Int.tdiv_eq_ediv_of_nonneg, Int.tmod_eq_emod_of_nonneg]) | ((with_reducible refine CallP.chk (f := 17) ?_); (refine' CallP.sf ?_ (hp) ?_); (focus first | (with_reducible exact simL_refl _) | (simp [simL, simA, simA_refl, simL_refl]; done))) | ((with_reducible refine CallP.chk (f := 9) ?_); (refine' CallP.sf ?_ (hr) ?_); (focus first | (with_reducible exact simL_refl _) | (simp [simL, simA, simA_refl, simL_refl]; done))) | ((with_reducible refine CallP.chk (f := 13) ?_); (refine' CallP.sf ?_ (hrec) ?_); (focus first | (with_reducible exact simL_refl _) | (simp [simL, simA, simA_refl, simL_refl]; done))) | (with_reducible refine fin_r ?_ ?_ ?_) | (with_reducible exact SameB.rfl_ _ _) | (with_reducible refine SameB.upd ?_ ?_ _) | (with_reducible assumption) | (with_reducible refine newPM_of ?_) | (with_reducible refine newP_go ?_) | (with_reducible intro _g _hg) | (with_reducible refine And.intro ?_ ?_) | (with_reducible intro _hc) | omega)
end Go.Proofs.YtecpfmhminkalaaGreatDoor

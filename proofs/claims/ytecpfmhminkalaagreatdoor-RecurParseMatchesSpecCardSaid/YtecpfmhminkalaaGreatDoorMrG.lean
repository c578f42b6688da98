/- Lists of days and the next day: what the laws ask of them; no condition. -/
import Derived.Test.YtecpfmhminkalaaGreatDoorMrE
import Derived.Test.YtecpfmhminkalaaGreatDoorMrF
set_option linter.all false
set_option linter.unusedSimpArgs false
set_option linter.unusedVariables false
namespace Go.Proofs.YtecpfmhminkalaaGreatDoor
def nxL (most : Nat) (x : Int) (l : List Int) : List Int × Bool := if l.length = most then (l, false) else (l ++ [x], true)
theorem run_list (most : Nat) : ∀ (L l : List Int), l.length ≤ most → runF (nxL most) L l = l ++ L.take (most - l.length)
  | [], l, h => by simp [runF]
  | x :: xs, l, h => by
    rw [runF]
    by_cases e : l.length = most
    · simp [nxL, e]
    · have h1 : nxL most x l = (l ++ [x], true) := by unfold nxL; rw [if_neg e]
      have e2 : most - l.length = (most - (l.length + 1)) + 1 := by omega
      rw [h1, if_pos rfl, run_list most xs (l ++ [x]) (by simp; omega), e2, List.take_succ_cons]
      simp
def nxN (after x t : Int) : Int × Bool := ((if after < x then x else t), decide ((if after < x then x else t) = 0))
theorem run_next (after : Int) : ∀ (L : List Int), (∀ x ∈ L, 1 ≤ x) → runF (nxN after) L 0 = (L.find? (fun x => decide (after < x))).getD 0
  | [], h => by simp [runF]
  | x :: xs, h => by
    rw [runF]
    by_cases e : after < x
    · have h1 := h x List.mem_cons_self
      have h2 : nxN after x 0 = (x, false) := by unfold nxN; simp only [if_pos e]; congr 1; simp; omega
      rw [h2, List.find?_cons_of_pos (by simpa using e)]; simp
    · have h2 : nxN after x 0 = (0, true) := by unfold nxN; simp only [if_neg e]; simp
      rw [h2, if_pos rfl, List.find?_cons_of_neg (by simpa using e)]
      exact run_next after xs fun y hy => h y (List.mem_cons_of_mem _ hy)
def nextF (r : Rule) (s after : Int) : Int := ((cutF r (allF r s)).find? (fun x => decide (after < x))).getD 0
theorem cut_sub (r : Rule) (l : List Int) : (cutF r l).Sublist l := by
  unfold cutF; split
  · exact List.take_sublist _ _
  · exact List.Sublist.refl _
theorem all_mem {r : Rule} {s n : Int} (h : n ∈ allF r s) : s ≤ n ∧ n ≤ lastF r s ∧ n ≤ 3652059 := by
  obtain ⟨h1, h2⟩ := List.mem_filter.1 h
  obtain ⟨k, _, h3⟩ := days_mem h1
  have := perL_mem h3
  simp at h2
  omega
end Go.Proofs.YtecpfmhminkalaaGreatDoor
namespace Go.Proofs.YtecpfmhminkalaaGreatDoor
/-- a slice that grows; below it all stays -/
theorem app_low {n0 n : Nat} {H : AHeap} {K : AS → Prop} {el sz by_ : Nat} {d : Option Nat} {e : AEnv} {x : AV} {l m m' : List AV} {z : Nat} {t : Tok} (hz : z = sz ∨ m = []) (hs : simL m m') (hsup : ∀ k, n ≤ k → H k = none) (hx : OwnS n0 H el sz x l) (hb : (l.length + m.length) * by_ ≤ 140737488355328) (hc : l.length + m.length ≤ maxLen)
    (h : ∀ x' n' H', OwnS 0 H' el sz x' (l ++ m') → (∀ k, n' ≤ k → H' k = none) → (∀ k, k < n → notRow x k → H' k = H k) → (∀ k, k < n → notRow x k → notRow x' k) → n ≤ n' → K ⟨Y4 e d x', n', H'⟩) : appKS el sz by_ d K ⟨e, n, H⟩ x (.sl z m t) := by
  have hl := simL_len hs
  rcases hx with ⟨rfl, z, rfl⟩ | ⟨g, rfl, hg, hng⟩
  · by_cases hm0 : m = []
    · subst hm0
      simp only [simL] at hs; subst hs
      refine ⟨.inr rfl, [], rfl, by simp, by simp [maxLen], fun _ => ?_, fun h' => absurd rfl h'⟩
      exact h _ _ _ (.inl ⟨rfl, _, rfl⟩) hsup (fun k _ _ => rfl) (fun k hk _ s l h' => by injection h' with _ _ h'; cases h') (Nat.le_refl _)
    · refine appS_nil hz hs hm0 (by simpa using hb) (by simpa using hc) fun g hg => ?_
      refine h _ _ _ ?_ (fun k hk => by rw [upd_ne (by omega)]; exact hsup k (by omega)) (fun k hk _ => by rw [upd_ne (by omega)]) (fun k hk _ => ?_) (by omega)
      · simp only [List.nil_append]
        exact .inr ⟨g, rfl, by rw [Qy], by omega⟩
      · intro s l' h'; injection h' with _ _ h'; injection h' with h'; omega
  · have hgn : g < n := by
      rcases Nat.lt_or_ge g n with h1 | h1
      · exact h1
      · rw [hsup g h1] at hg; cases hg
    refine appS_own hz hs hg hb hc fun g' n' hg' hn' hgn' => ?_
    refine h _ _ _ (.inr ⟨g', rfl, by rw [Qy, List.length_append], by omega⟩) (fun k hk => ?_) (fun k hk hr => ?_) (fun k hk hr => ?_) hn'
    · rw [upd_ne (by omega)]
      simp only [upd]; split
      · rfl
      · exact hsup k (by omega)
    · have hkg : k ≠ g := by rintro rfl; exact hr _ _ rfl
      have hkg' : k ≠ g' := by rcases hg' with rfl | hg' <;> omega
      rw [upd_ne hkg', upd_ne hkg]
    · intro s l' h'
      injection h' with _ _ h'; injection h' with h'
      subst h'
      rcases hg' with rfl | hg'
      · exact hr _ _ rfl
      · omega
/-- what List's function owns -/
structure JL (most go gm : Nat) (l : List Int) (F : Nat → Prop) (H : AHeap) : Prop where
  ne : go ≠ gm
  fo : F go
  fm : F gm
  hm : H gm = some (.cells 3 [aI most])
  le : l.length ≤ most
  ex : ∃ x, H go = some (.cells 22 [x]) ∧ OwnS 0 H 3 1 x (l.map aI) ∧ (∀ k, F k → k = go ∨ k = gm ∨ ∃ sz l', x = .sl sz l' (.own k)) ∧ ∀ k, (∃ sz l', x = .sl sz l' (.own k)) → F k
theorem own_row {n k : Nat} {H : AHeap} {el sz : Nat} {x : AV} {l : List AV} (h : OwnS n H el sz x l) (hk : ∃ sz' l', x = .sl sz' l' (.own k)) : H k = some (.row el l.length) := by
  obtain ⟨sz', l', e⟩ := hk
  rcases h with ⟨_, z, e2⟩ | ⟨g, e2, e3, _⟩
  · rw [e2] at e; injection e with _ _ e; cases e
  · rw [e2] at e; injection e with _ _ e; injection e with e; subst e; exact e3
attribute [local simp] YL Z7 Z9 YM YN YO YP Z8 Z3 Z5 Z4 YQ YR YS YT YU YV YW YX YY YZ Ya Yb Yc Yd scV pe Ye Yf Yg Yh Yi Yj Yk Yl Ym Yn Yo spg_mv Yp Yq Yr Ys Yt Yu Yv Yw Yx Yy Yz X0 X1 X2 X3 X4 X5 X6 X7 X8 X9 spg_mm XA YD XB XC XD XE XF XG XH XI XJ XK XL XM XN XO XP XQ XR XS XT XU XV XW XX XY XZ YC Xa Xb Xc Xd Xe Xf Xg Xh Xi Xj Xk Xl Xm Xn Xo Xp Xq Xr Xs Xt Xu Xv Xw Xx List.mem_cons ZO ZN Z1 YG Zu Xy Zi Zr Zn Zp Zq Zo Zv Zw Zm Xz Q0 Zl Q1 Q2 Q4 Q5 Q6 Q7 Zs Q8 Q9 QA QB QC QD Zt Zh Zx Y1 Y2 QE QF Y3 QG Zj QH Zk Zg QI Zy Zz QJ QK QM QN QO QP QR QS Zd ZK ZI Zc Zf ZH ZM YB Z0 QT ZV ZL Ze ZC ZZ ZA Y5 ZJ Y8 Y9 Zb ZY ZU ZX Za ZT ZD ev get put Y4 ZS QU QV QW QX QY QZ ZE part ZW Qb Qc Qd isNil ZR ZQ ZB ZP YE Qe Qf Qg Qh Qi Qj Qk Ql Qm Qn Qo Qp Qq Qr Qs Qt AV.fits AV.cells ones AV.one YH YI YJ YK ZF ZG Qu Qv Qw Qx Y6 Y7 resV Z2 Qy YA u8e YF Qz V0 List.getElem?_cons_zero List.getElem?_cons_succ
theorem yldL (most go gm : Nat) (hmo : most ≤ 20001) : Yld 24 [.ptr go 0, .ptr gm 0] (JL most go gm) (nxL most) := by
  refine ⟨fun {l F H H'} h hk => ?_, fun {l F H k} h hF => ?_, by kernel_rfl, fun l F n H x hx hJ => ?_⟩
  · obtain ⟨x, e1, e2, e3, e4⟩ := h.ex
    refine ⟨h.ne, h.fo, h.fm, (hk _ h.fm).trans h.hm, h.le, x, (hk _ h.fo).trans e1, ?_, e3, e4⟩
    rcases e2 with e2 | ⟨g, a, b, c⟩
    · exact .inl e2
    · exact .inr ⟨g, a, (hk g (e4 g ⟨_, _, a⟩)).trans b, c⟩
  · obtain ⟨x, e1, e2, e3, e4⟩ := h.ex
    intro hn
    rcases e3 k hF with rfl | rfl | hr
    · rw [e1] at hn; cases hn
    · rw [h.hm] at hn; cases hn
    · rw [own_row e2 hr] at hn; cases hn
  · obtain ⟨ne, fo, fm, hm, hle, x0, e1, e2, e3, e4⟩ := id hJ
    refine acalls_intro Tryz.func24 cmp24 rfl fun hs => ?_
    have bo := upd_cells hs e1
    have bm := upd_cells hs hm
    have hlx := e2.lenv
    rw [List.length_map] at hlx
    by_cases e : l.length = most
    · have hn : nxL most x l = (l, false) := by unfold nxL; rw [if_pos e]
      rw [hn]
      subst e
      repeat' (first | (simp -implicitDefEqProofs [c24_k1_go, c24, -getElem?_pos, e1, hm, hlx]) | (simp (disch := omega) only [upd_ne, Qy, if_pos, if_neg, IntWalk.i64_in, Int.tdiv_eq_ediv_of_nonneg, Int.tmod_eq_emod_of_nonneg]) | (with_reducible refine fin_r ?_ ?_ ?_) | (with_reducible exact SameB.rfl_ _ _) | (with_reducible refine SameB.upd ?_ ?_ _) | (with_reducible assumption) | (with_reducible refine newSM_of ?_) | (with_reducible refine newS_go ?_) | (with_reducible intro _g _hg) | (with_reducible refine And.intro ?_ ?_) | (with_reducible intro _hc) | omega)
      exact fin_ret rfl (Nat.le_refl _) hs ⟨rfl, F, hJ, fun k hk => .inl hk, fun k _ _ => rfl⟩
    · have hn : nxL most x l = (l ++ [x], true) := by unfold nxL; rw [if_neg e]
      rw [hn]
      have no : notRow x0 go := own_not e2 e1
      have nm : notRow x0 gm := own_not e2 hm
      repeat' (first | (simp -implicitDefEqProofs [c24_k1_go, c24, -getElem?_pos, e1, hm, hlx, e]) | (simp (disch := omega) only [upd_ne, Qy, if_pos, if_neg, IntWalk.i64_in, Int.tdiv_eq_ediv_of_nonneg, Int.tmod_eq_emod_of_nonneg]) | (with_reducible refine fin_r ?_ ?_ ?_) | (with_reducible exact SameB.rfl_ _ _) | (with_reducible refine SameB.upd ?_ ?_ _) | (with_reducible assumption) | (with_reducible refine newSM_of ?_) | (with_reducible refine newS_go ?_) | (with_reducible intro _g _hg) | (with_reducible refine And.intro ?_ ?_) | (with_reducible intro _hc) | omega)
      have e2' : OwnS 0 (upd H _g (some (.row 3 1))) 3 1 x0 (l.map aI) := e2.keep fun k el m hk => by
        have : k < n := by rcases Nat.lt_or_ge k n with h | h; exact h; rw [hs k h] at hk; cases hk
        rw [upd_ne (by omega)]; exact hk
      refine app_low (.inl rfl) (simL_refl _) (fun k hk => by rw [upd_ne (by omega)]; exact hs k (by omega)) e2' (by simp; omega) (by simp [maxLen]; omega) fun x' n' H' ho hs' hlow hnr hle2 => ?_
      have hgo : H' go = some (.cells 22 [x0]) := by rw [hlow go (by omega) no, upd_ne (by omega)]; exact e1
      have hgm : H' gm = some (.cells 3 [aI most]) := by rw [hlow gm (by omega) nm, upd_ne (by omega)]; exact hm
      obtain ⟨g2, rfl, hg2, hg0⟩ : ∃ g2, x' = .sl 1 (l.map aI ++ [aI x]) (.own g2) ∧ H' g2 = some (.row 3 (l.map aI ++ [aI x]).length) ∧ 0 ≤ g2 := by
        rcases ho with ⟨e0, _⟩ | h0
        · simp at e0
        · exact h0
      repeat' (first | (simp -implicitDefEqProofs [c24_k1_go, c24, -getElem?_pos, hgo, splice]) | (simp (disch := omega) only [upd_ne, Qy, if_pos, if_neg, IntWalk.i64_in, Int.tdiv_eq_ediv_of_nonneg, Int.tmod_eq_emod_of_nonneg]) | (with_reducible refine fin_r ?_ ?_ ?_) | (with_reducible exact SameB.rfl_ _ _) | (with_reducible refine SameB.upd ?_ ?_ _) | (with_reducible assumption) | (with_reducible refine newSM_of ?_) | (with_reducible refine newS_go ?_) | (with_reducible intro _g _hg) | (with_reducible refine And.intro ?_ ?_) | (with_reducible intro _hc) | omega)
      refine fin_ret rfl (by omega) (fun k hk => by rw [upd_ne (by omega)]; exact hs' k hk) ⟨rfl, fun k => k = go ∨ k = gm ∨ ∃ sz l', (AV.sl 1 (l.map aI ++ [aI x]) (.own g2)) = .sl sz l' (.own k), ⟨ne, .inl rfl, .inr (.inl rfl), by rw [upd_ne (fun e => ne e.symm)]; exact hgm, by simp; omega, _, Qy _ _ _, ?_, fun k hk => hk, fun k hk => .inr (.inr hk)⟩, fun k hk => ?_, fun k hkn hkF => ?_⟩
      · rw [List.map_append]
        refine ho.keep fun k el m hk => ?_
        rw [upd_ne (fun e' => by subst e'; rw [hgo] at hk; cases hk)]; exact hk
      · rcases hk with rfl | rfl | hk
        · exact .inl fo
        · exact .inl fm
        · rcases Nat.lt_or_ge k n with h | h
          · left
            refine e4 k (Classical.byContradiction fun hx0 => ?_)
            obtain ⟨sz, l', hk⟩ := hk
            exact hnr k (by omega) (fun sz l' e' => hx0 ⟨sz, l', e'⟩) sz l' hk
          · exact .inr h
      · have h1 : k ≠ go := fun e' => hkF (e' ▸ fo)
        rw [upd_ne h1, hlow k (by omega) (fun sz l' e' => hkF (e4 k ⟨sz, l', e'⟩)), upd_ne (by omega)]
/-- what Next's function owns -/
structure JN (after : Int) (ga gf : Nat) (t : Int) (F : Nat → Prop) (H : AHeap) : Prop where
  ne : ga ≠ gf
  fa : F ga
  ff : F gf
  ha : H ga = some (.cells 3 [aI after])
  hf : H gf = some (.cells 3 [aI t])
  ex : ∀ k, F k → k = ga ∨ k = gf
theorem yldN (after : Int) (ga gf : Nat) : Yld 45 [.ptr ga 0, .ptr gf 0] (JN after ga gf) (nxN after) := by
  refine ⟨fun {l F H H'} h hk => ?_, fun {l F H k} h hF => ?_, by kernel_rfl, fun t F n H x hx hJ => ?_⟩
  · exact ⟨h.ne, h.fa, h.ff, (hk _ h.fa).trans h.ha, (hk _ h.ff).trans h.hf, h.ex⟩
  · intro hn
    rcases h.ex k hF with rfl | rfl
    · rw [h.ha] at hn; cases hn
    · rw [h.hf] at hn; cases hn
  · obtain ⟨ne, fa, ff, ha, hf, ex⟩ := id hJ
    refine acalls_intro Tryz.func45 cmp45 rfl fun hs => ?_
    have ba := upd_cells hs ha
    have bf := upd_cells hs hf
    by_cases e : after < x
    · have hn : nxN after x t = (x, decide (x = 0)) := by unfold nxN; simp only [if_pos e]
      rw [hn]
      repeat' (first | (simp -implicitDefEqProofs [c45_k1_go, c45, -getElem?_pos, ha, hf, e, splice, Qy]) | (simp (disch := omega) only [upd_ne, Qy, if_pos, if_neg, IntWalk.i64_in, Int.tdiv_eq_ediv_of_nonneg, Int.tmod_eq_emod_of_nonneg]) | (with_reducible refine fin_r ?_ ?_ ?_) | (with_reducible exact SameB.rfl_ _ _) | (with_reducible refine SameB.upd ?_ ?_ _) | (with_reducible assumption) | (with_reducible intro _g _hg) | (with_reducible refine And.intro ?_ ?_) | (with_reducible intro _hc) | omega)
      refine fin_ret rfl (Nat.le_refl _) (fun k hk => by rw [upd_ne (by omega)]; exact hs k hk) ⟨rfl, F, ⟨ne, fa, ff, by rw [upd_ne ne]; exact ha, Qy _ _ _, ex⟩, fun k hk => .inl hk, fun k _ hkF => upd_ne (fun e' => hkF (by rw [e']; exact ff))⟩
    · have hn : nxN after x t = (t, decide (t = 0)) := by unfold nxN; simp only [if_neg e]
      rw [hn]
      repeat' (first | (simp -implicitDefEqProofs [c45_k1_go, c45, -getElem?_pos, ha, hf, e, splice]) | (simp (disch := omega) only [upd_ne, Qy, if_pos, if_neg, IntWalk.i64_in, Int.tdiv_eq_ediv_of_nonneg, Int.tmod_eq_emod_of_nonneg]) | (with_reducible refine fin_r ?_ ?_ ?_) | (with_reducible exact SameB.rfl_ _ _) | (with_reducible refine SameB.upd ?_ ?_ _) | (with_reducible assumption) | (with_reducible intro _g _hg) | (with_reducible refine And.intro ?_ ?_) | (with_reducible intro _hc) | omega)
      all_goals first
        | exact fin_ret rfl (Nat.le_refl _) hs ⟨rfl, F, hJ, fun k hk => .inl hk, fun k _ _ => rfl⟩
        | skip
end Go.Proofs.YtecpfmhminkalaaGreatDoor
namespace Go.Proofs.YtecpfmhminkalaaGreatDoor
def checkF (s : Int) (r : Rule) : Int × Int := if (ruleF r).1 ≠ 0 then ruleF r else if s < 1 ∨ 3652059 < s then (4, -1) else (0, 0)
theorem wth_zero {x a b : Int} (h : wthF x a b = 0) : a ≤ x ∧ x ≤ b := by
  unfold wthF at h; split at h <;> omega
theorem chk_len {α : Type} [DecidableEq α] {p : α → Bool} {l : List α} (h : chkF p l = 0) : l.length ≤ 12 := by
  unfold chkF at h; split at h
  · cases h
  · omega
theorem chkG_all {α : Type} [DecidableEq α] {p : α → Bool} : ∀ {l pre : List α}, chkG p l pre = 0 → ∀ x ∈ l, p x = true
  | [], _, _, x, hx => by cases hx
  | y :: ys, pre, h, x, hx => by
    simp only [chkG] at h
    split at h
    · cases h
    · split at h
      · cases h
      · rcases List.mem_cons.1 hx with rfl | hx
        · rename_i h1 _; simpa using h1
        · exact chkG_all h x hx
theorem chk_all {α : Type} [DecidableEq α] {p : α → Bool} {l : List α} (h : chkF p l = 0) : ∀ x ∈ l, p x = true := by
  unfold chkF at h; split at h
  · cases h
  · exact chkG_all h
theorem ruleF_ok {r : Rule} (h : (ruleF r).1 = 0) : okR r ∧ ruleF r = (0, 0) := by
  unfold ruleF at h ⊢
  split at h
  · cases h
  split at h
  · cases h
  split at h
  · contradiction
  split at h
  · contradiction
  split at h
  · contradiction
  split at h
  · contradiction
  split at h
  · cases h
  split at h
  · cases h
  rename_i h0 h1 h2 h3 h4 h5 h6 h7
  simp only [ne_eq, Decidable.not_not] at h1 h2 h3 h4 h5 h6 h7
  refine ⟨⟨by omega, wth_zero h1, chk_len h2, chk_len h3, chk_len h4, fun w hw => ?_, chk_len h5, wth_zero h6, wth_zero h7⟩, ?_⟩
  · have := chk_all h4 w hw
    simp [pWd] at this; omega
  · rw [if_neg h0, if_neg (by simp [h1]), if_neg (by simp [h2]), if_neg (by simp [h3]), if_neg (by simp [h4]), if_neg (by simp [h5]), if_neg (by simp [h6]), if_neg (by simp [h7])]
attribute [local simp] YL Z7 Z9 YM YN YO YP Z8 Z3 Z5 Z4 YQ YR YS YT YU YV YW YX YY YZ Ya Yb Yc Yd scV pe Ye Yf Yg Yh Yi Yj Yk Yl Ym Yn Yo spg_mv Yp Yq Yr Ys Yt Yu Yv Yw Yx Yy Yz X0 X1 X2 X3 X4 X5 X6 X7 X8 X9 spg_mm XA YD XB XC XD XE XF XG XH XI XJ XK XL XM XN XO XP XQ XR XS XT XU XV XW XX XY XZ YC Xa Xb Xc Xd Xe Xf Xg Xh Xi Xj Xk Xl Xm Xn Xo Xp Xq Xr Xs Xt Xu Xv Xw Xx List.mem_cons ZO ZN Z1 YG Zu Xy Zi Zr Zn Zp Zq Zo Zv Zw Zm Xz Q0 Zl Q1 Q2 Q4 Q5 Q6 Q7 Zs Q8 Q9 QA QB QC QD Zt Zh Zx Y1 Y2 QE QF Y3 QG Zj QH Zk Zg QI Zy Zz QJ QK QM QN QO QP QR QS Zd ZK ZI Zc Zf ZH ZM YB Z0 QT ZV ZL Ze ZC ZZ ZA Y5 ZJ Y8 Y9 Zb ZY ZU ZX Za ZT ZD ev get put Y4 ZS QU QV QW QX QY QZ ZE part ZW Qb Qc Qd isNil ZR ZQ ZB ZP YE Qe Qf Qg Qh Qi Qj Qk Ql Qm Qn Qo Qp Qq Qr Qs Qt AV.fits AV.cells ones AV.one YH YI YJ YK ZF ZG Qu Qv Qw Qx Y6 Y7 resV Z2 Qy YA u8e YF Qz V0 List.getElem?_cons_zero List.getElem?_cons_succ
theorem checked_a (s : Int) (r : Rule) : APure Tryz.prog 22 [aI s, aR r] (aF (checkF s r)) := by
  have hv := validate_a r
  unfold checkF
  by_cases h : (ruleF r).1 = 0
  · rw [if_neg (by simp [h])]
    rw [(ruleF_ok h).2] at hv
    refine apure_intro Tryz.func22 cmp22 rfl fun n H hH => ?_
    repeat' (first | (simp -implicitDefEqProofs [c22_k1_go, c22_k2_go, c22, -getElem?_pos, splice]) | (simp (disch := omega) only [upd_ne, Qy, if_pos, if_neg, IntWalk.i64_in, Int.tdiv_eq_ediv_of_nonneg, Int.tmod_eq_emod_of_nonneg]) | ((with_reducible refine CallP.chk (f := 8) ?_); (refine' CallP.sf ?_ (hv) ?_); (focus first | (with_reducible exact simL_refl _) | (simp [simL, simA, simA_refl, simL_refl]; done))) | (with_reducible refine fin_r ?_ ?_ ?_) | (with_reducible exact SameB.rfl_ _ _) | (with_reducible refine SameB.upd ?_ ?_ _) | (with_reducible assumption) | (with_reducible refine newPM_of ?_) | (with_reducible refine newP_go ?_) | (with_reducible intro _g _hg) | (with_reducible refine And.intro ?_ ?_) | (with_reducible intro _hc) | omega)
    all_goals exact simA_refl _
  · rw [if_pos h]
    refine apure_intro Tryz.func22 cmp22 rfl fun n H hH => ?_
    repeat' (first | (simp -implicitDefEqProofs [c22_k1_go, c22_k2_go, c22, -getElem?_pos, splice, h]) | (simp (disch := omega) only [upd_ne, Qy, if_pos, if_neg, IntWalk.i64_in, Int.tdiv_eq_ediv_of_nonneg, Int.tmod_eq_emod_of_nonneg]) | ((with_reducible refine CallP.chk (f := 8) ?_); (refine' CallP.sf ?_ (hv) ?_); (focus first | (with_reducible exact simL_refl _) | (simp [simL, simA, simA_refl, simL_refl]; done))) | (with_reducible refine fin_r ?_ ?_ ?_) | (with_reducible exact SameB.rfl_ _ _) | (with_reducible refine SameB.upd ?_ ?_ _) | (with_reducible assumption) | (with_reducible refine newPM_of ?_) | (with_reducible refine newP_go ?_) | (with_reducible intro _g _hg) | (with_reducible refine And.intro ?_ ?_) | (with_reducible intro _hc) | omega)
    all_goals exact simA_refl _
theorem check_ok {s : Int} {r : Rule} (h : (checkF s r).1 = 0) : okR r ∧ 1 ≤ s ∧ s ≤ 3652059 ∧ checkF s r = (0, 0) := by
  unfold checkF at h ⊢
  split at h
  · contradiction
  · rename_i h1
    split at h
    · cases h
    · rename_i h2
      simp only [ne_eq, Decidable.not_not] at h1
      exact ⟨(ruleF_ok h1).1, by omega, by omega, by rw [if_neg (by simp [h1]), if_neg h2]⟩
/-- what List hands back -/
def listV (s : Int) (r : Rule) (most : Int) : List Int × (Int × Int) := if (checkF s r).1 ≠ 0 then ([], checkF s r) else if most < 0 ∨ 20001 < most then ([], (4, -3)) else (listF r s most, (0, 0))
theorem JL.sim {most go gm : Nat} {l : List Int} {F : Nat → Prop} {H : AHeap} (h : JL most go gm l F H) : ∃ x, H go = some (.cells 22 [x]) ∧ simA x (aL l) ∧ fitOk none x := by
  obtain ⟨x, e1, e2, _⟩ := h.ex
  exact ⟨x, e1, e2.sim (simL_refl _), e2.fit⟩
set_option maxHeartbeats 4000000 in
theorem list_a (s : Int) (r : Rule) (most : Int) : APure Tryz.prog 7 [aI s, aR r, aI most] (.tup [aL (listV s r most).1, aF (listV s r most).2]) := by
  have hc := checked_a s r
  by_cases h : (checkF s r).1 = 0
  · obtain ⟨hr, hs1, hs2, he⟩ := check_ok h
    rw [he] at hc
    by_cases hm : most < 0 ∨ 20001 < most
    · have e : listV s r most = ([], (4, -3)) := by unfold listV; rw [if_neg (by simp [h]), if_pos hm]
      rw [e]
      refine apure_intro Tryz.func7 cmp7 rfl fun n H hH => ?_
      repeat' (first | (simp -implicitDefEqProofs [c7_k1_go, c7_k2_go, c7, -getElem?_pos, splice]) | (simp (disch := omega) only [upd_ne, Qy, if_pos, if_neg, IntWalk.i64_in, Int.tdiv_eq_ediv_of_nonneg, Int.tmod_eq_emod_of_nonneg]) | ((with_reducible refine CallP.chk (f := 22) ?_); (refine' CallP.sf ?_ (hc) ?_); (focus first | (with_reducible exact simL_refl _) | (simp [simL, simA, simA_refl, simL_refl]; done))) | (with_reducible refine fin_r ?_ ?_ ?_) | (with_reducible exact SameB.rfl_ _ _) | (with_reducible refine SameB.upd ?_ ?_ _) | (with_reducible assumption) | (with_reducible refine newPM_of ?_) | (with_reducible refine newP_go ?_) | (with_reducible intro _g _hg) | (with_reducible refine And.intro ?_ ?_) | (with_reducible intro _hc) | omega)
      all_goals first | exact simA_tup (simL_cons simA_nil (simL_refl _)) | (exfalso; omega)
    · have e : listV s r most = (listF r s most, (0, 0)) := by unfold listV; rw [if_neg (by simp [h]), if_neg hm]
      rw [e]
      obtain ⟨mo, rfl⟩ : ∃ mo : Nat, most = mo := ⟨most.toNat, by omega⟩
      refine apure_intro Tryz.func7 cmp7 rfl fun n H hH => ?_
      repeat' (first | (simp -implicitDefEqProofs [c7_k1_go, c7_k2_go, c7, -getElem?_pos, splice, hm]) | (simp (disch := omega) only [upd_ne, Qy, if_pos, if_neg, IntWalk.i64_in, Int.tdiv_eq_ediv_of_nonneg, Int.tmod_eq_emod_of_nonneg]) | ((with_reducible refine CallP.chk (f := 22) ?_); (refine' CallP.sf ?_ (hc) ?_); (focus first | (with_reducible exact simL_refl _) | (simp [simL, simA, simA_refl, simL_refl]; done))) | (with_reducible refine fin_r ?_ ?_ ?_) | (with_reducible exact SameB.rfl_ _ _) | (with_reducible refine SameB.upd ?_ ?_ _) | (with_reducible assumption) | (with_reducible refine newPM_of ?_) | (with_reducible refine newP_go ?_) | (with_reducible intro _g _hg) | (with_reducible refine And.intro ?_ ?_) | (with_reducible intro _hc) | omega)
      all_goals first | (exfalso; omega) | skip
      rename_i gr hgr gm hgm gf hgf gc hgc
      have hJ : JL mo _g gm [] (fun k => k = _g ∨ k = gm) (upd (upd (upd (upd (upd (upd H gr (some (.cells 25 (aRc r)))) gm (some (.cells 3 [aI mo]))) gf (some (.cells 27 [aI 0, aI 0]))) gc (some (.cells 27 [aI 0, aI 0]))) gc (some (.cells 27 [aI 0, aI 0]))) _g (some (.cells 22 [.sl 0 [] .nil]))) :=
        ⟨by omega, .inl rfl, .inr rfl, by simp (disch := omega) only [upd_ne, Qy], by simp, _, Qy _ _ _, .inl ⟨rfl, 0, rfl⟩, fun k hk => by rcases hk with h | h; exact .inl h; exact .inr (.inl h), fun k ⟨sz, l', e⟩ => by injection e with _ _ e; cases e⟩
      refine ⟨_, each_a (yldL mo _g gm (by omega)) s r hr ⟨hs1, hs2⟩ [] _ _ _ hJ, ?_⟩
      rintro rr n2 H2 hn2 hs3 ⟨rfl, F2, hJ2, hF2, hfr⟩
      dsimp only at hn2 hfr
      rw [run_list mo _ [] (by simp)] at hJ2
      simp only [List.nil_append, List.length_nil, Nat.sub_zero] at hJ2
      have el : listF r s mo = (cutF r (allF r s)).take mo := by unfold listF; simp
      rw [← el] at hJ2
      obtain ⟨x, hx, hsx, hfx⟩ := hJ2.sim
      have hgf2 : H2 gf = some (.cells 27 [aI 0, aI 0]) := by
        rw [hfr gf (by omega) (by omega)]
        simp (disch := omega) only [upd_ne, Qy]
      have hS : SameB n H H2 := fun k hk => by
        rw [hfr k (by omega) (by omega)]
        simp (disch := omega) only [upd_ne]
      repeat' (first | (simp -implicitDefEqProofs [c7_k1_go, c7_k2_go, c7, -getElem?_pos, hx, hgf2, splice]) | (simp (disch := omega) only [upd_ne, Qy, if_pos, if_neg, IntWalk.i64_in, Int.tdiv_eq_ediv_of_nonneg, Int.tmod_eq_emod_of_nonneg]) | (with_reducible refine fin_r ?_ ?_ ?_) | (with_reducible exact SameB.rfl_ _ _) | (with_reducible assumption) | (with_reducible refine newPM_of ?_) | (with_reducible refine newP_go ?_) | (with_reducible intro _g _hg) | (with_reducible refine And.intro ?_ ?_) | (with_reducible intro _hc) | omega)
      all_goals first | exact simA_tup (simL_cons hsx (simL_refl _)) | exact hS.upd (by omega) _ | omega
  · have e : listV s r most = ([], checkF s r) := by unfold listV; rw [if_pos h]
    rw [e]
    refine apure_intro Tryz.func7 cmp7 rfl fun n H hH => ?_
    repeat' (first | (simp -implicitDefEqProofs [c7_k1_go, c7_k2_go, c7, -getElem?_pos, splice, h]) | (simp (disch := omega) only [upd_ne, Qy, if_pos, if_neg, IntWalk.i64_in, Int.tdiv_eq_ediv_of_nonneg, Int.tmod_eq_emod_of_nonneg]) | ((with_reducible refine CallP.chk (f := 22) ?_); (refine' CallP.sf ?_ (hc) ?_); (focus first | (with_reducible exact simL_refl _) | (simp [simL, simA, simA_refl, simL_refl]; done))) | (with_reducible refine fin_r ?_ ?_ ?_) | (with_reducible exact SameB.rfl_ _ _) | (with_reducible refine SameB.upd ?_ ?_ _) | (with_reducible assumption) | (with_reducible refine newPM_of ?_) | (with_reducible refine newP_go ?_) | (with_reducible intro _g _hg) | (with_reducible refine And.intro ?_ ?_) | (with_reducible intro _hc) | omega)
    all_goals exact simA_tup (simL_cons simA_nil (simL_refl _))
/-- what Next hands back -/
def nextV (s : Int) (r : Rule) (after : Int) : Int × Bool × (Int × Int) := if (checkF s r).1 ≠ 0 then (0, false, checkF s r) else if after < 0 ∨ 3652059 < after then (0, false, (4, -3)) else (nextF r s after, decide (0 < nextF r s after), (0, 0))
set_option maxHeartbeats 4000000 in
theorem next_a (s : Int) (r : Rule) (after : Int) : APure Tryz.prog 16 [aI s, aR r, aI after] (.tup [aI (nextV s r after).1, .bool (nextV s r after).2.1, aF (nextV s r after).2.2]) := by
  have hc := checked_a s r
  by_cases h : (checkF s r).1 = 0
  · obtain ⟨hr, hs1, hs2, he⟩ := check_ok h
    rw [he] at hc
    by_cases hm : after < 0 ∨ 3652059 < after
    · have e : nextV s r after = (0, false, (4, -3)) := by unfold nextV; rw [if_neg (by simp [h]), if_pos hm]
      rw [e]
      refine apure_intro Tryz.func16 cmp16 rfl fun n H hH => ?_
      repeat' (first | (simp -implicitDefEqProofs [c16_k1_go, c16_k2_go, c16, -getElem?_pos, splice]) | (simp (disch := omega) only [upd_ne, Qy, if_pos, if_neg, IntWalk.i64_in, Int.tdiv_eq_ediv_of_nonneg, Int.tmod_eq_emod_of_nonneg]) | ((with_reducible refine CallP.chk (f := 22) ?_); (refine' CallP.sf ?_ (hc) ?_); (focus first | (with_reducible exact simL_refl _) | (simp [simL, simA, simA_refl, simL_refl]; done))) | (with_reducible refine fin_r ?_ ?_ ?_) | (with_reducible exact SameB.rfl_ _ _) | (with_reducible refine SameB.upd ?_ ?_ _) | (with_reducible assumption) | (with_reducible refine newPM_of ?_) | (with_reducible refine newP_go ?_) | (with_reducible intro _g _hg) | (with_reducible refine And.intro ?_ ?_) | (with_reducible intro _hc) | omega)
      all_goals first | exact simA_refl _ | (exfalso; omega)
    · have e : nextV s r after = (nextF r s after, decide (0 < nextF r s after), (0, 0)) := by unfold nextV; rw [if_neg (by simp [h]), if_neg hm]
      rw [e]
      refine apure_intro Tryz.func16 cmp16 rfl fun n H hH => ?_
      repeat' (first | (simp -implicitDefEqProofs [c16_k1_go, c16_k2_go, c16, -getElem?_pos, splice, hm]) | (simp (disch := omega) only [upd_ne, Qy, if_pos, if_neg, IntWalk.i64_in, Int.tdiv_eq_ediv_of_nonneg, Int.tmod_eq_emod_of_nonneg]) | ((with_reducible refine CallP.chk (f := 22) ?_); (refine' CallP.sf ?_ (hc) ?_); (focus first | (with_reducible exact simL_refl _) | (simp [simL, simA, simA_refl, simL_refl]; done))) | (with_reducible refine fin_r ?_ ?_ ?_) | (with_reducible exact SameB.rfl_ _ _) | (with_reducible refine SameB.upd ?_ ?_ _) | (with_reducible assumption) | (with_reducible refine newPM_of ?_) | (with_reducible refine newP_go ?_) | (with_reducible intro _g _hg) | (with_reducible refine And.intro ?_ ?_) | (with_reducible intro _hc) | omega)
      all_goals first | (exfalso; omega) | skip
      rename_i gr hgr ga hga gf hgf gc hgc q1 q2
      have hJ : JN after ga _g 0 (fun k => k = ga ∨ k = _g) (upd (upd (upd (upd (upd (upd (upd H gr (some (.cells 25 (aRc r)))) ga (some (.cells 3 [aI after]))) gf (some (.cells 27 [aI 0, aI 0]))) gc (some (.cells 27 [aI 0, aI 0]))) gc (some (.cells 27 [aI 0, aI 0]))) _g (some (.cells 3 [aI 0]))) _g (some (.cells 3 [aI 0]))) :=
        ⟨by omega, .inl rfl, .inr rfl, by simp (disch := omega) only [upd_ne, Qy], Qy _ _ _, fun k hk => hk⟩
      refine ⟨_, each_a (yldN after ga _g) s r hr ⟨hs1, hs2⟩ 0 _ _ _ hJ, ?_⟩
      rintro rr n2 H2 hn2 hs3 ⟨rfl, F2, hJ2, hF2, hfr⟩
      dsimp only at hn2 hfr
      rw [run_next after _ (fun x hx => by have := all_mem ((cut_sub r _).subset hx); omega)] at hJ2
      have el : ((cutF r (allF r s)).find? (fun x => decide (after < x))).getD 0 = nextF r s after := rfl
      rw [el] at hJ2
      have hx := hJ2.hf
      have hgf2 : H2 gf = some (.cells 27 [aI 0, aI 0]) := by
        rw [hfr gf (by omega) (by omega)]
        simp (disch := omega) only [upd_ne, Qy]
      have hS : SameB n H H2 := fun k hk => by
        rw [hfr k (by omega) (by omega)]
        simp (disch := omega) only [upd_ne]
      repeat' (first | (simp -implicitDefEqProofs [c16_k1_go, c16_k2_go, c16, -getElem?_pos, hx, hgf2, splice, simA_refl]) | (simp (disch := omega) only [upd_ne, Qy, if_pos, if_neg, IntWalk.i64_in, Int.tdiv_eq_ediv_of_nonneg, Int.tmod_eq_emod_of_nonneg]) | (with_reducible refine fin_r ?_ ?_ ?_) | (with_reducible exact SameB.rfl_ _ _) | (with_reducible assumption) | (with_reducible refine newPM_of ?_) | (with_reducible refine newP_go ?_) | (with_reducible intro _g _hg) | (with_reducible refine And.intro ?_ ?_) | (with_reducible intro _hc) | omega)
      all_goals first | exact simA_refl _ | exact hS.upd (by omega) _ | omega
  · have e : nextV s r after = (0, false, checkF s r) := by unfold nextV; rw [if_pos h]
    rw [e]
    refine apure_intro Tryz.func16 cmp16 rfl fun n H hH => ?_
    repeat' (first | (simp -implicitDefEqProofs [c16_k1_go, c16_k2_go, c16, -getElem?_pos, splice, h]) | (simp (disch := omega) only [upd_ne, Qy, if_pos, if_neg, IntWalk.i64_in, Int.tdiv_eq_ediv_of_nonneg, Int.tmod_eq_emod_of_nonneg]) | ((with_reducible refine CallP.chk (f := 22) ?_); (refine' CallP.sf ?_ (hc) ?_); (focus first | (with_reducible exact simL_refl _) | (simp [simL, simA, simA_refl, simL_refl]; done))) | (with_reducible refine fin_r ?_ ?_ ?_) | (with_reducible exact SameB.rfl_ _ _) | (with_reducible refine SameB.upd ?_ ?_ _) | (with_reducible assumption) | (with_reducible refine newPM_of ?_) | (with_reducible refine newP_go ?_) | (with_reducible intro _g _hg) | (with_reducible refine And.intro ?_ ?_) | (with_reducible intro _hc) | omega)
    all_goals exact simA_refl _
end Go.Proofs.YtecpfmhminkalaaGreatDoor

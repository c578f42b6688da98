/- The text of a rule: Print, walked; no condition. -/
import Derived.Test.YtecpfmhminkalaaGreatDoorMrH
import Derived.Test.YtecpfmhminkalaaGreatDoorAdD
set_option linter.all false
set_option linter.unusedSimpArgs false
set_option linter.unusedVariables false
namespace Go.Proofs.YtecpfmhminkalaaGreatDoor
def numT (word : Str) (n : Int) : List Str := if n = 0 then [] else [word, Lib.itoa n]
abbrev wEvery : Str := [101, 118, 101, 114, 121]
abbrev wMonths : Str := [109, 111, 110, 116, 104, 115]
abbrev wDays : Str := [100, 97, 121, 115]
abbrev wOn : Str := [111, 110]
abbrev wPicks : Str := [112, 105, 99, 107, 115]
abbrev wCount : Str := [99, 111, 117, 110, 116]
abbrev wUntil : Str := [117, 110, 116, 105, 108]
def headW (r : Rule) : List Str := [wEvery, Lib.itoa r.step, unitL.getD (r.unit - 1).toNat []]
/-- the words of a rule -/
def printW (r : Rule) : List Str := headW r ++ wordsL wMonths (r.months.map Lib.itoa) ++ wordsL wDays (r.mdays.map Lib.itoa) ++ wordsL wOn (r.wdays.map wdT) ++ wordsL wPicks (r.picks.map Lib.itoa) ++ (numT wCount r.count ++ numT wUntil r.untl)
def printV (r : Rule) : Str × (Int × Int) := if (ruleF r).1 ≠ 0 then ([], ruleF r) else (Lib.join (printW r) [32], (0, 0))
def restT (r : Rule) (k : Nat) : List Str := match k with | 0 => numT wCount r.count ++ numT wUntil r.untl | 1 => numT wUntil r.untl | _ => []
theorem itoa_le {v : Int} (h : -100000000 ≤ v ∧ v ≤ 100000000) : (Lib.itoa v).length ≤ 21 := Lib.itoa_length_le v (by omega) (by omega)
theorem words_le {word : Str} {items : List Str} (hw : word.length ≤ 10) (hn : items.length ≤ 12) (hb : ∀ x ∈ items, x.length ≤ 25) : (wordsL word items).length ≤ 2 ∧ ∀ x ∈ wordsL word items, x.length ≤ 400 := by
  unfold wordsL
  split
  · simp
  · refine ⟨by simp, fun x hx => ?_⟩
    have := join_le (B := 25) [44] items hb
    have h2 := Nat.mul_le_mul_right (25 + ([44] : Str).length) hn
    simp only [List.length_cons, List.length_nil] at this h2
    simp only [List.mem_cons, List.not_mem_nil, or_false] at hx
    rcases hx with rfl | rfl
    · omega
    · omega
theorem numT_le {word : Str} {v : Int} (hw : word.length ≤ 10) (h : -100000000 ≤ v ∧ v ≤ 100000000) : (numT word v).length ≤ 2 ∧ ∀ x ∈ numT word v, x.length ≤ 400 := by
  have := itoa_le h
  unfold numT
  split
  · simp
  · refine ⟨by simp, fun x hx => ?_⟩
    simp only [List.mem_cons, List.not_mem_nil, or_false] at hx
    rcases hx with rfl | rfl <;> omega
theorem unit_len (k : Nat) : (unitL.getD k []).length ≤ 5 := by
  match k with
  | 0 => decide
  | 1 => decide
  | 2 => decide
  | 3 => decide
  | k + 4 => simp
theorem wdT_le {w : Int × Int} (h : -1000 ≤ w.2 ∧ w.2 ≤ 1000) : (wdT w).length ≤ 25 := by
  have h1 := day_len w.1.toNat
  have h2 := itoa_le (v := w.2) (by omega)
  unfold wdT
  split
  · omega
  · simp only [List.length_append, List.length_cons, List.length_nil]; omega
theorem calP1 : callable Tryz.prog 49 = true := by kernel_rfl
theorem calP2 : callable Tryz.prog 50 = true := by kernel_rfl
theorem calP3 : callable Tryz.prog 51 = true := by kernel_rfl
theorem calP4 : callable Tryz.prog 53 = true := by kernel_rfl
theorem map_at {α β : Type} {f : α → β} {l : List α} {i : Nat} {y : β} (h : (l.map f)[i]? = some y) : ∃ x, l[i]? = some x ∧ f x = y := by
  simpa [List.getElem?_map] using h
theorem words_len (r : Rule) (h : (ruleF r).1 = 0) : (printW r).length ≤ 15 ∧ ∀ x ∈ printW r, x.length ≤ 400 := by
  obtain ⟨a1, a2, a3, a4⟩ := ruleF_all h
  have hr := (ruleF_ok h).1
  have w1 := words_le (word := wMonths) (items := r.months.map Lib.itoa) (by decide) (by simpa using hr.mo) (fun x hx => by
    obtain ⟨v, hv, rfl⟩ := List.mem_map.1 hx
    have := a1 v hv
    have := itoa_le (v := v) (by omega); omega)
  have w2 := words_le (word := wDays) (items := r.mdays.map Lib.itoa) (by decide) (by simpa using hr.md) (fun x hx => by
    obtain ⟨v, hv, rfl⟩ := List.mem_map.1 hx
    have := a2 v hv
    have := itoa_le (v := v) (by omega); omega)
  have w3 := words_le (word := wOn) (items := r.wdays.map wdT) (by decide) (by simpa using hr.wl) (fun x hx => by
    obtain ⟨v, hv, rfl⟩ := List.mem_map.1 hx
    have := a3 v hv
    exact wdT_le (by omega))
  have w4 := words_le (word := wPicks) (items := r.picks.map Lib.itoa) (by decide) (by simpa using hr.pl) (fun x hx => by
    obtain ⟨v, hv, rfl⟩ := List.mem_map.1 hx
    have := a4 v hv
    have := itoa_le (v := v) (by omega); omega)
  have w5 := numT_le (word := wCount) (v := r.count) (by decide) (by have := hr.ct; omega)
  have w6 := numT_le (word := wUntil) (v := r.untl) (by decide) (by have := hr.ut; omega)
  have w7 := itoa_le (v := r.step) (by have := hr.st; omega)
  have w8 := unit_len (r.unit - 1).toNat
  unfold printW headW
  refine ⟨?_, fun x hx => ?_⟩
  · simp only [List.length_append, List.length_cons, List.length_nil]; omega
  · simp only [List.mem_append, List.mem_cons, List.not_mem_nil, or_false] at hx
    rcases hx with ((((hx | hx) | hx) | hx) | hx) | hx | hx
    · rcases hx with rfl | rfl | rfl
      · decide
      · omega
      · omega
    · exact w1.2 x hx
    · exact w2.2 x hx
    · exact w3.2 x hx
    · exact w4.2 x hx
    · exact w5.2 x hx
    · exact w6.2 x hx
attribute [local simp] YL Z7 Z9 YM YN YO YP Z8 Z3 Z5 Z4 YQ YR YS YT YU YV YW YX YY YZ Ya Yb Yc Yd scV pe Ye Yf Yg Yh Yi Yj Yk Yl Ym Yn Yo spg_mv Yp Yq Yr Ys Yt Yu Yv Yw Yx Yy Yz X0 X1 X2 X3 X4 X5 X6 X7 X8 X9 spg_mm XA YD XB XC XD XE XF XG XH XI XJ XK XL XM XN XO XP XQ XR XS XT XU XV XW XX XY XZ YC Xa Xb Xc Xd Xe Xf Xg Xh Xi Xj Xk Xl Xm Xn Xo Xp Xq Xr Xs Xt Xu Xv Xw Xx List.mem_cons ZO ZN Z1 YG Zu Xy Zi Zr Zn Zp Zq Zo Zv Zw Zm Xz Q0 Zl Q1 Q2 Q4 Q5 Q6 Q7 Zs Q8 Q9 QA QB QC QD Zt Zh Zx Y1 Y2 QE QF Y3 QG Zj QH Zk Zg QI Zy Zz QJ QK QM QN QO QP QR QS Zd ZK ZI Zc Zf ZH ZM YB Z0 QT ZV ZL Ze ZC ZZ ZA Y5 ZJ Y8 Y9 Zb ZY ZU ZX Za ZT ZD ev get put Y4 ZS QU QV QW QX QY QZ ZE part ZW Qb Qc Qd isNil ZR ZQ ZB ZP YE Qe Qf Qg Qh Qi Qj Qk Ql Qm Qn Qo Qp Qq Qr Qs Qt AV.fits AV.cells ones AV.one YH YI YJ YK ZF ZG Qu Qv Qw Qx Y6 Y7 resV Z2 Qy YA u8e YF Qz V0 List.getElem?_cons_zero List.getElem?_cons_succ
set_option maxHeartbeats 8000000 in
theorem print_a (r : Rule) : APure Tryz.prog 17 [aR r] (.tup [.str (printV r).1, aF (printV r).2]) := by
  have hv := validate_a r
  by_cases h : (ruleF r).1 = 0
  · have e : printV r = (Lib.join (printW r) [32], (0, 0)) := by unfold printV; rw [if_neg (by simp [h])]
    rw [e]
    obtain ⟨hr, h00⟩ := ruleF_ok h
    rw [h00] at hv
    obtain ⟨a1, a2, a3, a4⟩ := ruleF_all h
    obtain ⟨wl, wb⟩ := words_len r h
    have hj := join_a (printW r) [32] (by omega) (by
      have := join_le (B := 400) [32] (printW r) wb
      have h2 := Nat.mul_le_mul_right (400 + ([32] : Str).length) wl
      simp only [List.length_cons, List.length_nil] at this h2; omega)
    have hst := itoa_a r.step (by have := hr.st; omega)
    have hu := unitNames_a
    have hru := hr.u
    obtain ⟨un, hun⟩ : ∃ un, unitL[(r.unit - 1).toNat]? = some un := ⟨_, List.getElem?_eq_getElem (by simp; omega)⟩
    have hug : unitL.getD (r.unit - 1).toNat [] = un := by rw [List.getD_eq_getElem?_getD, hun]; rfl
    have hum : (aStrs unitL)[(r.unit - 1).toNat]? = some (.str un) := by rw [List.getElem?_map, hun]; rfl
    have hhead : headW r = [wEvery, Lib.itoa r.step, un] := by unfold headW; rw [hug]
    have eu : (r.unit - 1).toNat = r.unit.toNat - 1 := by omega
    rw [eu] at hum hun
    generalize unitL = ul at hu hum hun
    obtain ⟨W, hW⟩ : ∃ W, W = printW r := ⟨_, rfl⟩
    rw [← hW] at hj ⊢
    unfold printW at hW
    rw [hhead] at hW
    refine apure_intro Tryz.func17 cmp17 rfl fun n H hH => ?_
    repeat' (first | (simp -implicitDefEqProofs [c17_k1_go, c17_k2_go, c17_k3_go, c17_L4_go, c17_k5_go, c17, -getElem?_pos, splice, hum, hun]) | (simp (disch := omega) only [upd_ne, Qy, if_pos, if_neg, IntWalk.i64_in, Int.tdiv_eq_ediv_of_nonneg, Int.tmod_eq_emod_of_nonneg]) | ((with_reducible refine CallP.chk (f := 8) ?_); (refine' CallP.sf ?_ (hv) ?_); (focus first | (with_reducible exact simL_refl _) | (simp [simL, simA, simA_refl, simL_refl]; done))) | ((with_reducible refine CallP.chk (f := 46) ?_); (refine' CallP.sf ?_ (hst) ?_); (focus first | (with_reducible exact simL_refl _) | (simp [simL, simA, simA_refl, simL_refl]; done))) | ((with_reducible refine CallP.chk (f := 47) ?_); (refine' CallP.sf ?_ (hu) ?_); (focus first | (with_reducible exact simL_refl _) | (simp [simL, simA, simA_refl, simL_refl]; done))) | (with_reducible refine fin_r ?_ ?_ ?_) | (with_reducible exact SameB.rfl_ _ _) | (with_reducible refine SameB.upd ?_ ?_ _) | (with_reducible assumption) | (with_reducible refine newPM_of ?_) | (with_reducible refine newSM_of ?_) | (with_reducible refine newP_go ?_) | (with_reducible refine newS_go ?_) | (with_reducible intro _g _hg) | (with_reducible refine And.intro ?_ ?_) | (with_reducible intro _hc) | omega)
    rename_i gr hgr g3 hg3 g4 hg4 gs hgs
    have P0 : PI n H gr g3 _g r [wEvery, Lib.itoa r.step, un] (upd (upd (upd (upd (upd (upd H gr (some (.cells 25 (aRc r)))) g3 (some (.cells 27 [aI 0, aI 0]))) g4 (some (.cells 27 [aI 0, aI 0]))) g4 (some (.cells 27 [aI 0, aI 0]))) gs (some (.row 9 3))) _g (some (.cells 68 [.sl 1 [.str wEvery, .str (Lib.itoa r.step), .str un] (.own gs)]))) :=
      ⟨by omega, by simp (disch := omega) only [upd_ne, Qy], by simp (disch := omega) only [upd_ne, Qy], ⟨_, Qy _ _ _, .inr ⟨gs, rfl, by simp (disch := omega) only [upd_ne, Qy]; rfl, by omega⟩⟩, by
        repeat' (first | exact SameB.rfl_ _ _ | refine SameB.upd ?_ (by omega) _)⟩
    have s1 := P0.step (n := _g + 1) (by omega) 49 (r.months.map Lib.itoa) wMonths calP1 (fun i it hi n' H' hH' => by
      obtain ⟨v, hv1, rfl⟩ := map_at hi
      have := a1 v (List.mem_of_getElem? hv1)
      exact print1_at r hH' i v hv1 (by omega)) (fun it hit => by
      obtain ⟨v, hv1, rfl⟩ := List.mem_map.1 hit
      have := a1 v hv1
      have := itoa_le (v := v) (by omega); omega) (by have := hr.mo; simp; omega) (by simp)
    rw [List.length_map] at s1
    refine ⟨_, s1, ?_⟩
    rintro rr n1 H1 hn1 hs1 ⟨rfl, P1⟩
    dsimp only at hn1
    have r1 := P1.hr
    have q1 : (wordsL wMonths (r.months.map Lib.itoa)).length ≤ 2 := by unfold wordsL; split <;> simp
    have q2 : (wordsL wDays (r.mdays.map Lib.itoa)).length ≤ 2 := by unfold wordsL; split <;> simp
    have q3 : (wordsL wOn (r.wdays.map wdT)).length ≤ 2 := by unfold wordsL; split <;> simp
    have q4 : (wordsL wPicks (r.picks.map Lib.itoa)).length ≤ 2 := by unfold wordsL; split <;> simp
    generalize hL1 : [wEvery, Lib.itoa r.step, un] ++ wordsL wMonths (List.map Lib.itoa r.months) = L1 at P1
    have hl1 : L1.length ≤ 5 := by rw [← hL1]; simp only [List.length_append, List.length_cons, List.length_nil]; omega
    repeat' (first | (simp -implicitDefEqProofs [c17_k1_go, c17_k2_go, c17_k3_go, c17_L4_go, c17_k5_go, c17, -getElem?_pos, r1]) | (simp (disch := omega) only [upd_ne, Qy, if_pos, if_neg, IntWalk.i64_in, Int.tdiv_eq_ediv_of_nonneg, Int.tmod_eq_emod_of_nonneg]) | (with_reducible refine fin_r ?_ ?_ ?_) | (with_reducible exact SameB.rfl_ _ _) | (with_reducible refine SameB.upd ?_ ?_ _) | (with_reducible assumption) | (with_reducible refine newPM_of ?_) | (with_reducible refine newSM_of ?_) | (with_reducible refine newP_go ?_) | (with_reducible refine newS_go ?_) | (with_reducible intro _g _hg) | (with_reducible refine And.intro ?_ ?_) | (with_reducible intro _hc) | omega)
    have s2 := P1.step (n := n1) (by omega) 50 (r.mdays.map Lib.itoa) wDays calP2 (fun i it hi n' H' hH' => by
      obtain ⟨v, hv1, rfl⟩ := map_at hi
      have := a2 v (List.mem_of_getElem? hv1)
      exact print2_at r hH' i v hv1 (by omega)) (fun it hit => by
      obtain ⟨v, hv1, rfl⟩ := List.mem_map.1 hit
      have := a2 v hv1
      have := itoa_le (v := v) (by omega); omega) (by have := hr.md; simp; omega) (by omega)
    rw [List.length_map] at s2
    refine ⟨_, s2, ?_⟩
    rintro rr n2 H2 hn2 hs2 ⟨rfl, P2⟩
    dsimp only at hn2
    have r2 := P2.hr
    generalize hL2 : L1 ++ wordsL wDays (List.map Lib.itoa r.mdays) = L2 at P2
    have hl2 : L2.length ≤ 7 := by rw [← hL2]; simp only [List.length_append, List.length_cons, List.length_nil]; omega
    repeat' (first | (simp -implicitDefEqProofs [c17_k1_go, c17_k2_go, c17_k3_go, c17_L4_go, c17_k5_go, c17, -getElem?_pos, r2]) | (simp (disch := omega) only [upd_ne, Qy, if_pos, if_neg, IntWalk.i64_in, Int.tdiv_eq_ediv_of_nonneg, Int.tmod_eq_emod_of_nonneg]) | (with_reducible refine fin_r ?_ ?_ ?_) | (with_reducible exact SameB.rfl_ _ _) | (with_reducible refine SameB.upd ?_ ?_ _) | (with_reducible assumption) | (with_reducible refine newPM_of ?_) | (with_reducible refine newSM_of ?_) | (with_reducible refine newP_go ?_) | (with_reducible refine newS_go ?_) | (with_reducible intro _g _hg) | (with_reducible refine And.intro ?_ ?_) | (with_reducible intro _hc) | omega)
    have s3 := P2.step (n := n2) (by omega) 51 (r.wdays.map wdT) wOn calP3 (fun i it hi n' H' hH' => by
      obtain ⟨v, hv1, rfl⟩ := map_at hi
      have := a3 v (List.mem_of_getElem? hv1)
      exact print3_at r hH' i v hv1 (by omega)) (fun it hit => by
      obtain ⟨v, hv1, rfl⟩ := List.mem_map.1 hit
      have := a3 v hv1
      have := wdT_le (w := v) (by omega); omega) (by have := hr.wl; simp; omega) (by omega)
    rw [List.length_map] at s3
    refine ⟨_, s3, ?_⟩
    rintro rr n3 H3 hn3 hs3 ⟨rfl, P3⟩
    dsimp only at hn3
    have r3 := P3.hr
    generalize hL3 : L2 ++ wordsL wOn (List.map wdT r.wdays) = L3 at P3
    have hl3 : L3.length ≤ 9 := by rw [← hL3]; simp only [List.length_append, List.length_cons, List.length_nil]; omega
    repeat' (first | (simp -implicitDefEqProofs [c17_k1_go, c17_k2_go, c17_k3_go, c17_L4_go, c17_k5_go, c17, -getElem?_pos, r3]) | (simp (disch := omega) only [upd_ne, Qy, if_pos, if_neg, IntWalk.i64_in, Int.tdiv_eq_ediv_of_nonneg, Int.tmod_eq_emod_of_nonneg]) | (with_reducible refine fin_r ?_ ?_ ?_) | (with_reducible exact SameB.rfl_ _ _) | (with_reducible refine SameB.upd ?_ ?_ _) | (with_reducible assumption) | (with_reducible refine newPM_of ?_) | (with_reducible refine newSM_of ?_) | (with_reducible refine newP_go ?_) | (with_reducible refine newS_go ?_) | (with_reducible intro _g _hg) | (with_reducible refine And.intro ?_ ?_) | (with_reducible intro _hc) | omega)
    have s4 := P3.step (n := n3) (by omega) 53 (r.picks.map Lib.itoa) wPicks calP4 (fun i it hi n' H' hH' => by
      obtain ⟨v, hv1, rfl⟩ := map_at hi
      have := a4 v (List.mem_of_getElem? hv1)
      exact print4_at r hH' i v hv1 (by omega)) (fun it hit => by
      obtain ⟨v, hv1, rfl⟩ := List.mem_map.1 hit
      have := a4 v hv1
      have := itoa_le (v := v) (by omega); omega) (by have := hr.pl; simp; omega) (by omega)
    rw [List.length_map] at s4
    refine ⟨_, s4, ?_⟩
    rintro rr n4 H4 hn4 hs4 ⟨rfl, P4⟩
    dsimp only at hn4
    have r4 := P4.hr
    generalize hL4 : L3 ++ wordsL wPicks (List.map Lib.itoa r.picks) = L4 at P4
    have hl4 : L4.length ≤ 11 := by rw [← hL4]; simp only [List.length_append, List.length_cons, List.length_nil]; omega
    have hW4 : W = L4 ++ restT r 0 := by rw [hW, ← hL4, ← hL3, ← hL2, ← hL1]; rfl
    repeat' (first | (simp -implicitDefEqProofs [c17_k1_go, c17_k2_go, c17_k3_go, c17_L4_go, c17_k5_go, c17, -getElem?_pos, r4]) | (simp (disch := omega) only [upd_ne, Qy, if_pos, if_neg, IntWalk.i64_in, Int.tdiv_eq_ediv_of_nonneg, Int.tmod_eq_emod_of_nonneg]) | (with_reducible refine fin_r ?_ ?_ ?_) | (with_reducible exact SameB.rfl_ _ _) | (with_reducible refine SameB.upd ?_ ?_ _) | (with_reducible assumption) | (with_reducible refine newPM_of ?_) | (with_reducible refine newSM_of ?_) | (with_reducible refine newP_go ?_) | (with_reducible refine newS_go ?_) | (with_reducible intro _g _hg) | (with_reducible refine And.intro ?_ ?_) | (with_reducible intro _hc) | omega)
    rename_i g5 hg5
    have hc0 := hr.ct
    have hu0 := hr.ut
    have hct := itoa_a r.count (by omega)
    have hut := itoa_a r.untl (by omega)
    have hP5 : PI n H gr g3 g5 r L4 (upd H4 _g (some (.row 70 2))) := P4.keep (n := n4) hs4 (by omega) fun k hk => upd_ne (by omega)
    have hsup5 : ∀ k, _g + 1 ≤ k → (upd H4 _g (some (.row 70 2))) k = none := fun k hk => by rw [upd_ne (by omega)]; exact hs4 k (by omega)
    have hn5 : n ≤ _g + 1 := by omega
    generalize (upd H4 _g (some (.row 70 2))) = H5 at hP5 hsup5 ⊢
    obtain ⟨E, hE⟩ : ∃ E : List AV, E = [.agg [.str [99, 111, 117, 110, 116], aI r.count], .agg [.str [117, 110, 116, 105, 108], aI r.untl]] := ⟨_, rfl⟩
    rw [← hE]
    refine LoopK.go (fun q s => ∃ (k n' : Nat) (H' : AHeap) (l' : List Str), k + q = 2 ∧ s = ⟨[(3, .ptr g3 0), (5, .ptr g5 0), (56, .sl 2 E (.own _g)), (57, aI 2), (58, aI k)], n', H'⟩ ∧ PI n H gr g3 g5 r l' H' ∧ n ≤ n' ∧ (∀ j, n' ≤ j → H' j = none) ∧ W = l' ++ restT r k ∧ l'.length ≤ 11 + 2 * k) 2 ⟨0, _, _, L4, by omega, rfl, hP5, hn5, hsup5, hW4, by omega⟩ ?_
    rintro q s ⟨k, n', H', l', hkq, rfl, P, hle, hsup, hWk, hlk⟩ J hJ
    obtain ⟨x, hx, ho⟩ := P.ex
    have l5 := upd_cells hsup hx
    have nx5 := own_not ho hx
    by_cases hk : k < 2
    · obtain ⟨word, v, hEk, hv, hnext, hiv⟩ : ∃ (word : Str) (v : Int), E[k]? = some (.agg [.str word, aI v]) ∧ (-100000000 ≤ v ∧ v ≤ 100000000) ∧ restT r k = numT word v ++ restT r (k + 1) ∧ APure Tryz.prog 46 [.int .i64 v] (.str (Lib.itoa v)) := by
        have hk01 : k = 0 ∨ k = 1 := by omega
        rcases hk01 with rfl | rfl
        · exact ⟨wCount, r.count, by rw [hE]; rfl, by omega, rfl, hct⟩
        · exact ⟨wUntil, r.untl, by rw [hE]; rfl, by omega, by simp [restT], hut⟩
      have hiE : (E[k]?).isSome := by rw [hEk]; rfl
      
      by_cases hv0 : v = 0
      · have e0 : numT word v = [] := by unfold numT; rw [if_pos hv0]
        rw [e0] at hnext
        subst hv0
        repeat' (first | (simp -implicitDefEqProofs [c17_k1_go, c17_k2_go, c17_k3_go, c17_L4_go, c17_k5_go, c17, -getElem?_pos, hEk, splice]) | (simp (disch := omega) only [upd_ne, Qy, if_pos, if_neg, IntWalk.i64_in, Int.tdiv_eq_ediv_of_nonneg, Int.tmod_eq_emod_of_nonneg]) | (with_reducible refine fin_r ?_ ?_ ?_) | (with_reducible exact SameB.rfl_ _ _) | (with_reducible refine SameB.upd ?_ ?_ _) | (with_reducible assumption) | (with_reducible refine newPM_of ?_) | (with_reducible refine newSM_of ?_) | (with_reducible refine newP_go ?_) | (with_reducible refine newS_go ?_) | (with_reducible intro _g _hg) | (with_reducible refine And.intro ?_ ?_) | (with_reducible intro _hc) | omega)
        refine hJ (q - 1) _ (by omega) ⟨k + 1, _, _, l', by omega, rfl, P.keep (n := n') hsup hle (fun j hj => by simp (disch := omega) only [upd_ne]), by omega, fun j hj => by simp (disch := omega) only [upd_ne]; exact hsup j (by omega), by rw [hWk, hnext]; rfl, by omega⟩
      · have e0 : numT word v = [word, Lib.itoa v] := by unfold numT; rw [if_neg hv0]
        rw [e0] at hnext
        repeat' (first | (simp -implicitDefEqProofs [c17_k1_go, c17_k2_go, c17_k3_go, c17_L4_go, c17_k5_go, c17, -getElem?_pos, hEk, splice, hv0, hx]) | (simp (disch := omega) only [upd_ne, Qy, if_pos, if_neg, IntWalk.i64_in, Int.tdiv_eq_ediv_of_nonneg, Int.tmod_eq_emod_of_nonneg]) | ((with_reducible refine CallP.chk (f := 46) ?_); (refine' CallP.sf ?_ (hiv) ?_); (focus first | (with_reducible exact simL_refl _) | (simp [simL, simA, simA_refl, simL_refl]; done))) | (with_reducible refine fin_r ?_ ?_ ?_) | (with_reducible exact SameB.rfl_ _ _) | (with_reducible refine SameB.upd ?_ ?_ _) | (with_reducible assumption) | (with_reducible refine newPM_of ?_) | (with_reducible refine newSM_of ?_) | (with_reducible refine newP_go ?_) | (with_reducible refine newS_go ?_) | (with_reducible intro _g _hg) | (with_reducible refine And.intro ?_ ?_) | (with_reducible intro _hc) | omega)
        rename_i g7 hg7
        have hlow1 : ∀ j, j < n' → (upd (upd (upd H' g7 (some (.cells 70 [.str [], aI 0]))) g7 (some (.cells 70 [.str word, aI v]))) _g (some (.row 9 2))) j = H' j := fun j hj => by simp (disch := omega) only [upd_ne]
        have hs6 : ∀ j, _g + 1 ≤ j → (upd (upd (upd H' g7 (some (.cells 70 [.str [], aI 0]))) g7 (some (.cells 70 [.str word, aI v]))) _g (some (.row 9 2))) j = none := fun j hj => by simp (disch := omega) only [upd_ne]; exact hsup j (by omega)
        generalize (upd (upd (upd H' g7 (some (.cells 70 [.str [], aI 0]))) g7 (some (.cells 70 [.str word, aI v]))) _g (some (.row 9 2))) = H6 at hlow1 hs6 ⊢
        have lr := upd_cells hsup P.hr
        have l3 := upd_cells hsup P.h3
        have hx1 : OwnS 0 H6 9 1 x (aStrs l') := (ho.low (Nat.zero_le _)).keep fun k e m hkk => by
          have : k < n' := by rcases Nat.lt_or_ge k n' with h | h; exact h; rw [hsup k h] at hkk; cases hkk
          rw [hlow1 k this]; exact hkk
        refine app_low (.inl rfl) (simL_refl _) hs6 hx1 (by simp; omega) (by simp [maxLen]; omega) fun x' n2 H2 ho2 hs2 hlow hnr hle2 => ?_
        obtain ⟨g2, rfl, hg2⟩ := own_some ho2 (by simp)
        obtain ⟨b1, b2, b3, b4, b5⟩ := P.b
        have hg5' : H2 g5 = some (.cells 68 [x]) := by rw [hlow g5 (by omega) nx5, hlow1 g5 l5]; exact hx
        repeat' (first | (simp -implicitDefEqProofs [c17_k1_go, c17_k2_go, c17_k3_go, c17_L4_go, c17_k5_go, c17, -getElem?_pos, hg5', splice]) | (simp (disch := omega) only [upd_ne, Qy, if_pos, if_neg, IntWalk.i64_in, Int.tdiv_eq_ediv_of_nonneg, Int.tmod_eq_emod_of_nonneg]) | (with_reducible refine fin_r ?_ ?_ ?_) | (with_reducible exact SameB.rfl_ _ _) | (with_reducible assumption) | (with_reducible refine newPM_of ?_) | (with_reducible refine newSM_of ?_) | (with_reducible refine newP_go ?_) | (with_reducible refine newS_go ?_) | (with_reducible intro _g _hg) | (with_reducible refine And.intro ?_ ?_) | (with_reducible intro _hc) | omega)
        refine hJ (q - 1) _ (by omega) ⟨k + 1, n2, _, l' ++ [word, Lib.itoa v], by omega, rfl, ⟨P.b, ?_, ?_, ⟨_, Qy _ _ _, ?_⟩, fun j hj => ?_⟩, by omega, fun j hj => by rw [upd_ne (by omega)]; exact hs2 j hj, by rw [hWk, hnext, List.append_assoc], by simp; omega⟩
        · rw [upd_ne b4, hlow gr (by omega) (own_not ho P.hr), hlow1 gr lr]; exact P.hr
        · rw [upd_ne b5, hlow g3 (by omega) (own_not ho P.h3), hlow1 g3 l3]; exact P.h3
        · have h7 := ho2.high (n := n) fun j hj => hnr j (by omega) (own_low ho hj)
          have e9 : aStrs (l' ++ [word, Lib.itoa v]) = l'.map AV.str ++ [.str word, .str (Lib.itoa v)] := by simp
          rw [e9]
          refine h7.keep fun j e m hkk => ?_
          rw [upd_ne (fun e' => by subst e'; rw [hg5'] at hkk; cases hkk)]; exact hkk
        · rw [upd_ne (by omega), hlow j (by omega) (own_low ho hj), hlow1 j (by omega)]; exact P.same j hj
    · have hk2 : k = 2 := by omega
      subst hk2
      simp only [restT, List.append_nil] at hWk
      rw [hWk] at hj ⊢
      have hj2 := hj
      have hS := P.same
      have hsx := ho.sim (simL_refl _)
      have h3' := P.h3
      obtain ⟨b1, b2, b3, b4, b5⟩ := P.b
      
      repeat' (first | (simp -implicitDefEqProofs [c17_k1_go, c17_k2_go, c17_k3_go, c17_L4_go, c17_k5_go, c17, -getElem?_pos, hx, h3', splice]) | (simp (disch := omega) only [upd_ne, Qy, if_pos, if_neg, IntWalk.i64_in, Int.tdiv_eq_ediv_of_nonneg, Int.tmod_eq_emod_of_nonneg]) | ((with_reducible refine CallP.chk (f := 54) ?_); (refine' CallP.sf ?_ (hj) ?_); (focus first | (with_reducible exact simL_refl _) | (simp [simL, simA, simA_refl, simL_refl]; done))) | (with_reducible refine fin_r ?_ ?_ ?_) | (with_reducible exact SameB.rfl_ _ _) | (with_reducible assumption) | (with_reducible refine newPM_of ?_) | (with_reducible refine newSM_of ?_) | (with_reducible refine newP_go ?_) | (with_reducible refine newS_go ?_) | (with_reducible intro _g _hg) | (with_reducible refine And.intro ?_ ?_) | (with_reducible intro _hc) | omega)
      refine CallP.of hj (simL_cons hsx (simL_refl _)) ?_
      repeat' (first | (simp -implicitDefEqProofs [c17_k1_go, c17_k2_go, c17_k3_go, c17_L4_go, c17_k5_go, c17, -getElem?_pos, hx, h3', splice]) | (simp (disch := omega) only [upd_ne, Qy, if_pos, if_neg, IntWalk.i64_in, Int.tdiv_eq_ediv_of_nonneg, Int.tmod_eq_emod_of_nonneg]) | (with_reducible refine fin_r ?_ ?_ ?_) | (with_reducible exact SameB.rfl_ _ _) | (with_reducible assumption) | (with_reducible refine newPM_of ?_) | (with_reducible refine newSM_of ?_) | (with_reducible refine newP_go ?_) | (with_reducible refine newS_go ?_) | (with_reducible intro _g _hg) | (with_reducible refine And.intro ?_ ?_) | (with_reducible intro _hc) | omega)
      all_goals first | exact simA_refl _ | exact hS.upd (by omega) _ | omega
  · have e : printV r = ([], ruleF r) := by unfold printV; rw [if_pos h]
    rw [e]
    refine apure_intro Tryz.func17 cmp17 rfl fun n H hH => ?_
    repeat' (first | (simp -implicitDefEqProofs [c17_k1_go, c17_k2_go, c17_k3_go, c17_L4_go, c17_k5_go, c17, -getElem?_pos, splice, h]) | (simp (disch := omega) only [upd_ne, Qy, if_pos, if_neg, IntWalk.i64_in, Int.tdiv_eq_ediv_of_nonneg, Int.tmod_eq_emod_of_nonneg]) | ((with_reducible refine CallP.chk (f := 8) ?_); (refine' CallP.sf ?_ (hv) ?_); (focus first | (with_reducible exact simL_refl _) | (simp [simL, simA, simA_refl, simL_refl]; done))) | (with_reducible refine fin_r ?_ ?_ ?_) | (with_reducible exact SameB.rfl_ _ _) | (with_reducible refine SameB.upd ?_ ?_ _) | (with_reducible assumption) | (with_reducible refine newPM_of ?_) | (with_reducible refine newSM_of ?_) | (with_reducible refine newP_go ?_) | (with_reducible refine newS_go ?_) | (with_reducible intro _g _hg) | (with_reducible refine And.intro ?_ ?_) | (with_reducible intro _hc) | omega)
    all_goals exact simA_refl _
end Go.Proofs.YtecpfmhminkalaaGreatDoor
namespace Go.Proofs.YtecpfmhminkalaaGreatDoor
theorem simL_nil0 : simL [] [] := rfl
theorem simA_sl0 {z : Nat} {l l' : List AV} {t : Tok} (h : simL l l') : simA (.sl z l t) (.sl z l' .ro) := ⟨_, _, _, rfl, .inl rfl, .inl rfl, h⟩
abbrev r0 : Rule := ⟨3, 1, [], [-1], [], [], 0, 0⟩
theorem rule0 : ruleF r0 = (0, 0) := by decide
theorem last0 : lastF r0 1 = 20001 := by decide
theorem list0 : listF r0 1 3 = [31, 59, 90] := by
  have h1 : (giveF r0.count 1 (lastF r0 1) (nxL 3) (dF r0 1 4) 0 []).2.2 = false := by rw [last0]; decide +kernel
  have h2 : (giveF r0.count 1 (lastF r0 1) (nxL 3) (dF r0 1 4) 0 []).2.1 = [31, 59, 90] := by rw [last0]; decide +kernel
  have h3 := each_run (r := r0) (s := 1) (nx := nxL 3) (t := []) (K := 4) (by decide) (fun h => by rw [h1] at h; cases h)
  rw [h2, run_list 3 _ [] (by simp)] at h3
  simp only [List.nil_append, List.length_nil, Nat.sub_zero] at h3
  show List.take 3 _ = _
  exact h3.symm
theorem next0 : nextF r0 1 31 = 59 := by
  have h1 : (giveF r0.count 1 (lastF r0 1) (nxN 31) (dF r0 1 4) 0 0).2.2 = false := by rw [last0]; decide +kernel
  have h2 : (giveF r0.count 1 (lastF r0 1) (nxN 31) (dF r0 1 4) 0 0).2.1 = 59 := by rw [last0]; decide +kernel
  have h3 := each_run (r := r0) (s := 1) (nx := nxN 31) (t := 0) (K := 4) (by decide) (fun h => by rw [h1] at h; cases h)
  rw [h2, run_next 31 _ (fun x hx => by have := all_mem ((cut_sub r0 _).subset hx); omega)] at h3
  unfold nextF
  exact h3.symm
theorem print0 : Lib.join (printW r0) [32] = [101, 118, 101, 114, 121, 32, 49, 32, 109, 111, 110, 116, 104, 32, 100, 97, 121, 115, 32, 45, 49] := by decide +kernel
attribute [local simp] YL Z7 Z9 YM YN YO YP Z8 Z3 Z5 Z4 YQ YR YS YT YU YV YW YX YY YZ Ya Yb Yc Yd scV pe Ye Yf Yg Yh Yi Yj Yk Yl Ym Yn Yo spg_mv Yp Yq Yr Ys Yt Yu Yv Yw Yx Yy Yz X0 X1 X2 X3 X4 X5 X6 X7 X8 X9 spg_mm XA YD XB XC XD XE XF XG XH XI XJ XK XL XM XN XO XP XQ XR XS XT XU XV XW XX XY XZ YC Xa Xb Xc Xd Xe Xf Xg Xh Xi Xj Xk Xl Xm Xn Xo Xp Xq Xr Xs Xt Xu Xv Xw Xx List.mem_cons ZO ZN Z1 YG Zu Xy Zi Zr Zn Zp Zq Zo Zv Zw Zm Xz Q0 Zl Q1 Q2 Q4 Q5 Q6 Q7 Zs Q8 Q9 QA QB QC QD Zt Zh Zx Y1 Y2 QE QF Y3 QG Zj QH Zk Zg QI Zy Zz QJ QK QM QN QO QP QR QS Zd ZK ZI Zc Zf ZH ZM YB Z0 QT ZV ZL Ze ZC ZZ ZA Y5 ZJ Y8 Y9 Zb ZY ZU ZX Za ZT ZD ev get put Y4 ZS QU QV QW QX QY QZ ZE part ZW Qb Qc Qd isNil ZR ZQ ZB ZP YE Qe Qf Qg Qh Qi Qj Qk Ql Qm Qn Qo Qp Qq Qr Qs Qt AV.fits AV.cells ones AV.one YH YI YJ YK ZF ZG Qu Qv Qw Qx Y6 Y7 resV Z2 Qy YA u8e YF Qz V0 List.getElem?_cons_zero List.getElem?_cons_succ
theorem ints_a (l m : List Int) (hmx : l.length ≤ 1000000000) : APure Tryz.prog 14 [aL l, aL m] (.bool (decide (l = m))) := by
  refine apure_intro Tryz.func14 cmp14 rfl fun n H hH => ?_
  by_cases hl : l.length = m.length
  · repeat' (first | (simp -implicitDefEqProofs [c14_k1_go, c14_k2_go, c14_k3_go, c14_L4_go, c14_k5_go, c14, -getElem?_pos, simA, hl]) | (simp (disch := omega) only [upd_ne, Qy, if_pos, if_neg, IntWalk.i64_in, Int.tdiv_eq_ediv_of_nonneg, Int.tmod_eq_emod_of_nonneg]) | (with_reducible refine fin_r ?_ ?_ ?_) | (with_reducible exact SameB.rfl_ _ _) | (with_reducible refine SameB.upd ?_ ?_ _) | (with_reducible assumption) | (with_reducible intro _g _hg) | (with_reducible refine And.intro ?_ ?_) | (with_reducible intro _hc) | omega)
    refine LoopK.go (fun q s => ∃ (k : Nat), k + q = l.length ∧ s = ⟨[(0, aL l), (1, aL m), (5, aI k)], n, H⟩ ∧ l.take k = m.take k) l.length ⟨0, by omega, rfl, by simp⟩ ?_
    rintro q s ⟨k, hkm, rfl, hE⟩ J hJ
    by_cases hk : k < l.length
    · obtain ⟨y, hy⟩ : ∃ y, l[k]? = some y := ⟨_, List.getElem?_eq_getElem hk⟩
      obtain ⟨z, hz⟩ : ∃ z, m[k]? = some z := ⟨_, List.getElem?_eq_getElem (by omega)⟩
      by_cases hyz : y = z
      · subst hyz
        repeat' (first | (simp -implicitDefEqProofs [c14_k1_go, c14_k2_go, c14_k3_go, c14_L4_go, c14_k5_go, c14, -getElem?_pos, simA, hy, hz]) | (simp (disch := omega) only [upd_ne, Qy, if_pos, if_neg, IntWalk.i64_in, Int.tdiv_eq_ediv_of_nonneg, Int.tmod_eq_emod_of_nonneg]) | (with_reducible refine fin_r ?_ ?_ ?_) | (with_reducible exact SameB.rfl_ _ _) | (with_reducible refine SameB.upd ?_ ?_ _) | (with_reducible assumption) | (with_reducible intro _g _hg) | (with_reducible refine And.intro ?_ ?_) | (with_reducible intro _hc) | omega)
        all_goals exact hJ (q - 1) _ (by omega) ⟨k + 1, by omega, rfl, by rw [take_at hy, take_at hz, hE]⟩
      · have hne : decide (l = m) = false := by
          simp only [decide_eq_false_iff_not]
          rintro rfl
          rw [hy] at hz; injection hz with hz; exact hyz hz
        rw [hne]
        repeat' (first | (simp -implicitDefEqProofs [c14_k1_go, c14_k2_go, c14_k3_go, c14_L4_go, c14_k5_go, c14, -getElem?_pos, simA, hy, hz, hyz]) | (simp (disch := omega) only [upd_ne, Qy, if_pos, if_neg, IntWalk.i64_in, Int.tdiv_eq_ediv_of_nonneg, Int.tmod_eq_emod_of_nonneg]) | (with_reducible refine fin_r ?_ ?_ ?_) | (with_reducible exact SameB.rfl_ _ _) | (with_reducible refine SameB.upd ?_ ?_ _) | (with_reducible assumption) | (with_reducible intro _g _hg) | (with_reducible refine And.intro ?_ ?_) | (with_reducible intro _hc) | omega)
    · have hk0 : k = l.length := by omega
      subst hk0
      have e : l = m := by rw [List.take_length, hl, List.take_length] at hE; exact hE
      subst e
      repeat' (first | (simp -implicitDefEqProofs [c14_k1_go, c14_k2_go, c14_k3_go, c14_L4_go, c14_k5_go, c14, -getElem?_pos, simA]) | (simp (disch := omega) only [upd_ne, Qy, if_pos, if_neg, IntWalk.i64_in, Int.tdiv_eq_ediv_of_nonneg, Int.tmod_eq_emod_of_nonneg]) | (with_reducible refine fin_r ?_ ?_ ?_) | (with_reducible exact SameB.rfl_ _ _) | (with_reducible refine SameB.upd ?_ ?_ _) | (with_reducible assumption) | (with_reducible intro _g _hg) | (with_reducible refine And.intro ?_ ?_) | (with_reducible intro _hc) | omega)
  · have hne : decide (l = m) = false := by
      simp only [decide_eq_false_iff_not]
      rintro rfl; exact hl rfl
    rw [hne]
    repeat' (first | (simp -implicitDefEqProofs [c14_k1_go, c14_k2_go, c14_k3_go, c14_L4_go, c14_k5_go, c14, -getElem?_pos, simA, hl]) | (simp (disch := omega) only [upd_ne, Qy, if_pos, if_neg, IntWalk.i64_in, Int.tdiv_eq_ediv_of_nonneg, Int.tmod_eq_emod_of_nonneg]) | (with_reducible refine fin_r ?_ ?_ ?_) | (with_reducible exact SameB.rfl_ _ _) | (with_reducible refine SameB.upd ?_ ?_ _) | (with_reducible assumption) | (with_reducible intro _g _hg) | (with_reducible refine And.intro ?_ ?_) | (with_reducible intro _hc) | omega)
set_option maxHeartbeats 4000000 in
theorem recurred_a : APure Tryz.prog 13 [] (.bool true) := by
  have h1 := list_a 1 r0 3
  have h2 := next_a 1 r0 31
  have h3 := print_a r0
  have c0 : checkF 1 r0 = (0, 0) := by unfold checkF; rw [rule0]; rfl
  have e1 : listV 1 r0 3 = ([31, 59, 90], (0, 0)) := by unfold listV; rw [c0, list0]; rfl
  have e2 : nextV 1 r0 31 = (59, true, (0, 0)) := by unfold nextV; rw [c0, next0]; rfl
  have e3 : printV r0 = ([101, 118, 101, 114, 121, 32, 49, 32, 109, 111, 110, 116, 104, 32, 100, 97, 121, 115, 32, 45, 49], (0, 0)) := by unfold printV; rw [rule0, print0]; rfl
  have hi := ints_a [31, 59, 90] [31, 59, 90] (by decide)
  rw [e1] at h1
  rw [e2] at h2
  rw [e3] at h3
  simp only [decide_true] at hi
  simp only [aR, aRc, aL, aWs, List.map_nil, List.map_cons] at h1 h2 h3 hi
  refine apure_intro Tryz.func13 cmp13 rfl fun n H hH => ?_
  repeat' (first | (simp -implicitDefEqProofs [c13, -getElem?_pos, splice]) | (simp (disch := omega) only [upd_ne, Qy, if_pos, if_neg, IntWalk.i64_in, Int.tdiv_eq_ediv_of_nonneg, Int.tmod_eq_emod_of_nonneg]) | ((with_reducible refine CallP.chk (f := 7) ?_); (refine' CallP.sf ?_ (h1) ?_); (focus first | (with_reducible exact simL_refl _) | (simp [simL, simA, simA_refl, simL_refl]; done) | ((repeat (first | (with_reducible exact simA_refl _) | (exact simL_nil0) | (refine simL_cons ?_ ?_) | (exact simA_nil) | (refine simA_sl0 ?_) | (refine simA_agg ?_))); done))) | ((with_reducible refine CallP.chk (f := 16) ?_); (refine' CallP.sf ?_ (h2) ?_); (focus first | (with_reducible exact simL_refl _) | (simp [simL, simA, simA_refl, simL_refl]; done) | ((repeat (first | (with_reducible exact simA_refl _) | (exact simL_nil0) | (refine simL_cons ?_ ?_) | (exact simA_nil) | (refine simA_sl0 ?_) | (refine simA_agg ?_))); done))) | ((with_reducible refine CallP.chk (f := 17) ?_); (refine' CallP.sf ?_ (h3) ?_); (focus first | (with_reducible exact simL_refl _) | (simp [simL, simA, simA_refl, simL_refl]; done) | ((repeat (first | (with_reducible exact simA_refl _) | (exact simL_nil0) | (refine simL_cons ?_ ?_) | (exact simA_nil) | (refine simA_sl0 ?_) | (refine simA_agg ?_))); done))) | ((with_reducible refine CallP.chk (f := 14) ?_); (refine' CallP.sf ?_ (hi) ?_); (focus first | (with_reducible exact simL_refl _) | (simp [simL, simA, simA_refl, simL_refl]; done) | ((repeat (first | (with_reducible exact simA_refl _) | (exact simL_nil0) | (refine simL_cons ?_ ?_) | (exact simA_nil) | (refine simA_sl0 ?_) | (refine simA_agg ?_))); done))) | (with_reducible refine fin_r ?_ ?_ ?_) | (with_reducible exact SameB.rfl_ _ _) | (with_reducible refine SameB.upd ?_ ?_ _) | (with_reducible assumption) | (with_reducible refine newPM_of ?_) | (with_reducible refine newSM_of ?_) | (with_reducible refine newP_go ?_) | (with_reducible refine newS_go ?_) | (with_reducible intro _g _hg) | (with_reducible refine And.intro ?_ ?_) | (with_reducible intro _hc) | omega)
  all_goals exact simA_refl _
end Go.Proofs.YtecpfmhminkalaaGreatDoor

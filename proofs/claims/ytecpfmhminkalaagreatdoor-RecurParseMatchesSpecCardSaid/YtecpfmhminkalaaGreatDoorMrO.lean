/- Numbers and lists as the reference writes them; no condition. -/
import Derived.Test.YtecpfmhminkalaaGreatDoorMrL
import Derived.Test.YtecpfmhminkalaaGreatDoorAdH
set_option linter.all false
set_option linter.unusedSimpArgs false
set_option linter.unusedVariables false
namespace Go.Proofs.YtecpfmhminkalaaGreatDoor
theorem digit_enc : ∀ d : Fin 10, (Utf8.encode (48 + (d.val : Int))).data.toList = [UInt8.ofNat (48 + d.val)] := by decide +kernel
theorem digit_enc' {d : Nat} (h : d < 10) : (Utf8.encode (48 + (d : Int))).data.toList = [UInt8.ofNat (48 + d)] := by
  have e := digit_enc ⟨d, h⟩
  simp only at e
  exact e
theorem decDigits_len (k : Nat) : (Lib.decDigits k).length ≤ k + 1 := by
  rw [Lib.decDigits_length]
  induction k using Nat.strongRecOn with
  | _ m ih =>
    by_cases c : m < 10
    · rw [Lib.nDigits_small c]; omega
    · rw [Lib.nDigits_big c]; have := ih (m / 10) (by omega); omega
theorem strAdd_ok {a b : Str} (h : a.length + b.length ≤ 9000000000000000000) : YE .add a b = some (.str (a ++ b)) := by
  simp only [YE]
  rw [if_neg]
  have : IntKind.i64.max = 9223372036854775807 := by decide
  rw [this]; omega
attribute [local simp] YL Z7 Z9 YM YN YO YP Z8 Z3 Z5 Z4 YQ YR YS YT YU YV YW YX YY YZ Ya Yb Yc Yd scV pe Ye Yf Yg Yh Yi Yj Yk Yl Ym Yn Yo spg_mv Yp Yq Yr Ys Yt Yu Yv Yw Yx Yy Yz X0 X1 X2 X3 X4 X5 X6 X7 X8 X9 spg_mm XA YD XB XC XD XE XF XG XH XI XJ XK XL XM XN XO XP XQ XR XS XT XU XV XW XX XY XZ YC Xa Xb Xc Xd Xe Xf Xg Xh Xi Xj Xk Xl Xm Xn Xo Xp Xq Xr Xs Xt Xu Xv Xw Xx List.mem_cons ZO ZN Z1 YG Zu Xy Zi Zr Zn Zp Zq Zo Zv Zw Zm Xz Q0 Zl Q1 Q2 Q4 Q5 Q6 Q7 Zs Q8 Q9 QA QB QC QD Zt Zh Zx Y1 Y2 QE QF Y3 QG Zj QH Zk Zg QI Zy Zz QJ QK QM QN QO QP QR QS Zd ZK ZI Zc Zf ZH ZM YB Z0 QT ZV ZL Ze ZC ZZ ZA Y5 ZJ Y8 Y9 Zb ZY ZU ZX Za ZT ZD ev get put Y4 ZS QU QV QW QX QY QZ ZE part ZW Qb Qc Qd isNil ZR ZQ ZB ZP YE Qe Qf Qg Qh Qi Qj Qk Ql Qm Qn Qo Qp Qq Qr Qs Qt AV.fits AV.cells ones AV.one YH YI YJ YK ZF ZG Qu Qv Qw Qx Y6 Y7 resV Z2 Qy YA u8e YF Qz V0 List.getElem?_cons_zero List.getElem?_cons_succ
theorem decimal_lo (k : Nat) (c : k < 10) : APure Tryz.prog 57 [aI k] (.str [UInt8.ofNat (48 + k)]) := by
  have he := digit_enc' c
  have hw : IntKind.i32.wrap (48 + (k : Int)) = 48 + (k : Int) := IntWalk.i32_in _ (by omega)
  refine apure_intro Tryz.func57 cmp57 rfl fun n H hH => ?_
  repeat' (first | (simp -implicitDefEqProofs [c57_k1_go, c57_k2_go, c57_k3_go, c57_t4_go, c57, -getElem?_pos, simA, hw, he]) | (simp (disch := omega) only [upd_ne, Qy, if_pos, if_neg, IntWalk.i64_in, Int.tdiv_eq_ediv_of_nonneg, Int.tmod_eq_emod_of_nonneg]) | (with_reducible refine fin_r ?_ ?_ ?_) | (with_reducible exact SameB.rfl_ _ _) | (with_reducible refine SameB.upd ?_ ?_ _) | (with_reducible assumption) | (with_reducible intro _g _hg) | (with_reducible refine And.intro ?_ ?_) | (with_reducible intro _hc) | omega)
theorem decimal_hi (k : Nat) (c : ¬ k < 10) (hk : k ≤ 1000000000) (l : Str) (hl : l.length ≤ k) (hr : APure Tryz.prog 57 [aI ((k : Int) / 10)] (.str l)) : APure Tryz.prog 57 [aI k] (.str (l ++ [UInt8.ofNat (48 + k % 10)])) := by
  have hm : k % 10 < 10 := by omega
  have he := digit_enc' hm
  have e2 : ((k % 10 : Nat) : Int) = (k : Int) % 10 := by omega
  rw [e2] at he
  have hw : IntKind.i32.wrap (48 + (k : Int) % 10) = 48 + (k : Int) % 10 := IntWalk.i32_in _ (by omega)
  generalize UInt8.ofNat (48 + k % 10) = ch at he ⊢
  have hadd : YE .add l [ch] = some (.str (l ++ [ch])) := strAdd_ok (by simp; omega)
  obtain ⟨u, hu⟩ : ∃ u, Utf8.encode (48 + (k : Int) % 10) = u := ⟨_, rfl⟩
  rw [hu] at he
  have hsz : u.size = 1 := by rw [Lib.size_eq, he]; rfl
  have hlt : ¬ (9223372036854775807 : Int) < (l.length : Int) + 1 := by omega
  refine apure_intro Tryz.func57 cmp57 rfl fun n H hH => ?_
  repeat' (first | (simp -implicitDefEqProofs [c57_k1_go, c57_k2_go, c57_k3_go, c57_t4_go, c57, -getElem?_pos, simA, hw, hu, he, hsz, hlt]) | (simp (disch := omega) only [upd_ne, Qy, if_pos, if_neg, IntWalk.i64_in, Int.tdiv_eq_ediv_of_nonneg, Int.tmod_eq_emod_of_nonneg]) | ((with_reducible refine CallP.chk (f := 57) ?_); (refine' CallP.sf ?_ (hr) ?_); (focus first | (with_reducible exact simL_refl _) | (simp [simL, simA, simA_refl, simL_refl]; done))) | (with_reducible refine fin_r ?_ ?_ ?_) | (with_reducible exact SameB.rfl_ _ _) | (with_reducible refine SameB.upd ?_ ?_ _) | (with_reducible assumption) | (with_reducible intro _g _hg) | (with_reducible refine And.intro ?_ ?_) | (with_reducible intro _hc) | omega)
theorem decimal_u (k : Nat) : k ≤ 1000000000 → APure Tryz.prog 57 [aI k] (.str (Lib.decDigits k)) := by
  induction k using Nat.strongRecOn with
  | _ k ih =>
    intro hk
    by_cases c : k < 10
    · rw [Lib.decDigits_one c]
      exact decimal_lo k c
    · have hd : Lib.decDigits k = Lib.decDigits (k / 10) ++ [UInt8.ofNat (48 + k % 10)] := by rw [Lib.decDigits, dif_neg c]
      have hr := ih (k / 10) (by omega) (by omega)
      have e1 : ((k / 10 : Nat) : Int) = (k : Int) / 10 := by omega
      rw [e1] at hr
      rw [hd]
      exact decimal_hi k c hk _ (by have := decDigits_len (k / 10); omega) hr
theorem decimal_nl (k : Nat) (c : k < 10) (h0 : 0 < k) : APure Tryz.prog 57 [aI (-(k : Int))] (.str (45 :: [UInt8.ofNat (48 + k)])) := by
  have he := digit_enc' c
  have hw : IntKind.i32.wrap (48 - -(k : Int)) = 48 + (k : Int) := by
    have e : 48 - -(k : Int) = 48 + k := by omega
    rw [e]; exact IntWalk.i32_in _ (by omega)
  have hw2 : IntKind.i32.wrap (48 + (k : Int)) = 48 + (k : Int) := IntWalk.i32_in _ (by omega)
  have h1 : (-(k : Int)) < 0 := by omega
  have h2 : ¬ (-(k : Int)) < -9 := by omega
  generalize UInt8.ofNat (48 + k) = ch at he ⊢
  obtain ⟨u, hu⟩ : ∃ u, Utf8.encode (48 + (k : Int)) = u := ⟨_, rfl⟩
  rw [hu] at he
  have hsz : u.size = 1 := by rw [Lib.size_eq, he]; rfl
  refine apure_intro Tryz.func57 cmp57 rfl fun n H hH => ?_
  repeat' (first | (simp -implicitDefEqProofs [c57_k1_go, c57_k2_go, c57_k3_go, c57_t4_go, c57, -getElem?_pos, simA, hw, hw2, hu, he, hsz, h1, h2]) | (simp (disch := omega) only [upd_ne, Qy, if_pos, if_neg, IntWalk.i64_in, Int.tdiv_eq_ediv_of_nonneg, Int.tmod_eq_emod_of_nonneg]) | (with_reducible refine fin_r ?_ ?_ ?_) | (with_reducible exact SameB.rfl_ _ _) | (with_reducible refine SameB.upd ?_ ?_ _) | (with_reducible assumption) | (with_reducible intro _g _hg) | (with_reducible refine And.intro ?_ ?_) | (with_reducible intro _hc) | omega)
theorem decimal_nh (k : Nat) (c : ¬ k < 10) (hk : k ≤ 1000000000) (l : Str) (hl : l.length ≤ k) (hr : APure Tryz.prog 57 [aI ((k : Int) / 10)] (.str l)) : APure Tryz.prog 57 [aI (-(k : Int))] (.str (45 :: (l ++ [UInt8.ofNat (48 + k % 10)]))) := by
  have hm : k % 10 < 10 := by omega
  have he := digit_enc' hm
  have e2 : ((k % 10 : Nat) : Int) = (k : Int) % 10 := by omega
  rw [e2] at he
  have hq : Int.tdiv (-(k : Int)) 10 = -((k : Int) / 10) := by rw [Int.neg_tdiv, Int.tdiv_eq_ediv_of_nonneg (by omega)]
  have hmm : Int.tmod (-(k : Int)) 10 = -((k : Int) % 10) := by rw [Int.neg_tmod, Int.tmod_eq_emod_of_nonneg (by omega)]
  have hw : IntKind.i32.wrap (48 + (k : Int) % 10) = 48 + (k : Int) % 10 := IntWalk.i32_in _ (by omega)
  have hw3 : IntKind.i32.wrap (48 - -((k : Int) % 10)) = 48 + (k : Int) % 10 := by
    have e : 48 - -((k : Int) % 10) = 48 + (k : Int) % 10 := by omega
    rw [e]; exact hw
  have h1 : (-(k : Int)) < 0 := by omega
  have h2 : (-(k : Int)) < -9 := by omega
  generalize UInt8.ofNat (48 + k % 10) = ch at he ⊢
  obtain ⟨u, hu⟩ : ∃ u, Utf8.encode (48 + (k : Int) % 10) = u := ⟨_, rfl⟩
  rw [hu] at he
  have hsz : u.size = 1 := by rw [Lib.size_eq, he]; rfl
  have hlt : ¬ (9223372036854775807 : Int) < 1 + (l.length : Int) := by omega
  have hlt2 : ¬ (9223372036854775807 : Int) < (l.length : Int) + 1 + 1 := by omega
  refine apure_intro Tryz.func57 cmp57 rfl fun n H hH => ?_
  repeat' (first | (simp -implicitDefEqProofs [c57_k1_go, c57_k2_go, c57_k3_go, c57_t4_go, c57, -getElem?_pos, simA, hq, hmm, hw, hw3, hu, he, hsz, hlt, hlt2, h1, h2]) | (simp (disch := omega) only [upd_ne, Qy, if_pos, if_neg, IntWalk.i64_in, Int.tdiv_eq_ediv_of_nonneg, Int.tmod_eq_emod_of_nonneg]) | ((with_reducible refine CallP.chk (f := 57) ?_); (refine' CallP.sf ?_ (hr) ?_); (focus first | (with_reducible exact simL_refl _) | (simp [simL, simA, simA_refl, simL_refl]; done))) | (with_reducible refine fin_r ?_ ?_ ?_) | (with_reducible exact SameB.rfl_ _ _) | (with_reducible refine SameB.upd ?_ ?_ _) | (with_reducible assumption) | (with_reducible intro _g _hg) | (with_reducible refine And.intro ?_ ?_) | (with_reducible intro _hc) | omega)
theorem decimal_a (n : Int) (h : -1000000000 ≤ n ∧ n ≤ 1000000000) : APure Tryz.prog 57 [aI n] (.str (Lib.itoa n)) := by
  by_cases c : n < 0
  · obtain ⟨u, rfl⟩ : ∃ u : Nat, n = -(u : Int) := ⟨n.natAbs, by omega⟩
    rw [Lib.itoa_neg u (by omega)]
    by_cases c2 : u < 10
    · rw [Lib.decDigits_one c2]; exact decimal_nl u c2 (by omega)
    · have hd : Lib.decDigits u = Lib.decDigits (u / 10) ++ [UInt8.ofNat (48 + u % 10)] := by rw [Lib.decDigits, dif_neg c2]
      have hr := decimal_u (u / 10) (by omega)
      have e1 : ((u / 10 : Nat) : Int) = (u : Int) / 10 := by omega
      rw [e1] at hr
      rw [hd]
      exact decimal_nh u c2 (by omega) _ (by have := decDigits_len (u / 10); omega) hr
  · obtain ⟨u, rfl⟩ : ∃ u : Nat, n = (u : Int) := ⟨n.toNat, by omega⟩
    rw [Lib.itoa_nonneg]
    exact decimal_u u (by omega)
/-- the name of a unit -/
def unitR (k : Int) : Str := if k = 1 then unitL.getD 0 [] else if k = 2 then unitL.getD 1 [] else if k = 3 then unitL.getD 2 [] else unitL.getD 3 []
theorem unit_a (k : Int) : APure Tryz.prog 58 [aI k] (.str (unitR k)) := by
  unfold unitR
  by_cases h1 : k = 1
  · subst h1; refine apure_intro Tryz.func58 cmp58 rfl fun n H hH => ?_; repeat' (first | (simp -implicitDefEqProofs [c58_k1_go, c58_k2_go, c58_k3_go, c58, -getElem?_pos, simA]) | (simp (disch := omega) only [upd_ne, Qy, if_pos, if_neg, IntWalk.i64_in, Int.tdiv_eq_ediv_of_nonneg, Int.tmod_eq_emod_of_nonneg]) | (with_reducible refine fin_r ?_ ?_ ?_) | (with_reducible exact SameB.rfl_ _ _) | (with_reducible refine SameB.upd ?_ ?_ _) | (with_reducible assumption) | (with_reducible intro _g _hg) | (with_reducible refine And.intro ?_ ?_) | (with_reducible intro _hc) | omega)
  by_cases h2 : k = 2
  · subst h2; refine apure_intro Tryz.func58 cmp58 rfl fun n H hH => ?_; repeat' (first | (simp -implicitDefEqProofs [c58_k1_go, c58_k2_go, c58_k3_go, c58, -getElem?_pos, simA]) | (simp (disch := omega) only [upd_ne, Qy, if_pos, if_neg, IntWalk.i64_in, Int.tdiv_eq_ediv_of_nonneg, Int.tmod_eq_emod_of_nonneg]) | (with_reducible refine fin_r ?_ ?_ ?_) | (with_reducible exact SameB.rfl_ _ _) | (with_reducible refine SameB.upd ?_ ?_ _) | (with_reducible assumption) | (with_reducible intro _g _hg) | (with_reducible refine And.intro ?_ ?_) | (with_reducible intro _hc) | omega)
  by_cases h3 : k = 3
  · subst h3; refine apure_intro Tryz.func58 cmp58 rfl fun n H hH => ?_; repeat' (first | (simp -implicitDefEqProofs [c58_k1_go, c58_k2_go, c58_k3_go, c58, -getElem?_pos, simA]) | (simp (disch := omega) only [upd_ne, Qy, if_pos, if_neg, IntWalk.i64_in, Int.tdiv_eq_ediv_of_nonneg, Int.tmod_eq_emod_of_nonneg]) | (with_reducible refine fin_r ?_ ?_ ?_) | (with_reducible exact SameB.rfl_ _ _) | (with_reducible refine SameB.upd ?_ ?_ _) | (with_reducible assumption) | (with_reducible intro _g _hg) | (with_reducible refine And.intro ?_ ?_) | (with_reducible intro _hc) | omega)
  rw [if_neg h1, if_neg h2, if_neg h3]
  refine apure_intro Tryz.func58 cmp58 rfl fun n H hH => ?_
  repeat' (first | (simp -implicitDefEqProofs [c58_k1_go, c58_k2_go, c58_k3_go, c58, -getElem?_pos, simA, h1, h2, h3]) | (simp (disch := omega) only [upd_ne, Qy, if_pos, if_neg, IntWalk.i64_in, Int.tdiv_eq_ediv_of_nonneg, Int.tmod_eq_emod_of_nonneg]) | (with_reducible refine fin_r ?_ ?_ ?_) | (with_reducible exact SameB.rfl_ _ _) | (with_reducible refine SameB.upd ?_ ?_ _) | (with_reducible assumption) | (with_reducible intro _g _hg) | (with_reducible refine And.intro ?_ ?_) | (with_reducible intro _hc) | omega)
theorem join_take (sep : Str) : ∀ (l : List Str) (k : Nat) (x : Str), l[k]? = some x → Lib.join (l.take (k + 1)) sep = (if 0 < k then Lib.join (l.take k) sep ++ sep else Lib.join (l.take k) sep) ++ x
  | [], k, x, h => by simp at h
  | y :: l, 0, x, h => by
    simp at h; subst h
    simp [Lib.join_one, Lib.join]
  | y :: l, k + 1, x, h => by
    have h' : l[k]? = some x := by simpa using h
    have ih := join_take sep l k x h'
    rw [List.take_succ_cons, List.take_succ_cons, if_pos (by omega)]
    rw [Lib.join_cons, Lib.join_cons]
    have : ∀ m : List Str, m ≠ [] → Lib.joinTail sep m = sep ++ Lib.join m sep := by
      intro m hm
      obtain ⟨a, b, rfl⟩ := List.exists_cons_of_ne_nil hm
      rw [Lib.join_cons]; simp [Lib.joinTail]
    have hne : l.take (k + 1) ≠ [] := by
      intro e
      have : l = [] := by cases l with | nil => rfl | cons a b => simp at e
      rw [this] at h'; simp at h'
    rw [this _ hne, ih]
    by_cases hk : 0 < k
    · rw [if_pos hk]
      have hne2 : l.take k ≠ [] := by
        intro e
        have : l = [] := by
          cases l with
          | nil => rfl
          | cons a b => cases k with | zero => omega | succ k => simp at e
        rw [this] at h'; simp at h'
      rw [this _ hne2]; simp
    · have : k = 0 := by omega
      subst this
      rw [if_neg hk]; simp [Lib.joinTail, Lib.join]
theorem join_mono (sep : Str) (l : List Str) : ∀ k, (Lib.join (l.take k) sep).length ≤ (Lib.join l sep).length := by
  have step : ∀ k, (Lib.join (l.take k) sep).length ≤ (Lib.join (l.take (k + 1)) sep).length := by
    intro k
    by_cases hk : k < l.length
    · rw [join_take sep l k l[k] (List.getElem?_eq_getElem hk)]
      split <;> simp <;> omega
    · rw [List.take_of_length_le (by omega), List.take_of_length_le (by omega)]; exact Nat.le_refl _
  have up : ∀ k j, (Lib.join (l.take k) sep).length ≤ (Lib.join (l.take (k + j)) sep).length := by
    intro k j
    induction j with
    | zero => exact Nat.le_refl _
    | succ j ih => exact Nat.le_trans ih (step (k + j))
  intro k
  have h := up k l.length
  have e : l.take (k + l.length) = l := List.take_of_length_le (by omega)
  rw [e] at h
  exact h
theorem rjoin_a (l : List Str) (sep : Str) (hl : l.length ≤ 1000000) (hs : sep.length ≤ 1000000) (hb : (Lib.join l sep).length ≤ 1000000) (hx : ∀ x ∈ l, x.length ≤ 1000000) : APure Tryz.prog 96 [aSs l, .str sep] (.str (Lib.join l sep)) := by
  have hmono := join_mono sep l
  refine apure_intro Tryz.func96 cmp96 rfl fun n H hH => ?_
  repeat' (first | (simp -implicitDefEqProofs [c96_k1_go, c96_k2_go, c96_k3_go, c96_k4_go, c96_L5_go, c96, -getElem?_pos, simA]) | (simp (disch := omega) only [upd_ne, Qy, if_pos, if_neg, IntWalk.i64_in, Int.tdiv_eq_ediv_of_nonneg, Int.tmod_eq_emod_of_nonneg]) | (with_reducible refine fin_r ?_ ?_ ?_) | (with_reducible exact SameB.rfl_ _ _) | (with_reducible refine SameB.upd ?_ ?_ _) | (with_reducible assumption) | (with_reducible intro _g _hg) | (with_reducible refine And.intro ?_ ?_) | (with_reducible intro _hc) | omega)
  refine LoopK.go (fun q st => ∃ (k : Nat), k + q = l.length ∧ st = ⟨[(0, aSs l), (1, .str sep), (5, .str (Lib.join (l.take k) sep)), (6, aI k)], n, H⟩) l.length ⟨0, by omega, rfl⟩ ?_
  rintro q st ⟨k, hkq, rfl⟩ J hJ
  by_cases hk : k < l.length
  · obtain ⟨y, hy⟩ : ∃ y, l[k]? = some y := ⟨_, List.getElem?_eq_getElem hk⟩
    have hy2 : (aStrs l)[k]? = some (.str y) := by rw [List.getElem?_map, hy]; rfl
    have hyl := hx y (List.mem_of_getElem? hy)
    have e := join_take sep l k y hy
    have hm := hmono k
    by_cases h0 : 0 < k
    · rw [if_pos h0] at e
      generalize Lib.join (l.take k) sep = acc at *
      have a1 : ¬ (9223372036854775807 : Int) < (acc.length : Int) + sep.length := by omega
      have a2 : ¬ (9223372036854775807 : Int) < (acc.length : Int) + sep.length + y.length := by omega
      have a3 : ¬ (9223372036854775807 : Int) < (acc.length : Int) + (sep.length + y.length) := by omega
      have h0' : (0 : Int) < k := by omega
      repeat' (first | (simp -implicitDefEqProofs [c96_k1_go, c96_k2_go, c96_k3_go, c96_k4_go, c96_L5_go, c96, -getElem?_pos, simA, hy, hy2, h0, h0', a1, a2, a3]) | (simp (disch := omega) only [upd_ne, Qy, if_pos, if_neg, IntWalk.i64_in, Int.tdiv_eq_ediv_of_nonneg, Int.tmod_eq_emod_of_nonneg]) | (with_reducible refine fin_r ?_ ?_ ?_) | (with_reducible exact SameB.rfl_ _ _) | (with_reducible refine SameB.upd ?_ ?_ _) | (with_reducible assumption) | (with_reducible intro _g _hg) | (with_reducible refine And.intro ?_ ?_) | (with_reducible intro _hc) | omega)
      exact hJ (q - 1) _ (by omega) ⟨k + 1, by omega, by rw [e]; simp⟩
    · have : k = 0 := by omega
      subst this
      rw [if_neg h0] at e
      have hne : ¬ l = [] := fun e' => by rw [e'] at hk; simp at hk
      generalize Lib.join (l.take 0) sep = acc at *
      have a1 : ¬ (9223372036854775807 : Int) < (acc.length : Int) + y.length := by omega
      repeat' (first | (simp -implicitDefEqProofs [c96_k1_go, c96_k2_go, c96_k3_go, c96_k4_go, c96_L5_go, c96, -getElem?_pos, simA, hy, hy2, a1, hne]) | (simp (disch := omega) only [upd_ne, Qy, if_pos, if_neg, IntWalk.i64_in, Int.tdiv_eq_ediv_of_nonneg, Int.tmod_eq_emod_of_nonneg]) | (with_reducible refine fin_r ?_ ?_ ?_) | (with_reducible exact SameB.rfl_ _ _) | (with_reducible refine SameB.upd ?_ ?_ _) | (with_reducible assumption) | (with_reducible intro _g _hg) | (with_reducible refine And.intro ?_ ?_) | (with_reducible intro _hc) | omega)
      exact hJ (q - 1) _ (by omega) ⟨1, by omega, by rw [e]; simp⟩
  · have hk0 : k = l.length := by omega
    subst hk0
    rw [List.take_length]
    repeat' (first | (simp -implicitDefEqProofs [c96_k1_go, c96_k2_go, c96_k3_go, c96_k4_go, c96_L5_go, c96, -getElem?_pos, simA]) | (simp (disch := omega) only [upd_ne, Qy, if_pos, if_neg, IntWalk.i64_in, Int.tdiv_eq_ediv_of_nonneg, Int.tmod_eq_emod_of_nonneg]) | (with_reducible refine fin_r ?_ ?_ ?_) | (with_reducible exact SameB.rfl_ _ _) | (with_reducible refine SameB.upd ?_ ?_ _) | (with_reducible assumption) | (with_reducible intro _g _hg) | (with_reducible refine And.intro ?_ ?_) | (with_reducible intro _hc) | omega)
/-- the text of a list of numbers behind a word -/
def numsT (word : Str) (l : List Int) : Str := if l = [] then [] else 32 :: (word ++ 32 :: Lib.join (l.map Lib.itoa) [44])
set_option maxHeartbeats 1000000 in
theorem numbers_a (word : Str) (l : List Int) (hw : word.length ≤ 100) (hl : l.length ≤ 12) (hv : ∀ x ∈ l, -1000 ≤ x ∧ x ≤ 1000) : APure Tryz.prog 59 [.str word, aL l] (.str (numsT word l)) := by
  by_cases h0 : l = []
  · subst h0
    refine apure_intro Tryz.func59 cmp59 rfl fun n H hH => ?_
    repeat' (first | (simp -implicitDefEqProofs [c59_k1_go, c59_k2_go, c59_k3_go, c59_L4_go, c59_k5_go, c59, -getElem?_pos, simA, numsT]) | (simp (disch := omega) only [upd_ne, Qy, if_pos, if_neg, IntWalk.i64_in, Int.tdiv_eq_ediv_of_nonneg, Int.tmod_eq_emod_of_nonneg]) | (with_reducible refine fin_r ?_ ?_ ?_) | (with_reducible exact SameB.rfl_ _ _) | (with_reducible refine SameB.upd ?_ ?_ _) | (with_reducible assumption) | (with_reducible refine newSM_of ?_) | (with_reducible refine newS_go ?_) | (with_reducible intro _g _hg) | (with_reducible refine And.intro ?_ ?_) | (with_reducible intro _hc) | omega)
  have hlen : 0 < l.length := List.length_pos_iff.2 h0
  have h5 : ∀ x ∈ l.map Lib.itoa, x.length ≤ 5 := by
    intro x hx
    obtain ⟨y, hy, rfl⟩ := List.mem_map.1 hx
    exact itoa_le5 (hv y hy)
  have hjl := join_len (c := 44) h5 (by simpa using hl)
  have hj := rjoin_a (l.map Lib.itoa) [44] (by simp; omega) (by simp) (by omega) (fun x hx => by have := h5 x hx; omega)
  unfold numsT
  rw [if_neg h0]
  generalize hjj : Lib.join (l.map Lib.itoa) [44] = jt at *
  refine apure_intro Tryz.func59 cmp59 rfl fun n H hH => ?_
  have _hb : True := trivial
  have _hO : Owns n H [] [⟨9, 1, .sl 0 [] .nil, []⟩] n H := (Owns.start hH).addNil _ _ _
  repeat' (first | (simp -implicitDefEqProofs [c59_k1_go, c59_k2_go, c59_k3_go, c59_L4_go, c59_k5_go, c59, -getElem?_pos, simA_refl, h0, _hb]) | (simp (disch := omega) only [upd_ne, Qy, if_pos, if_neg, IntWalk.i64_in, Int.tdiv_eq_ediv_of_nonneg, Int.tmod_eq_emod_of_nonneg]) | (with_reducible refine fin_r ?_ ?_ ?_) | (with_reducible exact SameB.rfl_ _ _) | (with_reducible refine SameB.upd ?_ ?_ _) | (with_reducible assumption) | (with_reducible refine newSM_of ?_) | ((with_reducible refine newS_own (by assumption) (fun _g _hg _hO => ?_))) | ((with_reducible refine appKS.chk ?_); first | ((refine Owns.app (by assumption) (.inl rfl) (by first | (exact Owns.simL0 (by assumption)) | (exact Owns.simL1 (by assumption)) | (with_reducible exact simL_refl _) | assumption | (simp [simL, simA, simA_refl, simL_refl]; done)) ?_ ?_ (fun _x _n _H _hle _hO _hb => ?_)); rotate_left 2; dsimp only [BoxF, BoxF0, RowF] at _hb) | ((refine Owns.app1 (by assumption) (.inl rfl) (by first | (exact Owns.simL0 (by assumption)) | (exact Owns.simL1 (by assumption)) | (with_reducible exact simL_refl _) | assumption | (simp [simL, simA, simA_refl, simL_refl]; done)) ?_ ?_ (fun _x _n _H _hle _hO _hb => ?_)); rotate_left 2; dsimp only [BoxF, BoxF0, RowF] at _hb)) | (first | (with_reducible exact Owns.fit0 (by assumption)) | (with_reducible exact Owns.fit1 (by assumption))) | (with_reducible exact Owns.le (by assumption)) | (with_reducible exact Owns.same (by assumption)) | (with_reducible refine newSM_of ?_) | (with_reducible refine newS_go ?_) | (with_reducible intro _g _hg) | (with_reducible refine And.intro ?_ ?_) | (with_reducible intro _hc) | omega)
  refine LoopK.go (fun q st => ∃ (k n' : Nat) (H' : AHeap) (x : AV) (l2 : List Str), k + q = l.length ∧ st = ⟨[(0, .str word), (1, aL l), (5, x), (6, aI k)], n', H'⟩ ∧ Owns n H [] [⟨9, 1, x, l2.map AV.str⟩] n' H' ∧
    l2 = (l.take k).map Lib.itoa) l.length ⟨0, _, _, _, [], by omega, rfl, _hO, by simp⟩ ?_
  rintro q st ⟨k, n1, H1, xb, l2, hkq, rfl, _hO, hl2⟩ J hJ
  have _hb := _hO.boxF
  dsimp only [BoxF, BoxF0, RowF] at _hb
  have hle := _hO.le
  have hl2l : l2.length ≤ 12 := by rw [hl2]; simp; omega
  by_cases hk : k < l.length
  · obtain ⟨y, hy⟩ : ∃ y, l[k]? = some y := ⟨_, List.getElem?_eq_getElem hk⟩
    have hyb := hv y (List.mem_of_getElem? hy)
    have hd := decimal_a y (by omega)
    repeat' (first | (simp -implicitDefEqProofs [c59_k1_go, c59_k2_go, c59_k3_go, c59_L4_go, c59_k5_go, c59, -getElem?_pos, simA_refl, hy, maxLen, _hb]) | (simp (disch := omega) only [upd_ne, Qy, if_pos, if_neg, IntWalk.i64_in, Int.tdiv_eq_ediv_of_nonneg, Int.tmod_eq_emod_of_nonneg]) | ((with_reducible refine CallP.chk (f := 57) ?_); (refine' CallP.sf ?_ (hd) ?_); (focus first | (with_reducible exact simL_refl _) | (exact Owns.simC0 (by assumption)) | (exact Owns.simC1 (by assumption)) | (simp [simL, simA, simA_refl, simL_refl]; done))) | (with_reducible refine fin_r ?_ ?_ ?_) | (with_reducible exact SameB.rfl_ _ _) | (with_reducible refine SameB.upd ?_ ?_ _) | (with_reducible assumption) | (with_reducible refine newSM_of ?_) | ((with_reducible refine newS_own (by assumption) (fun _g _hg _hO => ?_))) | ((with_reducible refine appKS.chk ?_); first | ((refine Owns.app (by assumption) (.inl rfl) (by first | (exact Owns.simL0 (by assumption)) | (exact Owns.simL1 (by assumption)) | (with_reducible exact simL_refl _) | assumption | (simp [simL, simA, simA_refl, simL_refl]; done)) ?_ ?_ (fun _x _n _H _hle _hO _hb => ?_)); rotate_left 2; dsimp only [BoxF, BoxF0, RowF] at _hb) | ((refine Owns.app1 (by assumption) (.inl rfl) (by first | (exact Owns.simL0 (by assumption)) | (exact Owns.simL1 (by assumption)) | (with_reducible exact simL_refl _) | assumption | (simp [simL, simA, simA_refl, simL_refl]; done)) ?_ ?_ (fun _x _n _H _hle _hO _hb => ?_)); rotate_left 2; dsimp only [BoxF, BoxF0, RowF] at _hb)) | (first | (with_reducible exact Owns.fit0 (by assumption)) | (with_reducible exact Owns.fit1 (by assumption))) | (with_reducible exact Owns.le (by assumption)) | (with_reducible exact Owns.same (by assumption)) | (with_reducible refine newSM_of ?_) | (with_reducible refine newS_go ?_) | (with_reducible intro _g _hg) | (with_reducible refine And.intro ?_ ?_) | (with_reducible intro _hc) | omega)
    exact hJ (q - 1) _ (by omega) ⟨k + 1, _, _, _, l2 ++ [Lib.itoa y], by omega, rfl, by rw [List.map_append]; exact _hO, by rw [take_at hy, List.map_append, hl2]; rfl⟩
  · have hk0 : k = l.length := by omega
    subst hk0
    rw [List.take_length] at hl2
    subst hl2
    have a1 : ¬ (9223372036854775807 : Int) < 1 + (word.length : Int) := by omega
    have a2 : ¬ (9223372036854775807 : Int) < (word.length : Int) + 1 + 1 := by omega
    have a3 : ¬ (9223372036854775807 : Int) < (word.length : Int) + 1 + 1 + jt.length := by omega
    repeat' (first | (simp -implicitDefEqProofs [c59_k1_go, c59_k2_go, c59_k3_go, c59_L4_go, c59_k5_go, c59, -getElem?_pos, simA_refl, a1, a2, a3, _hb]) | (simp (disch := omega) only [upd_ne, Qy, if_pos, if_neg, IntWalk.i64_in, Int.tdiv_eq_ediv_of_nonneg, Int.tmod_eq_emod_of_nonneg]) | ((with_reducible refine CallP.chk (f := 96) ?_); (refine' CallP.sf ?_ (hj) ?_); (focus first | (with_reducible exact simL_refl _) | (exact Owns.simC0 (by assumption)) | (exact Owns.simC1 (by assumption)) | (simp [simL, simA, simA_refl, simL_refl]; done))) | (with_reducible refine fin_r ?_ ?_ ?_) | (with_reducible exact SameB.rfl_ _ _) | (with_reducible refine SameB.upd ?_ ?_ _) | (with_reducible assumption) | (with_reducible refine newSM_of ?_) | ((with_reducible refine newS_own (by assumption) (fun _g _hg _hO => ?_))) | ((with_reducible refine appKS.chk ?_); first | ((refine Owns.app (by assumption) (.inl rfl) (by first | (exact Owns.simL0 (by assumption)) | (exact Owns.simL1 (by assumption)) | (with_reducible exact simL_refl _) | assumption | (simp [simL, simA, simA_refl, simL_refl]; done)) ?_ ?_ (fun _x _n _H _hle _hO _hb => ?_)); rotate_left 2; dsimp only [BoxF, BoxF0, RowF] at _hb) | ((refine Owns.app1 (by assumption) (.inl rfl) (by first | (exact Owns.simL0 (by assumption)) | (exact Owns.simL1 (by assumption)) | (with_reducible exact simL_refl _) | assumption | (simp [simL, simA, simA_refl, simL_refl]; done)) ?_ ?_ (fun _x _n _H _hle _hO _hb => ?_)); rotate_left 2; dsimp only [BoxF, BoxF0, RowF] at _hb)) | (first | (with_reducible exact Owns.fit0 (by assumption)) | (with_reducible exact Owns.fit1 (by assumption))) | (with_reducible exact Owns.le (by assumption)) | (with_reducible exact Owns.same (by assumption)) | (with_reducible refine newSM_of ?_) | (with_reducible refine newS_go ?_) | (with_reducible intro _g _hg) | (with_reducible refine And.intro ?_ ?_) | (with_reducible intro _hc) | omega)
abbrev dayS : Str := [109, 111, 110, 32, 116, 117, 101, 32, 119, 101, 100, 32, 116, 104, 117, 32, 102, 114, 105, 32, 115, 97, 116, 32, 115, 117, 110]
theorem dayS_at : ∀ k : Fin 7, (dayS.take (4 * k.val + 3)).drop (4 * k.val) = dayL.getD k.val [] := by decide
end Go.Proofs.YtecpfmhminkalaaGreatDoor

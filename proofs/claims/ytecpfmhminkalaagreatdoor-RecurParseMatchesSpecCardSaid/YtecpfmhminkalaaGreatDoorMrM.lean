/- What the library does with texts that are divided and with numbers that are read, brought to plain data; no condition. -/
import Derived.Test.YtecpfmhminkalaaGreatDoorMrL
import Derived.Test.YtecpfmhminkalaaGreatDoorMrZ
import Derived.Test.YtecpfmhminkalaaGreatDoorAdI
set_option linter.all false
set_option linter.unusedSimpArgs false
set_option linter.unusedVariables false
namespace Go.Proofs.YtecpfmhminkalaaGreatDoor
open Go.RowKit
theorem index_cons (x c : UInt8) (r : Str) : Lib.index (x :: r) [c] = if x = c then 0 else if Lib.index r [c] = -1 then -1 else Lib.index r [c] + 1 := by
  by_cases h : x = c
  · subst h; rw [Lib.index]; simp [List.isPrefixOf]
  · have hp : ([c] : List UInt8).isPrefixOf (x :: r) = false := by simp [List.isPrefixOf, Ne.symm h]
    rw [Lib.index, hp, if_neg h]; simp
theorem index_nil (c : UInt8) : Lib.index [] [c] = -1 := by simp [Lib.index]
theorem split_spl (c : UInt8) : ∀ s : Str, Lib.splitK [c] 0 (Lib.count s [c]) s = spl c s ∧ Lib.count s [c] + 1 = (spl c s).length
  | [] => by
    have e : Lib.count [] [c] = 0 := by rw [Lib.count_one]; rfl
    rw [e]; exact ⟨rfl, rfl⟩
  | x :: r => by
    obtain ⟨h1, h2⟩ := split_spl c r
    by_cases hx : x = c
    · subst hx
      have e : Lib.count (x :: r) [x] = Lib.count r [x] + 1 := by rw [Lib.count_cons_eq, Nat.add_comm]
      rw [e, spl, if_pos rfl, Lib.splitK, index_cons, if_pos rfl]
      refine ⟨?_, by rw [List.length_cons, h2]⟩
      simpa using h1
    · have e : Lib.count (x :: r) [c] = Lib.count r [c] := Lib.count_cons_ne _ _ _ hx
      rw [e, spl, if_neg hx]
      obtain ⟨h, t, e3⟩ := List.exists_cons_of_ne_nil (spl_ne c r)
      rw [e3] at h1 h2 ⊢
      refine ⟨?_, h2⟩
      have hge := Lib.index_ge r [c]
      cases hk : Lib.count r [c] with
      | zero =>
        rw [hk] at h1
        simp only [Lib.splitK] at h1 ⊢
        injection h1 with h1 h1'
        subst h1; subst h1'; rfl
      | succ k =>
        rw [hk] at h1
        simp only [Lib.splitK] at h1 ⊢
        rw [index_cons, if_neg hx]
        by_cases hi : Lib.index r [c] = -1
        · rw [hi] at h1 ⊢
          simp only [BEq.rfl, if_true] at h1 ⊢
          injection h1 with h1 h1'
          subst h1; subst h1'; rfl
        · have hn : ¬ (Lib.index r [c] == -1) = true := fun e => hi (beq_iff_eq.1 e)
          rw [if_neg hn] at h1
          rw [if_neg hi]
          have hn2 : ¬ (Lib.index r [c] + 1 == -1) = true := fun e => by have := beq_iff_eq.1 e; omega
          rw [if_neg hn2]
          have e1 : (Lib.index r [c] + 1).toNat = (Lib.index r [c]).toNat + 1 := by omega
          injection h1 with h1 h1'
          rw [e1, ← h1, ← h1']
          have e2 : (Lib.index r [c]).toNat + 1 + [c].length = (Lib.index r [c]).toNat + [c].length + 1 := by omega
          rw [e2]
          rfl
theorem cut_brkF (c : UInt8) : ∀ s : Str, Lib.cut s [c] = brkF c s
  | [] => by simp [Lib.cut, index_nil, brkF]
  | x :: r => by
    have ih := cut_brkF c r
    have hge := Lib.index_ge r [c]
    unfold Lib.cut at ih ⊢
    rw [index_cons, brkF]
    by_cases hx : x = c
    · rw [if_pos hx, if_pos hx]; simp
    · rw [if_neg hx, if_neg hx]
      by_cases hi : Lib.index r [c] = -1
      · rw [if_pos hi, if_neg (by omega)]
        rw [hi, if_neg (by omega)] at ih
        rw [← ih]
      · rw [if_neg hi, if_pos (by omega)]
        rw [if_pos (by omega)] at ih
        have e1 : (Lib.index r [c] + 1).toNat = (Lib.index r [c]).toNat + 1 := by omega
        have e2 : (Lib.index r [c]).toNat + 1 + [c].length = (Lib.index r [c]).toNat + [c].length + 1 := by omega
        rw [← ih, e1, e2]; rfl
theorem list_data (l : List ByteArray) : l.map Value.string = (l.map (·.data.toList)).map fun x => Value.string ⟨x.toArray⟩ := by
  rw [List.map_map]
  exact List.map_congr_left fun x _ => by simp
theorem split_a (s : Str) (c : UInt8) (hs : s.length ≤ 1000000) : APure Tryz.prog 56 [.str s, .str [c]] (aSs (spl c s)) := by
  intro n H hH w0 G w vs hl h0 hrep
  cases hrep with | cons h1 h2 =>
  cases h2 with | cons h3 h4 =>
  cases h4; cases h1; cases h3
  rename_i sb hsb cb hcb
  subst hsb
  obtain ⟨m, hm⟩ := (hl.ext h0.ext).len
  have hsz : cb.size = 1 := by rw [Lib.size_eq, hcb]; rfl
  refine (Any.strings_Split lays146 (by kernel_rfl) sb cb m w (by rw [Lib.size_eq]; omega) hm (by omega)).mono ?_
  have hcl := spl_len c sb.data.toList
  obtain ⟨k1, k2⟩ := split_spl c sb.data.toList
  have hd := Lib.splitB_data cb 0 (Lib.countB sb cb) sb
  have hcnt : Lib.countB sb cb + 1 = (spl c sb.data.toList).length := by rw [← k2]; unfold Lib.countB; rw [hcb]
  rw [hcb] at hd
  have hcb2 : Lib.countB sb cb = Lib.count sb.data.toList [c] := by unfold Lib.countB; rw [hcb]
  rw [← hcb2] at k1
  rw [k1] at hd
  have hrow := list_data (Lib.splitB cb 0 (Lib.countB sb cb) sb)
  rw [hd] at hrow
  rw [hcnt, hrow]
  generalize spl c sb.data.toList = L at *
  rintro e w' ⟨rfl, rfl⟩
  have hrel := h0.newRow (w' := w.alloc (.cells (L.map fun l => Value.string ⟨l.toArray⟩).toArray 9)) (cur := (L.map fun l => Value.string ⟨l.toArray⟩).toArray) (e := 9) (fz := (0, 0)) (vs := L.map fun l => Value.string ⟨l.toArray⟩) (c := none) (ob := none) rfl rfl rfl rfl
    (fun j u hu => by simpa using hu) (fun e' c' hc => by cases hc) (.inl rfl)
  have hle := h0.addLe (L.map fun l => Value.string ⟨l.toArray⟩) none
  have hhi := h0.hi
  refine ⟨_, _, _, n, H, rfl, ⟨rfl, rfl, rfl⟩, .slro (vs := L.map fun l => Value.string ⟨l.toArray⟩) ?_ (Gh.add_sealed _ _ _) ?_ (by simp), hle, Nat.le_refl _, hrel.less h0.lo (by omega) hH ?_⟩
  · rw [flat_strs]; exact repL_strs _
  · refine ⟨by simp, by simp only [maxLen]; omega, by decide, fun x hx => ?_, fun x hx => ?_⟩
    · obtain ⟨y, _, rfl⟩ := List.mem_map.1 hx; rfl
    · rw [flat_strs] at hx; obtain ⟨y, _, rfl⟩ := List.mem_map.1 hx; rfl
  · intro k hk'
    rw [upd_ne (by omega)]
theorem cut_a (s : Str) (c : UInt8) (hs : s.length ≤ 1000000) : APure Tryz.prog 112 [.str s, .str [c]] (.tup [.str (brkF c s).1, .str (brkF c s).2.1, .bool (brkF c s).2.2]) := by
  refine apure_ofL fun G vs hr => ⟨.tuple #[.string ⟨(brkF c s).1.toArray⟩, .string ⟨(brkF c s).2.1.toArray⟩, .bool (brkF c s).2.2], fun _ => .tup (.cons (.str (by simp)) (.cons (.str (by simp)) (.cons .bool .nil))), fun w hl => ?_⟩
  cases hr with | cons h1 h2 =>
  cases h2 with | cons h3 h4 =>
  cases h4; cases h1; cases h3
  rename_i s1 hs1 s2 hs2
  obtain ⟨m, hm⟩ := hl.len
  have key := Any.strings_Cut lays145 s1 s2 m w (by rw [Lib.size_eq, hs1]; omega) hm
  rw [hs1, hs2, cut_brkF] at key
  refine key.mono ?_
  rintro e w' ⟨rfl, k, rfl⟩
  have b := Below.refl w.heap.size w
  exact ⟨rfl, ⟨b.os, b.tape, b.output, b.size, b.block⟩⟩
theorem trim_a (s p : Str) : APure Tryz.prog 111 [.str s, .str p] (.str (Lib.trimPrefix s p)) := by
  refine apure_ofL fun G vs hr => ⟨.string ⟨(Lib.trimPrefix s p).toArray⟩, fun _ => .str (by simp), fun w hl => ?_⟩
  cases hr with | cons h1 h2 =>
  cases h2 with | cons h3 h4 =>
  cases h4; cases h1; cases h3
  rename_i s1 hs1 s2 hs2
  have key := Any.strings_TrimPrefix lays101 s1 s2 w
  rw [hs1, hs2] at key
  refine key.mono ?_
  rintro e w' ⟨rfl, rfl⟩
  exact ⟨rfl, Below.refl _ _⟩
theorem atoi_ok {s : Str} {v : Int} (h : Lib.atoiAll s = .ok v) (hs : s.length ≤ 1000000) : APure Tryz.prog 110 [.str s] (.tup [aI v, .nif]) := by
  refine apure_ofL fun G vs hr => ⟨.tuple #[.int .i64 v, .nilIface], fun _ => .tup (.cons .int (.cons .nif .nil)), fun w hl => ?_⟩
  cases hr with | cons h1 h2 =>
  cases h2; cases h1
  rename_i s1 hs1
  refine (Any.strconv_Atoi_ok laysC172 s1 (by rw [Lib.size_eq, hs1]; omega) v (by rw [hs1]; exact h) w).mono ?_
  rintro e w' ⟨rfl, h2⟩
  refine ⟨rfl, ?_⟩
  rcases h2 with rfl | ⟨t, rfl⟩
  · exact Below.refl _ _
  · exact Lib.bytesWorld_below _ _ _
theorem atoi_any {P : Program} {f : Nat} {s : Str} {n : Int} {t : Nat} (h : ∀ (s1 : ByteArray) (w : World), s1.data.toList = s → Laid w → Calls P f #[.string s1] w fun e w' => ∃ N, e = .returned (.tuple #[.int .i64 n, .iface t (.pointer (some ⟨N, 0, none⟩))]) ∧ Below w.heap.size w w') : APure P f [.str s] (.tup [aI n, .ifc t .any]) := by
  intro n0 H hs w0 G w vs hl h0 hrep
  cases hrep with | cons h1 h2 =>
  cases h2; cases h1
  rename_i s1 hs1
  refine (h s1 w hs1 (hl.ext h0.ext)).mono ?_
  rintro e w' ⟨N, rfl, hb⟩
  exact ⟨_, _, G, n0, H, rfl, ⟨rfl, rfl, rfl⟩, .tup (.cons .int (.cons (.ifc .any) .nil)), Gh.Le.rfl_ _, Nat.le_refl _, rel_below h0 hb⟩
theorem atoi_syn {s : Str} (h0 : ∀ v, Lib.atoiAll s ≠ .ok v) (h2 : Lib.atoiAll s ≠ .range) (hs : s.length ≤ 1000000) : APure Tryz.prog 110 [.str s] (.tup [aI 0, .ifc 184 .any]) := by
  refine atoi_any fun s1 w hs1 hl => ?_
  obtain ⟨ev, hv, hev⟩ := hl.syn
  refine (Any.strconv_Atoi_syntax laysC172 s1 (by rw [Lib.size_eq, hs1]; omega) (by rw [hs1]; revert h0 h2; cases Lib.atoiAll s <;> simp) ev w hv hev).mono ?_
  rintro e w' ⟨k, rfl, _, _, hb⟩
  exact ⟨k, rfl, hb⟩
theorem atoi_rng {s : Str} (h : Lib.atoiAll s = .range) (hs : s.length ≤ 1000000) : APure Tryz.prog 110 [.str s] (.tup [aI (Lib.atoiSat s), .ifc 184 .any]) := by
  refine atoi_any fun s1 w hs1 hl => ?_
  obtain ⟨ev, hv, hev⟩ := hl.rng
  have key := Any.strconv_Atoi_range laysC172 s1 (by rw [Lib.size_eq, hs1]; omega) (by rw [hs1]; exact h) ev w hv hev
  rw [hs1] at key
  refine key.mono ?_
  rintro e w' ⟨k, rfl, _, _, hb⟩
  exact ⟨k, rfl, hb⟩
end Go.Proofs.YtecpfmhminkalaaGreatDoor
namespace Go.Proofs.YtecpfmhminkalaaGreatDoor
attribute [local simp] YL Z7 Z9 YM YN YO YP Z8 Z3 Z5 Z4 YQ YR YS YT YU YV YW YX YY YZ Ya Yb Yc Yd scV pe Ye Yf Yg Yh Yi Yj Yk Yl Ym Yn Yo spg_mv Yp Yq Yr Ys Yt Yu Yv Yw Yx Yy Yz X0 X1 X2 X3 X4 X5 X6 X7 X8 X9 spg_mm XA YD XB XC XD XE XF XG XH XI XJ XK XL XM XN XO XP XQ XR XS XT XU XV XW XX XY XZ YC Xa Xb Xc Xd Xe Xf Xg Xh Xi Xj Xk Xl Xm Xn Xo Xp Xq Xr Xs Xt Xu Xv Xw Xx List.mem_cons ZO ZN Z1 YG Zu Xy Zi Zr Zn Zp Zq Zo Zv Zw Zm Xz Q0 Zl Q1 Q2 Q4 Q5 Q6 Q7 Zs Q8 Q9 QA QB QC QD Zt Zh Zx Y1 Y2 QE QF Y3 QG Zj QH Zk Zg QI Zy Zz QJ QK QM QN QO QP QR QS Zd ZK ZI Zc Zf ZH ZM YB Z0 QT ZV ZL Ze ZC ZZ ZA Y5 ZJ Y8 Y9 Zb ZY ZU ZX Za ZT ZD ev get put Y4 ZS QU QV QW QX QY QZ ZE part ZW Qb Qc Qd isNil ZR ZQ ZB ZP YE Qe Qf Qg Qh Qi Qj Qk Ql Qm Qn Qo Qp Qq Qr Qs Qt AV.fits AV.cells ones AV.one YH YI YJ YK ZF ZG Qu Qv Qw Qx Y6 Y7 resV Z2 Qy YA u8e YF Qz V0 List.getElem?_cons_zero List.getElem?_cons_succ
theorem rnum_a (s : Str) (hs : s.length ≤ 1000000) : APure Tryz.prog 85 [.str s] (.tup [aI (numI s).1, .bool (numI s).2]) := by
  cases h : Lib.atoiAll s with
  | ok v =>
    have ha := atoi_ok h hs
    have hi := itoa_a v (Lib.atoiAll_bounds h)
    have ht := trim_a s [45]
    have e : numI s = (v, decide (Lib.itoa v = s) && decide ((Lib.trimPrefix s [45]).length ≤ 9)) := by unfold numI; rw [h]
    rw [e]
    generalize Lib.itoa v = it at *
    generalize Lib.trimPrefix s [45] = tp at *
    by_cases h1 : it = s
    · subst h1
      by_cases h2 : tp.length ≤ 9
      · have h2' : (tp.length : Int) ≤ 9 := by omega
        refine apure_intro Tryz.func85 cmp85 rfl fun n H hH => ?_
        repeat' (first | (simp -implicitDefEqProofs [c85, -getElem?_pos, simA_refl, simL_refl, ZQ, Zd, h2, h2']) | (simp (disch := omega) only [upd_ne, Qy, if_pos, if_neg, IntWalk.i64_in, Int.tdiv_eq_ediv_of_nonneg, Int.tmod_eq_emod_of_nonneg]) | ((with_reducible refine CallP.chk (f := 110) ?_); (refine' CallP.sf ?_ (ha) ?_); (focus first | (with_reducible exact simL_refl _) | (simp [simL, simA, simA_refl, simL_refl]; done))) | ((with_reducible refine CallP.chk (f := 46) ?_); (refine' CallP.sf ?_ (hi) ?_); (focus first | (with_reducible exact simL_refl _) | (simp [simL, simA, simA_refl, simL_refl]; done))) | ((with_reducible refine CallP.chk (f := 111) ?_); (refine' CallP.sf ?_ (ht) ?_); (focus first | (with_reducible exact simL_refl _) | (simp [simL, simA, simA_refl, simL_refl]; done))) | (with_reducible refine fin_r ?_ ?_ ?_) | (with_reducible exact SameB.rfl_ _ _) | (with_reducible refine SameB.upd ?_ ?_ _) | (with_reducible assumption) | (with_reducible intro _g _hg) | (with_reducible refine And.intro ?_ ?_) | (with_reducible intro _hc) | omega)
      · have h2' : ¬ (tp.length : Int) ≤ 9 := by omega
        refine apure_intro Tryz.func85 cmp85 rfl fun n H hH => ?_
        repeat' (first | (simp -implicitDefEqProofs [c85, -getElem?_pos, simA_refl, simL_refl, ZQ, Zd, h2, h2']) | (simp (disch := omega) only [upd_ne, Qy, if_pos, if_neg, IntWalk.i64_in, Int.tdiv_eq_ediv_of_nonneg, Int.tmod_eq_emod_of_nonneg]) | ((with_reducible refine CallP.chk (f := 110) ?_); (refine' CallP.sf ?_ (ha) ?_); (focus first | (with_reducible exact simL_refl _) | (simp [simL, simA, simA_refl, simL_refl]; done))) | ((with_reducible refine CallP.chk (f := 46) ?_); (refine' CallP.sf ?_ (hi) ?_); (focus first | (with_reducible exact simL_refl _) | (simp [simL, simA, simA_refl, simL_refl]; done))) | ((with_reducible refine CallP.chk (f := 111) ?_); (refine' CallP.sf ?_ (ht) ?_); (focus first | (with_reducible exact simL_refl _) | (simp [simL, simA, simA_refl, simL_refl]; done))) | (with_reducible refine fin_r ?_ ?_ ?_) | (with_reducible exact SameB.rfl_ _ _) | (with_reducible refine SameB.upd ?_ ?_ _) | (with_reducible assumption) | (with_reducible intro _g _hg) | (with_reducible refine And.intro ?_ ?_) | (with_reducible intro _hc) | omega)
    · refine apure_intro Tryz.func85 cmp85 rfl fun n H hH => ?_
      repeat' (first | (simp -implicitDefEqProofs [c85, -getElem?_pos, simA_refl, simL_refl, ZQ, Zd, h1]) | (simp (disch := omega) only [upd_ne, Qy, if_pos, if_neg, IntWalk.i64_in, Int.tdiv_eq_ediv_of_nonneg, Int.tmod_eq_emod_of_nonneg]) | ((with_reducible refine CallP.chk (f := 110) ?_); (refine' CallP.sf ?_ (ha) ?_); (focus first | (with_reducible exact simL_refl _) | (simp [simL, simA, simA_refl, simL_refl]; done))) | ((with_reducible refine CallP.chk (f := 46) ?_); (refine' CallP.sf ?_ (hi) ?_); (focus first | (with_reducible exact simL_refl _) | (simp [simL, simA, simA_refl, simL_refl]; done))) | ((with_reducible refine CallP.chk (f := 111) ?_); (refine' CallP.sf ?_ (ht) ?_); (focus first | (with_reducible exact simL_refl _) | (simp [simL, simA, simA_refl, simL_refl]; done))) | (with_reducible refine fin_r ?_ ?_ ?_) | (with_reducible exact SameB.rfl_ _ _) | (with_reducible refine SameB.upd ?_ ?_ _) | (with_reducible assumption) | (with_reducible intro _g _hg) | (with_reducible refine And.intro ?_ ?_) | (with_reducible intro _hc) | omega)
  | range =>
    have ha := atoi_rng h hs
    have e : numI s = (Lib.atoiSat s, false) := by unfold numI; rw [h]
    rw [e]
    refine apure_intro Tryz.func85 cmp85 rfl fun n H hH => ?_
    repeat' (first | (simp -implicitDefEqProofs [c85, -getElem?_pos, simA_refl, simL_refl, ZQ, Zd]) | (simp (disch := omega) only [upd_ne, Qy, if_pos, if_neg, IntWalk.i64_in, Int.tdiv_eq_ediv_of_nonneg, Int.tmod_eq_emod_of_nonneg]) | ((with_reducible refine CallP.chk (f := 110) ?_); (refine' CallP.sf ?_ (ha) ?_); (focus first | (with_reducible exact simL_refl _) | (simp [simL, simA, simA_refl, simL_refl]; done))) | (with_reducible refine fin_r ?_ ?_ ?_) | (with_reducible exact SameB.rfl_ _ _) | (with_reducible refine SameB.upd ?_ ?_ _) | (with_reducible assumption) | (with_reducible intro _g _hg) | (with_reducible refine And.intro ?_ ?_) | (with_reducible intro _hc) | omega)
  | _ =>
    have ha := atoi_syn (fun v e => by rw [h] at e; cases e) (fun e => by rw [h] at e; cases e) hs
    have e : numI s = (0, false) := by unfold numI; rw [h]
    rw [e]
    refine apure_intro Tryz.func85 cmp85 rfl fun n H hH => ?_
    repeat' (first | (simp -implicitDefEqProofs [c85, -getElem?_pos, simA_refl, simL_refl, ZQ, Zd]) | (simp (disch := omega) only [upd_ne, Qy, if_pos, if_neg, IntWalk.i64_in, Int.tdiv_eq_ediv_of_nonneg, Int.tmod_eq_emod_of_nonneg]) | ((with_reducible refine CallP.chk (f := 110) ?_); (refine' CallP.sf ?_ (ha) ?_); (focus first | (with_reducible exact simL_refl _) | (simp [simL, simA, simA_refl, simL_refl]; done))) | (with_reducible refine fin_r ?_ ?_ ?_) | (with_reducible exact SameB.rfl_ _ _) | (with_reducible refine SameB.upd ?_ ?_ _) | (with_reducible assumption) | (with_reducible intro _g _hg) | (with_reducible refine And.intro ?_ ?_) | (with_reducible intro _hc) | omega)
theorem idxF_skip (s : Str) : ∀ (l : List Str) (k : Nat), (∀ j x, j < k → l[j]? = some x → x ≠ s) → idxF s l = if idxF s (l.drop k) < 0 then -1 else idxF s (l.drop k) + k
  | l, 0, _ => by
    have := idxF_ge s l
    simp only [List.drop_zero]
    split
    · omega
    · simp
  | [], k + 1, _ => by simp [idxF]
  | x :: r, k + 1, h => by
    have ih := idxF_skip s r k fun j y hj hy => h (j + 1) y (by omega) (by simpa using hy)
    have hx : x ≠ s := h 0 x (by omega) rfl
    rw [idxF, if_neg hx, List.drop_succ_cons, ih]
    split
    · simp
    · have := idxF_ge s (r.drop k)
      rw [if_neg (by omega)]; push_cast; omega
theorem idxS_a (l : List Str) (s : Str) (hl : l.length ≤ 1000000) : APure Tryz.prog 84 [aSs l, .str s] (aI (idxF s l)) := by
  refine apure_intro Tryz.func84 cmp84 rfl fun n H hH => ?_
  repeat' (first | (simp -implicitDefEqProofs [c84_k1_go, c84_k2_go, c84_k3_go, c84_L4_go, c84, -getElem?_pos, simA]) | (simp (disch := omega) only [upd_ne, Qy, if_pos, if_neg, IntWalk.i64_in, Int.tdiv_eq_ediv_of_nonneg, Int.tmod_eq_emod_of_nonneg]) | (with_reducible refine fin_r ?_ ?_ ?_) | (with_reducible exact SameB.rfl_ _ _) | (with_reducible refine SameB.upd ?_ ?_ _) | (with_reducible assumption) | (with_reducible intro _g _hg) | (with_reducible refine And.intro ?_ ?_) | (with_reducible intro _hc) | omega)
  refine LoopK.go (fun q st => ∃ (k : Nat), k + q = l.length ∧ st = ⟨[(0, aSs l), (1, .str s), (7, aI l.length), (8, aI k)], n, H⟩ ∧ ∀ j x, j < k → l[j]? = some x → x ≠ s) l.length ⟨0, by omega, rfl, fun j x hj => by omega⟩ ?_
  rintro q st ⟨k, hkq, rfl, hE⟩ J hJ
  by_cases hk : k < l.length
  · obtain ⟨y, hy⟩ : ∃ y, l[k]? = some y := ⟨_, List.getElem?_eq_getElem hk⟩
    have hy2 : (aStrs l)[k]? = some (.str y) := by rw [List.getElem?_map, hy]; rfl
    by_cases hys : y = s
    · subst hys
      have e : idxF y l = k := by
        rw [idxF_skip y l k hE, drop_at hy, idxF, if_pos rfl]; simp
      rw [e]
      repeat' (first | (simp -implicitDefEqProofs [c84_k1_go, c84_k2_go, c84_k3_go, c84_L4_go, c84, -getElem?_pos, simA, hy, hy2]) | (simp (disch := omega) only [upd_ne, Qy, if_pos, if_neg, IntWalk.i64_in, Int.tdiv_eq_ediv_of_nonneg, Int.tmod_eq_emod_of_nonneg]) | (with_reducible refine fin_r ?_ ?_ ?_) | (with_reducible exact SameB.rfl_ _ _) | (with_reducible refine SameB.upd ?_ ?_ _) | (with_reducible assumption) | (with_reducible intro _g _hg) | (with_reducible refine And.intro ?_ ?_) | (with_reducible intro _hc) | omega)
    · have hys2 : ¬ s = y := fun e => hys e.symm
      repeat' (first | (simp -implicitDefEqProofs [c84_k1_go, c84_k2_go, c84_k3_go, c84_L4_go, c84, -getElem?_pos, simA, hy, hy2, hys, hys2]) | (simp (disch := omega) only [upd_ne, Qy, if_pos, if_neg, IntWalk.i64_in, Int.tdiv_eq_ediv_of_nonneg, Int.tmod_eq_emod_of_nonneg]) | (with_reducible refine fin_r ?_ ?_ ?_) | (with_reducible exact SameB.rfl_ _ _) | (with_reducible refine SameB.upd ?_ ?_ _) | (with_reducible assumption) | (with_reducible intro _g _hg) | (with_reducible refine And.intro ?_ ?_) | (with_reducible intro _hc) | omega)
      exact hJ (q - 1) _ (by omega) ⟨k + 1, by omega, rfl, fun j x hj hx => by
        rcases Nat.lt_or_ge j k with h | h
        · exact hE j x h hx
        · obtain rfl : j = k := by omega
          rw [hy] at hx; injection hx with hx; subst hx; exact hys⟩
  · have hk0 : k = l.length := by omega
    subst hk0
    have e : idxF s l = -1 := by rw [idxF_skip s l _ hE, List.drop_length]; simp [idxF]
    rw [e]
    repeat' (first | (simp -implicitDefEqProofs [c84_k1_go, c84_k2_go, c84_k3_go, c84_L4_go, c84, -getElem?_pos, simA]) | (simp (disch := omega) only [upd_ne, Qy, if_pos, if_neg, IntWalk.i64_in, Int.tdiv_eq_ediv_of_nonneg, Int.tmod_eq_emod_of_nonneg]) | (with_reducible refine fin_r ?_ ?_ ?_) | (with_reducible exact SameB.rfl_ _ _) | (with_reducible refine SameB.upd ?_ ?_ _) | (with_reducible assumption) | (with_reducible intro _g _hg) | (with_reducible refine And.intro ?_ ?_) | (with_reducible intro _hc) | omega)
theorem brk_len (c : UInt8) (s : Str) : (brkF c s).1.length ≤ s.length ∧ (brkF c s).2.1.length ≤ s.length := by
  rcases brkF_cases c s with ⟨a, b, rfl, _, e⟩ | ⟨_, e⟩ <;> rw [e] <;> simp <;> omega
theorem rwd_a (s : Str) (hs : s.length ≤ 1000000) : APure Tryz.prog 91 [.str s] (.tup [aWd (wdI s).1, .bool (wdI s).2]) := by
  have hc := cut_a s 35 hs
  have hd := dayNames_a
  obtain ⟨l1, l2⟩ := brk_len 35 s
  have hi := idxS_a dayL (brkF 35 s).1 (by decide)
  have hb := idxF_ge (brkF 35 s).1 dayL
  have hn := rnum_a (brkF 35 s).2.1 (by omega)
  unfold wdI
  generalize idxF (brkF 35 s).1 dayL = d at *
  generalize numI (brkF 35 s).2.1 = nm at *
  obtain ⟨v, ok⟩ := nm
  generalize brkF 35 s = bk at *
  obtain ⟨a, b, m⟩ := bk
  generalize dayL = dl at *
  dsimp only at *
  cases m with
  | false =>
    refine apure_intro Tryz.func91 cmp91 rfl fun n H hH => ?_
    by_cases h0 : 0 ≤ d
    · repeat' (first | (simp -implicitDefEqProofs [c91_k1_go, c91, -getElem?_pos, simA_refl, splice, h0]) | (simp (disch := omega) only [upd_ne, Qy, if_pos, if_neg, IntWalk.i64_in, Int.tdiv_eq_ediv_of_nonneg, Int.tmod_eq_emod_of_nonneg]) | ((with_reducible refine CallP.chk (f := 112) ?_); (refine' CallP.sf ?_ (hc) ?_); (focus first | (with_reducible exact simL_refl _) | (simp [simL, simA, simA_refl, simL_refl]; done))) | ((with_reducible refine CallP.chk (f := 52) ?_); (refine' CallP.sf ?_ (hd) ?_); (focus first | (with_reducible exact simL_refl _) | (simp [simL, simA, simA_refl, simL_refl]; done))) | ((with_reducible refine CallP.chk (f := 84) ?_); (refine' CallP.sf ?_ (hi) ?_); (focus first | (with_reducible exact simL_refl _) | (simp [simL, simA, simA_refl, simL_refl]; done))) | (with_reducible refine fin_r ?_ ?_ ?_) | (with_reducible exact SameB.rfl_ _ _) | (with_reducible refine SameB.upd ?_ ?_ _) | (with_reducible assumption) | (with_reducible refine newPM_of ?_) | (with_reducible refine newP_go ?_) | (with_reducible intro _g _hg) | (with_reducible refine And.intro ?_ ?_) | (with_reducible intro _hc) | omega)
      all_goals exact simA_refl _
    · repeat' (first | (simp -implicitDefEqProofs [c91_k1_go, c91, -getElem?_pos, simA_refl, splice, h0]) | (simp (disch := omega) only [upd_ne, Qy, if_pos, if_neg, IntWalk.i64_in, Int.tdiv_eq_ediv_of_nonneg, Int.tmod_eq_emod_of_nonneg]) | ((with_reducible refine CallP.chk (f := 112) ?_); (refine' CallP.sf ?_ (hc) ?_); (focus first | (with_reducible exact simL_refl _) | (simp [simL, simA, simA_refl, simL_refl]; done))) | ((with_reducible refine CallP.chk (f := 52) ?_); (refine' CallP.sf ?_ (hd) ?_); (focus first | (with_reducible exact simL_refl _) | (simp [simL, simA, simA_refl, simL_refl]; done))) | ((with_reducible refine CallP.chk (f := 84) ?_); (refine' CallP.sf ?_ (hi) ?_); (focus first | (with_reducible exact simL_refl _) | (simp [simL, simA, simA_refl, simL_refl]; done))) | (with_reducible refine fin_r ?_ ?_ ?_) | (with_reducible exact SameB.rfl_ _ _) | (with_reducible refine SameB.upd ?_ ?_ _) | (with_reducible assumption) | (with_reducible refine newPM_of ?_) | (with_reducible refine newP_go ?_) | (with_reducible intro _g _hg) | (with_reducible refine And.intro ?_ ?_) | (with_reducible intro _hc) | omega)
      all_goals exact simA_refl _
  | true =>
    refine apure_intro Tryz.func91 cmp91 rfl fun n H hH => ?_
    cases ok with
    | false =>
      repeat' (first | (simp -implicitDefEqProofs [c91_k1_go, c91, -getElem?_pos, simA_refl, splice]) | (simp (disch := omega) only [upd_ne, Qy, if_pos, if_neg, IntWalk.i64_in, Int.tdiv_eq_ediv_of_nonneg, Int.tmod_eq_emod_of_nonneg]) | ((with_reducible refine CallP.chk (f := 112) ?_); (refine' CallP.sf ?_ (hc) ?_); (focus first | (with_reducible exact simL_refl _) | (simp [simL, simA, simA_refl, simL_refl]; done))) | ((with_reducible refine CallP.chk (f := 52) ?_); (refine' CallP.sf ?_ (hd) ?_); (focus first | (with_reducible exact simL_refl _) | (simp [simL, simA, simA_refl, simL_refl]; done))) | ((with_reducible refine CallP.chk (f := 84) ?_); (refine' CallP.sf ?_ (hi) ?_); (focus first | (with_reducible exact simL_refl _) | (simp [simL, simA, simA_refl, simL_refl]; done))) | ((with_reducible refine CallP.chk (f := 85) ?_); (refine' CallP.sf ?_ (hn) ?_); (focus first | (with_reducible exact simL_refl _) | (simp [simL, simA, simA_refl, simL_refl]; done))) | (with_reducible refine fin_r ?_ ?_ ?_) | (with_reducible exact SameB.rfl_ _ _) | (with_reducible refine SameB.upd ?_ ?_ _) | (with_reducible assumption) | (with_reducible refine newPM_of ?_) | (with_reducible refine newP_go ?_) | (with_reducible intro _g _hg) | (with_reducible refine And.intro ?_ ?_) | (with_reducible intro _hc) | omega)
      all_goals exact simA_refl _
    | true =>
      by_cases hv : v = 0
      · subst hv
        repeat' (first | (simp -implicitDefEqProofs [c91_k1_go, c91, -getElem?_pos, simA_refl, splice]) | (simp (disch := omega) only [upd_ne, Qy, if_pos, if_neg, IntWalk.i64_in, Int.tdiv_eq_ediv_of_nonneg, Int.tmod_eq_emod_of_nonneg]) | ((with_reducible refine CallP.chk (f := 112) ?_); (refine' CallP.sf ?_ (hc) ?_); (focus first | (with_reducible exact simL_refl _) | (simp [simL, simA, simA_refl, simL_refl]; done))) | ((with_reducible refine CallP.chk (f := 52) ?_); (refine' CallP.sf ?_ (hd) ?_); (focus first | (with_reducible exact simL_refl _) | (simp [simL, simA, simA_refl, simL_refl]; done))) | ((with_reducible refine CallP.chk (f := 84) ?_); (refine' CallP.sf ?_ (hi) ?_); (focus first | (with_reducible exact simL_refl _) | (simp [simL, simA, simA_refl, simL_refl]; done))) | ((with_reducible refine CallP.chk (f := 85) ?_); (refine' CallP.sf ?_ (hn) ?_); (focus first | (with_reducible exact simL_refl _) | (simp [simL, simA, simA_refl, simL_refl]; done))) | (with_reducible refine fin_r ?_ ?_ ?_) | (with_reducible exact SameB.rfl_ _ _) | (with_reducible refine SameB.upd ?_ ?_ _) | (with_reducible assumption) | (with_reducible refine newPM_of ?_) | (with_reducible refine newP_go ?_) | (with_reducible intro _g _hg) | (with_reducible refine And.intro ?_ ?_) | (with_reducible intro _hc) | omega)
        all_goals exact simA_refl _
      · by_cases h0 : 0 ≤ d
        · repeat' (first | (simp -implicitDefEqProofs [c91_k1_go, c91, -getElem?_pos, simA_refl, splice, hv, h0]) | (simp (disch := omega) only [upd_ne, Qy, if_pos, if_neg, IntWalk.i64_in, Int.tdiv_eq_ediv_of_nonneg, Int.tmod_eq_emod_of_nonneg]) | ((with_reducible refine CallP.chk (f := 112) ?_); (refine' CallP.sf ?_ (hc) ?_); (focus first | (with_reducible exact simL_refl _) | (simp [simL, simA, simA_refl, simL_refl]; done))) | ((with_reducible refine CallP.chk (f := 52) ?_); (refine' CallP.sf ?_ (hd) ?_); (focus first | (with_reducible exact simL_refl _) | (simp [simL, simA, simA_refl, simL_refl]; done))) | ((with_reducible refine CallP.chk (f := 84) ?_); (refine' CallP.sf ?_ (hi) ?_); (focus first | (with_reducible exact simL_refl _) | (simp [simL, simA, simA_refl, simL_refl]; done))) | ((with_reducible refine CallP.chk (f := 85) ?_); (refine' CallP.sf ?_ (hn) ?_); (focus first | (with_reducible exact simL_refl _) | (simp [simL, simA, simA_refl, simL_refl]; done))) | (with_reducible refine fin_r ?_ ?_ ?_) | (with_reducible exact SameB.rfl_ _ _) | (with_reducible refine SameB.upd ?_ ?_ _) | (with_reducible assumption) | (with_reducible refine newPM_of ?_) | (with_reducible refine newP_go ?_) | (with_reducible intro _g _hg) | (with_reducible refine And.intro ?_ ?_) | (with_reducible intro _hc) | omega)
          all_goals exact simA_refl _
        · repeat' (first | (simp -implicitDefEqProofs [c91_k1_go, c91, -getElem?_pos, simA_refl, splice, hv, h0]) | (simp (disch := omega) only [upd_ne, Qy, if_pos, if_neg, IntWalk.i64_in, Int.tdiv_eq_ediv_of_nonneg, Int.tmod_eq_emod_of_nonneg]) | ((with_reducible refine CallP.chk (f := 112) ?_); (refine' CallP.sf ?_ (hc) ?_); (focus first | (with_reducible exact simL_refl _) | (simp [simL, simA, simA_refl, simL_refl]; done))) | ((with_reducible refine CallP.chk (f := 52) ?_); (refine' CallP.sf ?_ (hd) ?_); (focus first | (with_reducible exact simL_refl _) | (simp [simL, simA, simA_refl, simL_refl]; done))) | ((with_reducible refine CallP.chk (f := 84) ?_); (refine' CallP.sf ?_ (hi) ?_); (focus first | (with_reducible exact simL_refl _) | (simp [simL, simA, simA_refl, simL_refl]; done))) | ((with_reducible refine CallP.chk (f := 85) ?_); (refine' CallP.sf ?_ (hn) ?_); (focus first | (with_reducible exact simL_refl _) | (simp [simL, simA, simA_refl, simL_refl]; done))) | (with_reducible refine fin_r ?_ ?_ ?_) | (with_reducible exact SameB.rfl_ _ _) | (with_reducible refine SameB.upd ?_ ?_ _) | (with_reducible assumption) | (with_reducible refine newPM_of ?_) | (with_reducible refine newP_go ?_) | (with_reducible intro _g _hg) | (with_reducible refine And.intro ?_ ?_) | (with_reducible intro _hc) | omega)
          all_goals exact simA_refl _
end Go.Proofs.YtecpfmhminkalaaGreatDoor

/- What the library does with numbers and words, brought to plain data; no condition. -/
import Derived.Test.YtecpfmhminkalaaGreatDoorMgE
import Derived.Test.YtecpfmhminkalaaGreatDoorAdA
import Derived.Test.YtecpfmhminkalaaGreatDoorMrY
import Derived.Shelf.Strings.Fields
import Derived.Shelf.Strconv.Itoa3
import Derived.Shelf.Strings.OnBuilder
import Derived.Lib.AppendIntMem
import Derived.Test.YtecpfmhminkalaaGreatDoorMrG
import Derived.Test.YtecpfmhminkalaaGreatDoorAdB
import Derived.Lib.ItoaLen
set_option linter.all false
set_option linter.unusedSimpArgs false
set_option linter.unusedVariables false
namespace Go.Proofs.YtecpfmhminkalaaGreatDoor
open Go.RowKit
abbrev Str := List UInt8
/-- what a call of the machine does, brought to plain data -/
theorem rel_below {P : Program} {w0 w w' : World} {G : Gh} {n : Nat} {H : AHeap} (h0 : Rel0 P w0 G n H w) (hb : Below w.heap.size w w') : Rel0 P w0 G n H w' := by
  have hbl : ∀ g, g < w.heap.size → w'.heap[g]? = w.heap[g]? := fun g hg => hb.block g hg
  refine ⟨h0.ext.tr hb, h0.lo, Nat.le_trans h0.hi hb.size, fun b o v hv => ?_, fun g e c hg => ?_, h0.capLo, fun g ob hob => ?_⟩
  · have hc := h0.seal_ b o v hv
    have hlt : b < w.heap.size := World.block_lt_of_cell? _ _ hc
    rw [hb.cell (p := ⟨b, o, none⟩) hlt]; exact hc
  · obtain ⟨cur, fz, h1, h2⟩ := h0.caps g e c hg
    refine ⟨cur, fz, ?_, h2⟩
    rw [hbl g (Array.getElem?_eq_some_iff.1 h1).1]; exact h1
  · obtain ⟨h1, h2, h3⟩ := h0.objs g ob hob
    refine ⟨h1, h2, ?_⟩
    have hlt : g < w.heap.size := Nat.lt_of_lt_of_le h2 h0.hi
    cases ob with
    | cells e cs => obtain ⟨k1, vs, k2, k3⟩ := h3; exact ⟨k1, vs, by rw [hbl g hlt]; exact k2, k3⟩
    | row e m => obtain ⟨cur, c, fz, k1, k2, k3⟩ := h3; exact ⟨cur, c, fz, k1, by rw [hbl g hlt]; exact k2, k3⟩
    | map kk es => obtain ⟨es', c, k1, k2⟩ := h3; exact ⟨es', c, by rw [hbl g hlt]; exact k1, k2⟩
theorem apure_ofL {P : Program} {f : Nat} {args : List AV} {v : AV} (h : ∀ (G : Gh) (vs : List Value), RepL G vs args → ∃ u : Value, (∀ G', Rep G' u v) ∧ ∀ w : World, Laid w → Calls P f vs.toArray w fun e w' => e = .returned u ∧ Below w.heap.size w w') : APure P f args v := by
  intro n H hs w0 G w vs hl h0 hrep
  obtain ⟨u, hu, hc⟩ := h G vs hrep
  refine (hc w (hl.ext h0.ext)).mono ?_
  rintro e w' ⟨rfl, hb⟩
  exact ⟨u, v, G, n, H, rfl, ⟨rfl, rfl, rfl⟩, hu G, Gh.Le.rfl_ _, Nat.le_refl _, rel_below h0 hb⟩
theorem str_data (s : ByteArray) (l : List UInt8) (h : s.data.toList = l) : s = ⟨l.toArray⟩ := by cases s; subst h; simp
theorem itoa_a (n : Int) (h : -9223372036854775808 ≤ n ∧ n ≤ 9223372036854775807) : APure Tryz.prog 46 [.int .i64 n] (.str (Lib.itoa n)) := by
  refine apure_ofL fun G vs hr => ⟨.string ⟨(Lib.itoa n).toArray⟩, fun _ => .str (by simp), fun w hl => ?_⟩
  cases hr with | cons h1 h2 =>
  cases h2; cases h1
  refine (Any.strconv_Itoa laysM171 n h.1 h.2 w (tab_of (by kernel_rfl) hl.pow)).mono ?_
  rintro e w' ⟨rfl, k, os, rfl⟩
  exact ⟨rfl, Lib.below_grow _ _ (Nat.le_refl _) _ _⟩
theorem flat_strs (l : List Str) : flatA (l.map AV.str) = l.map AV.str := by
  induction l with
  | nil => rfl
  | cons x l ih => simp only [List.map_cons, flatA, List.flatMap_cons, AV.cells, List.singleton_append] at ih ⊢; rw [ih]
theorem repL_strs {G : Gh} (l : List Str) : RepL G (l.map fun x => Value.string ⟨x.toArray⟩) (l.map AV.str) := by
  induction l with
  | nil => exact .nil
  | cons x l ih => exact .cons (.str (by simp)) ih
theorem fields_a (s : Str) (hs : s.length < 4294967281) (ha : ∀ b ∈ s, b.toNat < 128) (hk : (Lib.fields s).length ≤ 1000000) : APure Tryz.prog 80 [.str s] (.sl 1 ((Lib.fields s).map AV.str) .ro) := by
  intro n H hH w0 G w vs hl h0 hrep
  cases hrep with | cons h1 h2 =>
  cases h2; cases h1
  rename_i sb hsb
  subst hsb
  refine (Any.strings_Fields lays157 (by kernel_rfl) (by kernel_rfl) sb w (by rw [Lib.size_eq]; exact hs) (fun j b hj => ha b (List.mem_of_getElem? hj)) (tab_of (by kernel_rfl) (hl.ext h0.ext).spc)).mono ?_
  rintro e w' ⟨rfl, rfl⟩
  have hrel := h0.newRow (w' := w.alloc (.cells ((Lib.fields sb.data.toList).map fun l => Value.string ⟨l.toArray⟩).toArray 9)) (cur := ((Lib.fields sb.data.toList).map fun l => Value.string ⟨l.toArray⟩).toArray) (e := 9) (fz := (0, 0)) (vs := (Lib.fields sb.data.toList).map fun l => Value.string ⟨l.toArray⟩) (c := none) (ob := none) rfl rfl rfl rfl
    (fun j u hu => by simpa using hu) (fun e' c' hc => by cases hc) (.inl rfl)
  have hle := h0.addLe ((Lib.fields sb.data.toList).map fun l => Value.string ⟨l.toArray⟩) none
  have hhi := h0.hi
  refine ⟨_, _, _, n, H, rfl, ⟨rfl, rfl, rfl⟩, .slro (vs := (Lib.fields sb.data.toList).map fun l => Value.string ⟨l.toArray⟩) ?_ (Gh.add_sealed _ _ _) ?_ (by simp), hle, Nat.le_refl _, hrel.less h0.lo (by omega) hH ?_⟩
  · rw [flat_strs]; exact repL_strs _
  · refine ⟨by simp, by simp only [maxLen]; omega, by decide, fun x hx => ?_, fun x hx => ?_⟩
    · obtain ⟨y, _, rfl⟩ := List.mem_map.1 hx; rfl
    · rw [flat_strs] at hx; obtain ⟨y, _, rfl⟩ := List.mem_map.1 hx; rfl
  · intro k hk'
    rw [upd_ne (by omega)]
abbrev aSs (l : List Str) : AV := .sl 1 (l.map AV.str) .ro
theorem join_a (l : List Str) (sep : Str) (hl : l.length ≤ 140737488355328) (hlen : (Lib.join l sep).length ≤ 140737488355328) : APure Tryz.prog 54 [aSs l, .str sep] (.str (Lib.join l sep)) := by
  intro n H hH w0 G w vs hl0 h0 hrep
  cases hrep with | cons h1 h2 =>
  cases h2 with | cons h3 h4 =>
  cases h4; cases h3
  rename_i sb hsb
  subst hsb
  obtain ⟨A, c, rfl, hc, hm, hA⟩ := h1.slOut
  have key : ∀ {W : World} {e : Ending}, e = .returned (.string ⟨(Lib.join l sb.data.toList).toArray⟩) → Below w.heap.size w W → ∃ (v : Value) (r : AV) (G' : Gh) (n' : Nat) (H' : AHeap), e = .returned v ∧ (r = .str (Lib.join l sb.data.toList) ∧ n' = n ∧ H' = H) ∧ Rep G' v r ∧ G.Le G' ∧ n ≤ n' ∧ Rel0 Tryz.prog w0 G' n' H' W := fun he hb =>
    ⟨_, _, G, n, H, he, ⟨rfl, rfl, rfl⟩, .str (by simp), Gh.Le.rfl_ _, Nat.le_refl _, rel_below h0 hb⟩
  by_cases hl0 : l = []
  · subst hl0
    refine (Any.strings_Join_none lays156 Builder_Extra_156 A c sb w).mono ?_
    rintro e w' ⟨he, rfl⟩
    exact key (by rw [he]; rfl) (Below.refl _ _)
  · obtain ⟨g, off, us, rfl, hr, hs, ho⟩ := hA (by simpa using hl0)
    rw [flat_strs] at hr
    have hcell : ∀ (j : Nat) (x : ByteArray), (l.map fun x => (⟨x.toArray⟩ : ByteArray))[j]? = some x → w.cell? ⟨g, off + j, none⟩ = some (.string x) := by
      intro j x hj
      obtain ⟨y, hy, rfl⟩ : ∃ y, l[j]? = some y ∧ (⟨y.toArray⟩ : ByteArray) = x := by simpa [List.getElem?_map] using hj
      obtain ⟨u, hu, hru⟩ := hr.at (i := j) (x := .str y) (by simp [List.getElem?_map, hy])
      have h5 := h0.seal_ _ _ _ (hs j u hu)
      cases hru
      rename_i s hsy
      rw [h5, str_data _ _ hsy]
    have hlt : g < w.heap.size := by
      obtain ⟨y, hy⟩ : ∃ y, l[0]? = some y := ⟨_, List.getElem?_eq_getElem (List.length_pos_iff.2 hl0)⟩
      have := World.block_lt_of_cell? w _ (hcell 0 ⟨y.toArray⟩ (by simp [List.getElem?_map, hy]))
      simpa using this
    have hmap : (l.map fun x => (⟨x.toArray⟩ : ByteArray)).map (·.data.toList) = l := by
      rw [List.map_map]; conv => rhs; rw [← List.map_id l]
      apply List.map_congr_left; intro x _; simp
    have hj := Any.strings_Join lays156 Builder_Extra_156 g off c (l.map fun x => (⟨x.toArray⟩ : ByteArray)) sb w hcell hlt (by simpa using hl) (by simpa using hc) (by rw [hmap]; exact hlen)
    rw [hmap, List.length_map] at hj
    simp only [List.length_map] at *
    refine hj.mono ?_
    rintro e w' ⟨he, hb⟩
    exact key he hb
end Go.Proofs.YtecpfmhminkalaaGreatDoor
namespace Go.Proofs.YtecpfmhminkalaaGreatDoor
abbrev aStrs (l : List Str) : List AV := l.map AV.str
def wordsL (word : Str) (items : List Str) : List Str := if items = [] then [] else [word, Lib.join items [44]]
theorem join_le {B : Nat} (sep : Str) : ∀ l : List Str, (∀ x ∈ l, x.length ≤ B) → (Lib.join l sep).length ≤ l.length * (B + sep.length)
  | [], _ => by simp [Lib.join_nil]
  | x :: r, h => by
    rw [Lib.join_length]
    have : Lib.lens (x :: r) ≤ (x :: r).length * B := by
      have key : ∀ l : List Str, (∀ x ∈ l, x.length ≤ B) → Lib.lens l ≤ l.length * B := by
        intro l
        induction l with
        | nil => intro _; simp [Lib.lens]
        | cons y ys ih =>
          intro hy
          have h1 := hy y List.mem_cons_self
          have h2 := ih fun z hz => hy z (List.mem_cons_of_mem _ hz)
          simp only [Lib.lens, List.map_cons, List.sum_cons, List.length_cons, Nat.add_mul, Nat.one_mul] at h2 ⊢
          omega
      exact key _ h
    simp only [List.length_cons] at this ⊢
    have e : (r.length + 1) * (B + sep.length) = (r.length + 1) * B + (r.length + 1) * sep.length := Nat.mul_add _ _ _
    have e2 : (r.length + 1) * sep.length = sep.length * r.length + sep.length := by rw [Nat.add_mul, Nat.one_mul, Nat.mul_comm]
    omega
theorem own_some {n : Nat} {H : AHeap} {el sz : Nat} {x : AV} {l : List AV} (h : OwnS n H el sz x l) (hl : l ≠ []) : ∃ g, x = .sl sz l (.own g) ∧ H g = some (.row el l.length) := by
  rcases h with ⟨e0, _⟩ | ⟨g, h0, h1, _⟩
  · exact absurd e0 hl
  · exact ⟨g, h0, h1⟩
attribute [local simp] YL Z7 Z9 YM YN YO YP Z8 Z3 Z5 Z4 YQ YR YS YT YU YV YW YX YY YZ Ya Yb Yc Yd scV pe Ye Yf Yg Yh Yi Yj Yk Yl Ym Yn Yo spg_mv Yp Yq Yr Ys Yt Yu Yv Yw Yx Yy Yz X0 X1 X2 X3 X4 X5 X6 X7 X8 X9 spg_mm XA YD XB XC XD XE XF XG XH XI XJ XK XL XM XN XO XP XQ XR XS XT XU XV XW XX XY XZ YC Xa Xb Xc Xd Xe Xf Xg Xh Xi Xj Xk Xl Xm Xn Xo Xp Xq Xr Xs Xt Xu Xv Xw Xx List.mem_cons ZO ZN Z1 YG Zu Xy Zi Zr Zn Zp Zq Zo Zv Zw Zm Xz Q0 Zl Q1 Q2 Q4 Q5 Q6 Q7 Zs Q8 Q9 QA QB QC QD Zt Zh Zx Y1 Y2 QE QF Y3 QG Zj QH Zk Zg QI Zy Zz QJ QK QM QN QO QP QR QS Zd ZK ZI Zc Zf ZH ZM YB Z0 QT ZV ZL Ze ZC ZZ ZA Y5 ZJ Y8 Y9 Zb ZY ZU ZX Za ZT ZD ev get put Y4 ZS QU QV QW QX QY QZ ZE part ZW Qb Qc Qd isNil ZR ZQ ZB ZP YE Qe Qf Qg Qh Qi Qj Qk Ql Qm Qn Qo Qp Qq Qr Qs Qt AV.fits AV.cells ones AV.one YH YI YJ YK ZF ZG Qu Qv Qw Qx Y6 Y7 resV Z2 Qy YA u8e YF Qz V0 List.getElem?_cons_zero List.getElem?_cons_succ
set_option maxHeartbeats 4000000 in
theorem texList_a (f : Nat) (cap : List AV) (items : List Str) (word : Str) (l : List Str) (n g : Nat) (H : AHeap) (x : AV) (hc : callable Tryz.prog f = true)
    (hf : ∀ (i : Nat) it, items[i]? = some it → ∀ n' H', SameB n H H' → n ≤ n' → APureAt Tryz.prog f (aI i :: cap) n' H' (.str it))
    (hg : H g = some (.cells 68 [x])) (hx : OwnS 0 H 9 1 x (aStrs l)) (hb : ∀ it ∈ items, it.length ≤ 1000) (hn : items.length ≤ 1000) (hl : l.length ≤ 1000) :
    ACalls Tryz.prog 48 [.ptr g 0, .str word, aI items.length, .fn f [] cap] n H fun r n' H' => r = .tup [] ∧ ∃ x', H' g = some (.cells 68 [x']) ∧ OwnS 0 H' 9 1 x' (aStrs (l ++ wordsL word items)) ∧
      (∀ k, k < n → k ≠ g → notRow x k → H' k = H k) ∧ ∀ k, k < n → notRow x k → notRow x' k := by
  refine acalls_intro Tryz.func48 cmp48 rfl fun hs => ?_
  have hgn := upd_cells hs hg
  have hng : notRow x g := own_not hx hg
  by_cases h0 : items.length = 0
  · have e : wordsL word items = [] := by unfold wordsL; rw [if_pos (List.length_eq_zero_iff.1 h0)]
    rw [h0, e]
    repeat' (first | (simp -implicitDefEqProofs [c48_k1_go, c48_k2_go, c48_k3_go, c48_L4_go, c48_k5_go, c48, -getElem?_pos, simA]) | (simp (disch := omega) only [upd_ne, Qy, if_pos, if_neg, IntWalk.i64_in, Int.tdiv_eq_ediv_of_nonneg, Int.tmod_eq_emod_of_nonneg]) | (with_reducible refine fin_r ?_ ?_ ?_) | (with_reducible exact SameB.rfl_ _ _) | (with_reducible refine SameB.upd ?_ ?_ _) | (with_reducible assumption) | (with_reducible refine newSM_of ?_) | (with_reducible refine newS_go ?_) | (with_reducible intro _g _hg) | (with_reducible refine And.intro ?_ ?_) | (with_reducible intro _hc) | omega)
    exact fin_ret rfl (Nat.le_refl _) hs ⟨rfl, x, hg, by simpa using hx, fun _ _ _ _ => rfl, fun _ _ h => h⟩
  · have e : wordsL word items = [word, Lib.join items [44]] := by unfold wordsL; rw [if_neg (fun h => h0 (by rw [h]; rfl))]
    rw [e]
    have hj := join_a items [44] (by omega) (by have := join_le (B := 1000) [44] items hb; simp only [List.length_cons, List.length_nil] at this; have := Nat.mul_le_mul_right (1000 + (0 + 1)) hn; omega)
    have _hb : True := trivial
    have _hO : Owns n H [] [⟨9, 1, .sl 0 [] .nil, []⟩] n H := (Owns.start hs).addNil _ _ _
    repeat' (first | (simp -implicitDefEqProofs [c48_k1_go, c48_k2_go, c48_k3_go, c48_L4_go, c48_k5_go, c48, -getElem?_pos, simA, h0, _hb]) | (simp (disch := omega) only [upd_ne, Qy, if_pos, if_neg, IntWalk.i64_in, Int.tdiv_eq_ediv_of_nonneg, Int.tmod_eq_emod_of_nonneg]) | (with_reducible refine fin_r ?_ ?_ ?_) | (with_reducible exact SameB.rfl_ _ _) | (with_reducible refine SameB.upd ?_ ?_ _) | (with_reducible assumption) | (with_reducible refine newSM_of ?_) | ((with_reducible refine newS_own (by assumption) (fun _g _hg _hO => ?_))) | ((with_reducible refine appKS.chk ?_); first | ((refine Owns.app (by assumption) (.inl rfl) (by first | (exact Owns.simL0 (by assumption)) | (exact Owns.simL1 (by assumption)) | (with_reducible exact simL_refl _) | assumption | (simp [simL, simA, simA_refl, simL_refl]; done)) ?_ ?_ (fun _x _n _H _hle _hO _hb => ?_)); rotate_left 2; dsimp only [BoxF, BoxF0, RowF] at _hb) | ((refine Owns.app1 (by assumption) (.inl rfl) (by first | (exact Owns.simL0 (by assumption)) | (exact Owns.simL1 (by assumption)) | (with_reducible exact simL_refl _) | assumption | (simp [simL, simA, simA_refl, simL_refl]; done)) ?_ ?_ (fun _x _n _H _hle _hO _hb => ?_)); rotate_left 2; dsimp only [BoxF, BoxF0, RowF] at _hb)) | (first | (with_reducible exact Owns.fit0 (by assumption)) | (with_reducible exact Owns.fit1 (by assumption))) | (with_reducible exact Owns.le (by assumption)) | (with_reducible exact Owns.same (by assumption)) | (with_reducible refine newSM_of ?_) | (with_reducible refine newS_go ?_) | (with_reducible intro _g _hg) | (with_reducible refine And.intro ?_ ?_) | (with_reducible intro _hc) | omega)
    refine LoopK.go (fun q s => ∃ (k n' : Nat) (H' : AHeap) (y : AV), k + q = items.length ∧ s = ⟨[(0, .ptr g 0), (1, .str word), (3, .fn f [] cap), (8, y), (12, aI items.length), (13, aI k)], n', H'⟩ ∧ Owns n H [] [⟨9, 1, y, aStrs (items.take k)⟩] n' H') items.length ⟨0, _, _, _, by omega, rfl, by simpa using _hO⟩ ?_
    rintro q s ⟨k, n1, H1, y, hkq, rfl, _hO⟩ J hJ
    have _hb := _hO.boxF
    dsimp only [BoxF, BoxF0, RowF] at _hb
    have hle := _hO.le
    by_cases hk : k < items.length
    · obtain ⟨it, hit⟩ : ∃ it, items[k]? = some it := ⟨_, List.getElem?_eq_getElem hk⟩
      have hfk := hf k it hit n1 H1 _hO.same hle
      repeat' (first | (simp -implicitDefEqProofs [c48_k1_go, c48_k2_go, c48_k3_go, c48_L4_go, c48_k5_go, c48, -getElem?_pos, simA, hc, maxLen, _hb]) | (simp (disch := omega) only [upd_ne, Qy, if_pos, if_neg, IntWalk.i64_in, Int.tdiv_eq_ediv_of_nonneg, Int.tmod_eq_emod_of_nonneg]) | ((with_reducible refine CallK.chk (f := f) ?_); (refine' CallK.sfAt ?_ (hfk) ?_); (focus first | (with_reducible exact simL_refl _) | (exact Owns.simC0 (by assumption)) | (exact Owns.simC1 (by assumption)) | (simp [simL, simA, simA_refl, simL_refl]; done))) | (with_reducible refine fin_r ?_ ?_ ?_) | (with_reducible exact SameB.rfl_ _ _) | (with_reducible refine SameB.upd ?_ ?_ _) | (with_reducible assumption) | (with_reducible refine newSM_of ?_) | ((with_reducible refine newS_own (by assumption) (fun _g _hg _hO => ?_))) | ((with_reducible refine appKS.chk ?_); first | ((refine Owns.app (by assumption) (.inl rfl) (by first | (exact Owns.simL0 (by assumption)) | (exact Owns.simL1 (by assumption)) | (with_reducible exact simL_refl _) | assumption | (simp [simL, simA, simA_refl, simL_refl]; done)) ?_ ?_ (fun _x _n _H _hle _hO _hb => ?_)); rotate_left 2; dsimp only [BoxF, BoxF0, RowF] at _hb) | ((refine Owns.app1 (by assumption) (.inl rfl) (by first | (exact Owns.simL0 (by assumption)) | (exact Owns.simL1 (by assumption)) | (with_reducible exact simL_refl _) | assumption | (simp [simL, simA, simA_refl, simL_refl]; done)) ?_ ?_ (fun _x _n _H _hle _hO _hb => ?_)); rotate_left 2; dsimp only [BoxF, BoxF0, RowF] at _hb)) | (first | (with_reducible exact Owns.fit0 (by assumption)) | (with_reducible exact Owns.fit1 (by assumption))) | (with_reducible exact Owns.le (by assumption)) | (with_reducible exact Owns.same (by assumption)) | (with_reducible refine newSM_of ?_) | (with_reducible refine newS_go ?_) | (with_reducible intro _g _hg) | (with_reducible refine And.intro ?_ ?_) | (with_reducible intro _hc) | omega)
      all_goals exact hJ (q - 1) _ (by omega) ⟨k + 1, _, _, _, by omega, rfl, by rw [take_at hit, aStrs, List.map_append]; exact _hO⟩
    · have hk0 : k = items.length := by omega
      subst hk0
      rw [List.take_length] at _hO _hb
      have hg1 : H1 g = some (.cells 68 [x]) := (_hO.same g hgn).trans hg
      repeat' (first | (simp -implicitDefEqProofs [c48_k1_go, c48_k2_go, c48_k3_go, c48_L4_go, c48_k5_go, c48, -getElem?_pos, simA, hg1, _hb]) | (simp (disch := omega) only [upd_ne, Qy, if_pos, if_neg, IntWalk.i64_in, Int.tdiv_eq_ediv_of_nonneg, Int.tmod_eq_emod_of_nonneg]) | ((with_reducible refine CallP.chk (f := 54) ?_); (refine' CallP.sf ?_ (hj) ?_); (focus first | (with_reducible exact simL_refl _) | (exact Owns.simC0 (by assumption)) | (exact Owns.simC1 (by assumption)) | (simp [simL, simA, simA_refl, simL_refl]; done))) | (with_reducible refine fin_r ?_ ?_ ?_) | (with_reducible exact SameB.rfl_ _ _) | (with_reducible refine SameB.upd ?_ ?_ _) | (with_reducible assumption) | (with_reducible refine newSM_of ?_) | ((with_reducible refine newS_own (by assumption) (fun _g _hg _hO => ?_))) | ((with_reducible refine appKS.chk ?_); first | ((refine Owns.app (by assumption) (.inl rfl) (by first | (exact Owns.simL0 (by assumption)) | (exact Owns.simL1 (by assumption)) | (with_reducible exact simL_refl _) | assumption | (simp [simL, simA, simA_refl, simL_refl]; done)) ?_ ?_ (fun _x _n _H _hle _hO _hb => ?_)); rotate_left 2; dsimp only [BoxF, BoxF0, RowF] at _hb) | ((refine Owns.app1 (by assumption) (.inl rfl) (by first | (exact Owns.simL0 (by assumption)) | (exact Owns.simL1 (by assumption)) | (with_reducible exact simL_refl _) | assumption | (simp [simL, simA, simA_refl, simL_refl]; done)) ?_ ?_ (fun _x _n _H _hle _hO _hb => ?_)); rotate_left 2; dsimp only [BoxF, BoxF0, RowF] at _hb)) | (first | (with_reducible exact Owns.fit0 (by assumption)) | (with_reducible exact Owns.fit1 (by assumption))) | (with_reducible exact Owns.le (by assumption)) | (with_reducible exact Owns.same (by assumption)) | (with_reducible refine newSM_of ?_) | (with_reducible refine newS_go ?_) | (with_reducible intro _g _hg) | (with_reducible refine And.intro ?_ ?_) | (with_reducible intro _hc) | omega)
      have hx1 : OwnS 0 (upd H1 _g (some (.row 9 2))) 9 1 x (aStrs l) := hx.keep fun k el m hk => by
        have : k < n := by rcases Nat.lt_or_ge k n with h | h; exact h; rw [hs k h] at hk; cases hk
        exact (_hO.same k this).trans hk
      have hs1 : ∀ k, _g + 1 ≤ k → upd H1 _g (some (.row 9 2)) k = none := _hO.mem.sup
      refine app_low (.inl rfl) (simL_refl _) hs1 hx1 (by simp; omega) (by simp [maxLen]; omega) fun x' n2 H2 ho hs2 hlow hnr hle2 => ?_
      obtain ⟨g2, rfl, hg2⟩ := own_some ho (by simp)
      have hg3 : H2 g = some (.cells 68 [x]) := by
        rw [hlow g (by omega) hng, _hO.same g hgn]; exact hg
      repeat' (first | (simp -implicitDefEqProofs [c48_k1_go, c48_k2_go, c48_k3_go, c48_L4_go, c48_k5_go, c48, -getElem?_pos, hg3, splice]) | (simp (disch := omega) only [upd_ne, Qy, if_pos, if_neg, IntWalk.i64_in, Int.tdiv_eq_ediv_of_nonneg, Int.tmod_eq_emod_of_nonneg]) | (with_reducible refine fin_r ?_ ?_ ?_) | (with_reducible exact SameB.rfl_ _ _) | (with_reducible assumption) | (with_reducible refine newSM_of ?_) | (with_reducible refine newS_go ?_) | (with_reducible intro _g _hg) | (with_reducible refine And.intro ?_ ?_) | (with_reducible intro _hc) | omega)
      refine fin_nrm rfl (by omega) (fun k hk => by rw [upd_ne (by omega)]; exact hs2 k hk) ⟨rfl, _, Qy _ _ _, ?_, fun k hk hkg hkx => ?_, fun k hk hkx => hnr k (by omega) hkx⟩
      · refine ho.keep fun k el m hk => ?_
        rw [upd_ne (fun e' => by subst e'; rw [hg3] at hk; cases hk)]; exact hk
      · rw [upd_ne hkg, hlow k (by omega) hkx]; exact _hO.same k hk
end Go.Proofs.YtecpfmhminkalaaGreatDoor
namespace Go.Proofs.YtecpfmhminkalaaGreatDoor
theorem ruleF_all {r : Rule} (h : (ruleF r).1 = 0) : (∀ x ∈ r.months, 1 ≤ x ∧ x ≤ 12) ∧ (∀ x ∈ r.mdays, -31 ≤ x ∧ x ≤ 31) ∧ (∀ w ∈ r.wdays, 0 ≤ w.1 ∧ w.1 ≤ 6 ∧ -5 ≤ w.2 ∧ w.2 ≤ 5) ∧ ∀ x ∈ r.picks, -366 ≤ x ∧ x ≤ 366 := by
  unfold ruleF at h
  split at h
  · cases h
  split at h
  · cases h
  split at h
  · contradiction
  split at h
  · contradiction
  split at h
  · contradiction
  split at h
  · contradiction
  rename_i h0 h1 h2 h3 h4 h5
  simp only [ne_eq, Decidable.not_not] at h2 h3 h4 h5
  refine ⟨fun x hx => ?_, fun x hx => ?_, fun w hw => ?_, fun x hx => ?_⟩
  · have := chk_all h2 x hx; simp [pMon] at this; exact this
  · have := chk_all h3 x hx; simp [pSgn] at this; omega
  · have := chk_all h4 w hw; simp [pWd] at this; omega
  · have := chk_all h5 x hx; simp [pSgn] at this; omega
abbrev unitL : List Str := [[100, 97, 121], [119, 101, 101, 107], [109, 111, 110, 116, 104], [121, 101, 97, 114]]
abbrev dayL : List Str := [[109, 111, 110], [116, 117, 101], [119, 101, 100], [116, 104, 117], [102, 114, 105], [115, 97, 116], [115, 117, 110]]
attribute [local simp] YL Z7 Z9 YM YN YO YP Z8 Z3 Z5 Z4 YQ YR YS YT YU YV YW YX YY YZ Ya Yb Yc Yd scV pe Ye Yf Yg Yh Yi Yj Yk Yl Ym Yn Yo spg_mv Yp Yq Yr Ys Yt Yu Yv Yw Yx Yy Yz X0 X1 X2 X3 X4 X5 X6 X7 X8 X9 spg_mm XA YD XB XC XD XE XF XG XH XI XJ XK XL XM XN XO XP XQ XR XS XT XU XV XW XX XY XZ YC Xa Xb Xc Xd Xe Xf Xg Xh Xi Xj Xk Xl Xm Xn Xo Xp Xq Xr Xs Xt Xu Xv Xw Xx List.mem_cons ZO ZN Z1 YG Zu Xy Zi Zr Zn Zp Zq Zo Zv Zw Zm Xz Q0 Zl Q1 Q2 Q4 Q5 Q6 Q7 Zs Q8 Q9 QA QB QC QD Zt Zh Zx Y1 Y2 QE QF Y3 QG Zj QH Zk Zg QI Zy Zz QJ QK QM QN QO QP QR QS Zd ZK ZI Zc Zf ZH ZM YB Z0 QT ZV ZL Ze ZC ZZ ZA Y5 ZJ Y8 Y9 Zb ZY ZU ZX Za ZT ZD ev get put Y4 ZS QU QV QW QX QY QZ ZE part ZW Qb Qc Qd isNil ZR ZQ ZB ZP YE Qe Qf Qg Qh Qi Qj Qk Ql Qm Qn Qo Qp Qq Qr Qs Qt AV.fits AV.cells ones AV.one YH YI YJ YK ZF ZG Qu Qv Qw Qx Y6 Y7 resV Z2 Qy YA u8e YF Qz V0 List.getElem?_cons_zero List.getElem?_cons_succ
theorem unitNames_a : APure Tryz.prog 47 [] (aSs unitL) := by
  have h := fields_a [100, 97, 121, 32, 119, 101, 101, 107, 32, 109, 111, 110, 116, 104, 32, 121, 101, 97, 114] (by decide) (by decide) (by decide)
  have e : Lib.fields [100, 97, 121, 32, 119, 101, 101, 107, 32, 109, 111, 110, 116, 104, 32, 121, 101, 97, 114] = unitL := by decide
  rw [e] at h
  refine apure_intro Tryz.func47 cmp47 rfl fun n H hH => ?_
  repeat' (first | (simp -implicitDefEqProofs [c47, -getElem?_pos, simA_refl]) | (simp (disch := omega) only [upd_ne, Qy, if_pos, if_neg, IntWalk.i64_in, Int.tdiv_eq_ediv_of_nonneg, Int.tmod_eq_emod_of_nonneg]) | ((with_reducible refine CallP.chk (f := 80) ?_); (refine' CallP.sf ?_ (h) ?_); (focus first | (with_reducible exact simL_refl _) | (simp [simL, simA, simA_refl, simL_refl]; done))) | (with_reducible refine fin_r ?_ ?_ ?_) | (with_reducible exact SameB.rfl_ _ _) | (with_reducible refine SameB.upd ?_ ?_ _) | (with_reducible assumption) | (with_reducible intro _g _hg) | (with_reducible refine And.intro ?_ ?_) | (with_reducible intro _hc) | omega)
  all_goals exact simA_refl _
theorem dayNames_a : APure Tryz.prog 52 [] (aSs dayL) := by
  have h := fields_a [109, 111, 110, 32, 116, 117, 101, 32, 119, 101, 100, 32, 116, 104, 117, 32, 102, 114, 105, 32, 115, 97, 116, 32, 115, 117, 110] (by decide) (by decide) (by decide)
  have e : Lib.fields [109, 111, 110, 32, 116, 117, 101, 32, 119, 101, 100, 32, 116, 104, 117, 32, 102, 114, 105, 32, 115, 97, 116, 32, 115, 117, 110] = dayL := by decide
  rw [e] at h
  refine apure_intro Tryz.func52 cmp52 rfl fun n H hH => ?_
  repeat' (first | (simp -implicitDefEqProofs [c52, -getElem?_pos, simA_refl]) | (simp (disch := omega) only [upd_ne, Qy, if_pos, if_neg, IntWalk.i64_in, Int.tdiv_eq_ediv_of_nonneg, Int.tmod_eq_emod_of_nonneg]) | ((with_reducible refine CallP.chk (f := 80) ?_); (refine' CallP.sf ?_ (h) ?_); (focus first | (with_reducible exact simL_refl _) | (simp [simL, simA, simA_refl, simL_refl]; done))) | (with_reducible refine fin_r ?_ ?_ ?_) | (with_reducible exact SameB.rfl_ _ _) | (with_reducible refine SameB.upd ?_ ?_ _) | (with_reducible assumption) | (with_reducible intro _g _hg) | (with_reducible refine And.intro ?_ ?_) | (with_reducible intro _hc) | omega)
  all_goals exact simA_refl _
def wdT (w : Int × Int) : Str := if w.2 = 0 then dayL.getD w.1.toNat [] else dayL.getD w.1.toNat [] ++ [35] ++ Lib.itoa w.2
theorem day_len (k : Nat) : (dayL.getD k []).length ≤ 3 := by
  match k with
  | 0 => decide
  | 1 => decide
  | 2 => decide
  | 3 => decide
  | 4 => decide
  | 5 => decide
  | 6 => decide
  | k + 7 => simp
section
variable {n gr : Nat} {H : AHeap} (r : Rule) (hg : H gr = some (.cells 25 (aRc r))) (i : Nat)
include hg
theorem print1_at (v : Int) (hi : r.months[i]? = some v) (hv : -1000 ≤ v ∧ v ≤ 1000) : APureAt Tryz.prog 49 [aI i, .ptr gr 0] n H (.str (Lib.itoa v)) := by
  have ht := itoa_a v (by omega)
  refine apureAt_intro Tryz.func49 cmp49 rfl fun hH => ?_
  repeat' (first | (simp -implicitDefEqProofs [c49, -getElem?_pos, simA, hg, hi]) | (simp (disch := omega) only [upd_ne, Qy, if_pos, if_neg, IntWalk.i64_in, Int.tdiv_eq_ediv_of_nonneg, Int.tmod_eq_emod_of_nonneg]) | ((with_reducible refine CallP.chk (f := 46) ?_); (refine' CallP.sf ?_ (ht) ?_); (focus first | (with_reducible exact simL_refl _) | (simp [simL, simA, simA_refl, simL_refl]; done))) | (with_reducible refine fin_r ?_ ?_ ?_) | (with_reducible exact SameB.rfl_ _ _) | (with_reducible refine SameB.upd ?_ ?_ _) | (with_reducible assumption) | (with_reducible intro _g _hg) | (with_reducible refine And.intro ?_ ?_) | (with_reducible intro _hc) | omega)
theorem print2_at (v : Int) (hi : r.mdays[i]? = some v) (hv : -1000 ≤ v ∧ v ≤ 1000) : APureAt Tryz.prog 50 [aI i, .ptr gr 0] n H (.str (Lib.itoa v)) := by
  have ht := itoa_a v (by omega)
  refine apureAt_intro Tryz.func50 cmp50 rfl fun hH => ?_
  repeat' (first | (simp -implicitDefEqProofs [c50, -getElem?_pos, simA, hg, hi]) | (simp (disch := omega) only [upd_ne, Qy, if_pos, if_neg, IntWalk.i64_in, Int.tdiv_eq_ediv_of_nonneg, Int.tmod_eq_emod_of_nonneg]) | ((with_reducible refine CallP.chk (f := 46) ?_); (refine' CallP.sf ?_ (ht) ?_); (focus first | (with_reducible exact simL_refl _) | (simp [simL, simA, simA_refl, simL_refl]; done))) | (with_reducible refine fin_r ?_ ?_ ?_) | (with_reducible exact SameB.rfl_ _ _) | (with_reducible refine SameB.upd ?_ ?_ _) | (with_reducible assumption) | (with_reducible intro _g _hg) | (with_reducible refine And.intro ?_ ?_) | (with_reducible intro _hc) | omega)
theorem print4_at (v : Int) (hi : r.picks[i]? = some v) (hv : -1000 ≤ v ∧ v ≤ 1000) : APureAt Tryz.prog 53 [aI i, .ptr gr 0] n H (.str (Lib.itoa v)) := by
  have ht := itoa_a v (by omega)
  refine apureAt_intro Tryz.func53 cmp53 rfl fun hH => ?_
  repeat' (first | (simp -implicitDefEqProofs [c53, -getElem?_pos, simA, hg, hi]) | (simp (disch := omega) only [upd_ne, Qy, if_pos, if_neg, IntWalk.i64_in, Int.tdiv_eq_ediv_of_nonneg, Int.tmod_eq_emod_of_nonneg]) | ((with_reducible refine CallP.chk (f := 46) ?_); (refine' CallP.sf ?_ (ht) ?_); (focus first | (with_reducible exact simL_refl _) | (simp [simL, simA, simA_refl, simL_refl]; done))) | (with_reducible refine fin_r ?_ ?_ ?_) | (with_reducible exact SameB.rfl_ _ _) | (with_reducible refine SameB.upd ?_ ?_ _) | (with_reducible assumption) | (with_reducible intro _g _hg) | (with_reducible refine And.intro ?_ ?_) | (with_reducible intro _hc) | omega)
theorem print3_at (w : Int × Int) (hi : r.wdays[i]? = some w) (hv : 0 ≤ w.1 ∧ w.1 ≤ 6 ∧ -1000 ≤ w.2 ∧ w.2 ≤ 1000) : APureAt Tryz.prog 51 [aI i, .ptr gr 0] n H (.str (wdT w)) := by
  have ht := itoa_a w.2 (by omega)
  have hl := Lib.itoa_length_le w.2 (by omega) (by omega)
  have hd := dayNames_a
  have hdl := day_len w.1.toNat
  obtain ⟨dn, hdn⟩ : ∃ dn, dayL[w.1.toNat]? = some dn := ⟨_, List.getElem?_eq_getElem (by simp; omega)⟩
  have hdg : dayL.getD w.1.toNat [] = dn := by rw [List.getD_eq_getElem?_getD, hdn]; rfl
  have hdm : (aStrs dayL)[w.1.toNat]? = some (.str dn) := by rw [List.getElem?_map, hdn]; rfl
  unfold wdT
  rw [hdg] at hdl ⊢
  generalize dayL = dl at *
  generalize Lib.itoa w.2 = it at *
  by_cases h0 : w.2 = 0
  · rw [if_pos h0]
    refine apureAt_intro Tryz.func51 cmp51 rfl fun hH => ?_
    repeat' (first | (simp -implicitDefEqProofs [c51_k1_go, c51, -getElem?_pos, simA, hg, hi, splice, h0, hdm, hdn, hv.1]) | (simp (disch := omega) only [upd_ne, Qy, if_pos, if_neg, IntWalk.i64_in, Int.tdiv_eq_ediv_of_nonneg, Int.tmod_eq_emod_of_nonneg]) | ((with_reducible refine CallP.chk (f := 52) ?_); (refine' CallP.sf ?_ (hd) ?_); (focus first | (with_reducible exact simL_refl _) | (simp [simL, simA, simA_refl, simL_refl]; done))) | (with_reducible refine fin_r ?_ ?_ ?_) | (with_reducible exact SameB.rfl_ _ _) | (with_reducible refine SameB.upd ?_ ?_ _) | (with_reducible assumption) | (with_reducible refine newPM_of ?_) | (with_reducible refine newP_go ?_) | (with_reducible intro _g _hg) | (with_reducible refine And.intro ?_ ?_) | (with_reducible intro _hc) | omega)
  · rw [if_neg h0]
    have m1 : ¬ (IntKind.i64.max < (dn.length : Int) + 1) := by
      have : IntKind.i64.max = 9223372036854775807 := by decide
      rw [this]; omega
    have m2 : ¬ (IntKind.i64.max < (dn.length : Int) + 1 + (it.length : Int)) := by
      have : IntKind.i64.max = 9223372036854775807 := by decide
      rw [this]; omega
    refine apureAt_intro Tryz.func51 cmp51 rfl fun hH => ?_
    repeat' (first | (simp -implicitDefEqProofs [c51_k1_go, c51, -getElem?_pos, simA, hg, hi, splice, h0, hdm, hdn, hv.1, m1, m2]) | (simp (disch := omega) only [upd_ne, Qy, if_pos, if_neg, IntWalk.i64_in, Int.tdiv_eq_ediv_of_nonneg, Int.tmod_eq_emod_of_nonneg]) | ((with_reducible refine CallP.chk (f := 52) ?_); (refine' CallP.sf ?_ (hd) ?_); (focus first | (with_reducible exact simL_refl _) | (simp [simL, simA, simA_refl, simL_refl]; done))) | ((with_reducible refine CallP.chk (f := 46) ?_); (refine' CallP.sf ?_ (ht) ?_); (focus first | (with_reducible exact simL_refl _) | (simp [simL, simA, simA_refl, simL_refl]; done))) | (with_reducible refine fin_r ?_ ?_ ?_) | (with_reducible exact SameB.rfl_ _ _) | (with_reducible refine SameB.upd ?_ ?_ _) | (with_reducible assumption) | (with_reducible refine newPM_of ?_) | (with_reducible refine newP_go ?_) | (with_reducible intro _g _hg) | (with_reducible refine And.intro ?_ ?_) | (with_reducible intro _hc) | omega)
end
theorem ACalls.post {P : Program} {f n : Nat} {args : List AV} {H : AHeap} {R R' : APost} (h : ACalls P f args n H R) (hk : (∀ g, n ≤ g → H g = none) → ∀ r n' H', n ≤ n' → (∀ k, n' ≤ k → H' k = none) → R r n' H' → R' r n' H') : ACalls P f args n H R' :=
  fun hs w0 G w vs hl h0 hr => (h hs w0 G w vs hl h0 hr).mono fun e w' ⟨v, r, G', n', H', a, b, c, d, e', f⟩ => ⟨v, r, G', n', H', a, hk hs r n' H' e' f.supp b, c, d, e', f⟩
/-- what stands while words are collected -/
structure PI (n0 : Nat) (H0 : AHeap) (gr g3 g5 : Nat) (r : Rule) (l : List Str) (H : AHeap) : Prop where
  b : n0 ≤ gr ∧ n0 ≤ g3 ∧ n0 ≤ g5 ∧ gr ≠ g5 ∧ g3 ≠ g5
  hr : H gr = some (.cells 25 (aRc r))
  h3 : H g3 = some (.cells 27 [aI 0, aI 0])
  ex : ∃ x, H g5 = some (.cells 68 [x]) ∧ OwnS n0 H 9 1 x (aStrs l)
  same : SameB n0 H0 H
theorem OwnS.low {n m : Nat} {H : AHeap} {el sz : Nat} {x : AV} {l : List AV} (h : OwnS n H el sz x l) (hm : m ≤ n) : OwnS m H el sz x l := by
  rcases h with h | ⟨g, a, b, c⟩
  · exact .inl h
  · exact .inr ⟨g, a, b, Nat.le_trans hm c⟩
theorem OwnS.high {n : Nat} {H : AHeap} {el sz : Nat} {x : AV} {l : List AV} (h : OwnS 0 H el sz x l) (hn : ∀ k, k < n → notRow x k) : OwnS n H el sz x l := by
  rcases h with h | ⟨g, a, b, c⟩
  · exact .inl h
  · refine .inr ⟨g, a, b, ?_⟩
    rcases Nat.lt_or_ge g n with h1 | h1
    · exact absurd a (hn g h1 _ _)
    · exact h1
theorem PI.step {n0 : Nat} {H0 : AHeap} {gr g3 g5 : Nat} {r : Rule} {l : List Str} {H : AHeap} {n : Nat} (h : PI n0 H0 gr g3 g5 r l H) (hle : n0 ≤ n) (f : Nat) (items : List Str) (word : Str) (hc : callable Tryz.prog f = true)
    (hf : ∀ (i : Nat) it, items[i]? = some it → ∀ n' H', H' gr = some (.cells 25 (aRc r)) → APureAt Tryz.prog f [aI i, .ptr gr 0] n' H' (.str it)) (hb : ∀ it ∈ items, it.length ≤ 1000) (hn : items.length ≤ 1000) (hl : l.length ≤ 1000) :
    ACalls Tryz.prog 48 [.ptr g5 0, .str word, aI items.length, .fn f [] [.ptr gr 0]] n H fun rr n' H' => rr = .tup [] ∧ PI n0 H0 gr g3 g5 r (l ++ wordsL word items) H' := by
  obtain ⟨x, hx, ho⟩ := h.ex
  obtain ⟨b1, b2, b3, b4, b5⟩ := h.b
  intro hs
  have lr := upd_cells hs h.hr
  have l3 := upd_cells hs h.h3
  refine (texList_a f [.ptr gr 0] items word l n g5 H x hc (fun i it hi n' H' hS hn' => hf i it hi n' H' ((hS gr lr).trans h.hr)) hx (ho.low (Nat.zero_le _)) hb hn hl).post (fun _ rr n' H' hn' hs' ⟨e, x', e1, e2, e3, e4⟩ => ⟨e, h.b, ?_, ?_, ⟨x', e1, e2.high fun k hk => e4 k (by omega) (own_low ho hk)⟩, fun k hk => ?_⟩) hs
  · rw [e3 gr lr b4 (own_not ho h.hr)]; exact h.hr
  · rw [e3 g3 l3 b5 (own_not ho h.h3)]; exact h.h3
  · rw [e3 k (by omega) (by omega) (own_low ho hk)]; exact h.same k hk
theorem PI.keep {n0 : Nat} {H0 : AHeap} {gr g3 g5 : Nat} {r : Rule} {l : List Str} {H H' : AHeap} {n : Nat} (h : PI n0 H0 gr g3 g5 r l H) (hs : ∀ k, n ≤ k → H k = none) (hle : n0 ≤ n) (hk : ∀ k, k < n → H' k = H k) : PI n0 H0 gr g3 g5 r l H' := by
  obtain ⟨x, hx, ho⟩ := h.ex
  refine ⟨h.b, (hk _ (upd_cells hs h.hr)).trans h.hr, (hk _ (upd_cells hs h.h3)).trans h.h3, ⟨x, (hk _ (upd_cells hs hx)).trans hx, ho.keep fun k e m hkk => ?_⟩, fun k hkn => (hk k (by omega)).trans (h.same k hkn)⟩
  have : k < n := by rcases Nat.lt_or_ge k n with h | h; exact h; rw [hs k h] at hkk; cases hkk
  rw [hk k this]; exact hkk
end Go.Proofs.YtecpfmhminkalaaGreatDoor

/- What the library does with numbers and words, brought to plain data; no condition. -/
import Derived.Test.YtnmkpadgogbgkaaDoorMgE
import Derived.Test.YtnmkpadgogbgkaaDoorAdA
import Derived.Test.YtnmkpadgogbgkaaDoorMdY
import Derived.Test.YtnmkpadgogbgkaaDoorMdA
import Derived.Shelf.Strings.Fields
import Derived.Shelf.Strconv.Itoa3
import Derived.Shelf.Strings.Repeat
import Derived.Shelf.Strings.Search3
import Derived.Lib.AppendIntMem
import Derived.Test.YtnmkpadgogbgkaaDoorMdB
import Derived.Test.YtnmkpadgogbgkaaDoorAdB
set_option linter.all false
set_option linter.unusedSimpArgs false
set_option linter.unusedVariables false
namespace Go.Proofs.YtnmkpadgogbgkaaDoor
open Go.RowKit
/-- what a call of the machine does, brought to plain data -/
theorem rel_below {P : Program} {w0 w w' : World} {G : Gh} {n : Nat} {H : AHeap} (h0 : Rel0 P w0 G n H w) (hb : Below w.heap.size w w') : Rel0 P w0 G n H w' := by
  have hbl : ∀ g, g < w.heap.size → w'.heap[g]? = w.heap[g]? := fun g hg => hb.block g hg
  refine ⟨h0.ext.tr hb, h0.lo, Nat.le_trans h0.hi hb.size, fun b o v hv => ?_, fun g e c hg => ?_, h0.capLo, fun g ob hob => ?_⟩
  · have hc := h0.seal_ b o v hv
    have hlt : b < w.heap.size := World.block_lt_of_cell? _ _ hc
    rw [hb.cell (p := ⟨b, o, none⟩) hlt]; exact hc
  · obtain ⟨cur, fz, h1, h2⟩ := h0.caps g e c hg
    refine ⟨cur, fz, ?_, h2⟩
    rw [hbl g (Array.getElem?_eq_some_iff.1 h1).1]; exact h1
  · obtain ⟨h1, h2, h3⟩ := h0.objs g ob hob
    have hlt : g < w.heap.size := Nat.lt_of_lt_of_le h2 h0.hi
    exact ⟨h1, h2, h3.keep (hbl g hlt) (fun _ => rfl) rfl (Gh.Le.rfl_ G) (MapsKeep.lt hbl)⟩
theorem apure_ofL {P : Program} {f : Nat} {args : List AV} {v : AV} (h : ∀ (G : Gh) (vs : List Value), RepL G vs args → ∃ u : Value, (∀ G', Rep G' u v) ∧ ∀ w : World, Laid w → Calls P f vs.toArray w fun e w' => e = .returned u ∧ Below w.heap.size w w') : APure P f args v := by
  intro n H hs w0 G w vs hl h0 hrep
  obtain ⟨u, hu, hc⟩ := h G vs hrep
  refine (hc w (hl.ext h0.ext)).mono ?_
  rintro e w' ⟨rfl, hb⟩
  exact ⟨u, v, G, n, H, rfl, ⟨rfl, rfl, rfl⟩, hu G, Gh.Le.rfl_ _, Nat.le_refl _, rel_below h0 hb⟩
theorem str_data (s : ByteArray) (l : List UInt8) (h : s.data.toList = l) : s = ⟨l.toArray⟩ := by cases s; subst h; simp
theorem itoa_a (n : Int) (h : -9223372036854775808 ≤ n ∧ n ≤ 9223372036854775807) : APure Tryd.prog 46 [.int .i64 n] (.str (Lib.itoa n)) := by
  refine apure_ofL fun G vs hr => ⟨.string ⟨(Lib.itoa n).toArray⟩, fun _ => .str (by simp), fun w hl => ?_⟩
  cases hr with | cons h1 h2 =>
  cases h2; cases h1
  refine (Any.strconv_Itoa laysM171 n h.1 h.2 w (tab_of (by kernel_rfl) hl.2)).mono ?_
  rintro e w' ⟨rfl, k, os, rfl⟩
  exact ⟨rfl, Lib.below_grow _ _ (Nat.le_refl _) _ _⟩
theorem repeatL_one (c : UInt8) (k : Nat) : Lib.repeatL [c] k = List.replicate k c := by
  induction k with
  | zero => rfl
  | succ k ih => rw [List.replicate_succ, ← ih]; rfl
theorem repeat_a (c : UInt8) (k : Nat) (hk : k ≤ 1000) : APure Tryd.prog 47 [.str [c], .int .i64 k] (.str (List.replicate k c)) := by
  refine apure_ofL fun G vs hr => ⟨.string ⟨(Lib.repeatL [c] k).toArray⟩, fun _ => .str (by simp [repeatL_one]), fun w hl => ?_⟩
  cases hr with | cons h1 h2 =>
  cases h2 with | cons h3 h4 =>
  cases h4; cases h1; cases h3
  rename_i s hs
  rw [str_data _ _ hs]
  refine (Any.strings_Repeat lays105 Builder_Extra_105 ⟨#[c]⟩ k w (by omega) (by show 1 * k ≤ _; omega)).mono ?_
  rintro e w' ⟨rfl, hb⟩
  exact ⟨rfl, hb⟩
theorem contains_a (s : Str) (c : UInt8) : APure Tryd.prog 68 [.str s, .str [c]] (.bool (decide (0 ≤ Lib.indexByte s c))) := by
  refine apure_ofL fun G vs hr => ⟨.bool (decide (0 ≤ Lib.indexByte s c)), fun _ => .bool, fun w hl => ?_⟩
  cases hr with | cons h1 h2 =>
  cases h2 with | cons h3 h4 =>
  cases h4; cases h1; cases h3
  rename_i s1 hs1 s2 hs2
  rw [str_data _ _ hs2, str_data _ _ hs1]
  refine (Any.strings_Contains_one lays144 _ _ w).mono ?_
  rintro e w' ⟨rfl, rfl⟩
  exact ⟨by simp, Below.refl _ _⟩
theorem flat_strs (l : List Str) : flatA (l.map AV.str) = l.map AV.str := by
  induction l with
  | nil => rfl
  | cons x l ih => simp only [List.map_cons, flatA, List.flatMap_cons, AV.cells, List.singleton_append] at ih ⊢; rw [ih]
theorem repL_strs {G : Gh} (l : List Str) : RepL G (l.map fun x => Value.string ⟨x.toArray⟩) (l.map AV.str) := by
  induction l with
  | nil => exact .nil
  | cons x l ih => exact .cons (.str (by simp)) ih
theorem fields_a (s : Str) (hs : s.length < 4294967281) (ha : ∀ b ∈ s, b.toNat < 128) (hk : (Lib.fields s).length ≤ 1000000) : APure Tryd.prog 69 [.str s] (.sl 1 ((Lib.fields s).map AV.str) .ro) := by
  intro n H hH w0 G w vs hl h0 hrep
  cases hrep with | cons h1 h2 =>
  cases h2; cases h1
  rename_i sb hsb
  subst hsb
  refine (Any.strings_Fields lays157 (by kernel_rfl) (by kernel_rfl) sb w (by rw [Lib.size_eq]; exact hs) (fun j b hj => ha b (List.mem_of_getElem? hj)) (tab_of (by kernel_rfl) (hl.ext h0.ext).1)).mono ?_
  rintro e w' ⟨rfl, rfl⟩
  have hrel := h0.newRow (w' := w.alloc (.cells ((Lib.fields sb.data.toList).map fun l => Value.string ⟨l.toArray⟩).toArray 9)) (cur := ((Lib.fields sb.data.toList).map fun l => Value.string ⟨l.toArray⟩).toArray) (e := 9) (fz := (0, 0)) (vs := (Lib.fields sb.data.toList).map fun l => Value.string ⟨l.toArray⟩) (c := none) (ob := none) rfl rfl rfl rfl
    (fun j u hu => by simpa using hu) (fun e' c' hc => by cases hc) (.inl rfl)
  have hle := h0.addLe ((Lib.fields sb.data.toList).map fun l => Value.string ⟨l.toArray⟩) none
  have hhi := h0.hi
  refine ⟨_, _, _, n, H, rfl, ⟨rfl, rfl, rfl⟩, .slro (vs := (Lib.fields sb.data.toList).map fun l => Value.string ⟨l.toArray⟩) ?_ (Gh.add_sealed _ _ _) ?_ (by simp), hle, Nat.le_refl _, hrel.less h0.lo (by omega) hH ?_⟩
  · rw [flat_strs]; exact repL_strs _
  · refine ⟨by simp, by simp only [maxLen]; omega, by decide, fun x hx => ?_, fun x hx => ?_⟩
    · obtain ⟨y, _, rfl⟩ := List.mem_map.1 hx; rfl
    · rw [flat_strs] at hx; obtain ⟨y, _, rfl⟩ := List.mem_map.1 hx; rfl
  · intro k hk'
    rw [upd_ne (by omega)]
end Go.Proofs.YtnmkpadgogbgkaaDoor
namespace Go.Proofs.YtnmkpadgogbgkaaDoor
theorem u8n {c : UInt8} {k : UInt8} (j : Int) (hj : (k.toNat : Int) = j) : ((c.toNat : Int) = j) ↔ c = k := by
  rw [← hj]; exact u8eq c k
attribute [local simp] xz00 aw_reg aw_seq xz01 xz02 xz03 xz04 aw_ret aw_bad aw_kp aw_ke xz05 xz06 xz07 xz08 xz09 xz0a xz0b xz0c xz0d xz0e xz0f xz0g xz0h xz0i scV pe xz0j xz0k xz0l xz0m xz0n xz0o xz0p xz0q xz0r xz0s xz0t spg_mv xz0u xz0v xz0w xz0x xz0y xz0z xz10 xz11 xz12 xz13 xz14 xz15 xz16 xz17 xz18 xz19 xz1a xz1b xz1c xz1d xz1e spg_mm xz1f spm_mv xz1g xz1h xz1i xz1j xz1k xz1l xz1m xz1n xz1o xz1p xz1q xz1r xz1s xz1t xz1u xz1v xz1w xz1x xz1y xz1z xz20 xz21 xz22 xz23 xz24 spm_mm xz25 xz26 xz27 xz28 xz29 xz2a xz2b xz2c xz2d xz2e xz2f xz2g xz2h xz2i xz2j xz2k xz2l xz2m xz2n xz2o xz2p xz2q xz2r xz2s List.mem_cons guardK guardJ anyE undE op_mv xz2t op_bin op_eqs op_eqb op_eqn op_eqp op_eqi op_neg op_not op_cvi xz2u xz2v op_cut xz2w xz2x xz2y xz2z xz30 xz31 op_len xz32 xz33 xz34 xz35 xz36 xz37 op_mm op_b2s op_r2s op_upc op_usd xz38 xz39 op_ust xz3a op_box xz3b op_bsl op_app xz3c op_s2b op_s2s xz3d xz3e xz3f xz3g xz3h xz3i xz3j xz3k ngV eqsV eqbV negV notV cviV fieldV sidxV aidxV xz3l lenSV extrV nilckV buildV mmV b2sV r2sV eqppV s2bK s2sK msetS mgetV keyOkK mfind msetL keyEq callvK ev get put putO keepE xz3m xz3n xz3o xz3p xz3q xz3r condK part loadAV xz3s xz3t xz3u isNil isNilP isNilI binAV intBin strBin xz3v xz3w xz3x xz3y xz3z xz40 xz41 xz42 xz43 xz44 xz45 xz46 xz47 xz48 xz49 xz4a AV.fits AV.cells ones AV.one upcAV updnAV usdAV ustAV cutB cutSV xz4b xz4c xz4d xz4e resOf resVs resV argE xz4f shpSz u8e u8lit xz4g xz4h List.getElem?_cons_zero List.getElem?_cons_succ op_rng op_nxt op_ent xz4i xz4j xz4k entV xz4l xz4m xz4n xz4o xz4p xz4q
set_option maxHeartbeats 1000000 in
theorem letter_a (c : UInt8) : APure Tryd.prog 50 [.int .u8 c.toNat] (aI (ltrI c)) := by
  refine apure_intro Tryd.func50 cmp50 rfl fun n H hH => ?_
  repeat' (first | (simp -implicitDefEqProofs [c50, -getElem?_pos, simA]) | (simp (disch := omega) only [upd_ne, xz4f, if_pos, if_neg, IntWalk.i64_in, Int.tdiv_eq_ediv_of_nonneg, Int.tmod_eq_emod_of_nonneg]) | (with_reducible refine fin_r ?_ ?_ ?_) | (with_reducible exact SameB.rfl_ _ _) | (with_reducible refine SameB.upd ?_ ?_ _) | (with_reducible assumption) | (with_reducible intro _g _hg) | (with_reducible refine And.intro ?_ ?_) | (with_reducible intro _hc) | omega)
  refine LoopK.go (fun m s => ∃ k : Nat, k + m = 12 ∧ s = ⟨[(0, .int .u8 c.toNat), (3, aI k)], n, H⟩ ∧ ltrI c = posL c (lettersL.drop k) k) 12 ⟨0, by omega, rfl, rfl⟩ ?_
  rintro m s ⟨k, hk, rfl, hE⟩ J hJ
  by_cases hk2 : k < 12
  · obtain ⟨x, hx⟩ : ∃ x, lettersL[k]? = some x := ⟨_, List.getElem?_eq_getElem hk2⟩
    rw [drop_at hx, posL] at hE
    have hx' : ([89, 109, 100, 72, 77, 83, 106, 71, 86, 117, 97, 98] : List UInt8)[k]? = some x := hx
    by_cases hxc : x = c
    · rw [if_pos hxc] at hE
      have hq := (u8eq x c).2 hxc
      repeat' (first | (simp -implicitDefEqProofs [c50_k1_go, c50_k2_go, c50_k3_go, c50_L4_go, c50, -getElem?_pos, simA, hx', hq]) | (simp (disch := omega) only [upd_ne, xz4f, if_pos, if_neg, IntWalk.i64_in, Int.tdiv_eq_ediv_of_nonneg, Int.tmod_eq_emod_of_nonneg]) | (with_reducible refine fin_r ?_ ?_ ?_) | (with_reducible exact SameB.rfl_ _ _) | (with_reducible refine SameB.upd ?_ ?_ _) | (with_reducible assumption) | (with_reducible intro _g _hg) | (with_reducible refine And.intro ?_ ?_) | (with_reducible intro _hc) | omega)
      all_goals exact hE
    · rw [if_neg hxc] at hE
      have hq : ¬ (x.toNat : Int) = c.toNat := fun h => hxc ((u8eq x c).1 h)
      repeat' (first | (simp -implicitDefEqProofs [c50_k1_go, c50_k2_go, c50_k3_go, c50_L4_go, c50, -getElem?_pos, simA, hx', hq]) | (simp (disch := omega) only [upd_ne, xz4f, if_pos, if_neg, IntWalk.i64_in, Int.tdiv_eq_ediv_of_nonneg, Int.tmod_eq_emod_of_nonneg]) | (with_reducible refine fin_r ?_ ?_ ?_) | (with_reducible exact SameB.rfl_ _ _) | (with_reducible refine SameB.upd ?_ ?_ _) | (with_reducible assumption) | (with_reducible intro _g _hg) | (with_reducible refine And.intro ?_ ?_) | (with_reducible intro _hc) | omega)
      exact hJ (m - 1) _ (by omega) ⟨k + 1, by omega, rfl, hE⟩
  · have : k = 12 := by omega
    subst this
    have hE : ltrI c = -1 := hE
    repeat' (first | (simp -implicitDefEqProofs [c50_k1_go, c50_k2_go, c50_k3_go, c50_L4_go, c50, -getElem?_pos, simA, hE]) | (simp (disch := omega) only [upd_ne, xz4f, if_pos, if_neg, IntWalk.i64_in, Int.tdiv_eq_ediv_of_nonneg, Int.tmod_eq_emod_of_nonneg]) | (with_reducible refine fin_r ?_ ?_ ?_) | (with_reducible exact SameB.rfl_ _ _) | (with_reducible refine SameB.upd ?_ ?_ _) | (with_reducible assumption) | (with_reducible intro _g _hg) | (with_reducible refine And.intro ?_ ?_) | (with_reducible intro _hc) | omega)
abbrev lettersP : Str := [89, 109, 100, 72, 77, 83, 106, 71, 86, 117, 97, 98, 37]
theorem contains_tab : ∀ k : Fin 256, decide (0 ≤ Lib.indexByte lettersP (UInt8.ofNat k.val)) = !(decide (ltrI (UInt8.ofNat k.val) < 0) && decide (UInt8.ofNat k.val ≠ 37)) := by decide +kernel
theorem contains_ltr (c : UInt8) : decide (0 ≤ Lib.indexByte lettersP c) = !(decide (ltrI c < 0) && decide (c ≠ 37)) := by
  have h := contains_tab ⟨c.toNat, c.toNat_lt⟩
  simpa using h
theorem cut_one {p : Str} {k : Nat} {c : UInt8} (h : p[k]? = some c) : (p.take (k + 1)).drop k = [c] := by
  have hk := (List.getElem?_eq_some_iff.1 h).1
  rw [List.take_succ, h, List.drop_append_of_le_length (by simp; omega)]
  simp
theorem drop_none {p : Str} {k : Nat} (h : p.drop k = []) : p.length ≤ k := by simpa using h
set_option maxHeartbeats 4000000 in
theorem patternFault_a (p : Str) (frm : Int) (hf : 0 ≤ frm ∧ frm ≤ 10000) : APure Tryd.prog 17 [.str p, aI frm] (aF (patF p frm)) := by
  refine apure_intro Tryd.func17 cmp17 rfl fun n H hH => ?_
  have _hb : True := trivial
  have _hO : Owns n H [] [] n H := Owns.start hH
  unfold patF
  by_cases hl : 200 < p.length
  · rw [if_pos hl]
    have hl' : (200 : Int) < p.length := by omega
    repeat' (first | (simp -implicitDefEqProofs [c17_k1_go, c17_k2_go, c17_k3_go, c17_t4_go, c17_k5_go, c17_L6_go, c17_k7_go, c17, -getElem?_pos, splice, hl', _hb]) | (simp (disch := omega) only [upd_ne, xz4f, if_pos, if_neg, IntWalk.i64_in, Int.tdiv_eq_ediv_of_nonneg, Int.tmod_eq_emod_of_nonneg]) | ((with_reducible refine CallP.chk (f := 29) ?_); (refine' CallP.sf ?_ (at_a _ _) ?_); (focus first | (with_reducible exact simL_refl _) | (simp [simL, simA, simA_refl, simL_refl]; done))) | (with_reducible refine fin_r ?_ ?_ ?_) | (with_reducible exact SameB.rfl_ _ _) | (with_reducible refine SameB.upd ?_ ?_ _) | (with_reducible assumption) | (with_reducible refine newPM_of ?_) | ((with_reducible refine newP_own (by assumption) (fun _g _hg _hO => ?_)); (have _hb := And.intro _hb _hO.boxF); dsimp only [BoxF, BoxF0, RowF] at _hb) | (with_reducible exact Owns.le (by assumption)) | (with_reducible exact Owns.same (by assumption)) | (with_reducible refine newPM_of ?_) | (with_reducible refine newP_go ?_) | (with_reducible intro _g _hg) | (with_reducible refine And.intro ?_ ?_) | (with_reducible intro _hc) | omega)
    all_goals exact simA_refl _
  · rw [if_neg hl]
    have hl' : ¬ (200 : Int) < p.length := by omega
    repeat' (first | (simp -implicitDefEqProofs [c17, c17_k7_go, -getElem?_pos, splice, hl', _hb]) | (simp (disch := omega) only [upd_ne, xz4f, if_pos, if_neg, IntWalk.i64_in, Int.tdiv_eq_ediv_of_nonneg, Int.tmod_eq_emod_of_nonneg]) | (with_reducible refine fin_r ?_ ?_ ?_) | (with_reducible exact SameB.rfl_ _ _) | (with_reducible refine SameB.upd ?_ ?_ _) | (with_reducible assumption) | (with_reducible refine newPM_of ?_) | ((with_reducible refine newP_own (by assumption) (fun _g _hg _hO => ?_)); (have _hb := And.intro _hb _hO.boxF); dsimp only [BoxF, BoxF0, RowF] at _hb) | (with_reducible exact Owns.le (by assumption)) | (with_reducible exact Owns.same (by assumption)) | (with_reducible refine newPM_of ?_) | (with_reducible refine newP_go ?_) | (with_reducible intro _g _hg) | (with_reducible refine And.intro ?_ ?_) | (with_reducible intro _hc) | omega)
    refine LoopK.go (fun m s => ∃ (k : Nat), k + m = p.length ∧ s = ⟨[(0, .str p), (1, aI frm), (4, .ptr _g 0), (5, aI k)], _g + 1, upd H _g (some (.cells 25 [aI 0, aI 0]))⟩ ∧ patG frm p 0 = patG frm (p.drop k) k) p.length ⟨0, by omega, rfl, rfl⟩ ?_
    rintro m s ⟨k, hk, rfl, hE⟩ J hJ
    rcases hd : p.drop k with _ | ⟨c, cs⟩
    · have hkl : k = p.length := by have := drop_none hd; omega
      subst hkl
      rw [hd] at hE
      have hE : patG frm p 0 = (0, 0) := hE
      rw [hE]
      repeat' (first | (simp -implicitDefEqProofs [c17_k1_go, c17_k2_go, c17_k3_go, c17_t4_go, c17_k5_go, c17_L6_go, c17_k7_go, c17, -getElem?_pos, splice, _hb]) | (simp (disch := omega) only [upd_ne, xz4f, if_pos, if_neg, IntWalk.i64_in, Int.tdiv_eq_ediv_of_nonneg, Int.tmod_eq_emod_of_nonneg]) | ((with_reducible refine CallP.chk (f := 29) ?_); (refine' CallP.sf ?_ (at_a _ _) ?_); (focus first | (with_reducible exact simL_refl _) | (simp [simL, simA, simA_refl, simL_refl]; done))) | (with_reducible refine fin_r ?_ ?_ ?_) | (with_reducible exact SameB.rfl_ _ _) | (with_reducible refine SameB.upd ?_ ?_ _) | (with_reducible assumption) | (with_reducible refine newPM_of ?_) | ((with_reducible refine newP_own (by assumption) (fun _g _hg _hO => ?_)); (have _hb := And.intro _hb _hO.boxF); dsimp only [BoxF, BoxF0, RowF] at _hb) | (with_reducible exact Owns.le (by assumption)) | (with_reducible exact Owns.same (by assumption)) | (with_reducible refine newPM_of ?_) | (with_reducible refine newP_go ?_) | (with_reducible intro _g _hg) | (with_reducible refine And.intro ?_ ?_) | (with_reducible intro _hc) | omega)
      all_goals exact simA_refl _
    · obtain ⟨hc, hcs, hkl⟩ := drop_cons hd
      have hkl' : (k : Int) < p.length := by omega
      rw [hd] at hE
      by_cases hp : c = 37
      · subst hp
        rcases cs with _ | ⟨c2, cs⟩
        · have hE : patG frm p 0 = (1, frm + k) := hE
          have hend : (k : Int) + 1 = p.length := by have := drop_none hcs; omega
          rw [hE]
          repeat' (first | (simp -implicitDefEqProofs [c17_k1_go, c17_k2_go, c17_k3_go, c17_t4_go, c17_k5_go, c17_L6_go, c17_k7_go, c17, -getElem?_pos, splice, hc, hend, hkl', _hb]) | (simp (disch := omega) only [upd_ne, xz4f, if_pos, if_neg, IntWalk.i64_in, Int.tdiv_eq_ediv_of_nonneg, Int.tmod_eq_emod_of_nonneg]) | ((with_reducible refine CallP.chk (f := 29) ?_); (refine' CallP.sf ?_ (at_a _ _) ?_); (focus first | (with_reducible exact simL_refl _) | (simp [simL, simA, simA_refl, simL_refl]; done))) | (with_reducible refine fin_r ?_ ?_ ?_) | (with_reducible exact SameB.rfl_ _ _) | (with_reducible refine SameB.upd ?_ ?_ _) | (with_reducible assumption) | (with_reducible refine newPM_of ?_) | ((with_reducible refine newP_own (by assumption) (fun _g _hg _hO => ?_)); (have _hb := And.intro _hb _hO.boxF); dsimp only [BoxF, BoxF0, RowF] at _hb) | (with_reducible exact Owns.le (by assumption)) | (with_reducible exact Owns.same (by assumption)) | (with_reducible refine newPM_of ?_) | (with_reducible refine newP_go ?_) | (with_reducible intro _g _hg) | (with_reducible refine And.intro ?_ ?_) | (with_reducible intro _hc) | omega)
          all_goals exact simA_refl _
        · obtain ⟨hc2, hcs2, hkl2⟩ := drop_cons hcs
          have hend : ¬ (k : Int) + 1 = p.length := by omega
          by_cases hbad : ltrI c2 < 0 ∧ c2 ≠ 37
          · have hE : patG frm p 0 = (1, frm + k) := by rw [hE]; simp only [patG, if_true]; rw [if_pos hbad]
            rw [hE]
            have h37 : ¬ (c2.toNat : Int) = 37 := fun h => hbad.2 ((u8n 37 rfl).1 h)
            repeat' (first | (simp -implicitDefEqProofs [c17_k1_go, c17_k2_go, c17_k3_go, c17_t4_go, c17_k5_go, c17_L6_go, c17_k7_go, c17, -getElem?_pos, splice, hc, hc2, hend, hkl', hbad.1, h37, _hb]) | (simp (disch := omega) only [upd_ne, xz4f, if_pos, if_neg, IntWalk.i64_in, Int.tdiv_eq_ediv_of_nonneg, Int.tmod_eq_emod_of_nonneg]) | ((with_reducible refine CallP.chk (f := 29) ?_); (refine' CallP.sf ?_ (at_a _ _) ?_); (focus first | (with_reducible exact simL_refl _) | (simp [simL, simA, simA_refl, simL_refl]; done))) | ((with_reducible refine CallP.chk (f := 50) ?_); (refine' CallP.sf ?_ (letter_a _) ?_); (focus first | (with_reducible exact simL_refl _) | (simp [simL, simA, simA_refl, simL_refl]; done))) | (with_reducible refine fin_r ?_ ?_ ?_) | (with_reducible exact SameB.rfl_ _ _) | (with_reducible refine SameB.upd ?_ ?_ _) | (with_reducible assumption) | (with_reducible refine newPM_of ?_) | ((with_reducible refine newP_own (by assumption) (fun _g _hg _hO => ?_)); (have _hb := And.intro _hb _hO.boxF); dsimp only [BoxF, BoxF0, RowF] at _hb) | (with_reducible exact Owns.le (by assumption)) | (with_reducible exact Owns.same (by assumption)) | (with_reducible refine newPM_of ?_) | (with_reducible refine newP_go ?_) | (with_reducible intro _g _hg) | (with_reducible refine And.intro ?_ ?_) | (with_reducible intro _hc) | omega)
            all_goals exact simA_refl _
          · have hE : patG frm p 0 = patG frm cs (k + 2) := by rw [hE]; simp only [patG, if_true]; rw [if_neg hbad]
            by_cases hneg : ltrI c2 < 0
            · have h37 : c2 = 37 := Classical.byContradiction fun h => hbad ⟨hneg, h⟩
              have h37' := (u8n 37 rfl).2 h37
              have hL := letter_a c2
              rw [h37'] at hL
              
              repeat' (first | (simp -implicitDefEqProofs [c17_k1_go, c17_k2_go, c17_k3_go, c17_t4_go, c17_k5_go, c17_L6_go, c17_k7_go, c17, -getElem?_pos, splice, hc, hc2, hend, hkl', hneg, h37', _hb]) | (simp (disch := omega) only [upd_ne, xz4f, if_pos, if_neg, IntWalk.i64_in, Int.tdiv_eq_ediv_of_nonneg, Int.tmod_eq_emod_of_nonneg]) | ((with_reducible refine CallP.chk (f := 29) ?_); (refine' CallP.sf ?_ (at_a _ _) ?_); (focus first | (with_reducible exact simL_refl _) | (simp [simL, simA, simA_refl, simL_refl]; done))) | ((with_reducible refine CallP.chk (f := 50) ?_); (refine' CallP.sf ?_ (hL) ?_); (focus first | (with_reducible exact simL_refl _) | (simp [simL, simA, simA_refl, simL_refl]; done))) | (with_reducible refine fin_r ?_ ?_ ?_) | (with_reducible exact SameB.rfl_ _ _) | (with_reducible refine SameB.upd ?_ ?_ _) | (with_reducible assumption) | (with_reducible refine newPM_of ?_) | ((with_reducible refine newP_own (by assumption) (fun _g _hg _hO => ?_)); (have _hb := And.intro _hb _hO.boxF); dsimp only [BoxF, BoxF0, RowF] at _hb) | (with_reducible exact Owns.le (by assumption)) | (with_reducible exact Owns.same (by assumption)) | (with_reducible refine newPM_of ?_) | (with_reducible refine newP_go ?_) | (with_reducible intro _g _hg) | (with_reducible refine And.intro ?_ ?_) | (with_reducible intro _hc) | omega)
              exact hJ (m - 2) _ (by omega) ⟨k + 2, by omega, by simp; omega, by rw [hE, hcs2]⟩
            · repeat' (first | (simp -implicitDefEqProofs [c17_k1_go, c17_k2_go, c17_k3_go, c17_t4_go, c17_k5_go, c17_L6_go, c17_k7_go, c17, -getElem?_pos, splice, hc, hc2, hend, hkl', hneg, _hb]) | (simp (disch := omega) only [upd_ne, xz4f, if_pos, if_neg, IntWalk.i64_in, Int.tdiv_eq_ediv_of_nonneg, Int.tmod_eq_emod_of_nonneg]) | ((with_reducible refine CallP.chk (f := 29) ?_); (refine' CallP.sf ?_ (at_a _ _) ?_); (focus first | (with_reducible exact simL_refl _) | (simp [simL, simA, simA_refl, simL_refl]; done))) | ((with_reducible refine CallP.chk (f := 50) ?_); (refine' CallP.sf ?_ (letter_a _) ?_); (focus first | (with_reducible exact simL_refl _) | (simp [simL, simA, simA_refl, simL_refl]; done))) | (with_reducible refine fin_r ?_ ?_ ?_) | (with_reducible exact SameB.rfl_ _ _) | (with_reducible refine SameB.upd ?_ ?_ _) | (with_reducible assumption) | (with_reducible refine newPM_of ?_) | ((with_reducible refine newP_own (by assumption) (fun _g _hg _hO => ?_)); (have _hb := And.intro _hb _hO.boxF); dsimp only [BoxF, BoxF0, RowF] at _hb) | (with_reducible exact Owns.le (by assumption)) | (with_reducible exact Owns.same (by assumption)) | (with_reducible refine newPM_of ?_) | (with_reducible refine newP_go ?_) | (with_reducible intro _g _hg) | (with_reducible refine And.intro ?_ ?_) | (with_reducible intro _hc) | omega)
              exact hJ (m - 2) _ (by omega) ⟨k + 2, by omega, by simp; omega, by rw [hE, hcs2]⟩
      · have hE : patG frm p 0 = patG frm cs (k + 1) := by
          rw [hE]
          cases cs with
          | nil => simp [patG, hp]
          | cons c2 cs => simp [patG, hp]
        have h37 : ¬ (c.toNat : Int) = 37 := fun h => hp ((u8n 37 rfl).1 h)
        repeat' (first | (simp -implicitDefEqProofs [c17_k1_go, c17_k2_go, c17_k3_go, c17_t4_go, c17_k5_go, c17_L6_go, c17_k7_go, c17, -getElem?_pos, splice, hc, hkl', h37, _hb]) | (simp (disch := omega) only [upd_ne, xz4f, if_pos, if_neg, IntWalk.i64_in, Int.tdiv_eq_ediv_of_nonneg, Int.tmod_eq_emod_of_nonneg]) | ((with_reducible refine CallP.chk (f := 29) ?_); (refine' CallP.sf ?_ (at_a _ _) ?_); (focus first | (with_reducible exact simL_refl _) | (simp [simL, simA, simA_refl, simL_refl]; done))) | ((with_reducible refine CallP.chk (f := 50) ?_); (refine' CallP.sf ?_ (letter_a _) ?_); (focus first | (with_reducible exact simL_refl _) | (simp [simL, simA, simA_refl, simL_refl]; done))) | (with_reducible refine fin_r ?_ ?_ ?_) | (with_reducible exact SameB.rfl_ _ _) | (with_reducible refine SameB.upd ?_ ?_ _) | (with_reducible assumption) | (with_reducible refine newPM_of ?_) | ((with_reducible refine newP_own (by assumption) (fun _g _hg _hO => ?_)); (have _hb := And.intro _hb _hO.boxF); dsimp only [BoxF, BoxF0, RowF] at _hb) | (with_reducible exact Owns.le (by assumption)) | (with_reducible exact Owns.same (by assumption)) | (with_reducible refine newPM_of ?_) | (with_reducible refine newP_go ?_) | (with_reducible intro _g _hg) | (with_reducible refine And.intro ?_ ?_) | (with_reducible intro _hc) | omega)
        exact hJ (m - 1) _ (by omega) ⟨k + 1, by omega, by simp, by rw [hE, hcs]⟩
set_option maxHeartbeats 4000000 in
theorem checkPattern_a (p : Str) (frm : Int) (hf : 0 ≤ frm ∧ frm ≤ 10000) : APure Tryd.prog 42 [.str p, aI frm] (aF (patF p frm)) := by
  refine apure_intro Tryd.func42 cmp42 rfl fun n H hH => ?_
  have _hb : True := trivial
  have _hO : Owns n H [] [] n H := Owns.start hH
  unfold patF
  by_cases hl : 200 < p.length
  · rw [if_pos hl]
    have hl' : (200 : Int) < p.length := by omega
    repeat' (first | (simp -implicitDefEqProofs [c42_k1_go, c42_k2_go, c42_k3_go, c42_k4_go, c42_L5_go, c42_k6_go, c42, -getElem?_pos, splice, hl', _hb]) | (simp (disch := omega) only [upd_ne, xz4f, if_pos, if_neg, IntWalk.i64_in, Int.tdiv_eq_ediv_of_nonneg, Int.tmod_eq_emod_of_nonneg]) | (with_reducible refine fin_r ?_ ?_ ?_) | (with_reducible exact SameB.rfl_ _ _) | (with_reducible refine SameB.upd ?_ ?_ _) | (with_reducible assumption) | (with_reducible refine newPM_of ?_) | ((with_reducible refine newP_own (by assumption) (fun _g _hg _hO => ?_)); (have _hb := And.intro _hb _hO.boxF); dsimp only [BoxF, BoxF0, RowF] at _hb) | (with_reducible exact Owns.le (by assumption)) | (with_reducible exact Owns.same (by assumption)) | (with_reducible refine newPM_of ?_) | (with_reducible refine newP_go ?_) | (with_reducible intro _g _hg) | (with_reducible refine And.intro ?_ ?_) | (with_reducible intro _hc) | omega)
    all_goals exact simA_refl _
  · rw [if_neg hl]
    have hl' : ¬ (200 : Int) < p.length := by omega
    repeat' (first | (simp -implicitDefEqProofs [c42, c42_k6_go, -getElem?_pos, splice, hl', _hb]) | (simp (disch := omega) only [upd_ne, xz4f, if_pos, if_neg, IntWalk.i64_in, Int.tdiv_eq_ediv_of_nonneg, Int.tmod_eq_emod_of_nonneg]) | (with_reducible refine fin_r ?_ ?_ ?_) | (with_reducible exact SameB.rfl_ _ _) | (with_reducible refine SameB.upd ?_ ?_ _) | (with_reducible assumption) | (with_reducible refine newPM_of ?_) | ((with_reducible refine newP_own (by assumption) (fun _g _hg _hO => ?_)); (have _hb := And.intro _hb _hO.boxF); dsimp only [BoxF, BoxF0, RowF] at _hb) | (with_reducible exact Owns.le (by assumption)) | (with_reducible exact Owns.same (by assumption)) | (with_reducible refine newPM_of ?_) | (with_reducible refine newP_go ?_) | (with_reducible intro _g _hg) | (with_reducible refine And.intro ?_ ?_) | (with_reducible intro _hc) | omega)
    refine LoopK.go (fun m s => ∃ (k : Nat), k + m = p.length ∧ s = ⟨[(0, .str p), (1, aI frm), (4, .ptr _g 0), (5, aI k)], _g + 1, upd H _g (some (.cells 25 [aI 0, aI 0]))⟩ ∧ patG frm p 0 = patG frm (p.drop k) k) p.length ⟨0, by omega, rfl, rfl⟩ ?_
    rintro m s ⟨k, hk, rfl, hE⟩ J hJ
    rcases hd : p.drop k with _ | ⟨c, cs⟩
    · have hkl : k = p.length := by have := drop_none hd; omega
      subst hkl
      rw [hd] at hE
      have hE : patG frm p 0 = (0, 0) := hE
      rw [hE]
      repeat' (first | (simp -implicitDefEqProofs [c42_k1_go, c42_k2_go, c42_k3_go, c42_k4_go, c42_L5_go, c42_k6_go, c42, -getElem?_pos, splice, _hb]) | (simp (disch := omega) only [upd_ne, xz4f, if_pos, if_neg, IntWalk.i64_in, Int.tdiv_eq_ediv_of_nonneg, Int.tmod_eq_emod_of_nonneg]) | (with_reducible refine fin_r ?_ ?_ ?_) | (with_reducible exact SameB.rfl_ _ _) | (with_reducible refine SameB.upd ?_ ?_ _) | (with_reducible assumption) | (with_reducible refine newPM_of ?_) | ((with_reducible refine newP_own (by assumption) (fun _g _hg _hO => ?_)); (have _hb := And.intro _hb _hO.boxF); dsimp only [BoxF, BoxF0, RowF] at _hb) | (with_reducible exact Owns.le (by assumption)) | (with_reducible exact Owns.same (by assumption)) | (with_reducible refine newPM_of ?_) | (with_reducible refine newP_go ?_) | (with_reducible intro _g _hg) | (with_reducible refine And.intro ?_ ?_) | (with_reducible intro _hc) | omega)
      all_goals exact simA_refl _
    · obtain ⟨hc, hcs, hkl⟩ := drop_cons hd
      have hkl' : (k : Int) < p.length := by omega
      rw [hd] at hE
      by_cases hp : c = 37
      · subst hp
        rcases cs with _ | ⟨c2, cs⟩
        · have hE : patG frm p 0 = (1, frm + k) := hE
          have hend : (k : Int) + 1 = p.length := by have := drop_none hcs; omega
          rw [hE]
          repeat' (first | (simp -implicitDefEqProofs [c42_k1_go, c42_k2_go, c42_k3_go, c42_k4_go, c42_L5_go, c42_k6_go, c42, -getElem?_pos, splice, hc, hend, hkl', _hb]) | (simp (disch := omega) only [upd_ne, xz4f, if_pos, if_neg, IntWalk.i64_in, Int.tdiv_eq_ediv_of_nonneg, Int.tmod_eq_emod_of_nonneg]) | (with_reducible refine fin_r ?_ ?_ ?_) | (with_reducible exact SameB.rfl_ _ _) | (with_reducible refine SameB.upd ?_ ?_ _) | (with_reducible assumption) | (with_reducible refine newPM_of ?_) | ((with_reducible refine newP_own (by assumption) (fun _g _hg _hO => ?_)); (have _hb := And.intro _hb _hO.boxF); dsimp only [BoxF, BoxF0, RowF] at _hb) | (with_reducible exact Owns.le (by assumption)) | (with_reducible exact Owns.same (by assumption)) | (with_reducible refine newPM_of ?_) | (with_reducible refine newP_go ?_) | (with_reducible intro _g _hg) | (with_reducible refine And.intro ?_ ?_) | (with_reducible intro _hc) | omega)
          all_goals (first | exact simA_refl _ | (simp [simA, simL]; omega))
        · obtain ⟨hc2, hcs2, hkl2⟩ := drop_cons hcs
          have hend : ¬ (k : Int) + 1 = p.length := by omega
          have hcut : (p.take (k + 1 + 1)).drop (k + 1) = [c2] := cut_one hc2
          have hn2 : ((k : Int) + 1 + 1).toNat = k + 1 + 1 := by omega
          have hct := contains_a lettersP c2
          rw [contains_ltr] at hct
          
          by_cases hbad : ltrI c2 < 0 ∧ c2 ≠ 37
          · have hE : patG frm p 0 = (1, frm + k) := by rw [hE]; simp only [patG, if_true]; rw [if_pos hbad]
            rw [hE]
            have hb1 : (!(decide (ltrI c2 < 0) && decide (c2 ≠ 37))) = false := by simp [hbad.1, hbad.2]
            rw [hb1] at hct
            
            repeat' (first | (simp -implicitDefEqProofs [c42_k1_go, c42_k2_go, c42_k3_go, c42_k4_go, c42_L5_go, c42_k6_go, c42, -getElem?_pos, splice, hc, hc2, hend, hkl', hcut, hn2, _hb]) | (simp (disch := omega) only [upd_ne, xz4f, if_pos, if_neg, IntWalk.i64_in, Int.tdiv_eq_ediv_of_nonneg, Int.tmod_eq_emod_of_nonneg]) | ((with_reducible refine CallP.chk (f := 68) ?_); (refine' CallP.sf ?_ (hct) ?_); (focus first | (with_reducible exact simL_refl _) | (simp [simL, simA, simA_refl, simL_refl]; done))) | (with_reducible refine fin_r ?_ ?_ ?_) | (with_reducible exact SameB.rfl_ _ _) | (with_reducible refine SameB.upd ?_ ?_ _) | (with_reducible assumption) | (with_reducible refine newPM_of ?_) | ((with_reducible refine newP_own (by assumption) (fun _g _hg _hO => ?_)); (have _hb := And.intro _hb _hO.boxF); dsimp only [BoxF, BoxF0, RowF] at _hb) | (with_reducible exact Owns.le (by assumption)) | (with_reducible exact Owns.same (by assumption)) | (with_reducible refine newPM_of ?_) | (with_reducible refine newP_go ?_) | (with_reducible intro _g _hg) | (with_reducible refine And.intro ?_ ?_) | (with_reducible intro _hc) | omega)
            all_goals (first | exact simA_refl _ | (simp [simA, simL]; omega))
          · have hE : patG frm p 0 = patG frm cs (k + 2) := by rw [hE]; simp only [patG, if_true]; rw [if_neg hbad]
            have hb1 : (!(decide (ltrI c2 < 0) && decide (c2 ≠ 37))) = true := by
              by_cases h1 : ltrI c2 < 0
              · have : c2 = 37 := Classical.byContradiction fun h => hbad ⟨h1, h⟩
                simp [this]
              · simp [h1]
            rw [hb1] at hct
            
            repeat' (first | (simp -implicitDefEqProofs [c42_k1_go, c42_k2_go, c42_k3_go, c42_k4_go, c42_L5_go, c42_k6_go, c42, -getElem?_pos, splice, hc, hc2, hend, hkl', hcut, hn2, _hb]) | (simp (disch := omega) only [upd_ne, xz4f, if_pos, if_neg, IntWalk.i64_in, Int.tdiv_eq_ediv_of_nonneg, Int.tmod_eq_emod_of_nonneg]) | ((with_reducible refine CallP.chk (f := 68) ?_); (refine' CallP.sf ?_ (hct) ?_); (focus first | (with_reducible exact simL_refl _) | (simp [simL, simA, simA_refl, simL_refl]; done))) | (with_reducible refine fin_r ?_ ?_ ?_) | (with_reducible exact SameB.rfl_ _ _) | (with_reducible refine SameB.upd ?_ ?_ _) | (with_reducible assumption) | (with_reducible refine newPM_of ?_) | ((with_reducible refine newP_own (by assumption) (fun _g _hg _hO => ?_)); (have _hb := And.intro _hb _hO.boxF); dsimp only [BoxF, BoxF0, RowF] at _hb) | (with_reducible exact Owns.le (by assumption)) | (with_reducible exact Owns.same (by assumption)) | (with_reducible refine newPM_of ?_) | (with_reducible refine newP_go ?_) | (with_reducible intro _g _hg) | (with_reducible refine And.intro ?_ ?_) | (with_reducible intro _hc) | omega)
            exact hJ (m - 2) _ (by omega) ⟨k + 2, by omega, by simp; omega, by rw [hE, hcs2]⟩
      · have hE : patG frm p 0 = patG frm cs (k + 1) := by
          rw [hE]
          cases cs with
          | nil => simp [patG, hp]
          | cons c2 cs => simp [patG, hp]
        have h37 : ¬ (c.toNat : Int) = 37 := fun h => hp ((u8n 37 rfl).1 h)
        repeat' (first | (simp -implicitDefEqProofs [c42_k1_go, c42_k2_go, c42_k3_go, c42_k4_go, c42_L5_go, c42_k6_go, c42, -getElem?_pos, splice, hc, hkl', h37, _hb]) | (simp (disch := omega) only [upd_ne, xz4f, if_pos, if_neg, IntWalk.i64_in, Int.tdiv_eq_ediv_of_nonneg, Int.tmod_eq_emod_of_nonneg]) | (with_reducible refine fin_r ?_ ?_ ?_) | (with_reducible exact SameB.rfl_ _ _) | (with_reducible refine SameB.upd ?_ ?_ _) | (with_reducible assumption) | (with_reducible refine newPM_of ?_) | ((with_reducible refine newP_own (by assumption) (fun _g _hg _hO => ?_)); (have _hb := And.intro _hb _hO.boxF); dsimp only [BoxF, BoxF0, RowF] at _hb) | (with_reducible exact Owns.le (by assumption)) | (with_reducible exact Owns.same (by assumption)) | (with_reducible refine newPM_of ?_) | (with_reducible refine newP_go ?_) | (with_reducible intro _g _hg) | (with_reducible refine And.intro ?_ ?_) | (with_reducible intro _hc) | omega)
        exact hJ (m - 1) _ (by omega) ⟨k + 1, by omega, by simp, by rw [hE, hcs]⟩
end Go.Proofs.YtnmkpadgogbgkaaDoor

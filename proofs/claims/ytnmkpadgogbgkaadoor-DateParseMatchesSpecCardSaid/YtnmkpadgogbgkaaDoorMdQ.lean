/- What the reference reads of a text, walked: words, digits; the list of the numbers found; no condition. -/
import Derived.Test.YtnmkpadgogbgkaaDoorMdP
import Derived.Test.YtnmkpadgogbgkaaDoorMdO
set_option linter.all false
set_option linter.unusedSimpArgs false
set_option linter.unusedVariables false
namespace Go.Proofs.YtnmkpadgogbgkaaDoor
def idxW (x : Str) : List Str → Option Nat
  | [] => none
  | w :: ws => if w = x then some 0 else (idxW x ws).map (· + 1)
theorem namW_idx {t : Str} (ht : 3 ≤ t.length) : ∀ L : List Str, (∀ x ∈ L, x.length = 3) → namW L t = idxW (t.take 3) L
  | [], _ => rfl
  | w :: ws, h => by
    have ih := namW_idx ht ws fun x hx => h x (List.mem_cons_of_mem _ hx)
    have hw := h w List.mem_cons_self
    simp only [namW, idxW, ih, prefix_take, hw, beq_iff_eq]
    by_cases e : t.take 3 = w
    · rw [if_pos e, if_pos e.symm]
    · rw [if_neg e, if_neg (Ne.symm e)]
theorem idxW_drop {L : List Str} {k : Nat} {w : Str} (hx : L[k]? = some w) (x : Str) : idxW x (L.drop k) = if w = x then some 0 else (idxW x (L.drop (k + 1))).map (· + 1) := by
  rw [drop_at hx, idxW]
def idxI (o : Option Nat) : Int := match o with | some j => j | none => -1
attribute [local simp] xz00 aw_reg aw_seq xz01 xz02 xz03 xz04 aw_ret aw_bad aw_kp aw_ke xz05 xz06 xz07 xz08 xz09 xz0a xz0b xz0c xz0d xz0e xz0f xz0g xz0h xz0i scV pe xz0j xz0k xz0l xz0m xz0n xz0o xz0p xz0q xz0r xz0s xz0t spg_mv xz0u xz0v xz0w xz0x xz0y xz0z xz10 xz11 xz12 xz13 xz14 xz15 xz16 xz17 xz18 xz19 xz1a xz1b xz1c xz1d xz1e spg_mm xz1f spm_mv xz1g xz1h xz1i xz1j xz1k xz1l xz1m xz1n xz1o xz1p xz1q xz1r xz1s xz1t xz1u xz1v xz1w xz1x xz1y xz1z xz20 xz21 xz22 xz23 xz24 spm_mm xz25 xz26 xz27 xz28 xz29 xz2a xz2b xz2c xz2d xz2e xz2f xz2g xz2h xz2i xz2j xz2k xz2l xz2m xz2n xz2o xz2p xz2q xz2r xz2s List.mem_cons guardK guardJ anyE undE op_mv xz2t op_bin op_eqs op_eqb op_eqn op_eqp op_eqi op_neg op_not op_cvi xz2u xz2v op_cut xz2w xz2x xz2y xz2z xz30 xz31 op_len xz32 xz33 xz34 xz35 xz36 xz37 op_mm op_b2s op_r2s op_upc op_usd xz38 xz39 op_ust xz3a op_box xz3b op_bsl op_app xz3c op_s2b op_s2s xz3d xz3e xz3f xz3g xz3h xz3i xz3j xz3k ngV eqsV eqbV negV notV cviV fieldV sidxV aidxV xz3l lenSV extrV nilckV buildV mmV b2sV r2sV eqppV s2bK s2sK msetS mgetV keyOkK mfind msetL keyEq callvK ev get put putO keepE xz3m xz3n xz3o xz3p xz3q xz3r condK part loadAV xz3s xz3t xz3u isNil isNilP isNilI binAV intBin strBin xz3v xz3w xz3x xz3y xz3z xz40 xz41 xz42 xz43 xz44 xz45 xz46 xz47 xz48 xz49 xz4a AV.fits AV.cells ones AV.one upcAV updnAV usdAV ustAV cutB cutSV xz4b xz4c xz4d xz4e resOf resVs resV argE xz4f shpSz u8e u8lit xz4g xz4h List.getElem?_cons_zero List.getElem?_cons_succ op_rng op_nxt op_ent xz4i xz4j xz4k entV xz4l xz4m xz4n xz4o xz4p xz4q
set_option maxHeartbeats 2000000 in
theorem word_a (W : Str) (L : List Str) (hL : W.length + 1 = 4 * L.length) (hLb : L.length ≤ 100) (hch : ∀ k, k < L.length → L[k]? = some ((W.take (4 * k + 3)).drop (4 * k))) (x : Str) (hx : x.length = 3) : APure Tryd.prog 65 [.str W, .str x] (aI (idxI (idxW x L))) := by
  refine apure_intro Tryd.func65 cmp65 rfl fun n H hH => ?_
  have hx' : (x.length : Int) = 3 := by omega
  repeat' (first | (simp -implicitDefEqProofs [c65, c65_k5_go, -getElem?_pos, hx']) | (simp (disch := omega) only [upd_ne, xz4f, if_pos, if_neg, IntWalk.i64_in, Int.tdiv_eq_ediv_of_nonneg, Int.tmod_eq_emod_of_nonneg]) | (with_reducible refine fin_r ?_ ?_ ?_) | (with_reducible exact SameB.rfl_ _ _) | (with_reducible refine SameB.upd ?_ ?_ _) | (with_reducible assumption) | (with_reducible intro _g _hg) | (with_reducible refine And.intro ?_ ?_) | (with_reducible intro _hc) | omega)
  refine LoopK.go (fun m st => ∃ k : Nat, k + m = L.length ∧ st = ⟨[(0, .str W), (1, .str x), (5, aI ((4 * k : Nat) : Int))], n, H⟩ ∧ idxW x L = (idxW x (L.drop k)).map (· + k)) L.length ⟨0, by omega, rfl, by simp⟩ ?_
  rintro m st ⟨k, hk, rfl, hE⟩ J hJ
  by_cases hkl : k < L.length
  · have hk3 : (((4 * k : Nat) : Int) + 3).toNat = 4 * k + 3 := by omega
    have hw := hch k hkl
    have hle : 4 * k + 3 ≤ W.length := by omega
    have hle' : ((4 * k : Nat) : Int) + 3 ≤ W.length := by omega
    rw [idxW_drop hw] at hE
    generalize hq : 4 * k = q at *
    by_cases hwx : (W.take (q + 3)).drop q = x
    · rw [if_pos hwx] at hE
      have hE : idxW x L = some k := by rw [hE]; simp
      rw [hE]
      repeat' (first | (simp -implicitDefEqProofs [c65_k1_go, c65_k2_go, c65_k3_go, c65_L4_go, c65_k5_go, c65, -getElem?_pos, simA, hle', hk3, hwx, idxI]) | (simp (disch := omega) only [upd_ne, xz4f, if_pos, if_neg, IntWalk.i64_in, Int.tdiv_eq_ediv_of_nonneg, Int.tmod_eq_emod_of_nonneg]) | (with_reducible refine fin_r ?_ ?_ ?_) | (with_reducible exact SameB.rfl_ _ _) | (with_reducible refine SameB.upd ?_ ?_ _) | (with_reducible assumption) | (with_reducible intro _g _hg) | (with_reducible refine And.intro ?_ ?_) | (with_reducible intro _hc) | omega)
      all_goals (simp only [idxI]; omega)
    · rw [if_neg hwx] at hE
      repeat' (first | (simp -implicitDefEqProofs [c65_k1_go, c65_k2_go, c65_k3_go, c65_L4_go, c65_k5_go, c65, -getElem?_pos, simA, hle', hk3, hwx, idxI]) | (simp (disch := omega) only [upd_ne, xz4f, if_pos, if_neg, IntWalk.i64_in, Int.tdiv_eq_ediv_of_nonneg, Int.tmod_eq_emod_of_nonneg]) | (with_reducible refine fin_r ?_ ?_ ?_) | (with_reducible exact SameB.rfl_ _ _) | (with_reducible refine SameB.upd ?_ ?_ _) | (with_reducible assumption) | (with_reducible intro _g _hg) | (with_reducible refine And.intro ?_ ?_) | (with_reducible intro _hc) | omega)
      exact hJ (m - 1) _ (by omega) ⟨k + 1, by omega, by rw [show 4 * (k + 1) = q + 4 by omega]; rfl, by rw [hE, Option.map_map]; congr 1; funext y; simp only [Function.comp]; omega⟩
  · have hkl2 : k = L.length := by omega
    have hgt : ¬ ((4 * k : Nat) : Int) + 3 ≤ W.length := by omega
    rw [hkl2, List.drop_length] at hE
    have hE : idxW x L = none := by rw [hE]; rfl
    rw [hE]
    generalize hq : 4 * k = q at *
    repeat' (first | (simp -implicitDefEqProofs [c65_k1_go, c65_k2_go, c65_k3_go, c65_L4_go, c65_k5_go, c65, -getElem?_pos, simA, hgt, idxI]) | (simp (disch := omega) only [upd_ne, xz4f, if_pos, if_neg, IntWalk.i64_in, Int.tdiv_eq_ediv_of_nonneg, Int.tmod_eq_emod_of_nonneg]) | (with_reducible refine fin_r ?_ ?_ ?_) | (with_reducible exact SameB.rfl_ _ _) | (with_reducible refine SameB.upd ?_ ?_ _) | (with_reducible assumption) | (with_reducible intro _g _hg) | (with_reducible refine And.intro ?_ ?_) | (with_reducible intro _hc) | omega)
theorem digit_a (c : UInt8) : APure Tryd.prog 66 [.int .u8 c.toNat] (.bool (digB c)) := by
  have e : digB c = (decide (48 ≤ (c.toNat : Int)) && decide ((c.toNat : Int) ≤ 57)) := by
    unfold digB
    rw [Bool.eq_iff_iff]; simp only [decide_eq_true_eq, Bool.and_eq_true]; omega
  rw [e]
  refine apure_intro Tryd.func66 cmp66 rfl fun n H hH => ?_
  by_cases h : (48 : Int) ≤ c.toNat
  · repeat' (first | (simp -implicitDefEqProofs [c66, -getElem?_pos, simA, h]) | (simp (disch := omega) only [upd_ne, xz4f, if_pos, if_neg, IntWalk.i64_in, Int.tdiv_eq_ediv_of_nonneg, Int.tmod_eq_emod_of_nonneg]) | (with_reducible refine fin_r ?_ ?_ ?_) | (with_reducible exact SameB.rfl_ _ _) | (with_reducible refine SameB.upd ?_ ?_ _) | (with_reducible assumption) | (with_reducible intro _g _hg) | (with_reducible refine And.intro ?_ ?_) | (with_reducible intro _hc) | omega)
  · repeat' (first | (simp -implicitDefEqProofs [c66, -getElem?_pos, simA, h]) | (simp (disch := omega) only [upd_ne, xz4f, if_pos, if_neg, IntWalk.i64_in, Int.tdiv_eq_ediv_of_nonneg, Int.tmod_eq_emod_of_nonneg]) | (with_reducible refine fin_r ?_ ?_ ?_) | (with_reducible exact SameB.rfl_ _ _) | (with_reducible refine SameB.upd ?_ ?_ _) | (with_reducible assumption) | (with_reducible intro _g _hg) | (with_reducible refine And.intro ?_ ?_) | (with_reducible intro _hc) | omega)
abbrev daysT : Str := [77, 111, 110, 32, 84, 117, 101, 32, 87, 101, 100, 32, 84, 104, 117, 32, 70, 114, 105, 32, 83, 97, 116, 32, 83, 117, 110]
abbrev monthsT : Str := [74, 97, 110, 32, 70, 101, 98, 32, 77, 97, 114, 32, 65, 112, 114, 32, 77, 97, 121, 32, 74, 117, 110, 32, 74, 117, 108, 32, 65, 117, 103, 32, 83, 101, 112, 32, 79, 99, 116, 32, 78, 111, 118, 32, 68, 101, 99]
theorem daysT_ok : ∀ k, k < daysL.length → daysL[k]? = some ((daysT.take (4 * k + 3)).drop (4 * k)) := by
  have : ∀ k : Fin 7, daysL[k.val]? = some ((daysT.take (4 * k.val + 3)).drop (4 * k.val)) := by decide
  intro k hk; exact this ⟨k, hk⟩
theorem monthsT_ok : ∀ k, k < monthsL.length → monthsL[k]? = some ((monthsT.take (4 * k + 3)).drop (4 * k)) := by
  have : ∀ k : Fin 12, monthsL[k.val]? = some ((monthsT.take (4 * k.val + 3)).drop (4 * k.val)) := by decide
  intro k hk; exact this ⟨k, hk⟩
/-- the numbers found, as the reference keeps them -/
def fcel (F : Fnd) (k : Nat) : AV := aI ((F k).getD (-1))
abbrev foundC (F : Fnd) : List AV := (List.range 12).map (fcel F)
theorem found_at (F : Fnd) {j : Nat} (hj : j < 12) : (foundC F)[j]? = some (aI ((F j).getD (-1))) := by
  rw [List.getElem?_map, List.getElem?_range hj]; rfl
theorem found_set (F : Fnd) {j : Nat} (hj : j < 12) (v : Int) : splice (foundC F) j [aI v] = foundC (setF F j v) := by
  unfold splice
  apply List.ext_getElem?
  intro k
  simp only [List.length_singleton]
  by_cases h1 : k < j
  · rw [List.getElem?_append_left (by simp; omega), List.getElem?_append_left (by simp; omega), List.getElem?_take_of_lt h1]
    rw [found_at F (by omega), found_at _ (by omega)]
    simp only [setF, if_neg (show ¬ k = j by omega)]
  · by_cases h2 : k = j
    · subst h2
      rw [List.getElem?_append_left (by simp; omega), List.getElem?_append_right (by simp; omega), found_at _ hj]
      have h3 : k - (List.take k (foundC F)).length = 0 := by simp; omega
      simp only [h3, List.getElem?_cons_zero, setF, if_pos, Option.getD_some]
    · rw [List.getElem?_append_right (by simp; omega), List.getElem?_drop]
      have e : j + 1 + (k - (List.take j (foundC F) ++ [aI v]).length) = k := by simp; omega
      rw [e]
      by_cases h5 : k < 12
      · rw [found_at _ h5, found_at _ h5]
        simp only [setF, if_neg h2]
      · have : ∀ G, (foundC G)[k]? = none := fun G => by rw [List.getElem?_eq_none]; simp; omega
        rw [this, this]
end Go.Proofs.YtnmkpadgogbgkaaDoor
namespace Go.Proofs.YtnmkpadgogbgkaaDoor
abbrev agrS (F : Fnd) (a : Mo) : Mo × (Int × Int) := if agrF F a 6 = true then (a, (0, 0)) else (noMo, (19, -4))
abbrev slF (g6 : Nat) : AV := .slm 1 g6 0 12
theorem mix_hi (F : Fnd) {k : Nat} (h : k ≠ 1) : mixF F k = F k := by unfold mixF; rw [if_neg h]
attribute [local simp] xz00 aw_reg aw_seq xz01 xz02 xz03 xz04 aw_ret aw_bad aw_kp aw_ke xz05 xz06 xz07 xz08 xz09 xz0a xz0b xz0c xz0d xz0e xz0f xz0g xz0h xz0i scV pe xz0j xz0k xz0l xz0m xz0n xz0o xz0p xz0q xz0r xz0s xz0t spg_mv xz0u xz0v xz0w xz0x xz0y xz0z xz10 xz11 xz12 xz13 xz14 xz15 xz16 xz17 xz18 xz19 xz1a xz1b xz1c xz1d xz1e spg_mm xz1f spm_mv xz1g xz1h xz1i xz1j xz1k xz1l xz1m xz1n xz1o xz1p xz1q xz1r xz1s xz1t xz1u xz1v xz1w xz1x xz1y xz1z xz20 xz21 xz22 xz23 xz24 spm_mm xz25 xz26 xz27 xz28 xz29 xz2a xz2b xz2c xz2d xz2e xz2f xz2g xz2h xz2i xz2j xz2k xz2l xz2m xz2n xz2o xz2p xz2q xz2r xz2s List.mem_cons guardK guardJ anyE undE op_mv xz2t op_bin op_eqs op_eqb op_eqn op_eqp op_eqi op_neg op_not op_cvi xz2u xz2v op_cut xz2w xz2x xz2y xz2z xz30 xz31 op_len xz32 xz33 xz34 xz35 xz36 xz37 op_mm op_b2s op_r2s op_upc op_usd xz38 xz39 op_ust xz3a op_box xz3b op_bsl op_app xz3c op_s2b op_s2s xz3d xz3e xz3f xz3g xz3h xz3i xz3j xz3k ngV eqsV eqbV negV notV cviV fieldV sidxV aidxV xz3l lenSV extrV nilckV buildV mmV b2sV r2sV eqppV s2bK s2sK msetS mgetV keyOkK mfind msetL keyEq callvK ev get put putO keepE xz3m xz3n xz3o xz3p xz3q xz3r condK part loadAV xz3s xz3t xz3u isNil isNilP isNilI binAV intBin strBin xz3v xz3w xz3x xz3y xz3z xz40 xz41 xz42 xz43 xz44 xz45 xz46 xz47 xz48 xz49 xz4a AV.fits AV.cells ones AV.one upcAV updnAV usdAV ustAV cutB cutSV xz4b xz4c xz4d xz4e resOf resVs resV argE xz4f shpSz u8e u8lit xz4g xz4h List.getElem?_cons_zero List.getElem?_cons_succ op_rng op_nxt op_ent xz4i xz4j xz4k entV xz4l xz4m xz4n xz4o xz4p xz4q
set_option maxHeartbeats 1000000 in
theorem read_agr (a : Mo) (ha : a.ok) (F : Fnd) (hF : ∀ k x, F k = some x → 0 ≤ x) (n : Nat) (H : AHeap) (n1 : Nat) (H1 : AHeap) (g4 g5 g6 g16 : Nat)
    (q4 : H1 g4 = some m6Ob) (q5 : H1 g5 = some f2Ob) (q6 : H1 g6 = some (.cells 3 (foundC (mixF F)))) (q16 : H1 g16 = some (mOb a))
    (o1 : n ≤ g4) (o2 : g4 < g5) (o3 : g5 < g6) (o4 : g6 < g16) (o5 : g16 < n1) (hsame : SameB n H H1) (hsup : ∀ k, n1 ≤ k → H1 k = none) :
    LoopK (fun Q s => aw Tryd.prog c40_L4 Q s) (blockA 6 (thenA (aw Tryd.prog c40_k1 (parF (agrS F a) n H)) (parF (agrS F a) n H)))
      ⟨[(4, .ptr g4 0), (5, .ptr g5 0), (6, slF g6), (16, .ptr g16 0), (17, aI 6)], n1, H1⟩ := by
  refine LoopK.go (fun m st => ∃ q : Nat, q + m = 11 ∧ 6 ≤ q ∧ st = ⟨[(4, .ptr g4 0), (5, .ptr g5 0), (6, slF g6), (16, .ptr g16 0), (17, aI q)], n1, H1⟩ ∧ ∀ j, 6 ≤ j → j < q → F j = none ∨ F j = some (fldV a j)) 5 ⟨6, rfl, by omega, rfl, by omega⟩ ?_
  rintro m st ⟨q, hq, hq6, rfl, hdone⟩ J hJ
  have hn45 : g4 ≠ g5 := by omega
  have agr : agrF F a 6 = true ↔ ∀ j, 6 ≤ j → j < 11 → F j = none ∨ F j = some (fldV a j) := by
    unfold agrF
    rw [List.all_eq_true]
    constructor
    · intro h j h6 h11
      have := h j (List.mem_range.2 h11)
      cases hf : F j with
      | none => exact .inl rfl
      | some x => rw [hf] at this; simp [show ¬ j < 6 by omega] at this; exact .inr (by rw [this])
    · intro h j hj
      have hj := List.mem_range.1 hj
      by_cases h6 : j < 6
      · simp [h6]
      · rcases h j (by omega) hj with e | e <;> simp [e]
  by_cases hq11 : q < 11
  · have hfa := found_at (mixF F) (show q < 12 by omega)
    have hfl : (foundC (mixF F)).length = 12 := by simp
    rw [mix_hi F (by omega)] at hfa
    have hfd := field_a a ha q (by omega)
    generalize foundC (mixF F) = fc at *
    have hq11' : (q : Int) < 11 := by omega
    have hq12 : (q : Int) < 12 := by omega
    cases hf : F q with
    | none =>
      rw [hf] at hfa
      have hfa : fc[q]? = some (aI (-1)) := hfa
      
      repeat' (first | (simp -implicitDefEqProofs [c40_L4_go, c40_k3_go, c40_k2_go, -getElem?_pos, q6, q16, hfa, hq11', hq12]) | (simp (disch := omega) only [upd_ne, xz4f, if_pos, if_neg, IntWalk.i64_in, Int.tdiv_eq_ediv_of_nonneg, Int.tmod_eq_emod_of_nonneg]) | ((with_reducible refine CallP.chk (f := 52) ?_); (refine' CallP.sf ?_ (hfd) ?_); (focus first | (with_reducible exact simL_refl _) | (simp [simL, simA, simA_refl, simL_refl]; done))) | ((with_reducible refine CallP.chk (f := 29) ?_); (refine' CallP.sf ?_ (at_a _ _) ?_); (focus first | (with_reducible exact simL_refl _) | (simp [simL, simA, simA_refl, simL_refl]; done))) | (with_reducible refine fin_r ?_ ?_ ?_) | (with_reducible exact SameB.rfl_ _ _) | (with_reducible refine SameB.upd ?_ ?_ _) | (with_reducible assumption) | (with_reducible refine newPM_of ?_) | (with_reducible refine newSM_of ?_) | (with_reducible refine newP_go ?_) | (with_reducible refine newS_go ?_) | (with_reducible refine newB_own ?_) | (with_reducible intro _g _hg) | (with_reducible refine And.intro ?_ ?_) | (with_reducible intro _hc) | omega)
      exact hJ (m - 1) _ (by omega) ⟨q + 1, by omega, by omega, rfl, fun j h6 hj => by
        by_cases hjq : j = q
        · exact .inl (by rw [hjq, hf])
        · exact hdone j h6 (by omega)⟩
    | some x =>
      rw [hf] at hfa
      have hfa : fc[q]? = some (aI x) := hfa
      have h0 := hF q x hf
      by_cases hx : x = fldV a q
      · 
        repeat' (first | (simp -implicitDefEqProofs [c40_L4_go, c40_k3_go, c40_k2_go, -getElem?_pos, q6, q16, hfa, hq11', hq12, h0, hx]) | (simp (disch := omega) only [upd_ne, xz4f, if_pos, if_neg, IntWalk.i64_in, Int.tdiv_eq_ediv_of_nonneg, Int.tmod_eq_emod_of_nonneg]) | ((with_reducible refine CallP.chk (f := 52) ?_); (refine' CallP.sf ?_ (hfd) ?_); (focus first | (with_reducible exact simL_refl _) | (simp [simL, simA, simA_refl, simL_refl]; done))) | ((with_reducible refine CallP.chk (f := 29) ?_); (refine' CallP.sf ?_ (at_a _ _) ?_); (focus first | (with_reducible exact simL_refl _) | (simp [simL, simA, simA_refl, simL_refl]; done))) | (with_reducible refine fin_r ?_ ?_ ?_) | (with_reducible exact SameB.rfl_ _ _) | (with_reducible refine SameB.upd ?_ ?_ _) | (with_reducible assumption) | (with_reducible refine newPM_of ?_) | (with_reducible refine newSM_of ?_) | (with_reducible refine newP_go ?_) | (with_reducible refine newS_go ?_) | (with_reducible refine newB_own ?_) | (with_reducible intro _g _hg) | (with_reducible refine And.intro ?_ ?_) | (with_reducible intro _hc) | omega)
        exact hJ (m - 1) _ (by omega) ⟨q + 1, by omega, by omega, rfl, fun j h6 hj => by
          by_cases hjq : j = q
          · exact .inr (by rw [hjq, hf, hx])
          · exact hdone j h6 (by omega)⟩
      · have hag : ¬ agrF F a 6 = true := fun h => by
          rcases agr.1 h q hq6 hq11 with e | e
          · rw [hf] at e; cases e
          · rw [hf] at e; injection e with e; exact hx e
        unfold agrS
        rw [if_neg hag]
        
        repeat' (first | (simp -implicitDefEqProofs [c40_L4_go, c40_k3_go, c40_k2_go, -getElem?_pos, q4, q5, q6, q16, hfa, hq11', hq12, h0, hx, splice]) | (simp (disch := omega) only [upd_ne, xz4f, if_pos, if_neg, IntWalk.i64_in, Int.tdiv_eq_ediv_of_nonneg, Int.tmod_eq_emod_of_nonneg]) | ((with_reducible refine CallP.chk (f := 52) ?_); (refine' CallP.sf ?_ (hfd) ?_); (focus first | (with_reducible exact simL_refl _) | (simp [simL, simA, simA_refl, simL_refl]; done))) | ((with_reducible refine CallP.chk (f := 29) ?_); (refine' CallP.sf ?_ (at_a _ _) ?_); (focus first | (with_reducible exact simL_refl _) | (simp [simL, simA, simA_refl, simL_refl]; done))) | (with_reducible refine fin_r ?_ ?_ ?_) | (with_reducible exact SameB.rfl_ _ _) | (with_reducible refine SameB.upd ?_ ?_ _) | (with_reducible assumption) | (with_reducible refine newPM_of ?_) | (with_reducible refine newSM_of ?_) | (with_reducible refine newP_go ?_) | (with_reducible refine newS_go ?_) | (with_reducible refine newB_own ?_) | (with_reducible intro _g _hg) | (with_reducible refine And.intro ?_ ?_) | (with_reducible intro _hc) | omega)
        all_goals exact simA_refl _
  · have hq11' : ¬ (q : Int) < 11 := by omega
    have hag : agrF F a 6 = true := agr.2 fun j h6 hj => hdone j h6 (by omega)
    unfold agrS
    rw [if_pos hag]
    
    repeat' (first | (simp -implicitDefEqProofs [c40_L4_go, c40_k1_go, -getElem?_pos, q4, q5, q6, q16, hq11', splice]) | (simp (disch := omega) only [upd_ne, xz4f, if_pos, if_neg, IntWalk.i64_in, Int.tdiv_eq_ediv_of_nonneg, Int.tmod_eq_emod_of_nonneg]) | ((with_reducible refine CallP.chk (f := 29) ?_); (refine' CallP.sf ?_ (at_a _ _) ?_); (focus first | (with_reducible exact simL_refl _) | (simp [simL, simA, simA_refl, simL_refl]; done))) | (with_reducible refine fin_r ?_ ?_ ?_) | (with_reducible exact SameB.rfl_ _ _) | (with_reducible refine SameB.upd ?_ ?_ _) | (with_reducible assumption) | (with_reducible refine newPM_of ?_) | (with_reducible refine newSM_of ?_) | (with_reducible refine newP_go ?_) | (with_reducible refine newS_go ?_) | (with_reducible refine newB_own ?_) | (with_reducible intro _g _hg) | (with_reducible refine And.intro ?_ ?_) | (with_reducible intro _hc) | omega)
    all_goals exact simA_refl _
/-- the numbers with which a moment begins, of which some have been found -/
def begC (F : Fnd) (q : Nat) : List AV := (List.range 6).map fun k => aI (if k < q then (F k).getD (dfl k) else dfl k)
theorem begC_at (F : Fnd) (q : Nat) {k : Nat} (hk : k < 6) : (begC F q)[k]? = some (aI (if k < q then (F k).getD (dfl k) else dfl k)) := by
  unfold begC; rw [List.getElem?_map, List.getElem?_range hk]; rfl
theorem begC_len (F : Fnd) (q : Nat) : (begC F q).length = 6 := by simp [begC]
theorem begC_none {F : Fnd} {q : Nat} (h : F q = none) : begC F (q + 1) = begC F q := by
  unfold begC
  refine List.map_congr_left fun k _ => ?_
  by_cases hk : k = q
  · subst hk; rw [if_pos (by omega), if_neg (by omega), h]; rfl
  · by_cases h1 : k < q
    · rw [if_pos (by omega), if_pos h1]
    · rw [if_neg (by omega), if_neg h1]
theorem begC_some {F : Fnd} {q : Nat} (hq : q < 6) {x : Int} (h : F q = some x) : splice (begC F q) q [aI x] = begC F (q + 1) := by
  unfold splice
  apply List.ext_getElem?
  intro k
  simp only [List.length_singleton]
  by_cases h1 : k < q
  · rw [List.getElem?_append_left (by simp [begC]; omega), List.getElem?_append_left (by simp [begC]; omega), List.getElem?_take_of_lt h1, begC_at _ _ (by omega), begC_at _ _ (by omega), if_pos h1, if_pos (by omega)]
  · by_cases h2 : k = q
    · subst h2
      rw [List.getElem?_append_left (by simp [begC]; omega), List.getElem?_append_right (by simp [begC]; omega), begC_at _ _ hq]
      have h3 : k - (List.take k (begC F k)).length = 0 := by simp [begC]; omega
      simp only [h3, List.getElem?_cons_zero, if_pos (show k < k + 1 by omega), h, Option.getD_some]
    · rw [List.getElem?_append_right (by simp [begC]; omega), List.getElem?_drop]
      have e : q + 1 + (k - (List.take q (begC F q) ++ [aI x]).length) = k := by simp [begC]; omega
      rw [e]
      by_cases h5 : k < 6
      · rw [begC_at _ _ h5, begC_at _ _ h5, if_neg h1, if_neg (by omega)]
      · have : ∀ q, (begC F q)[k]? = none := fun q => by rw [List.getElem?_eq_none]; rw [begC_len]; omega
        rw [this, this]
theorem begC_end (F : Fnd) : begC F 6 = [aI (momF F).y, aI (momF F).m, aI (momF F).d, aI (momF F).h, aI (momF F).mi, aI (momF F).s] := by
  simp [begC, dfl, momF, List.range_succ]
def tailM (F : Fnd) : Mo × (Int × Int) := if (moF (momF (mixF F))).1 ≠ 0 then (noMo, (4, -3)) else agrS F (momF (mixF F))
theorem mix_pos {F : Fnd} (hF : ∀ k x, F k = some x → 0 ≤ x) : ∀ k x, mixF F k = some x → 0 ≤ x := by
  intro k x h
  unfold mixF at h
  split at h
  · unfold orE at h
    split at h
    · rename_i y hy; injection h with h; subst h; exact hF _ _ hy
    · exact hF _ _ h
  · exact hF _ _ h
set_option maxHeartbeats 1000000 in
theorem read_beg (F : Fnd) (hF : ∀ k x, F k = some x → 0 ≤ x) (n : Nat) (H : AHeap) (n1 : Nat) (H1 : AHeap) (g4 g5 g6 g14 : Nat)
    (q4 : H1 g4 = some m6Ob) (q5 : H1 g5 = some f2Ob) (q6 : H1 g6 = some (.cells 3 (foundC (mixF F)))) (q14 : H1 g14 = some (.cells 3 (begC (mixF F) 0)))
    (o1 : n ≤ g4) (o2 : g4 < g5) (o3 : g5 < g6) (o4 : g6 < g14) (o5 : g14 < n1) (hsame : SameB n H H1) (hsup : ∀ k, n1 ≤ k → H1 k = none) :
    LoopK (fun Q s => aw Tryd.prog c40_L9 Q s) (blockA 4 (thenA (aw Tryd.prog c40_k6 (parF (tailM F) n H)) (parF (tailM F) n H)))
      ⟨[(4, .ptr g4 0), (5, .ptr g5 0), (6, slF g6), (14, .slm 1 g14 0 6), (15, aI 0)], n1, H1⟩ := by
  refine LoopK.go (fun m st => ∃ (q : Nat) (H' : AHeap), q + m = 6 ∧ st = ⟨[(4, .ptr g4 0), (5, .ptr g5 0), (6, slF g6), (14, .slm 1 g14 0 6), (15, aI q)], n1, H'⟩ ∧
    H' g4 = some m6Ob ∧ H' g5 = some f2Ob ∧ H' g6 = some (.cells 3 (foundC (mixF F))) ∧ H' g14 = some (.cells 3 (begC (mixF F) q)) ∧ SameB n H H' ∧ ∀ k, n1 ≤ k → H' k = none) 6 ⟨0, H1, rfl, rfl, q4, q5, q6, q14, hsame, hsup⟩ ?_
  clear q4 q5 q6 q14 hsame hsup H1
  rintro m st ⟨q, H1, hq, rfl, q4, q5, q6, q14, hsame, hsup⟩ J hJ
  have hn45 : g4 ≠ g5 := by omega
  have hMp := mix_pos hF
  by_cases hq6 : q < 6
  · have hfa := found_at (mixF F) (show q < 12 by omega)
    have hbl := begC_len (mixF F) q
    have hq6' : (q : Int) < 6 := by omega
    have hq12 : (q : Int) < 12 := by omega
    cases hf : mixF F q with
    | none =>
      rw [hf] at hfa
      have hbn := begC_none hf
      generalize foundC (mixF F) = fc at *
      have hfa : fc[q]? = some (aI (-1)) := hfa
      
      repeat' (first | (simp -implicitDefEqProofs [c40_L9_go, c40_k8_go, c40_k7_go, -getElem?_pos, q6, hfa, hq6', hq12]) | (simp (disch := omega) only [upd_ne, xz4f, if_pos, if_neg, IntWalk.i64_in, Int.tdiv_eq_ediv_of_nonneg, Int.tmod_eq_emod_of_nonneg]) | (with_reducible refine fin_r ?_ ?_ ?_) | (with_reducible exact SameB.rfl_ _ _) | (with_reducible refine SameB.upd ?_ ?_ _) | (with_reducible assumption) | (with_reducible refine newPM_of ?_) | (with_reducible refine newSM_of ?_) | (with_reducible refine newP_go ?_) | (with_reducible refine newS_go ?_) | (with_reducible refine newB_own ?_) | (with_reducible intro _g _hg) | (with_reducible refine And.intro ?_ ?_) | (with_reducible intro _hc) | omega)
      exact hJ (m - 1) _ (by omega) ⟨q + 1, H1, by omega, rfl, q4, q5, q6, by rw [hbn]; exact q14, hsame, hsup⟩
    | some x =>
      rw [hf] at hfa
      have hbs := begC_some hq6 hf
      have h0 := hMp q x hf
      generalize foundC (mixF F) = fc at *
      generalize hbc : begC (mixF F) q = bc at *
      have hfa : fc[q]? = some (aI x) := hfa
      have hb1 : q + 1 ≤ bc.length := by omega
      
      repeat' (first | (simp -implicitDefEqProofs [c40_L9_go, c40_k8_go, c40_k7_go, -getElem?_pos, q6, q14, hfa, hq6', hq12, h0, hb1]) | (simp (disch := omega) only [upd_ne, xz4f, if_pos, if_neg, IntWalk.i64_in, Int.tdiv_eq_ediv_of_nonneg, Int.tmod_eq_emod_of_nonneg]) | (with_reducible refine fin_r ?_ ?_ ?_) | (with_reducible exact SameB.rfl_ _ _) | (with_reducible refine SameB.upd ?_ ?_ _) | (with_reducible assumption) | (with_reducible refine newPM_of ?_) | (with_reducible refine newSM_of ?_) | (with_reducible refine newP_go ?_) | (with_reducible refine newS_go ?_) | (with_reducible refine newB_own ?_) | (with_reducible intro _g _hg) | (with_reducible refine And.intro ?_ ?_) | (with_reducible intro _hc) | omega)
      refine hJ (m - 1) _ (by omega) ⟨q + 1, _, by omega, rfl, ?_, ?_, ?_, by rw [xz4f, hbs], ?_, ?_⟩
      · rw [upd_ne (by omega)]; exact q4
      · rw [upd_ne (by omega)]; exact q5
      · rw [upd_ne (by omega)]; exact q6
      · intro k hk; rw [upd_ne (by omega)]; exact hsame k hk
      · intro k hk; rw [upd_ne (by omega)]; exact hsup k hk
  · have hqq : q = 6 := by omega
    subst hqq
    rw [begC_end] at q14
    have hmf := momentFault_a (momF (mixF F))
    unfold tailM
    generalize hmm : momF (mixF F) = mm at *
    by_cases hm0 : (moF mm).1 = 0
    · have hok := moF_ok.1 hm0
      rw [moF_zero hok] at hmf
      rw [if_neg (by simpa using hm0)]
      
      repeat' (first | (simp -implicitDefEqProofs [c40_L9_go, c40_k6_go, c40_k5_go, -getElem?_pos, q4, q5, q14, splice]) | (simp (disch := omega) only [upd_ne, xz4f, if_pos, if_neg, IntWalk.i64_in, Int.tdiv_eq_ediv_of_nonneg, Int.tmod_eq_emod_of_nonneg]) | ((with_reducible refine CallP.chk (f := 16) ?_); (refine' CallP.sf ?_ (hmf) ?_); (focus first | (with_reducible exact simL_refl _) | (simp [simL, simA, simA_refl, simL_refl]; done))) | ((with_reducible refine CallP.chk (f := 29) ?_); (refine' CallP.sf ?_ (at_a _ _) ?_); (focus first | (with_reducible exact simL_refl _) | (simp [simL, simA, simA_refl, simL_refl]; done))) | (with_reducible refine fin_r ?_ ?_ ?_) | (with_reducible exact SameB.rfl_ _ _) | (with_reducible assumption) | (with_reducible refine newPM_of ?_) | (with_reducible refine newSM_of ?_) | (with_reducible refine newP_go ?_) | (with_reducible refine newS_go ?_) | (with_reducible refine newB_own ?_) | (with_reducible intro _g _hg) | (with_reducible refine And.intro ?_ ?_) | (with_reducible intro _hc) | omega)
      refine read_agr mm hok F hF n H _ _ g4 g5 g6 _g ?_ ?_ ?_ ?_ o1 o2 o3 (by omega) (by omega) ?_ ?_
      · simp (disch := omega) only [upd_ne, xz4f]; exact q4
      · simp (disch := omega) only [upd_ne, xz4f]; exact q5
      · simp (disch := omega) only [upd_ne, xz4f]; exact q6
      · simp (disch := omega) only [upd_ne, xz4f]
      · intro k hk; simp (disch := omega) only [upd_ne]; exact hsame k hk
      · intro k hk; simp (disch := omega) only [upd_ne]; exact hsup k (by omega)
    · rw [if_pos hm0]
      
      repeat' (first | (simp -implicitDefEqProofs [c40_L9_go, c40_k6_go, -getElem?_pos, q4, q5, q14, hm0, splice]) | (simp (disch := omega) only [upd_ne, xz4f, if_pos, if_neg, IntWalk.i64_in, Int.tdiv_eq_ediv_of_nonneg, Int.tmod_eq_emod_of_nonneg]) | ((with_reducible refine CallP.chk (f := 16) ?_); (refine' CallP.sf ?_ (hmf) ?_); (focus first | (with_reducible exact simL_refl _) | (simp [simL, simA, simA_refl, simL_refl]; done))) | ((with_reducible refine CallP.chk (f := 29) ?_); (refine' CallP.sf ?_ (at_a _ _) ?_); (focus first | (with_reducible exact simL_refl _) | (simp [simL, simA, simA_refl, simL_refl]; done))) | (with_reducible refine fin_r ?_ ?_ ?_) | (with_reducible exact SameB.rfl_ _ _) | (with_reducible refine SameB.upd ?_ ?_ _) | (with_reducible assumption) | (with_reducible refine newPM_of ?_) | (with_reducible refine newSM_of ?_) | (with_reducible refine newP_go ?_) | (with_reducible refine newS_go ?_) | (with_reducible refine newB_own ?_) | (with_reducible intro _g _hg) | (with_reducible refine And.intro ?_ ?_) | (with_reducible intro _hc) | omega)
      all_goals exact simA_refl _
abbrev tailS (s : Str) (i : Nat) (conf : Bool) (F : Fnd) : Mo × (Int × Int) := if i < s.length then (noMo, (1, i)) else if conf = true ∨ crossF F = true then (noMo, (19, -1)) else tailM F
theorem begC_zero (F : Fnd) : begC F 0 = [aI 1, aI 1, aI 1, aI 0, aI 0, aI 0] := by
  simp [begC, dfl, List.range_succ]
set_option maxHeartbeats 2000000 in
theorem read_tail (s p : Str) (i k : Nat) (conf : Bool) (F : Fnd) (hF : ∀ k x, F k = some x → 0 ≤ x) (n : Nat) (H : AHeap) (n1 : Nat) (H1 : AHeap) (g4 g5 g6 : Nat)
    (q4 : H1 g4 = some m6Ob) (q5 : H1 g5 = some f2Ob) (q6 : H1 g6 = some (.cells 3 (foundC F)))
    (o1 : n ≤ g4) (o2 : g4 < g5) (o3 : g5 < g6) (o5 : g6 < n1) (hsame : SameB n H H1) (hsup : ∀ k, n1 ≤ k → H1 k = none) :
    aw Tryd.prog c40_k13 (parF (tailS s i conf F) n H) ⟨[(0, .str s), (1, .str p), (4, .ptr g4 0), (5, .ptr g5 0), (6, slF g6), (7, .bool conf), (8, aI i), (9, aI k)], n1, H1⟩ := by
  have hn45 : g4 ≠ g5 := by omega
  have hf1 := found_at F (j := 1) (by decide)
  have hf11 := found_at F (j := 11) (by decide)
  have hfl : (foundC F).length = 12 := by simp
  have hset := fun v => found_set F (j := 1) (by decide) v
  unfold tailS
  by_cases hil : i < s.length
  · rw [if_pos hil]
    have hil' : (i : Int) < s.length := by omega
    
    repeat' (first | (simp -implicitDefEqProofs [c40_k13_go, -getElem?_pos, q4, q5, hil', splice]) | (simp (disch := omega) only [upd_ne, xz4f, if_pos, if_neg, IntWalk.i64_in, Int.tdiv_eq_ediv_of_nonneg, Int.tmod_eq_emod_of_nonneg]) | ((with_reducible refine CallP.chk (f := 29) ?_); (refine' CallP.sf ?_ (at_a _ _) ?_); (focus first | (with_reducible exact simL_refl _) | (simp [simL, simA, simA_refl, simL_refl]; done))) | (with_reducible refine fin_r ?_ ?_ ?_) | (with_reducible exact SameB.rfl_ _ _) | (with_reducible refine SameB.upd ?_ ?_ _) | (with_reducible assumption) | (with_reducible refine newPM_of ?_) | (with_reducible refine newSM_of ?_) | (with_reducible refine newP_go ?_) | (with_reducible refine newS_go ?_) | (with_reducible refine newB_own ?_) | (with_reducible intro _g _hg) | (with_reducible refine And.intro ?_ ?_) | (with_reducible intro _hc) | omega)
    all_goals exact simA_refl _
  · rw [if_neg hil]
    have hil' : ¬ (i : Int) < s.length := by omega
    cases conf with
    | true =>
      rw [if_pos (.inl rfl)]
      
      repeat' (first | (simp -implicitDefEqProofs [c40_k13_go, c40_k12_go, -getElem?_pos, q4, q5, hil', splice]) | (simp (disch := omega) only [upd_ne, xz4f, if_pos, if_neg, IntWalk.i64_in, Int.tdiv_eq_ediv_of_nonneg, Int.tmod_eq_emod_of_nonneg]) | ((with_reducible refine CallP.chk (f := 29) ?_); (refine' CallP.sf ?_ (at_a _ _) ?_); (focus first | (with_reducible exact simL_refl _) | (simp [simL, simA, simA_refl, simL_refl]; done))) | (with_reducible refine fin_r ?_ ?_ ?_) | (with_reducible exact SameB.rfl_ _ _) | (with_reducible refine SameB.upd ?_ ?_ _) | (with_reducible assumption) | (with_reducible refine newPM_of ?_) | (with_reducible refine newSM_of ?_) | (with_reducible refine newP_go ?_) | (with_reducible refine newS_go ?_) | (with_reducible refine newB_own ?_) | (with_reducible intro _g _hg) | (with_reducible refine And.intro ?_ ?_) | (with_reducible intro _hc) | omega)
      all_goals exact simA_refl _
    | false =>
      -- what follows when the numbers are in order
      have go : ∀ H2 : AHeap, H2 g4 = some m6Ob → H2 g5 = some f2Ob → H2 g6 = some (.cells 3 (foundC (mixF F))) → SameB n H H2 → (∀ k, n1 ≤ k → H2 k = none) → ∀ e, get e 4 = .ptr g4 0 → get e 5 = .ptr g5 0 → get e 6 = slF g6 → aw Tryd.prog c40_k10 (parF (tailM F) n H) ⟨e, n1, H2⟩ := by
        intro H2 q4 q5 q6 hsame hsup e e4 e5 e6
        
        repeat' (first | (simp -implicitDefEqProofs [c40_k10_go, -getElem?_pos, e4, e5, e6]) | (simp (disch := omega) only [upd_ne, xz4f, if_pos, if_neg, IntWalk.i64_in, Int.tdiv_eq_ediv_of_nonneg, Int.tmod_eq_emod_of_nonneg]) | (with_reducible refine fin_r ?_ ?_ ?_) | (with_reducible exact SameB.rfl_ _ _) | (with_reducible refine SameB.upd ?_ ?_ _) | (with_reducible assumption) | (with_reducible refine newPM_of ?_) | (with_reducible refine newSM_of ?_) | (with_reducible refine newP_go ?_) | (with_reducible refine newS_go ?_) | (with_reducible refine newB_mut ?_) | (with_reducible intro _g _hg) | (with_reducible refine And.intro ?_ ?_) | (with_reducible intro _hc) | omega)
        refine read_beg F hF n H _ _ g4 g5 g6 _g ?_ ?_ ?_ ?_ o1 o2 o3 (by omega) (by omega) ?_ ?_
        · rw [upd_ne (by omega)]; exact q4
        · rw [upd_ne (by omega)]; exact q5
        · rw [upd_ne (by omega)]; exact q6
        · rw [xz4f, begC_zero]; try rfl
        · intro k hk; rw [upd_ne (by omega)]; exact hsame k hk
        · intro k hk; rw [upd_ne (by omega)]; exact hsup k (by omega)
      generalize hfc : foundC F = fc at *
      cases h1 : F 1 with
      | none =>
        have hcr : crossF F = false := by unfold crossF; rw [h1]
        rw [hcr, if_neg (by simp)]
        rw [h1] at hf1
        have hf1 : fc[1]? = some (aI (-1)) := hf1
        have hmx : splice fc 1 [aI ((F 11).getD (-1))] = foundC (mixF F) := by
          cases h11 : F 11 with
          | none =>
            have e1 : mixF F = F := by funext j; unfold mixF; split; · rename_i hj; rw [hj, h1, h11]; rfl
                                       · rfl
            have e2 := hset (-1)
            rw [e1, hfc]
            apply List.ext_getElem?
            intro j
            show (splice fc 1 [aI (-1)])[j]? = _
            rw [e2]
            by_cases hj : j < 12
            · rw [found_at _ hj, ← hfc, found_at _ hj]
              by_cases hj1 : j = 1
              · subst hj1; simp [setF, h1]
              · simp [setF, hj1]
            · rw [← hfc]
              have : ∀ G, (foundC G)[j]? = none := fun G => by rw [List.getElem?_eq_none]; simp; omega
              rw [this, this]
          | some y =>
            have e1 : mixF F = setF F 1 y := by funext j; unfold mixF setF; split; · rw [h1, h11]; rfl
                                                · rfl
            rw [e1]; exact hset y
        generalize (F 11).getD (-1) = y at *
        
        repeat' (first | (simp -implicitDefEqProofs [c40_k13_go, c40_k12_go, c40_k11_go, -getElem?_pos, q6, hil', hf1, hf11, hfl]) | (simp (disch := omega) only [upd_ne, xz4f, if_pos, if_neg, IntWalk.i64_in, Int.tdiv_eq_ediv_of_nonneg, Int.tmod_eq_emod_of_nonneg]) | (with_reducible refine fin_r ?_ ?_ ?_) | (with_reducible exact SameB.rfl_ _ _) | (with_reducible assumption) | (with_reducible refine newPM_of ?_) | (with_reducible refine newSM_of ?_) | (with_reducible refine newP_go ?_) | (with_reducible refine newS_go ?_) | (with_reducible refine newB_own ?_) | (with_reducible intro _g _hg) | (with_reducible refine And.intro ?_ ?_) | (with_reducible intro _hc) | omega)
        refine go _ ?_ ?_ ?_ ?_ ?_ _ rfl rfl rfl
        · rw [upd_ne (by omega)]; exact q4
        · rw [upd_ne (by omega)]; exact q5
        · rw [xz4f, hmx]
        · intro k hk; rw [upd_ne (by omega)]; exact hsame k hk
        · intro k hk; rw [upd_ne (by omega)]; exact hsup k hk
      | some x =>
        have hx0 := hF 1 x h1
        rw [h1] at hf1
        have hf1 : fc[1]? = some (aI x) := hf1
        have e1 : mixF F = F := by funext j; unfold mixF; split; · rename_i hj; rw [hj, h1]; rfl
                                   · rfl
        have q6' : H1 g6 = some (.cells 3 (foundC (mixF F))) := by rw [e1, hfc]; exact q6
        cases h11 : F 11 with
        | none =>
          have hcr : crossF F = false := by unfold crossF; rw [h1, h11]
          rw [hcr, if_neg (by simp)]
          rw [h11] at hf11
          have hf11 : fc[11]? = some (aI (-1)) := hf11
          have hx1 : ¬ x < 0 := by omega
          
          repeat' (first | (simp -implicitDefEqProofs [c40_k13_go, c40_k12_go, c40_k11_go, -getElem?_pos, q6, hil', hf1, hf11, hx0, hx1]) | (simp (disch := omega) only [upd_ne, xz4f, if_pos, if_neg, IntWalk.i64_in, Int.tdiv_eq_ediv_of_nonneg, Int.tmod_eq_emod_of_nonneg]) | (with_reducible refine fin_r ?_ ?_ ?_) | (with_reducible exact SameB.rfl_ _ _) | (with_reducible assumption) | (with_reducible refine newPM_of ?_) | (with_reducible refine newSM_of ?_) | (with_reducible refine newP_go ?_) | (with_reducible refine newS_go ?_) | (with_reducible refine newB_own ?_) | (with_reducible intro _g _hg) | (with_reducible refine And.intro ?_ ?_) | (with_reducible intro _hc) | omega)
          exact go _ q4 q5 q6' hsame hsup _ rfl rfl rfl
        | some y =>
          have hy0 := hF 11 y h11
          rw [h11] at hf11
          have hf11 : fc[11]? = some (aI y) := hf11
          have hx1 : ¬ x < 0 := by omega
          by_cases hxy : x = y
          · have hcr : crossF F = false := by unfold crossF; rw [h1, h11]; simp [hxy]
            rw [hcr, if_neg (by simp)]
            subst hxy
            
            repeat' (first | (simp -implicitDefEqProofs [c40_k13_go, c40_k12_go, c40_k11_go, -getElem?_pos, q6, hil', hf1, hf11, hx0, hx1]) | (simp (disch := omega) only [upd_ne, xz4f, if_pos, if_neg, IntWalk.i64_in, Int.tdiv_eq_ediv_of_nonneg, Int.tmod_eq_emod_of_nonneg]) | (with_reducible refine fin_r ?_ ?_ ?_) | (with_reducible exact SameB.rfl_ _ _) | (with_reducible assumption) | (with_reducible refine newPM_of ?_) | (with_reducible refine newSM_of ?_) | (with_reducible refine newP_go ?_) | (with_reducible refine newS_go ?_) | (with_reducible refine newB_own ?_) | (with_reducible intro _g _hg) | (with_reducible refine And.intro ?_ ?_) | (with_reducible intro _hc) | omega)
            exact go _ q4 q5 q6' hsame hsup _ rfl rfl rfl
          · have hcr : crossF F = true := by unfold crossF; rw [h1, h11]; simp [hxy]
            rw [hcr, if_pos (.inr rfl)]
            
            repeat' (first | (simp -implicitDefEqProofs [c40_k13_go, c40_k12_go, -getElem?_pos, q4, q5, q6, hil', hf1, hf11, hx0, hy0, hxy, splice]) | (simp (disch := omega) only [upd_ne, xz4f, if_pos, if_neg, IntWalk.i64_in, Int.tdiv_eq_ediv_of_nonneg, Int.tmod_eq_emod_of_nonneg]) | ((with_reducible refine CallP.chk (f := 29) ?_); (refine' CallP.sf ?_ (at_a _ _) ?_); (focus first | (with_reducible exact simL_refl _) | (simp [simL, simA, simA_refl, simL_refl]; done))) | (with_reducible refine fin_r ?_ ?_ ?_) | (with_reducible exact SameB.rfl_ _ _) | (with_reducible refine SameB.upd ?_ ?_ _) | (with_reducible assumption) | (with_reducible refine newPM_of ?_) | (with_reducible refine newSM_of ?_) | (with_reducible refine newP_go ?_) | (with_reducible refine newS_go ?_) | (with_reducible refine newB_own ?_) | (with_reducible intro _g _hg) | (with_reducible refine And.intro ?_ ?_) | (with_reducible intro _hc) | omega)
            all_goals exact simA_refl _
end Go.Proofs.YtnmkpadgogbgkaaDoor

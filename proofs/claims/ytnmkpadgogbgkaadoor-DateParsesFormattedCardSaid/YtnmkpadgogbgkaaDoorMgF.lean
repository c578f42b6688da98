/- strings.Builder on plain data; no condition. -/
import Derived.Test.YtnmkpadgogbgkaaDoorMgE
import Derived.Test.YtnmkpadgogbgkaaDoorAdB
set_option linter.all false
set_option linter.unusedSimpArgs false
set_option linter.unusedVariables false
namespace Go.Proofs.YtnmkpadgogbgkaaDoor
/-- a builder with these bytes lies there -/
def BldAt (H : AHeap) (g o : Nat) (bs : List UInt8) : Prop :=
  ∃ T cs a0 v, H g = some (.cells T cs) ∧ cs[o]? = some a0 ∧ (a0 = .np ∨ a0 = .ptr g o) ∧ cs[o + 1]? = some v ∧ liesAt Tryd.prog Tryd.prog.depth T (cs.length / Tryd.prog.cellsOf T) o 68 1 = true ∧
    ((bs = [] ∧ ∃ z, v = .sl z [] .nil) ∨ bs ≠ [] ∧ ∃ g1, v = .sl 1 (bs.map fun u => .int .u8 u.toNat) (.own g1) ∧ H g1 = some (.row 5 bs.length) ∧ g1 ≠ g)
theorem splice1 {cs : List AV} {o : Nat} (ho : o < cs.length) (x : AV) (i : Nat) : (splice cs o [x])[i]? = if i = o then some x else cs[i]? := by
  unfold splice
  simp only [List.length_singleton]
  have hmin : min o cs.length = o := by omega
  by_cases h1 : i < o
  · rw [List.append_assoc, List.getElem?_append_left (by simp; omega), List.getElem?_take_of_lt h1, if_neg (by omega)]
  · by_cases h2 : i = o
    · subst h2
      rw [List.append_assoc, List.getElem?_append_right (by simp; omega)]
      simp [hmin]
    · rw [if_neg h2, List.getElem?_append_right (by simp; omega)]
      simp only [List.length_append, List.length_take, List.length_singleton, List.getElem?_drop]
      congr 1
      omega
theorem copyCheck_a (T g o n : Nat) (cs : List AV) (a0 : AV) (H : AHeap) (hg : H g = some (.cells T cs)) (ha : cs[o]? = some a0) (h0 : a0 = .np ∨ a0 = .ptr g o) (hl : liesAt Tryd.prog Tryd.prog.depth T (cs.length / Tryd.prog.cellsOf T) o 68 1 = true) :
    ACalls Tryd.prog 82 [.ptr g o] n H fun r n' H' => r = .tup [] ∧ n' = n ∧ H' = upd H g (some (.cells T (splice cs o [.ptr g o]))) := by
  refine acalls_intro Tryd.func82 cmp82 rfl fun hs => ?_
  have ho : o < cs.length := (List.getElem?_eq_some_iff.1 ha).1
  have hgn : g < n := by rcases Nat.lt_or_ge g n with h | h; exact h; rw [hs g h] at hg; cases hg
  have hsup : ∀ x, ∀ k, n ≤ k → upd H g (some x) k = none := fun x k hk => by rw [upd_ne (by omega)]; exact hs k hk
  rcases h0 with rfl | rfl
  · simp -implicitDefEqProofs [c82, xz00, aw_reg, aw_seq, xz01, xz02, xz03, xz04, aw_ret, aw_bad, aw_kp, aw_ke, xz05, xz06, xz07, xz08, xz09, xz0a, xz0b, xz0c, xz0d, xz0e, xz0f, xz0g, xz0h, xz0i, scV, pe, xz0j, xz0k, xz0l, xz0m, xz0n, xz0o, xz0p, xz0q, xz0r, xz0s, xz0t, spg_mv, xz0u, xz0v, xz0w, xz0x, xz0y, xz0z, xz10, xz11, xz12, xz13, xz14, xz15, xz16, xz17, xz18, xz19, xz1a, xz1b, xz1c, xz1d, xz1e, spg_mm, xz1f, spm_mv, xz1g, xz1h, xz1i, xz1j, xz1k, xz1l, xz1m, xz1n, xz1o, xz1p, xz1q, xz1r, xz1s, xz1t, xz1u, xz1v, xz1w, xz1x, xz1y, xz1z, xz20, xz21, xz22, xz23, xz24, spm_mm, xz25, xz26, xz27, xz28, xz29, xz2a, xz2b, xz2c, xz2d, xz2e, xz2f, xz2g, xz2h, xz2i, xz2j, xz2k, xz2l, xz2m, xz2n, xz2o, xz2p, xz2q, xz2r, xz2s, List.mem_cons, guardK, guardJ, anyE, undE, op_mv, xz2t, op_bin, op_eqs, op_eqb, op_eqn, op_eqp, op_eqi, op_neg, op_not, op_cvi, xz2u, xz2v, op_cut, xz2w, xz2x, xz2y, xz2z, xz30, xz31, op_len, xz32, xz33, xz34, xz35, xz36, xz37, op_mm, op_b2s, op_r2s, op_upc, op_usd, xz38, xz39, op_ust, xz3a, op_box, xz3b, op_bsl, op_app, xz3c, op_s2b, op_s2s, xz3d, xz3e, xz3f, xz3g, xz3h, xz3i, xz3j, xz3k, ngV, eqsV, eqbV, negV, notV, cviV, fieldV, sidxV, aidxV, xz3l, lenSV, extrV, nilckV, buildV, mmV, b2sV, r2sV, eqppV, s2bK, s2sK, msetS, mgetV, keyOkK, mfind, msetL, keyEq, callvK, ev, get, put, putO, keepE, xz3m, xz3n, xz3o, xz3p, xz3q, xz3r, condK, part, loadAV, xz3s, xz3t, xz3u, isNil, isNilP, isNilI, binAV, intBin, strBin, xz3v, xz3w, xz3x, xz3y, xz3z, xz40, xz41, xz42, xz43, xz44, xz45, xz46, xz47, xz48, xz49, xz4a, AV.fits, AV.cells, ones, AV.one, upcAV, updnAV, usdAV, ustAV, cutB, cutSV, xz4b, xz4c, xz4d, xz4e, resOf, resVs, resV, argE, xz4f, shpSz, u8e, u8lit, xz4g, xz4h, List.getElem?_cons_zero, List.getElem?_cons_succ, op_rng, op_nxt, op_ent, xz4i, xz4j, xz4k, entV, xz4l, xz4m, xz4n, xz4o, xz4p, xz4q, -getElem?_pos, hg, ha, hl, ho]
    exact ⟨by omega, .tup [], n, _, ⟨_, rfl, simA_refl _⟩, Nat.le_refl _, Nat.le_refl _, hsup _, SameB.rfl_ _ _, rfl, rfl, rfl⟩
  · simp -implicitDefEqProofs [c82, c82_e1, xz00, aw_reg, aw_seq, xz01, xz02, xz03, xz04, aw_ret, aw_bad, aw_kp, aw_ke, xz05, xz06, xz07, xz08, xz09, xz0a, xz0b, xz0c, xz0d, xz0e, xz0f, xz0g, xz0h, xz0i, scV, pe, xz0j, xz0k, xz0l, xz0m, xz0n, xz0o, xz0p, xz0q, xz0r, xz0s, xz0t, spg_mv, xz0u, xz0v, xz0w, xz0x, xz0y, xz0z, xz10, xz11, xz12, xz13, xz14, xz15, xz16, xz17, xz18, xz19, xz1a, xz1b, xz1c, xz1d, xz1e, spg_mm, xz1f, spm_mv, xz1g, xz1h, xz1i, xz1j, xz1k, xz1l, xz1m, xz1n, xz1o, xz1p, xz1q, xz1r, xz1s, xz1t, xz1u, xz1v, xz1w, xz1x, xz1y, xz1z, xz20, xz21, xz22, xz23, xz24, spm_mm, xz25, xz26, xz27, xz28, xz29, xz2a, xz2b, xz2c, xz2d, xz2e, xz2f, xz2g, xz2h, xz2i, xz2j, xz2k, xz2l, xz2m, xz2n, xz2o, xz2p, xz2q, xz2r, xz2s, List.mem_cons, guardK, guardJ, anyE, undE, op_mv, xz2t, op_bin, op_eqs, op_eqb, op_eqn, op_eqp, op_eqi, op_neg, op_not, op_cvi, xz2u, xz2v, op_cut, xz2w, xz2x, xz2y, xz2z, xz30, xz31, op_len, xz32, xz33, xz34, xz35, xz36, xz37, op_mm, op_b2s, op_r2s, op_upc, op_usd, xz38, xz39, op_ust, xz3a, op_box, xz3b, op_bsl, op_app, xz3c, op_s2b, op_s2s, xz3d, xz3e, xz3f, xz3g, xz3h, xz3i, xz3j, xz3k, ngV, eqsV, eqbV, negV, notV, cviV, fieldV, sidxV, aidxV, xz3l, lenSV, extrV, nilckV, buildV, mmV, b2sV, r2sV, eqppV, s2bK, s2sK, msetS, mgetV, keyOkK, mfind, msetL, keyEq, callvK, ev, get, put, putO, keepE, xz3m, xz3n, xz3o, xz3p, xz3q, xz3r, condK, part, loadAV, xz3s, xz3t, xz3u, isNil, isNilP, isNilI, binAV, intBin, strBin, xz3v, xz3w, xz3x, xz3y, xz3z, xz40, xz41, xz42, xz43, xz44, xz45, xz46, xz47, xz48, xz49, xz4a, AV.fits, AV.cells, ones, AV.one, upcAV, updnAV, usdAV, ustAV, cutB, cutSV, xz4b, xz4c, xz4d, xz4e, resOf, resVs, resV, argE, xz4f, shpSz, u8e, u8lit, xz4g, xz4h, List.getElem?_cons_zero, List.getElem?_cons_succ, op_rng, op_nxt, op_ent, xz4i, xz4j, xz4k, entV, xz4l, xz4m, xz4n, xz4o, xz4p, xz4q, -getElem?_pos, hg, ha, hl, ho]
    have hsame : upd H g (some (.cells T (splice cs o [.ptr g o]))) = H := by
      have h1 : splice cs o [.ptr g o] = cs := by
        apply List.ext_getElem?
        intro i
        rw [splice1 ho]
        split
        · rename_i hi; subst hi; exact ha.symm
        · rfl
      rw [h1]; funext k; simp only [upd]; split
      · rename_i hk; subst hk; exact hg.symm
      · rfl
    refine ⟨.tup [], n, _, ⟨_, rfl, simA_refl _⟩, Nat.le_refl _, Nat.le_refl _, hsup _, ?_, rfl, rfl, rfl⟩
    rw [hsame]; exact SameB.rfl_ _ _
set_option maxHeartbeats 1000000 in
theorem bldString_a (g o n : Nat) (bs : List UInt8) (H : AHeap) (hb : BldAt H g o bs) (hlen : bs.length ≤ 1000000000) : ACalls Tryd.prog 48 [.ptr g o] n H fun r n' H' => r = .str bs ∧ n' = n ∧ H' = H := by
  obtain ⟨T, cs, a0, v, hg, ha, h0, hv, hl, hbuf⟩ := hb
  refine acalls_intro Tryd.func48 cmp48 rfl fun hs => ?_
  rcases hbuf with ⟨rfl, z, rfl⟩ | ⟨hbs, g2, rfl, hrow, hne⟩
  · have hb0 : 0 ≤ bigLen := Nat.zero_le _
    simp -implicitDefEqProofs [c48, xz00, aw_reg, aw_seq, xz01, xz02, xz03, xz04, aw_ret, aw_bad, aw_kp, aw_ke, xz05, xz06, xz07, xz08, xz09, xz0a, xz0b, xz0c, xz0d, xz0e, xz0f, xz0g, xz0h, xz0i, scV, pe, xz0j, xz0k, xz0l, xz0m, xz0n, xz0o, xz0p, xz0q, xz0r, xz0s, xz0t, spg_mv, xz0u, xz0v, xz0w, xz0x, xz0y, xz0z, xz10, xz11, xz12, xz13, xz14, xz15, xz16, xz17, xz18, xz19, xz1a, xz1b, xz1c, xz1d, xz1e, spg_mm, xz1f, spm_mv, xz1g, xz1h, xz1i, xz1j, xz1k, xz1l, xz1m, xz1n, xz1o, xz1p, xz1q, xz1r, xz1s, xz1t, xz1u, xz1v, xz1w, xz1x, xz1y, xz1z, xz20, xz21, xz22, xz23, xz24, spm_mm, xz25, xz26, xz27, xz28, xz29, xz2a, xz2b, xz2c, xz2d, xz2e, xz2f, xz2g, xz2h, xz2i, xz2j, xz2k, xz2l, xz2m, xz2n, xz2o, xz2p, xz2q, xz2r, xz2s, List.mem_cons, guardK, guardJ, anyE, undE, op_mv, xz2t, op_bin, op_eqs, op_eqb, op_eqn, op_eqp, op_eqi, op_neg, op_not, op_cvi, xz2u, xz2v, op_cut, xz2w, xz2x, xz2y, xz2z, xz30, xz31, op_len, xz32, xz33, xz34, xz35, xz36, xz37, op_mm, op_b2s, op_r2s, op_upc, op_usd, xz38, xz39, op_ust, xz3a, op_box, xz3b, op_bsl, op_app, xz3c, op_s2b, op_s2s, xz3d, xz3e, xz3f, xz3g, xz3h, xz3i, xz3j, xz3k, ngV, eqsV, eqbV, negV, notV, cviV, fieldV, sidxV, aidxV, xz3l, lenSV, extrV, nilckV, buildV, mmV, b2sV, r2sV, eqppV, s2bK, s2sK, msetS, mgetV, keyOkK, mfind, msetL, keyEq, callvK, ev, get, put, putO, keepE, xz3m, xz3n, xz3o, xz3p, xz3q, xz3r, condK, part, loadAV, xz3s, xz3t, xz3u, isNil, isNilP, isNilI, binAV, intBin, strBin, xz3v, xz3w, xz3x, xz3y, xz3z, xz40, xz41, xz42, xz43, xz44, xz45, xz46, xz47, xz48, xz49, xz4a, AV.fits, AV.cells, ones, AV.one, upcAV, updnAV, usdAV, ustAV, cutB, cutSV, xz4b, xz4c, xz4d, xz4e, resOf, resVs, resV, argE, xz4f, shpSz, u8e, u8lit, xz4g, xz4h, List.getElem?_cons_zero, List.getElem?_cons_succ, op_rng, op_nxt, op_ent, xz4i, xz4j, xz4k, entV, xz4l, xz4m, xz4n, xz4o, xz4p, xz4q, -getElem?_pos, hg, hv, bytesOf]
    exact ⟨_, n, H, ⟨_, rfl, simA_refl _⟩, Nat.le_refl _, Nat.le_refl _, hs, SameB.rfl_ _ _, rfl, rfl, rfl⟩
  · cases bs with
    | nil => exact absurd rfl hbs
    | cons b bs =>
      have hlen2 : bs.length + 1 ≤ bigLen := by simp at hlen; unfold bigLen; omega
      have hby := bytesOf_map (b :: bs)
      have hok := u8ok_map (b :: bs)
      simp only [List.map_cons] at hby hok
      simp -implicitDefEqProofs [c48, xz00, aw_reg, aw_seq, xz01, xz02, xz03, xz04, aw_ret, aw_bad, aw_kp, aw_ke, xz05, xz06, xz07, xz08, xz09, xz0a, xz0b, xz0c, xz0d, xz0e, xz0f, xz0g, xz0h, xz0i, scV, pe, xz0j, xz0k, xz0l, xz0m, xz0n, xz0o, xz0p, xz0q, xz0r, xz0s, xz0t, spg_mv, xz0u, xz0v, xz0w, xz0x, xz0y, xz0z, xz10, xz11, xz12, xz13, xz14, xz15, xz16, xz17, xz18, xz19, xz1a, xz1b, xz1c, xz1d, xz1e, spg_mm, xz1f, spm_mv, xz1g, xz1h, xz1i, xz1j, xz1k, xz1l, xz1m, xz1n, xz1o, xz1p, xz1q, xz1r, xz1s, xz1t, xz1u, xz1v, xz1w, xz1x, xz1y, xz1z, xz20, xz21, xz22, xz23, xz24, spm_mm, xz25, xz26, xz27, xz28, xz29, xz2a, xz2b, xz2c, xz2d, xz2e, xz2f, xz2g, xz2h, xz2i, xz2j, xz2k, xz2l, xz2m, xz2n, xz2o, xz2p, xz2q, xz2r, xz2s, List.mem_cons, guardK, guardJ, anyE, undE, op_mv, xz2t, op_bin, op_eqs, op_eqb, op_eqn, op_eqp, op_eqi, op_neg, op_not, op_cvi, xz2u, xz2v, op_cut, xz2w, xz2x, xz2y, xz2z, xz30, xz31, op_len, xz32, xz33, xz34, xz35, xz36, xz37, op_mm, op_b2s, op_r2s, op_upc, op_usd, xz38, xz39, op_ust, xz3a, op_box, xz3b, op_bsl, op_app, xz3c, op_s2b, op_s2s, xz3d, xz3e, xz3f, xz3g, xz3h, xz3i, xz3j, xz3k, ngV, eqsV, eqbV, negV, notV, cviV, fieldV, sidxV, aidxV, xz3l, lenSV, extrV, nilckV, buildV, mmV, b2sV, r2sV, eqppV, s2bK, s2sK, msetS, mgetV, keyOkK, mfind, msetL, keyEq, callvK, ev, get, put, putO, keepE, xz3m, xz3n, xz3o, xz3p, xz3q, xz3r, condK, part, loadAV, xz3s, xz3t, xz3u, isNil, isNilP, isNilI, binAV, intBin, strBin, xz3v, xz3w, xz3x, xz3y, xz3z, xz40, xz41, xz42, xz43, xz44, xz45, xz46, xz47, xz48, xz49, xz4a, AV.fits, AV.cells, ones, AV.one, upcAV, updnAV, usdAV, ustAV, cutB, cutSV, xz4b, xz4c, xz4d, xz4e, resOf, resVs, resV, argE, xz4f, shpSz, u8e, u8lit, xz4g, xz4h, List.getElem?_cons_zero, List.getElem?_cons_succ, op_rng, op_nxt, op_ent, xz4i, xz4j, xz4k, entV, xz4l, xz4m, xz4n, xz4o, xz4p, xz4q, -getElem?_pos, hg, hv, hrow, hby, hok, -List.all_cons, hlen2]
      exact ⟨_, n, H, ⟨_, rfl, simA_refl _⟩, Nat.le_refl _, Nat.le_refl _, hs, SameB.rfl_ _ _, rfl, rfl, rfl⟩
end Go.Proofs.YtnmkpadgogbgkaaDoor
namespace Go.Proofs.YtnmkpadgogbgkaaDoor
theorem simL_bytes : ∀ {b : List UInt8} {m : List AV}, simL (byteA b) m → m = byteA b
  | [], m, h => by simpa [byteA, simL] using h
  | c :: cs, m, h => by
    obtain ⟨y, ys, rfl, h1, h2⟩ := h
    have h3 := simL_bytes (b := cs) h2
    have h4 : y = .int .u8 c.toNat := by simpa [simA] using h1
    rw [h3, h4]; rfl
section
variable {n0 n : Nat} {H0 H : AHeap} {bs : List (Nat × AObj)} {os : List OwnR}
theorem Owns.appB {el by_ : Nat} {d : Option Nat} {e : AEnv} {K : AS → Prop} {x : AV} {l : List AV} {b : List UInt8} (h : Owns n0 H0 bs (⟨el, 1, x, l⟩ :: os) n H) (hb : (l.length + b.length) * by_ ≤ 140737488355328) (hc : l.length + b.length ≤ maxLen)
    (hk : ∀ x' n' H', n ≤ n' → Owns n0 H0 bs (⟨el, 1, x', l ++ byteA b⟩ :: os) n' H' → K ⟨putO e d x', n', H'⟩) : appKB el by_ d K ⟨e, n, H⟩ x (.str b) := by
  have hl : (byteA b).length = b.length := by simp [byteA]
  have h1 := h.app (z := 1) (m := byteA b) (m' := byteA b) (t := .ro) (d := d) (e := e) (K := K) (by_ := by_) (.inl rfl) (simL_refl _) (by rw [hl]; exact hb) (by rw [hl]; exact hc) (fun x' n' H' hle hO _ => hk x' n' H' hle hO)
  obtain ⟨_, m', hs, h2⟩ := h1
  rw [simL_bytes hs] at h2
  exact h2
theorem Owns.relist {el sz : Nat} {x : AV} {l l' : List AV} (h : Owns n0 H0 bs (⟨el, sz, x, l⟩ :: os) n H) (e : l' = l) : Owns n0 H0 bs (⟨el, sz, x, l'⟩ :: os) n H := e ▸ h
/-- a builder of the caller's own -/
abbrev bOb (a0 xb : AV) : AObj := .cells 68 [a0, xb]
abbrev bRow (xb : AV) (b : List UInt8) : OwnR := ⟨5, 1, xb, byteA b⟩
theorem bLies : liesAt Tryd.prog Tryd.prog.depth 68 (2 / Tryd.prog.cellsOf 68) 0 68 1 = true := by kernel_rfl
theorem byteA_app (b : List UInt8) (c : UInt8) : byteA (b ++ [c]) = byteA b ++ [.int .u8 c.toNat] := by simp [byteA]
theorem byteA_app2 (b c : List UInt8) : byteA (b ++ c) = byteA b ++ byteA c := by simp [byteA]
theorem byteA_len (b : List UInt8) : (byteA b).length = b.length := by simp [byteA]
theorem writeByte_o {g : Nat} {a0 xb : AV} {b : List UInt8} (c : UInt8) (h : Owns n0 H0 ((g, bOb a0 xb) :: bs) (bRow xb b :: os) n H) (ha : a0 = .np ∨ a0 = .ptr g 0) (hne : ∀ x ∈ bs, x.1 ≠ g) (hlen : b.length + 1 ≤ 1000000000000) :
    ACalls Tryd.prog 44 [.ptr g 0, .int .u8 c.toNat] n H fun r n' H' => r = .nif ∧ n ≤ n' ∧ ∃ xb', Owns n0 H0 ((g, bOb (.ptr g 0) xb') :: bs) (bRow xb' (b ++ [c]) :: os) n' H' := by
  refine acalls_intro Tryd.func44 cmp44 rfl fun hs => ?_
  obtain ⟨hg, hg0, -⟩ := h.box _ List.mem_cons_self
  have hgn := h.mem.lt hg
  simp -implicitDefEqProofs [c44, xz00, aw_reg, aw_seq, xz01, xz02, xz03, xz04, aw_ret, aw_bad, aw_kp, aw_ke, xz05, xz06, xz07, xz08, xz09, xz0a, xz0b, xz0c, xz0d, xz0e, xz0f, xz0g, xz0h, xz0i, scV, pe, xz0j, xz0k, xz0l, xz0m, xz0n, xz0o, xz0p, xz0q, xz0r, xz0s, xz0t, xz2o, xz2p, xz2q, xz2r, xz2s, List.mem_cons, guardK, guardJ, anyE, undE, op_mv, xz2w, xz35, xz36, xz3b, op_bsl, op_app, xz3g, xz3j, xz3k, ngV, eqsV, eqbV, negV, notV, cviV, fieldV, sidxV, aidxV, xz3l, lenSV, extrV, nilckV, buildV, mmV, b2sV, r2sV, eqppV, s2bK, s2sK, msetS, mgetV, keyOkK, mfind, msetL, keyEq, callvK, ev, get, put, putO, keepE, xz3m, xz3n, xz3o, xz3p, xz3q, xz3r, condK, part, loadAV, xz3s, xz3t, xz3u, isNil, isNilP, isNilI, binAV, intBin, strBin, xz3v, xz3w, xz3x, xz3y, xz3z, xz40, xz41, xz42, xz43, xz44, xz45, xz46, xz47, xz48, xz49, xz4a, AV.fits, AV.cells, ones, AV.one, upcAV, updnAV, usdAV, ustAV, cutB, cutSV, xz4b, xz4c, xz4d, xz4e, resOf, resVs, resV, argE, xz4f, shpSz, u8e, u8lit, xz4g, xz4h, List.getElem?_cons_zero, List.getElem?_cons_succ, xz4i, xz4j, xz4k, entV, xz4l, xz4m, xz4n, xz4o, xz4q, -getElem?_pos]
  refine ⟨_, copyCheck_a 68 g 0 n [a0, xb] a0 H hg rfl ha bLies, ?_⟩
  rintro r n' H' hn hs' ⟨rfl, rfl, rfl⟩
  have hO1 := h.set0 hne 68 [.ptr g 0, xb]
  simp -implicitDefEqProofs [xz00, aw_reg, aw_seq, xz01, xz02, xz03, xz04, aw_ret, aw_bad, aw_kp, aw_ke, xz05, xz06, xz07, xz08, xz09, xz0a, xz0b, xz0c, xz0d, xz0e, xz0f, xz0g, xz0h, xz0i, scV, pe, xz0j, xz0k, xz0l, xz0m, xz0n, xz0o, xz0p, xz0q, xz0r, xz0s, xz0t, xz2o, xz2p, xz2q, xz2r, xz2s, List.mem_cons, guardK, guardJ, anyE, undE, op_mv, xz2w, xz35, xz36, xz3b, op_bsl, op_app, xz3g, xz3j, xz3k, ngV, eqsV, eqbV, negV, notV, cviV, fieldV, sidxV, aidxV, xz3l, lenSV, extrV, nilckV, buildV, mmV, b2sV, r2sV, eqppV, s2bK, s2sK, msetS, mgetV, keyOkK, mfind, msetL, keyEq, callvK, ev, get, put, putO, keepE, xz3m, xz3n, xz3o, xz3p, xz3q, xz3r, condK, part, loadAV, xz3s, xz3t, xz3u, isNil, isNilP, isNilI, binAV, intBin, strBin, xz3v, xz3w, xz3x, xz3y, xz3z, xz40, xz41, xz42, xz43, xz44, xz45, xz46, xz47, xz48, xz49, xz4a, AV.fits, AV.cells, ones, AV.one, upcAV, updnAV, usdAV, ustAV, cutB, cutSV, xz4b, xz4c, xz4d, xz4e, resOf, resVs, resV, argE, xz4f, shpSz, u8e, u8lit, xz4g, xz4h, List.getElem?_cons_zero, List.getElem?_cons_succ, xz4i, xz4j, xz4k, entV, xz4l, xz4m, xz4n, xz4o, xz4q, -getElem?_pos, splice]
  refine newB_own (newS_own hO1 fun g2 hg2 hO2 => ?_)
  simp -implicitDefEqProofs [xz00, aw_reg, aw_seq, xz01, xz02, xz03, xz04, aw_ret, aw_bad, aw_kp, aw_ke, xz05, xz06, xz07, xz08, xz09, xz0a, xz0b, xz0c, xz0d, xz0e, xz0f, xz0g, xz0h, xz0i, scV, pe, xz0j, xz0k, xz0l, xz0m, xz0n, xz0o, xz0p, xz0q, xz0r, xz0s, xz0t, xz2o, xz2p, xz2q, xz2r, xz2s, List.mem_cons, guardK, guardJ, anyE, undE, op_mv, xz2w, xz35, xz36, xz3b, op_bsl, op_app, xz3g, xz3j, xz3k, ngV, eqsV, eqbV, negV, notV, cviV, fieldV, sidxV, aidxV, xz3l, lenSV, extrV, nilckV, buildV, mmV, b2sV, r2sV, eqppV, s2bK, s2sK, msetS, mgetV, keyOkK, mfind, msetL, keyEq, callvK, ev, get, put, putO, keepE, xz3m, xz3n, xz3o, xz3p, xz3q, xz3r, condK, part, loadAV, xz3s, xz3t, xz3u, isNil, isNilP, isNilI, binAV, intBin, strBin, xz3v, xz3w, xz3x, xz3y, xz3z, xz40, xz41, xz42, xz43, xz44, xz45, xz46, xz47, xz48, xz49, xz4a, AV.fits, AV.cells, ones, AV.one, upcAV, updnAV, usdAV, ustAV, cutB, cutSV, xz4b, xz4c, xz4d, xz4e, resOf, resVs, resV, argE, xz4f, shpSz, u8e, u8lit, xz4g, xz4h, List.getElem?_cons_zero, List.getElem?_cons_succ, xz4i, xz4j, xz4k, entV, xz4l, xz4m, xz4n, xz4o, xz4q, -getElem?_pos]
  refine hO2.app (.inl rfl) (simL_refl _) (by rw [byteA_len]; simp; omega) (by rw [byteA_len]; simp [maxLen]; omega) fun x' n2 H2 hle hO3 _ => ?_
  have hg3 := (hO3.box _ List.mem_cons_self).1
  simp only at hg3
  obtain ⟨z, t, hx, -⟩ := hO3.len0
  simp only at hx
  subst hx
  simp -implicitDefEqProofs [xz00, aw_reg, aw_seq, xz01, xz02, xz03, xz04, aw_ret, aw_bad, aw_kp, aw_ke, xz05, xz06, xz07, xz08, xz09, xz0a, xz0b, xz0c, xz0d, xz0e, xz0f, xz0g, xz0h, xz0i, scV, pe, xz0j, xz0k, xz0l, xz0m, xz0n, xz0o, xz0p, xz0q, xz0r, xz0s, xz0t, xz2o, xz2p, xz2q, xz2r, xz2s, List.mem_cons, guardK, guardJ, anyE, undE, op_mv, xz2w, xz35, xz36, xz3b, op_bsl, op_app, xz3g, xz3j, xz3k, ngV, eqsV, eqbV, negV, notV, cviV, fieldV, sidxV, aidxV, xz3l, lenSV, extrV, nilckV, buildV, mmV, b2sV, r2sV, eqppV, s2bK, s2sK, msetS, mgetV, keyOkK, mfind, msetL, keyEq, callvK, ev, get, put, putO, keepE, xz3m, xz3n, xz3o, xz3p, xz3q, xz3r, condK, part, loadAV, xz3s, xz3t, xz3u, isNil, isNilP, isNilI, binAV, intBin, strBin, xz3v, xz3w, xz3x, xz3y, xz3z, xz40, xz41, xz42, xz43, xz44, xz45, xz46, xz47, xz48, xz49, xz4a, AV.fits, AV.cells, ones, AV.one, upcAV, updnAV, usdAV, ustAV, cutB, cutSV, xz4b, xz4c, xz4d, xz4e, resOf, resVs, resV, argE, xz4f, shpSz, u8e, u8lit, xz4g, xz4h, List.getElem?_cons_zero, List.getElem?_cons_succ, xz4i, xz4j, xz4k, entV, xz4l, xz4m, xz4n, xz4o, xz4q, -getElem?_pos, hg3, splice]
  have hO4 := hO3.set0 hne 68 [.ptr g 0, .sl z (byteA b ++ [.int .u8 c.toNat]) t]
  exact fin_ret (r := .nif) rfl (by omega) hO4.mem.sup ⟨rfl, by omega, _, hO4.relist (byteA_app b c)⟩
theorem writeString_o {g : Nat} {a0 xb : AV} {b : List UInt8} (c : List UInt8) (h : Owns n0 H0 ((g, bOb a0 xb) :: bs) (bRow xb b :: os) n H) (ha : a0 = .np ∨ a0 = .ptr g 0) (hne : ∀ x ∈ bs, x.1 ≠ g) (hlen : b.length + c.length ≤ 1000000000000) :
    ACalls Tryd.prog 45 [.ptr g 0, .str c] n H fun r n' H' => r = .tup [.int .i64 c.length, .nif] ∧ n ≤ n' ∧ ∃ xb', Owns n0 H0 ((g, bOb (.ptr g 0) xb') :: bs) (bRow xb' (b ++ c) :: os) n' H' := by
  refine acalls_intro Tryd.func45 cmp45 rfl fun hs => ?_
  obtain ⟨hg, hg0, -⟩ := h.box _ List.mem_cons_self
  have hgn := h.mem.lt hg
  simp -implicitDefEqProofs [c45, xz00, aw_reg, aw_seq, xz01, xz02, xz03, xz04, aw_ret, aw_bad, aw_kp, aw_ke, xz05, xz06, xz07, xz08, xz09, xz0a, xz0b, xz0c, xz0d, xz0e, xz0f, xz0g, xz0h, xz0i, scV, pe, xz0j, xz0k, xz0l, xz0m, xz0n, xz0o, xz0p, xz0q, xz0r, xz0s, xz0t, xz2o, xz2p, xz2q, xz2r, xz2s, List.mem_cons, guardK, guardJ, anyE, undE, op_mv, xz2w, xz32, xz35, xz36, xz3b, xz3c, xz3g, xz3j, xz3k, ngV, eqsV, eqbV, negV, notV, cviV, fieldV, sidxV, aidxV, xz3l, lenSV, extrV, nilckV, buildV, mmV, b2sV, r2sV, eqppV, s2bK, s2sK, msetS, mgetV, keyOkK, mfind, msetL, keyEq, callvK, ev, get, put, putO, keepE, xz3m, xz3n, xz3o, xz3p, xz3q, xz3r, condK, part, loadAV, xz3s, xz3t, xz3u, isNil, isNilP, isNilI, binAV, intBin, strBin, xz3v, xz3w, xz3x, xz3y, xz3z, xz40, xz41, xz42, xz43, xz44, xz45, xz46, xz47, xz48, xz49, xz4a, AV.fits, AV.cells, ones, AV.one, upcAV, updnAV, usdAV, ustAV, cutB, cutSV, xz4b, xz4c, xz4d, xz4e, resOf, resVs, resV, argE, xz4f, shpSz, u8e, u8lit, xz4g, xz4h, List.getElem?_cons_zero, List.getElem?_cons_succ, xz4i, xz4j, xz4k, entV, xz4l, xz4m, xz4n, xz4o, xz4q, -getElem?_pos]
  refine ⟨_, copyCheck_a 68 g 0 n [a0, xb] a0 H hg rfl ha bLies, ?_⟩
  rintro r n' H' hn hs' ⟨rfl, rfl, rfl⟩
  have hO1 := h.set0 hne 68 [.ptr g 0, xb]
  simp -implicitDefEqProofs [xz00, aw_reg, aw_seq, xz01, xz02, xz03, xz04, aw_ret, aw_bad, aw_kp, aw_ke, xz05, xz06, xz07, xz08, xz09, xz0a, xz0b, xz0c, xz0d, xz0e, xz0f, xz0g, xz0h, xz0i, scV, pe, xz0j, xz0k, xz0l, xz0m, xz0n, xz0o, xz0p, xz0q, xz0r, xz0s, xz0t, xz2o, xz2p, xz2q, xz2r, xz2s, List.mem_cons, guardK, guardJ, anyE, undE, op_mv, xz2w, xz32, xz35, xz36, xz3b, xz3c, xz3g, xz3j, xz3k, ngV, eqsV, eqbV, negV, notV, cviV, fieldV, sidxV, aidxV, xz3l, lenSV, extrV, nilckV, buildV, mmV, b2sV, r2sV, eqppV, s2bK, s2sK, msetS, mgetV, keyOkK, mfind, msetL, keyEq, callvK, ev, get, put, putO, keepE, xz3m, xz3n, xz3o, xz3p, xz3q, xz3r, condK, part, loadAV, xz3s, xz3t, xz3u, isNil, isNilP, isNilI, binAV, intBin, strBin, xz3v, xz3w, xz3x, xz3y, xz3z, xz40, xz41, xz42, xz43, xz44, xz45, xz46, xz47, xz48, xz49, xz4a, AV.fits, AV.cells, ones, AV.one, upcAV, updnAV, usdAV, ustAV, cutB, cutSV, xz4b, xz4c, xz4d, xz4e, resOf, resVs, resV, argE, xz4f, shpSz, u8e, u8lit, xz4g, xz4h, List.getElem?_cons_zero, List.getElem?_cons_succ, xz4i, xz4j, xz4k, entV, xz4l, xz4m, xz4n, xz4o, xz4q, -getElem?_pos, splice]
  refine hO1.appB (by rw [byteA_len]; omega) (by rw [byteA_len]; simp [maxLen]; omega) fun x' n2 H2 hle hO3 => ?_
  have hg3 := (hO3.box _ List.mem_cons_self).1
  simp only at hg3
  obtain ⟨z, t, hx, -⟩ := hO3.len0
  simp only at hx
  subst hx
  simp -implicitDefEqProofs [xz00, aw_reg, aw_seq, xz01, xz02, xz03, xz04, aw_ret, aw_bad, aw_kp, aw_ke, xz05, xz06, xz07, xz08, xz09, xz0a, xz0b, xz0c, xz0d, xz0e, xz0f, xz0g, xz0h, xz0i, scV, pe, xz0j, xz0k, xz0l, xz0m, xz0n, xz0o, xz0p, xz0q, xz0r, xz0s, xz0t, xz2o, xz2p, xz2q, xz2r, xz2s, List.mem_cons, guardK, guardJ, anyE, undE, op_mv, xz2w, xz32, xz35, xz36, xz3b, xz3c, xz3g, xz3j, xz3k, ngV, eqsV, eqbV, negV, notV, cviV, fieldV, sidxV, aidxV, xz3l, lenSV, extrV, nilckV, buildV, mmV, b2sV, r2sV, eqppV, s2bK, s2sK, msetS, mgetV, keyOkK, mfind, msetL, keyEq, callvK, ev, get, put, putO, keepE, xz3m, xz3n, xz3o, xz3p, xz3q, xz3r, condK, part, loadAV, xz3s, xz3t, xz3u, isNil, isNilP, isNilI, binAV, intBin, strBin, xz3v, xz3w, xz3x, xz3y, xz3z, xz40, xz41, xz42, xz43, xz44, xz45, xz46, xz47, xz48, xz49, xz4a, AV.fits, AV.cells, ones, AV.one, upcAV, updnAV, usdAV, ustAV, cutB, cutSV, xz4b, xz4c, xz4d, xz4e, resOf, resVs, resV, argE, xz4f, shpSz, u8e, u8lit, xz4g, xz4h, List.getElem?_cons_zero, List.getElem?_cons_succ, xz4i, xz4j, xz4k, entV, xz4l, xz4m, xz4n, xz4o, xz4q, -getElem?_pos, hg3, splice]
  have hO4 := hO3.set0 hne 68 [.ptr g 0, .sl z (byteA b ++ byteA c) t]
  exact fin_ret rfl (by omega) hO4.mem.sup ⟨rfl, by omega, _, hO4.relist (byteA_app2 b c)⟩
theorem bldString_o {g : Nat} {a0 xb : AV} {b : List UInt8} (h : Owns n0 H0 ((g, bOb a0 xb) :: bs) (bRow xb b :: os) n H) (ha : a0 = .np ∨ a0 = .ptr g 0) (hb0 : b = [] → ∃ z, xb = .sl z [] .nil) (hlen : b.length ≤ 1000000000) :
    APureAt Tryd.prog 48 [.ptr g 0] n H (.str b) := by
  have hg := (h.box _ List.mem_cons_self).1
  simp only at hg
  refine bldString_a g 0 n b H ⟨68, [a0, xb], a0, xb, hg, rfl, ha, rfl, bLies, ?_⟩ hlen
  by_cases hb : b = []
  · exact .inl ⟨hb, hb0 hb⟩
  · refine .inr ⟨hb, ?_⟩
    rcases h.row _ List.mem_cons_self with ⟨h1, _⟩ | ⟨g1, h1, h2, h3⟩
    · exact absurd (by simpa [byteA] using h1) hb
    · refine ⟨g1, h1, by rw [h2, byteA_len], fun e => ?_⟩
      subst e; rw [hg] at h2; cases h2
end
end Go.Proofs.YtnmkpadgogbgkaaDoor

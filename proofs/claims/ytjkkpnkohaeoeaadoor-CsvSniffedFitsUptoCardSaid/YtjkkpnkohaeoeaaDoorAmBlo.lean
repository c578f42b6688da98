/- strings.Builder as a block of the caller's own, on plain data; no condition. -/
import Derived.Test.YtjkkpnkohaeoeaaDoorAmBld
import Derived.Test.YtjkkpnkohaeoeaaDoorAmFnc
set_option linter.all false
set_option linter.unusedSimpArgs false
set_option linter.unusedVariables false
namespace Go.Proofs.YtjkkpnkohaeoeaaDoor

theorem simL_bytes : ∀ {b : List UInt8} {m : List AV}, simL (byteA b) m → m = byteA b
  | [], m, h => by simpa [byteA, simL] using h
  | c :: cs, m, h => by
    obtain ⟨y, ys, rfl, h1, h2⟩ := h
    have h3 := simL_bytes (b := cs) h2
    have h4 : y = .int .u8 c.toNat := by simpa [simA] using h1
    rw [h3, h4]; rfl
section
variable {n0 n : Nat} {H0 H : AHeap} {bs : List (Nat × AObj)} {os : List OwnR}
theorem Owns.appB {el by_ : Nat} {d : Option Nat} {e : AEnv} {K : AS → Prop} {x : AV} {l : List AV} {b : List UInt8} (h : Owns n0 H0 bs (⟨el, 1, x, l⟩ :: os) n H) (hb : (l.length + b.length) * by_ ≤ 140737488355328) (hc : l.length + b.length ≤ maxLen)
    (hk : ∀ x' n' H', n ≤ n' → Owns n0 H0 bs (⟨el, 1, x', l ++ byteA b⟩ :: os) n' H' → K ⟨putO e d x', n', H'⟩) : appKB el by_ d K ⟨e, n, H⟩ x (.str b) := by
  have hl : (byteA b).length = b.length := by simp [byteA]
  have h1 := h.app (z := 1) (m := byteA b) (m' := byteA b) (t := .ro) (d := d) (e := e) (K := K) (by_ := by_) (.inl rfl) (simL_refl _) (by rw [hl]; exact hb) (by rw [hl]; exact hc) (fun x' n' H' hle hO _ => hk x' n' H' hle hO)
  obtain ⟨_, m', hs, h2⟩ := h1
  rw [simL_bytes hs] at h2
  exact h2
theorem Owns.relist {el sz : Nat} {x : AV} {l l' : List AV} (h : Owns n0 H0 bs (⟨el, sz, x, l⟩ :: os) n H) (e : l' = l) : Owns n0 H0 bs (⟨el, sz, x, l'⟩ :: os) n H := e ▸ h
/-- a builder of the caller's own -/
abbrev bOb (a0 xb : AV) : AObj := .cells 56 [a0, xb]
abbrev bRow (xb : AV) (b : List UInt8) : OwnR := ⟨5, 1, xb, byteA b⟩
theorem bLies : liesAt Tryd.prog Tryd.prog.depth 56 (2 / Tryd.prog.cellsOf 56) 0 56 1 = true := by kernel_rfl
theorem byteA_app (b : List UInt8) (c : UInt8) : byteA (b ++ [c]) = byteA b ++ [.int .u8 c.toNat] := by simp [byteA]
theorem byteA_app2 (b c : List UInt8) : byteA (b ++ c) = byteA b ++ byteA c := by simp [byteA]
theorem byteA_len (b : List UInt8) : (byteA b).length = b.length := by simp [byteA]

theorem writeByte_o {g : Nat} {a0 xb : AV} {b : List UInt8} (c : UInt8) (h : Owns n0 H0 ((g, bOb a0 xb) :: bs) (bRow xb b :: os) n H) (ha : a0 = .np ∨ a0 = .ptr g 0) (hne : ∀ x ∈ bs, x.1 ≠ g) (hlen : b.length + 1 ≤ 1000000000000) :
    ACalls Tryd.prog 28 [.ptr g 0, .int .u8 c.toNat] n H fun r n' H' => r = .nif ∧ n ≤ n' ∧ ∃ xb', Owns n0 H0 ((g, bOb (.ptr g 0) xb') :: bs) (bRow xb' (b ++ [c]) :: os) n' H' := by
  refine acalls_intro Tryd.func28 cmp28 rfl fun hs => ?_
  obtain ⟨hg, hg0, -⟩ := h.box _ List.mem_cons_self
  have hgn := h.mem.lt hg
  simp -implicitDefEqProofs [c28, aw_skip, aw_reg, aw_seq, aw_cond, aw_block, aw_loop, aw_exit, aw_ret, aw_bad, aw_kp, aw_ke, keepQ_n, keepQ_e, keepQ_r, aw_segs, awSegs_nil, awSegs_0, awSegs_1, awSegs_2, segK_some, segK_none, evalOps_nil, evalOps_cons, evS_some, evS_none, scV, pe, awOps_nil, awOps_c0, guardK, anyE, op_mv, op_pick, op_bin, op_eqs, op_eqb, op_eqn, op_eqp, op_neg, op_not, op_cvi, op_mkfn, op_cutS, op_cut, op_faddr, op_field, op_iaddr, op_aaddr, op_sidx, op_aidx, op_len, op_lenS, op_clen, op_extr, op_nilck, op_load, op_build, op_mm, op_b2s, op_r2s, op_upc, op_usd, op_eqpp, op_updn, op_ust, op_alloc, op_box, op_store, op_bsl, op_app, op_appB, op_s2b, op_s2s, op_call, op_callp, op_callv, KS_some, KS_none, ngV, eqsV, eqbV, negV, notV, cviV, fieldV, sidxV, aidxV, lenV_sl, lenSV, extrV, nilckV, buildV, mmV, b2sV, r2sV, eqppV, s2bK, s2sK, callvK, ev, get, put, putO, keepE, thenA_n, thenA_e, thenA_r, blockA_n, blockA_e, blockA_r, condK, part, loadAV, faddrAV, iaddrAV_sl, aaddrAV, isNil, isNilP, binAV, intBin, strBin, storeK_ptr, stoK_cells, fitOk_str, fitOk_int, fitOk_bool, fitOk_sl, fitOk_ptr, fitOk_np, fitOk_ref, fitOk_fn, fitOk_nfn, fitOk_ifc, fitOk_nif, fitOk_agg, bslOk_nil, bslOk_cons, AV.fits, AV.cells, ones, AV.one, upcAV, updnAV, usdAV, ustAV, cutB, cutSV, cutAV_sl, buildOk, buildAV, eqCells, resOf, resVs, resV, argE, upd_same, shpSz, u8e, u8lit, bytesOf1, bytesOf2, List.getElem?_cons_zero, List.getElem?_cons_succ, -getElem?_pos]
  refine ⟨_, copyCheck_a 56 g 0 n [a0, xb] a0 H hg rfl ha bLies, ?_⟩
  rintro r n' H' hn hs' ⟨rfl, rfl, rfl⟩
  have hO1 := h.set0 hne 56 [.ptr g 0, xb]
  simp -implicitDefEqProofs [aw_skip, aw_reg, aw_seq, aw_cond, aw_block, aw_loop, aw_exit, aw_ret, aw_bad, aw_kp, aw_ke, keepQ_n, keepQ_e, keepQ_r, aw_segs, awSegs_nil, awSegs_0, awSegs_1, awSegs_2, segK_some, segK_none, evalOps_nil, evalOps_cons, evS_some, evS_none, scV, pe, awOps_nil, awOps_c0, guardK, anyE, op_mv, op_pick, op_bin, op_eqs, op_eqb, op_eqn, op_eqp, op_neg, op_not, op_cvi, op_mkfn, op_cutS, op_cut, op_faddr, op_field, op_iaddr, op_aaddr, op_sidx, op_aidx, op_len, op_lenS, op_clen, op_extr, op_nilck, op_load, op_build, op_mm, op_b2s, op_r2s, op_upc, op_usd, op_eqpp, op_updn, op_ust, op_alloc, op_box, op_store, op_bsl, op_app, op_appB, op_s2b, op_s2s, op_call, op_callp, op_callv, KS_some, KS_none, ngV, eqsV, eqbV, negV, notV, cviV, fieldV, sidxV, aidxV, lenV_sl, lenSV, extrV, nilckV, buildV, mmV, b2sV, r2sV, eqppV, s2bK, s2sK, callvK, ev, get, put, putO, keepE, thenA_n, thenA_e, thenA_r, blockA_n, blockA_e, blockA_r, condK, part, loadAV, faddrAV, iaddrAV_sl, aaddrAV, isNil, isNilP, binAV, intBin, strBin, storeK_ptr, stoK_cells, fitOk_str, fitOk_int, fitOk_bool, fitOk_sl, fitOk_ptr, fitOk_np, fitOk_ref, fitOk_fn, fitOk_nfn, fitOk_ifc, fitOk_nif, fitOk_agg, bslOk_nil, bslOk_cons, AV.fits, AV.cells, ones, AV.one, upcAV, updnAV, usdAV, ustAV, cutB, cutSV, cutAV_sl, buildOk, buildAV, eqCells, resOf, resVs, resV, argE, upd_same, shpSz, u8e, u8lit, bytesOf1, bytesOf2, List.getElem?_cons_zero, List.getElem?_cons_succ, -getElem?_pos, splice]
  refine newS_own hO1 fun g2 hg2 hO2 => ?_
  simp -implicitDefEqProofs [aw_skip, aw_reg, aw_seq, aw_cond, aw_block, aw_loop, aw_exit, aw_ret, aw_bad, aw_kp, aw_ke, keepQ_n, keepQ_e, keepQ_r, aw_segs, awSegs_nil, awSegs_0, awSegs_1, awSegs_2, segK_some, segK_none, evalOps_nil, evalOps_cons, evS_some, evS_none, scV, pe, awOps_nil, awOps_c0, guardK, anyE, op_mv, op_pick, op_bin, op_eqs, op_eqb, op_eqn, op_eqp, op_neg, op_not, op_cvi, op_mkfn, op_cutS, op_cut, op_faddr, op_field, op_iaddr, op_aaddr, op_sidx, op_aidx, op_len, op_lenS, op_clen, op_extr, op_nilck, op_load, op_build, op_mm, op_b2s, op_r2s, op_upc, op_usd, op_eqpp, op_updn, op_ust, op_alloc, op_box, op_store, op_bsl, op_app, op_appB, op_s2b, op_s2s, op_call, op_callp, op_callv, KS_some, KS_none, ngV, eqsV, eqbV, negV, notV, cviV, fieldV, sidxV, aidxV, lenV_sl, lenSV, extrV, nilckV, buildV, mmV, b2sV, r2sV, eqppV, s2bK, s2sK, callvK, ev, get, put, putO, keepE, thenA_n, thenA_e, thenA_r, blockA_n, blockA_e, blockA_r, condK, part, loadAV, faddrAV, iaddrAV_sl, aaddrAV, isNil, isNilP, binAV, intBin, strBin, storeK_ptr, stoK_cells, fitOk_str, fitOk_int, fitOk_bool, fitOk_sl, fitOk_ptr, fitOk_np, fitOk_ref, fitOk_fn, fitOk_nfn, fitOk_ifc, fitOk_nif, fitOk_agg, bslOk_nil, bslOk_cons, AV.fits, AV.cells, ones, AV.one, upcAV, updnAV, usdAV, ustAV, cutB, cutSV, cutAV_sl, buildOk, buildAV, eqCells, resOf, resVs, resV, argE, upd_same, shpSz, u8e, u8lit, bytesOf1, bytesOf2, List.getElem?_cons_zero, List.getElem?_cons_succ, -getElem?_pos]
  refine hO2.app (.inl rfl) (simL_refl _) (by rw [byteA_len]; simp; omega) (by rw [byteA_len]; simp [maxLen]; omega) fun x' n2 H2 hle hO3 _ => ?_
  have hg3 := (hO3.box _ List.mem_cons_self).1
  simp only at hg3
  obtain ⟨z, t, hx, -⟩ := hO3.len0
  simp only at hx
  subst hx
  simp -implicitDefEqProofs [aw_skip, aw_reg, aw_seq, aw_cond, aw_block, aw_loop, aw_exit, aw_ret, aw_bad, aw_kp, aw_ke, keepQ_n, keepQ_e, keepQ_r, aw_segs, awSegs_nil, awSegs_0, awSegs_1, awSegs_2, segK_some, segK_none, evalOps_nil, evalOps_cons, evS_some, evS_none, scV, pe, awOps_nil, awOps_c0, guardK, anyE, op_mv, op_pick, op_bin, op_eqs, op_eqb, op_eqn, op_eqp, op_neg, op_not, op_cvi, op_mkfn, op_cutS, op_cut, op_faddr, op_field, op_iaddr, op_aaddr, op_sidx, op_aidx, op_len, op_lenS, op_clen, op_extr, op_nilck, op_load, op_build, op_mm, op_b2s, op_r2s, op_upc, op_usd, op_eqpp, op_updn, op_ust, op_alloc, op_box, op_store, op_bsl, op_app, op_appB, op_s2b, op_s2s, op_call, op_callp, op_callv, KS_some, KS_none, ngV, eqsV, eqbV, negV, notV, cviV, fieldV, sidxV, aidxV, lenV_sl, lenSV, extrV, nilckV, buildV, mmV, b2sV, r2sV, eqppV, s2bK, s2sK, callvK, ev, get, put, putO, keepE, thenA_n, thenA_e, thenA_r, blockA_n, blockA_e, blockA_r, condK, part, loadAV, faddrAV, iaddrAV_sl, aaddrAV, isNil, isNilP, binAV, intBin, strBin, storeK_ptr, stoK_cells, fitOk_str, fitOk_int, fitOk_bool, fitOk_sl, fitOk_ptr, fitOk_np, fitOk_ref, fitOk_fn, fitOk_nfn, fitOk_ifc, fitOk_nif, fitOk_agg, bslOk_nil, bslOk_cons, AV.fits, AV.cells, ones, AV.one, upcAV, updnAV, usdAV, ustAV, cutB, cutSV, cutAV_sl, buildOk, buildAV, eqCells, resOf, resVs, resV, argE, upd_same, shpSz, u8e, u8lit, bytesOf1, bytesOf2, List.getElem?_cons_zero, List.getElem?_cons_succ, -getElem?_pos, hg3, splice]
  have hO4 := hO3.set0 hne 56 [.ptr g 0, .sl z (byteA b ++ [.int .u8 c.toNat]) t]
  exact fin_ret (r := .nif) rfl (by omega) hO4.mem.sup ⟨rfl, by omega, _, hO4.relist (byteA_app b c)⟩
theorem writeString_o {g : Nat} {a0 xb : AV} {b : List UInt8} (c : List UInt8) (h : Owns n0 H0 ((g, bOb a0 xb) :: bs) (bRow xb b :: os) n H) (ha : a0 = .np ∨ a0 = .ptr g 0) (hne : ∀ x ∈ bs, x.1 ≠ g) (hlen : b.length + c.length ≤ 1000000000000) :
    ACalls Tryd.prog 29 [.ptr g 0, .str c] n H fun r n' H' => r = .tup [.int .i64 c.length, .nif] ∧ n ≤ n' ∧ ∃ xb', Owns n0 H0 ((g, bOb (.ptr g 0) xb') :: bs) (bRow xb' (b ++ c) :: os) n' H' := by
  refine acalls_intro Tryd.func29 cmp29 rfl fun hs => ?_
  obtain ⟨hg, hg0, -⟩ := h.box _ List.mem_cons_self
  have hgn := h.mem.lt hg
  simp -implicitDefEqProofs [c29, aw_skip, aw_reg, aw_seq, aw_cond, aw_block, aw_loop, aw_exit, aw_ret, aw_bad, aw_kp, aw_ke, keepQ_n, keepQ_e, keepQ_r, aw_segs, awSegs_nil, awSegs_0, awSegs_1, awSegs_2, segK_some, segK_none, evalOps_nil, evalOps_cons, evS_some, evS_none, scV, pe, awOps_nil, awOps_c0, guardK, anyE, op_mv, op_pick, op_bin, op_eqs, op_eqb, op_eqn, op_eqp, op_neg, op_not, op_cvi, op_mkfn, op_cutS, op_cut, op_faddr, op_field, op_iaddr, op_aaddr, op_sidx, op_aidx, op_len, op_lenS, op_clen, op_extr, op_nilck, op_load, op_build, op_mm, op_b2s, op_r2s, op_upc, op_usd, op_eqpp, op_updn, op_ust, op_alloc, op_box, op_store, op_bsl, op_app, op_appB, op_s2b, op_s2s, op_call, op_callp, op_callv, KS_some, KS_none, ngV, eqsV, eqbV, negV, notV, cviV, fieldV, sidxV, aidxV, lenV_sl, lenSV, extrV, nilckV, buildV, mmV, b2sV, r2sV, eqppV, s2bK, s2sK, callvK, ev, get, put, putO, keepE, thenA_n, thenA_e, thenA_r, blockA_n, blockA_e, blockA_r, condK, part, loadAV, faddrAV, iaddrAV_sl, aaddrAV, isNil, isNilP, binAV, intBin, strBin, storeK_ptr, stoK_cells, fitOk_str, fitOk_int, fitOk_bool, fitOk_sl, fitOk_ptr, fitOk_np, fitOk_ref, fitOk_fn, fitOk_nfn, fitOk_ifc, fitOk_nif, fitOk_agg, bslOk_nil, bslOk_cons, AV.fits, AV.cells, ones, AV.one, upcAV, updnAV, usdAV, ustAV, cutB, cutSV, cutAV_sl, buildOk, buildAV, eqCells, resOf, resVs, resV, argE, upd_same, shpSz, u8e, u8lit, bytesOf1, bytesOf2, List.getElem?_cons_zero, List.getElem?_cons_succ, -getElem?_pos]
  refine ⟨_, copyCheck_a 56 g 0 n [a0, xb] a0 H hg rfl ha bLies, ?_⟩
  rintro r n' H' hn hs' ⟨rfl, rfl, rfl⟩
  have hO1 := h.set0 hne 56 [.ptr g 0, xb]
  simp -implicitDefEqProofs [aw_skip, aw_reg, aw_seq, aw_cond, aw_block, aw_loop, aw_exit, aw_ret, aw_bad, aw_kp, aw_ke, keepQ_n, keepQ_e, keepQ_r, aw_segs, awSegs_nil, awSegs_0, awSegs_1, awSegs_2, segK_some, segK_none, evalOps_nil, evalOps_cons, evS_some, evS_none, scV, pe, awOps_nil, awOps_c0, guardK, anyE, op_mv, op_pick, op_bin, op_eqs, op_eqb, op_eqn, op_eqp, op_neg, op_not, op_cvi, op_mkfn, op_cutS, op_cut, op_faddr, op_field, op_iaddr, op_aaddr, op_sidx, op_aidx, op_len, op_lenS, op_clen, op_extr, op_nilck, op_load, op_build, op_mm, op_b2s, op_r2s, op_upc, op_usd, op_eqpp, op_updn, op_ust, op_alloc, op_box, op_store, op_bsl, op_app, op_appB, op_s2b, op_s2s, op_call, op_callp, op_callv, KS_some, KS_none, ngV, eqsV, eqbV, negV, notV, cviV, fieldV, sidxV, aidxV, lenV_sl, lenSV, extrV, nilckV, buildV, mmV, b2sV, r2sV, eqppV, s2bK, s2sK, callvK, ev, get, put, putO, keepE, thenA_n, thenA_e, thenA_r, blockA_n, blockA_e, blockA_r, condK, part, loadAV, faddrAV, iaddrAV_sl, aaddrAV, isNil, isNilP, binAV, intBin, strBin, storeK_ptr, stoK_cells, fitOk_str, fitOk_int, fitOk_bool, fitOk_sl, fitOk_ptr, fitOk_np, fitOk_ref, fitOk_fn, fitOk_nfn, fitOk_ifc, fitOk_nif, fitOk_agg, bslOk_nil, bslOk_cons, AV.fits, AV.cells, ones, AV.one, upcAV, updnAV, usdAV, ustAV, cutB, cutSV, cutAV_sl, buildOk, buildAV, eqCells, resOf, resVs, resV, argE, upd_same, shpSz, u8e, u8lit, bytesOf1, bytesOf2, List.getElem?_cons_zero, List.getElem?_cons_succ, -getElem?_pos, splice]
  refine hO1.appB (by rw [byteA_len]; omega) (by rw [byteA_len]; simp [maxLen]; omega) fun x' n2 H2 hle hO3 => ?_
  have hg3 := (hO3.box _ List.mem_cons_self).1
  simp only at hg3
  obtain ⟨z, t, hx, -⟩ := hO3.len0
  simp only at hx
  subst hx
  simp -implicitDefEqProofs [aw_skip, aw_reg, aw_seq, aw_cond, aw_block, aw_loop, aw_exit, aw_ret, aw_bad, aw_kp, aw_ke, keepQ_n, keepQ_e, keepQ_r, aw_segs, awSegs_nil, awSegs_0, awSegs_1, awSegs_2, segK_some, segK_none, evalOps_nil, evalOps_cons, evS_some, evS_none, scV, pe, awOps_nil, awOps_c0, guardK, anyE, op_mv, op_pick, op_bin, op_eqs, op_eqb, op_eqn, op_eqp, op_neg, op_not, op_cvi, op_mkfn, op_cutS, op_cut, op_faddr, op_field, op_iaddr, op_aaddr, op_sidx, op_aidx, op_len, op_lenS, op_clen, op_extr, op_nilck, op_load, op_build, op_mm, op_b2s, op_r2s, op_upc, op_usd, op_eqpp, op_updn, op_ust, op_alloc, op_box, op_store, op_bsl, op_app, op_appB, op_s2b, op_s2s, op_call, op_callp, op_callv, KS_some, KS_none, ngV, eqsV, eqbV, negV, notV, cviV, fieldV, sidxV, aidxV, lenV_sl, lenSV, extrV, nilckV, buildV, mmV, b2sV, r2sV, eqppV, s2bK, s2sK, callvK, ev, get, put, putO, keepE, thenA_n, thenA_e, thenA_r, blockA_n, blockA_e, blockA_r, condK, part, loadAV, faddrAV, iaddrAV_sl, aaddrAV, isNil, isNilP, binAV, intBin, strBin, storeK_ptr, stoK_cells, fitOk_str, fitOk_int, fitOk_bool, fitOk_sl, fitOk_ptr, fitOk_np, fitOk_ref, fitOk_fn, fitOk_nfn, fitOk_ifc, fitOk_nif, fitOk_agg, bslOk_nil, bslOk_cons, AV.fits, AV.cells, ones, AV.one, upcAV, updnAV, usdAV, ustAV, cutB, cutSV, cutAV_sl, buildOk, buildAV, eqCells, resOf, resVs, resV, argE, upd_same, shpSz, u8e, u8lit, bytesOf1, bytesOf2, List.getElem?_cons_zero, List.getElem?_cons_succ, -getElem?_pos, hg3, splice]
  have hO4 := hO3.set0 hne 56 [.ptr g 0, .sl z (byteA b ++ byteA c) t]
  exact fin_ret rfl (by omega) hO4.mem.sup ⟨rfl, by omega, _, hO4.relist (byteA_app2 b c)⟩
theorem bldLen_o {g : Nat} {a0 xb : AV} {b : List UInt8} (h : Owns n0 H0 ((g, bOb a0 xb) :: bs) (bRow xb b :: os) n H) :
    APureAt Tryd.prog 31 [.ptr g 0] n H (.int .i64 b.length) := by
  refine apureAt_intro Tryd.func31 cmp31 rfl fun hH => ?_
  have hg := (h.box _ List.mem_cons_self).1
  have hlx := h.lenv0
  simp only [byteA_len] at hlx hg
  repeat' (first | (simp -implicitDefEqProofs [c31, aw_skip, aw_reg, aw_seq, aw_cond, aw_block, aw_loop, aw_exit, aw_ret, aw_bad, aw_kp, aw_ke, keepQ_n, keepQ_e, keepQ_r, aw_segs, awSegs_nil, awSegs_0, awSegs_1, awSegs_2, segK_some, segK_none, evalOps_nil, evalOps_cons, evS_some, evS_none, scV, pe, awOps_nil, awOps_c0, guardK, anyE, op_mv, op_pick, op_bin, op_eqs, op_eqb, op_eqn, op_eqp, op_neg, op_not, op_cvi, op_mkfn, op_cutS, op_cut, op_faddr, op_field, op_iaddr, op_aaddr, op_sidx, op_aidx, op_len, op_lenS, op_clen, op_extr, op_nilck, op_load, op_build, op_mm, op_b2s, op_r2s, op_upc, op_usd, op_eqpp, op_updn, op_ust, op_alloc, op_box, op_store, op_bsl, op_app, op_appB, op_s2b, op_s2s, op_call, op_callp, op_callv, KS_some, KS_none, ngV, eqsV, eqbV, negV, notV, cviV, fieldV, sidxV, aidxV, lenV_sl, lenSV, extrV, nilckV, buildV, mmV, b2sV, r2sV, eqppV, s2bK, s2sK, callvK, ev, get, put, putO, keepE, thenA_n, thenA_e, thenA_r, blockA_n, blockA_e, blockA_r, condK, part, loadAV, faddrAV, iaddrAV_sl, aaddrAV, isNil, isNilP, binAV, intBin, strBin, storeK_ptr, stoK_cells, fitOk_str, fitOk_int, fitOk_bool, fitOk_sl, fitOk_ptr, fitOk_np, fitOk_ref, fitOk_fn, fitOk_nfn, fitOk_ifc, fitOk_nif, fitOk_agg, bslOk_nil, bslOk_cons, AV.fits, AV.cells, ones, AV.one, upcAV, updnAV, usdAV, ustAV, cutB, cutSV, cutAV_sl, buildOk, buildAV, eqCells, resOf, resVs, resV, argE, upd_same, shpSz, u8e, u8lit, bytesOf1, bytesOf2, List.getElem?_cons_zero, List.getElem?_cons_succ, -getElem?_pos, hg, hlx]) | (simp (disch := omega) only [upd_ne, upd_same, if_pos, if_neg, IntWalk.i64_in]) | (with_reducible refine fin_r ?_ ?_ ?_) | (with_reducible exact SameB.rfl_ _ _) | (with_reducible refine SameB.upd ?_ ?_ _) | (with_reducible assumption) | (with_reducible refine newP_go ?_) | (with_reducible refine newS_go ?_) | (with_reducible intro _g _hg) | (with_reducible refine And.intro ?_ ?_) | (with_reducible intro _hc) | omega)
  exact simA_refl _
theorem bldString_o {g : Nat} {a0 xb : AV} {b : List UInt8} (h : Owns n0 H0 ((g, bOb a0 xb) :: bs) (bRow xb b :: os) n H) (ha : a0 = .np ∨ a0 = .ptr g 0) (hb0 : b = [] → ∃ z, xb = .sl z [] .nil) (hlen : b.length ≤ 1000000000) :
    APureAt Tryd.prog 32 [.ptr g 0] n H (.str b) := by
  have hg := (h.box _ List.mem_cons_self).1
  simp only at hg
  refine bldString_a g 0 n b H ⟨56, [a0, xb], a0, xb, hg, rfl, ha, rfl, bLies, ?_⟩ hlen
  by_cases hb : b = []
  · exact .inl ⟨hb, hb0 hb⟩
  · refine .inr ⟨hb, ?_⟩
    rcases h.row _ List.mem_cons_self with ⟨h1, _⟩ | ⟨g1, h1, h2, h3⟩
    · exact absurd (by simpa [byteA] using h1) hb
    · refine ⟨g1, h1, by rw [h2, byteA_len], fun e => ?_⟩
      subst e; rw [hg] at h2; cases h2
end
end Go.Proofs.YtjkkpnkohaeoeaaDoor

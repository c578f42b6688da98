/- Putting two quotes in the place of each, at this program, on plain data; no condition but that the text is no longer than 2^45. -/
import Derived.Test.YtjkkpnkohaeoeaaDoorCvS
set_option linter.all false
set_option linter.unusedSimpArgs false
set_option linter.unusedVariables false
namespace Go.Proofs.YtjkkpnkohaeoeaaDoor
open Go.Shelf
def lays154_ren : Go.Shelf.Ren := ⟨fun | 154 => 53 | 138 => 57 | 165 => 58 | 143 => 59 | 166 => 29 | 197 => 60 | 169 => 32 | 195 => 61 | 218 => 62 | 240 => 44 | 241 => 63 | 219 => 64 | 260 => 65 | 276 => 51 | 277 => 66 | 217 => 52 | 225 => 67 | 224 => 68 | 267 => 69 | 266 => 56 | 314 => 70 | n => n, fun | 9 => 9 | 3 => 3 | 4 => 4 | 72 => 56 | 0 => 0 | 76 => 60 | 105 => 91 | 21 => 21 | 5 => 5 | 70 => 53 | 20 => 20 | 37 => 54 | 75 => 58 | 127 => 82 | 164 => 86 | 46 => 96 | 119 => 97 | 139 => 100 | 138 => 99 | 146 => 102 | 51 => 101 | 80 => 64 | n => n, fun | 1 => 0 | 3 => 1 | 4 => 2 | n => n⟩
theorem lays154 : Lays.n154 Tryd.prog lays154_ren := {
  mixed := by kernel_rfl
  f138 := Tryd.func57.trans (congrArg some (by kernel_rfl))
  f143 := Tryd.func59.trans (congrArg some (by kernel_rfl))
  f154 := Tryd.func53.trans (congrArg some (by kernel_rfl))
  f165 := Tryd.func58.trans (congrArg some (by kernel_rfl))
  f166 := Tryd.func29.trans (congrArg some (by kernel_rfl))
  f169 := Tryd.func32.trans (congrArg some (by kernel_rfl))
  f195 := Tryd.func61.trans (congrArg some (by kernel_rfl))
  f197 := Tryd.func60.trans (congrArg some (by kernel_rfl))
  f217 := Tryd.func52.trans (congrArg some (by kernel_rfl))
  f218 := Tryd.func62.trans (congrArg some (by kernel_rfl))
  f219 := Tryd.func64.trans (congrArg some (by kernel_rfl))
  f224 := Tryd.func68.trans (congrArg some (by kernel_rfl))
  f225 := Tryd.func67.trans (congrArg some (by kernel_rfl))
  f240 := Tryd.func44.trans (congrArg some (by kernel_rfl))
  f241 := Tryd.func63.trans (congrArg some (by kernel_rfl))
  f260 := Tryd.func65.trans (congrArg some (by kernel_rfl))
  f266 := Tryd.func56.trans (congrArg some (by kernel_rfl))
  f267 := Tryd.func69.trans (congrArg some (by kernel_rfl))
  f276 := Tryd.func51.trans (congrArg some (by kernel_rfl))
  f277 := Tryd.func66.trans (congrArg some (by kernel_rfl))
  f314 := Tryd.func70.trans (congrArg some (by kernel_rfl))
  t0 := Tryd.underlying0
  a0 := Tryd.isAgg0
  z0 := Tryd.sizeOf0
  v0 := Tryd.zeroValue0
  t3 := Tryd.underlying3
  a3 := Tryd.isAgg3
  z3 := Tryd.sizeOf3
  v3 := Tryd.zeroValue3
  t4 := Tryd.underlying4
  a4 := Tryd.isAgg4
  z4 := Tryd.sizeOf4
  v4 := Tryd.zeroValue4
  t5 := Tryd.underlying5
  a5 := Tryd.isAgg5
  z5 := Tryd.sizeOf5
  v5 := Tryd.zeroValue5
  t9 := Tryd.underlying9
  a9 := Tryd.isAgg9
  z9 := Tryd.sizeOf9
  v9 := Tryd.zeroValue9
  t20 := Tryd.underlying20
  a20 := Tryd.isAgg20
  z20 := Tryd.sizeOf20
  v20 := Tryd.zeroValue20
  t21 := Tryd.underlying21
  a21 := Tryd.isAgg21
  z21 := Tryd.sizeOf21
  v21 := Tryd.zeroValue21
  t37 := Tryd.underlying54
  a37 := Tryd.isAgg54
  z37 := Tryd.sizeOf54
  v37 := Tryd.zeroValue54
  t46 := Tryd.underlying96
  a46 := Tryd.isAgg96
  z46 := Tryd.sizeOf96
  v46 := Tryd.zeroValue96
  t51 := Tryd.underlying101
  a51 := Tryd.isAgg101
  z51 := Tryd.sizeOf101
  v51 := Tryd.zeroValue101
  t70 := Tryd.underlying53
  a70 := Tryd.isAgg53
  z70 := Tryd.sizeOf53
  v70 := Tryd.zeroValue53
  t72 := Tryd.underlying56
  a72 := Tryd.isAgg56
  z72 := Tryd.sizeOf56
  v72 := Tryd.zeroValue56
  t75 := Tryd.underlying58
  a75 := Tryd.isAgg58
  z75 := Tryd.sizeOf58
  v75 := Tryd.zeroValue58
  t76 := Tryd.underlying60
  a76 := Tryd.isAgg60
  z76 := Tryd.sizeOf60
  v76 := Tryd.zeroValue60
  t105 := Tryd.underlying91
  a105 := Tryd.isAgg91
  z105 := Tryd.sizeOf91
  v105 := Tryd.zeroValue91
  t119 := Tryd.underlying97
  a119 := Tryd.isAgg97
  z119 := Tryd.sizeOf97
  t127 := Tryd.underlying82
  a127 := Tryd.isAgg82
  z127 := Tryd.sizeOf82
  v127 := Tryd.zeroValue82
  t138 := Tryd.underlying99
  a138 := Tryd.isAgg99
  z138 := Tryd.sizeOf99
  v138 := Tryd.zeroValue99
  t139 := Tryd.underlying100
  a139 := Tryd.isAgg100
  z139 := Tryd.sizeOf100
  v139 := Tryd.zeroValue100
  t146 := Tryd.underlying102
  a146 := Tryd.isAgg102
  z146 := Tryd.sizeOf102
  v146 := Tryd.zeroValue102
  t164 := Tryd.underlying86
  a164 := Tryd.isAgg86
  z164 := Tryd.sizeOf86
  v164 := Tryd.zeroValue86
  g1 := by kernel_rfl
  g3 := by kernel_rfl
  g4 := by kernel_rfl }
theorem extra154 : Builder.Extra Tryd.prog lays154_ren := {
  sizeBuilder := by kernel_rfl
  liesBuilder := by kernel_rfl
  t5 := lays154.t5
  a5 := lays154.a5
  z5 := lays154.z5
  v5 := lays154.v5
  infoByte := by kernel_rfl
  cellsByte := by kernel_rfl
  sizeByte := by kernel_rfl
  neB5 := by decide }

theorem replace_some (s : List UInt8) (q : UInt8) (hq : q ∈ s) (hlen : 3 * s.length ≤ 140737488355328) : APure Tryd.prog 53 [.str s, .str [q], .str [q, q], .int .i64 (-1)] (.str (dbl q s)) := by
  refine apure_of fun G vs hr => ⟨.string ⟨(dbl q s).toArray⟩, fun _ => .str rfl, fun w => ?_⟩
  cases hr with
  | cons h1 h2 => cases h2 with
    | cons h3 h4 => cases h4 with
      | cons h5 h6 => cases h6 with
        | cons h7 h8 =>
          cases h8; cases h1; cases h3; cases h5; cases h7
          rename_i a ha b hb c hc
          rw [str_data _ _ ha, str_data _ _ hb, str_data _ _ hc]
          exact replaceOne_c lays154 extra154 ⟨s.toArray⟩ q w (by simpa using hq) (by simpa [ByteArray.size] using hlen)
theorem replOk (q : UInt8) (s : List UInt8) (hlen : 3 * s.length ≤ 140737488355328) : APure Tryd.prog 46 [.str s, .str [q], .str [q, q]] (.str (dbl q s)) := by
  by_cases hq : q ∈ s
  · refine apure_intro Tryd.func46 cmp46 rfl fun n H hH => ?_
    repeat' (first | (simp -implicitDefEqProofs [c46, aw_skip, aw_reg, aw_seq, aw_cond, aw_block, aw_loop, aw_exit, aw_ret, aw_bad, aw_kp, aw_ke, keepQ_n, keepQ_e, keepQ_r, aw_segs, awSegs_nil, awSegs_0, awSegs_1, awSegs_2, segK_some, segK_none, evalOps_nil, evalOps_cons, evS_some, evS_none, scV, pe, awOps_nil, awOps_c0, guardK, anyE, op_mv, op_pick, op_bin, op_eqs, op_eqb, op_eqn, op_eqp, op_neg, op_not, op_cvi, op_mkfn, op_cutS, op_cut, op_faddr, op_field, op_iaddr, op_aaddr, op_sidx, op_aidx, op_len, op_lenS, op_clen, op_extr, op_nilck, op_load, op_build, op_mm, op_b2s, op_r2s, op_upc, op_usd, op_eqpp, op_updn, op_ust, op_alloc, op_box, op_store, op_bsl, op_app, op_appB, op_s2b, op_s2s, op_call, op_callp, op_callv, KS_some, KS_none, ngV, eqsV, eqbV, negV, notV, cviV, fieldV, sidxV, aidxV, lenV_sl, lenSV, extrV, nilckV, buildV, mmV, b2sV, r2sV, eqppV, s2bK, s2sK, callvK, ev, get, put, putO, keepE, thenA_n, thenA_e, thenA_r, blockA_n, blockA_e, blockA_r, condK, part, loadAV, faddrAV, iaddrAV_sl, aaddrAV, isNil, isNilP, binAV, intBin, strBin, storeK_ptr, stoK_cells, fitOk_str, fitOk_int, fitOk_bool, fitOk_sl, fitOk_ptr, fitOk_np, fitOk_ref, fitOk_fn, fitOk_nfn, fitOk_ifc, fitOk_nif, fitOk_agg, bslOk_nil, bslOk_cons, AV.fits, AV.cells, ones, AV.one, upcAV, updnAV, usdAV, ustAV, cutB, cutSV, cutAV_sl, buildOk, buildAV, eqCells, resOf, resVs, resV, argE, upd_same, shpSz, u8e, u8lit, bytesOf1, bytesOf2, List.getElem?_cons_zero, List.getElem?_cons_succ, -getElem?_pos, simA]) | (simp (disch := omega) only [upd_ne, upd_same, if_pos, if_neg, IntWalk.i64_in]) | ((with_reducible refine CallP.chk (f := 53) ?_); refine CallP.of (replace_some s q hq hlen) (by first | (with_reducible exact simL_refl _) | (exact Owns.simC0 (by assumption)) | (exact Owns.simC1 (by assumption)) | (simp [simL, simA, simA_refl, simL_refl]; done)) ?_) | (with_reducible refine fin_r ?_ ?_ ?_) | (with_reducible exact SameB.rfl_ _ _) | (with_reducible refine SameB.upd ?_ ?_ _) | (with_reducible assumption) | (with_reducible refine newP_go ?_) | (with_reducible refine newS_go ?_) | (with_reducible intro _g _hg) | (with_reducible refine And.intro ?_ ?_) | (with_reducible intro _hc) | omega)
  · exact replaceAll_none s q hq
end Go.Proofs.YtjkkpnkohaeoeaaDoor

/- The walk of the law on merging; the number of lists and of elements is bounded by premises. -/
import Derived.Test.YtefeiogbaiodnaaMixW
import Derived.Test.YtefeiogbaiodnaaW12
import Derived.ChangeKeysEq
namespace Go.Proofs.Ytefeiogbaiodnaa
open Go.RowKit

theorem und35 : Try.prog.underlying 35 = some (.array 2 3) := by kernel_rfl

theorem run_neqP (w : World) (a b : Int) : (binOp .neq 35 (.agg #[.int .i64 a, .int .i64 b]) (.agg #[.int .i64 a, .int .i64 b])).run Try.prog w = .ok (.bool false) w := by
  rw [run_neq_struct]
  have h : (Op.equalIn 10000 35 (.agg #[.int .i64 a, .int .i64 b]) (.agg #[.int .i64 a, .int .i64 b])).run Try.prog w = .ok true w := by
    obtain ⟨i3, hi3, _, _, _⟩ := info_parts info3_el
    have h := run_equalIn_array (P := Try.prog) w 9999 #[.int .i64 a, .int .i64 b] #[.int .i64 a, .int .i64 b] und35 hi3
    refine h.trans ?_
    rw [show Try.prog.cellsOf 3 = 1 by kernel_rfl]
    simp [Op.eqItems, List.range, List.range.loop, go_sem]
  rw [h]; rfl

set_option maxRecDepth 100000 in
set_option maxHeartbeats 2000000 in
theorem mergeLaw_t (ls : List (List ElP)) (v : Value) (w : World) (hs : SlL encP w v ls) (h1 : ls.length ≤ 2000000 ∧ total ls ≤ 4000000) : Calls Try.prog 4 #[v] w fun e w' => e = .returned (.bool true) ∧ Ext w w' := by
  obtain ⟨hn, ht⟩ := h1
  have HS := Lib.hid hs
  have hnq := run_neqP
  clear hs
  go_enter Try.func4, Try.ntmps4
  go_wp2_with fail
  refine (mergeP_t ls _ _ HS.out hn ht).mono ?_
  rintro e w1 ⟨v1, rfl, hs1, hb1⟩
  have HS1 := Lib.hid hs1
  have HB1 := Lib.hid hb1
  clear hs1 hb1
  go_wp2_with fail
  refine (mixed_t ls _ _ (HS.out.ext HB1.out) hn ht).mono ?_
  rintro e w2 ⟨v2, rfl, hs2, hb2⟩
  have HS2 := Lib.hid hs2
  have HB2 := Lib.hid (HB1.out.tr hb2)
  have HS3 := Lib.hid (HS1.out.ext hb2)
  clear hs2 hb2
  obtain ⟨L, hL⟩ : ∃ L, L = mergeL ltP ls := ⟨_, rfl⟩
  rw [← hL] at HS2 HS3
  obtain ⟨A1, c1, rfl, _, hm, _⟩ := HS3.out.out
  obtain ⟨A2, c2, rfl, _, _, _⟩ := HS2.out.out
  clear hL HS1
  go_wp2_with fail
  go_loopw [5] (fun i wr => ∃ j : Nat, j ≤ L.length ∧ i = .int .i64 j ∧ Ext w2 wr) (fun i _ => L.length - (intOf i).toNat)
  case atStart => exact ⟨0, by omega, rfl, Ext.rfl_ _⟩
  case round =>
    obtain ⟨j, hj, rfl, hb⟩ := hrel
    have HB := Lib.hid hb
    clear hb
    by_cases hlt : j < L.length
    · obtain ⟨x, hx⟩ : ∃ x, L[j]? = some x := ⟨_, List.getElem?_eq_getElem hlt⟩
      obtain ⟨g1, o1, c1', hv1, _, _, d0, d1⟩ := pairAt HS3.out hx
      injection hv1 with e1 _ e3
      subst e1; subst e3
      obtain ⟨g2, o2, c2', hv2, _, _, f0, f1⟩ := pairAt HS2.out hx
      injection hv2 with e1 _ e3
      subst e1; subst e3
      have x0 := HB.out.cellAt d0
      have x1 := HB.out.cellAt d1
      have y0 := HB.out.cellAt f0
      have y1 := HB.out.cellAt f1
      have b0 : (0 : Int) ≤ (j : Int) := by omega
      have b1 : (j : Int) < (L.length : Int) := by omega
      clear d0 d1 f0 f1 hx
      go_wp2_with fail
      go_region
      go_wp2
      go_roundw
      case rel => exact ⟨j + 1, by omega, by go_num, by first | exact HB.out.drew' | exact HB.out.drewN' _⟩
      case measure => simp [intOf]; omega
    · have HB3 := Lib.hid (HB2.out.tr HB.out)
      go_wp2_with fail
      refine (queued_t _).mono ?_
      rintro e w3 ⟨rfl, hb3⟩
      go_wp2
      go_ret
      exact ⟨rfl, HB3.out.tr hb3⟩
end Go.Proofs.Ytefeiogbaiodnaa

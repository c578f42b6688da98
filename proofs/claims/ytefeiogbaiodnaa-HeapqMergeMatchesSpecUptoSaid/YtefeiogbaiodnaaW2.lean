/- Walks of the reference's functions that only read entries; no condition. -/
import Derived.Test.YtefeiogbaiodnaaW1
namespace Go.Proofs.Ytefeiogbaiodnaa
open Go.RowKit

set_option maxHeartbeats 400000 in
theorem first_any (l : List Ent) (v : Value) (w : World) (hl : EntS w v l) :
    Calls Try.prog 23 #[v] w fun e w' => e = .returned (.int .i64 (first l)) ∧ Ext w w' := by
  obtain ⟨A, c, rfl, hm, hA⟩ := hl.out
  have HA := Lib.hid hA
  clear hA hl
  go_enter Try.func23, Try.ntmps23
  go_wp2
  go_loopw [3, 4] (fun t i wr => ∃ j : Nat, (j + 1 ≤ l.length ∨ j = 0) ∧ i = .int .i64 (j + 1) ∧ t = .int .i64 (firstTo l j) ∧ Ext w wr) (fun _ i _ => l.length - (intOf i).toNat)
  case atStart => exact ⟨0, by omega, rfl, rfl, Ext.rfl_ _⟩
  case round =>
    obtain ⟨j, hj, rfl, rfl, hb⟩ := hrel
    by_cases hlt : j + 1 < l.length
    · obtain ⟨g, off, rfl, hc⟩ := HA.out (by omega)
      have hc' := hc.ext hb
      have hle := firstTo_le l j
      have hc0 := (hc' (j + 1) hlt).1
      have hc1 := (hc' (j + 1) hlt).2
      have hc2 := (hc' (firstTo l j) (by omega)).1
      have hc3 := (hc' (firstTo l j) (by omega)).2
      clear hc hc'
      have HB := Lib.hid hb
      clear hb
      have b0 : (0 : Int) ≤ (j : Int) + 1 := by omega
      have b1 : (j : Int) + 1 < (l.length : Int) := by omega
      have b2 : ((j : Int) + 1).toNat = j + 1 := by omega
      have b3 : (0 : Int) ≤ (firstTo l j : Int) := by omega
      have b4 : (firstTo l j : Int) < (l.length : Int) := by omega
      have hd := Lib.hid (show firstTo l (j + 1) = if lt (nth l (j + 1)) (nth l (firstTo l j)) = true then j + 1 else firstTo l j from rfl)
      go_wp2
      go_region_held3 (fun w' => w'.cell? ⟨g, off + (j + 1) * 2, none⟩ = some (.string (nth l (j + 1)).name) ∧ w'.cell? ⟨g, off + (j + 1) * 2 + 1, none⟩ = some (.int .i64 (nth l (j + 1)).rank) ∧ w'.cell? ⟨g, off + firstTo l j * 2, none⟩ = some (.string (nth l (firstTo l j)).name) ∧ w'.cell? ⟨g, off + firstTo l j * 2 + 1, none⟩ = some (.int .i64 (nth l (firstTo l j)).rank)) (first | exact ⟨hc0, hc1, hc2, hc3⟩ | exact ⟨hb2.cellAt hc0, hb2.cellAt hc1, hb2.cellAt hc2, hb2.cellAt hc3⟩ | go_keep)
        (first | (go_at_call 27; refine (ahead_any _ _ _ _ _).mono ?_; rintro e w' ⟨rfl, hb2⟩))
      clear b2
      cases ha : lt (nth l (j + 1)) (nth l (firstTo l j))
      · have ha' := ha
        go_wp2
        go_roundw
        case rel => exact ⟨j + 1, by omega, by go_num, by rw [hd.out, ha]; simp, HB.out.tr hb2.ud⟩
        case measure => simp [intOf]; omega
      · have ha' := ha
        go_wp2
        go_roundw
        case rel => exact ⟨j + 1, by omega, by go_num, by rw [hd.out, ha]; simp, HB.out.tr hb2.ud⟩
        case measure => simp [intOf]; omega
    · have HB := Lib.hid hb
      clear hb
      go_wp2
      go_ret
      refine ⟨ret_int ?_, HB.out⟩
      have : j = l.length - 1 := by omega
      subst this; rfl

set_option maxHeartbeats 400000 in
theorem entries_any (a b : List Ent) (va vb : Value) (w : World) (ha : EntS w va a) (hb : EntS w vb b) :
    Calls Try.prog 20 #[va, vb] w fun e w' => e = .returned (.bool (decide (a = b))) ∧ Ext w w' := by
  obtain ⟨A, c, rfl, hm, hA⟩ := ha.out
  obtain ⟨B, c', rfl, hm', hB⟩ := hb.out
  have HA := Lib.hid hA
  have HB := Lib.hid hB
  clear hA hB ha hb
  by_cases hl : a.length = b.length
  · have h1 : ((a.length : Int) != (b.length : Int)) = false := by simp [hl]
    have HL := Lib.hid hl
    clear hl
    go_enter Try.func20, Try.ntmps20
    go_wp2
    go_loopw [5] (fun i wr => ∃ k : Nat, k ≤ a.length ∧ i = .int .i64 k ∧ a.take k = b.take k ∧ Ext w wr) (fun i _ => a.length - (intOf i).toNat)
    case atStart => exact ⟨0, by omega, rfl, rfl, Ext.rfl_ _⟩
    case round =>
      obtain ⟨k, hk, rfl, ht, he⟩ := hrel
      have HT := Lib.hid ht
      clear ht
      by_cases hlt : k < a.length
      · obtain ⟨g, off, rfl, hc⟩ := HA.out (by omega)
        obtain ⟨g', off', rfl, hc'⟩ := HB.out (by have := HL.out; omega)
        have hc0 := (hc.ext he k hlt).1
        have hc1 := (hc.ext he k hlt).2
        have hc2 := (hc'.ext he k (by have := HL.out; omega)).1
        have hc3 := (hc'.ext he k (by have := HL.out; omega)).2
        have b0 : (0 : Int) ≤ (k : Int) := by omega
        have b1 : (k : Int) < (a.length : Int) := by omega
        have b2 : (k : Int) < (b.length : Int) := by have := HL.out; omega
        clear hc hc'
        have HE := Lib.hid he
        clear he
        have hsn : ∀ (x y : List Ent), k < x.length → x.take (k + 1) = x.take k ++ [nth x k] := fun x y h => by
          rw [List.take_succ_eq_append_getElem h, nth_eq h]
        have HS := Lib.hid hsn
        clear hsn
        have hq := run_neqE
        by_cases hd : nth a k = nth b k
        · have hd' : eqB (nth a k) (nth b k) = true := by simpa [eqB] using hd
          have HD := Lib.hid hd
          clear hd
          go_wp2
          go_quiet (fail)
          go_wp2
          go_roundw
          case rel => exact ⟨k + 1, by omega, by go_num, by rw [HS.out a a hlt, HS.out b b (by have := HL.out; omega), HT.out, HD.out], HE.out.drewN' _⟩
          case measure => simp [intOf]; omega
        · have hd' : eqB (nth a k) (nth b k) = false := by simpa [eqB] using hd
          have HD := Lib.hid hd
          have HR := Lib.hid (show decide (a = b) = false by simp; rintro rfl; exact hd rfl)
          clear hd
          go_wp2
          go_quiet (fail)
          go_wp2
          go_ret
          exact ⟨ret_bool HR.out.symm, HE.out.drewN' _⟩
      · have HE := Lib.hid he
        clear he
        go_wp2
        go_ret
        refine ⟨?_, HE.out⟩
        have h1 := HT.out
        rw [List.take_of_length_le (by omega), List.take_of_length_le (by have := HL.out; omega)] at h1
        exact ret_bool (by simp [h1])
  · have h1 : ((a.length : Int) != (b.length : Int)) = true := by simp; omega
    have HR := Lib.hid (show decide (a = b) = false by simp; rintro rfl; exact hl rfl)
    clear hl
    go_enter Try.func20, Try.ntmps20
    go_wp2
    go_ret
    exact ⟨ret_bool HR.out.symm, Ext.rfl_ _⟩
end Go.Proofs.Ytefeiogbaiodnaa

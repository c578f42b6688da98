/- Walks of the leaves: comparisons of numbers, strings, entries; no condition. -/
import Derived.Test.YtefeiogbaiodnaaProg
import Derived.Test.YtefeiogbaiodnaaMem
import Derived.Test.YtefeiogbaiodnaaEnt
import Derived.WalkKit
import Derived.WalkSpells
import Derived.WalkLawsBesides
import Derived.Lib.Bytealg
import Derived.Deep.RegionHeld3
import Derived.Deep.QuietTactic
import Derived.BigQuiet
import Derived.Lib.Hide
import Derived.Handy
namespace Go.Proofs.Ytefeiogbaiodnaa
open Go.RowKit

set_option maxHeartbeats 400000 in
theorem in_any (a b c : Int) (w : World) :
    Calls Try.prog 25 #[.int .i64 a, .int .i64 b, .int .i64 c] w fun e w' => e = .returned (.bool (decide (b ≤ a ∧ a ≤ c))) ∧ w = w' := by
  by_cases h : b ≤ a
  · go_enter Try.func25, Try.ntmps25
    go_wp2
    go_ret
    exact ⟨by simp [h], rfl⟩
  · go_enter Try.func25, Try.ntmps25
    go_wp2
    go_ret
    exact ⟨by simp; omega, rfl⟩

set_option maxHeartbeats 400000 in
theorem isNaN_any (a : Int) (w : World) :
    Calls Try.prog 69 #[.int .i64 a] w fun e w' => e = .returned (.bool false) ∧ w = w' := by
  go_enter Try.func69, Try.ntmps69
  go_wp2
  go_ret
  exact ⟨rfl, rfl⟩

theorem ret_int {k : IntKind} {a b : Int} (h : a = b) : Ending.returned (.int k a) = .returned (.int k b) := by rw [h]

set_option maxHeartbeats 400000 in
theorem cmpCompare_any (a b : Int) (w : World) :
    Calls Try.prog 60 #[.int .i64 a, .int .i64 b] w fun e w' => e = .returned (.int .i64 (cmpInt a b)) ∧ w = w' := by
  go_enter Try.func60, Try.ntmps60
  go_wp2_with (go_at_call 69; refine (isNaN_any _ _).mono ?_; rintro e w' ⟨rfl, rfl⟩)
  all_goals go_ret
  all_goals refine ⟨ret_int ?_, rfl⟩
  · exact (cmpInt_lt (by assumption)).symm
  · exact (cmpInt_gt (by assumption)).symm
  · exact (cmpInt_eq (by assumption) (by assumption)).symm

set_option maxHeartbeats 400000 in
theorem compareString_any (a b : ByteArray) (w : World) :
    Calls Try.prog 70 #[.string a, .string b] w fun e w' => e = .returned (.int .i64 (Lib.compareBytes a.data.toList b.data.toList)) ∧ w = w' := by
  go_enter Try.func70, Try.ntmps70
  go_wp2
  rw [run_callFunc_extern Try.func73 (by kernel_rfl) (by kernel_rfl) (by kernel_rfl) (e := Extern.BytealgCompare.compare) (by kernel_rfl), Lib.run_compareString]
  simp only [Result.andThen]
  rw [Oper.upon_value]
  go_wp2
  go_ret
  exact ⟨rfl, rfl⟩

set_option maxHeartbeats 400000 in
theorem stringsCompare_any (a b : ByteArray) (w : World) :
    Calls Try.prog 61 #[.string a, .string b] w fun e w' => e = .returned (.int .i64 (Lib.compareBytes a.data.toList b.data.toList)) ∧ w = w' := by
  go_enter Try.func61, Try.ntmps61
  go_wp2_with (go_at_call 70; refine (compareString_any _ _ _).mono ?_; rintro e w' ⟨rfl, rfl⟩)
  go_ret
  exact ⟨rfl, rfl⟩

set_option maxHeartbeats 400000 in
theorem cmpOr_any (x y : Int) (g c : Nat) (w : World) (h0 : w.cell? ⟨g, 0, none⟩ = some (.int .i64 x)) (h1 : w.cell? ⟨g, 1, none⟩ = some (.int .i64 y)) :
    Calls Try.prog 59 #[.slice (some ⟨g, 0, none⟩) 2 c] w fun e w' => e = .returned (.int .i64 (orInt x y)) ∧ w = w' := by
  go_enter Try.func59, Try.ntmps59
  go_wp2
  refine wp_loop_rounds 3 ?_
  rw [rounds_succ]
  by_cases hx : x = 0
  · subst hx
    go_wp2
    rw [rounds_succ]
    by_cases hy : y = 0
    · subst hy
      go_wp2
      rw [rounds_succ]
      go_wp2
      go_ret
      exact ⟨ret_int (orInt_z rfl).symm, rfl⟩
    · have hy' : (y != 0) = true := by simpa using hy
      go_wp2
      go_ret
      exact ⟨ret_int (orInt_z rfl).symm, rfl⟩
  · have hx' : (x != 0) = true := by simpa using hx
    go_wp2
    go_ret
    exact ⟨ret_int (orInt_n hx).symm, rfl⟩

set_option maxHeartbeats 400000 in
theorem compare_any (n1 n2 : ByteArray) (r1 r2 : Int) (w : World) :
    Calls Try.prog 48 #[.agg #[.string n1, .int .i64 r1], .agg #[.string n2, .int .i64 r2]] w fun e w' => e = .returned (.int .i64 (cmpEnt ⟨n1, r1⟩ ⟨n2, r2⟩)) ∧ Ext w w' := by
  go_enter Try.func48, Try.ntmps48
  go_wp2
  go_region_held3 (fun w' => w'.cell? ⟨w.heap.size, 0, none⟩ = some (.string n1) ∧ w'.cell? ⟨w.heap.size, 1, none⟩ = some (.int .i64 r1) ∧ w'.cell? ⟨w.heap.size + 1, 0, none⟩ = some (.string n2) ∧ w'.cell? ⟨w.heap.size + 1, 1, none⟩ = some (.int .i64 r2)) (go_keep)
    (first | (go_at_call 60; refine (cmpCompare_any _ _ _).mono ?_; rintro e w' ⟨rfl, rfl⟩) | (go_at_call 61; refine (stringsCompare_any _ _ _).mono ?_; rintro e w' ⟨rfl, rfl⟩) | (go_at_call 59; refine (cmpOr_any (cmpInt r1 r2) (Lib.compareBytes n1.data.toList n2.data.toList) _ _ _ ?_ ?_).mono ?_; (go_simp); (go_simp); rintro e w' ⟨rfl, rfl⟩))
  go_wp2
  go_ret
  exact ⟨rfl, by go_grown⟩

set_option maxHeartbeats 400000 in
theorem ahead_any (n1 n2 : ByteArray) (r1 r2 : Int) (w : World) :
    Calls Try.prog 27 #[.agg #[.string n1, .int .i64 r1], .agg #[.string n2, .int .i64 r2]] w fun e w' => e = .returned (.bool (lt ⟨n1, r1⟩ ⟨n2, r2⟩)) ∧ Ext w w' := by
  by_cases h : r1 < r2
  · go_enter Try.func27, Try.ntmps27
    go_wp2
    go_ret
    exact ⟨by simp [lt, h], by go_grown⟩
  · by_cases h' : r1 = r2
    · subst h'
      go_enter Try.func27, Try.ntmps27
      go_wp2
      go_ret
      exact ⟨by simp [lt], by go_grown⟩
    · have h2 : (r1 == r2) = false := by simpa using h'
      go_enter Try.func27, Try.ntmps27
      go_wp2
      go_ret
      exact ⟨by simp [lt, h, h'], by go_grown⟩

theorem efault_name {n : ByteArray} {r : Int} (h : n.size = 0 ∨ 24 < n.size) : efault ⟨n, r⟩ = 7 := by unfold efault; rw [if_pos h]
theorem efault_rank {n : ByteArray} {r : Int} (h : ¬ (n.size = 0 ∨ 24 < n.size)) (h' : r < -1000000 ∨ 1000000 < r) : efault ⟨n, r⟩ = 4 := by unfold efault; rw [if_neg h, if_pos h']
theorem efault_ok {n : ByteArray} {r : Int} (h : ¬ (n.size = 0 ∨ 24 < n.size)) (h' : ¬ (r < -1000000 ∨ 1000000 < r)) : efault ⟨n, r⟩ = 0 := by unfold efault; rw [if_neg h, if_neg h']

theorem size_list (n : ByteArray) : n.toList.length = n.size := by rw [Lib.toList_data, Array.length_toList]; rfl
theorem empty_iff (n : ByteArray) : n.toList = [] ↔ n.size = 0 := by rw [← size_list]; exact List.length_eq_zero_iff.symm

set_option maxHeartbeats 400000 in
theorem entry44_any (n : ByteArray) (r : Int) (w : World) :
    Calls Try.prog 44 #[.agg #[.string n, .int .i64 r]] w fun e w' => e = .returned (.int .i64 (efault ⟨n, r⟩)) ∧ Ext w w' := by
  by_cases h0 : n.size = 0
  · have e0 : n.toList = [] := (empty_iff n).2 h0
    have he := efault_name (r := r) (.inl h0)
    have H := Lib.hid he
    clear he
    go_enter Try.func44, Try.ntmps44
    go_wp2
    go_ret
    exact ⟨ret_int H.out.symm, by go_grown⟩
  · have e0 : n.toList ≠ [] := fun e => h0 ((empty_iff n).1 e)
    have e1 : n.toList.isEmpty = false := by simpa using e0
    by_cases h1 : 24 < n.size
    · have he := efault_name (r := r) (.inr h1)
      have H := Lib.hid he
      clear he
      go_enter Try.func44, Try.ntmps44
      go_wp2
      go_ret
      exact ⟨ret_int H.out.symm, by go_grown⟩
    · by_cases h2 : r < -1000000
      · have he := efault_rank (n := n) (r := r) (by omega) (.inl h2)
        have H := Lib.hid he
        clear he
        go_enter Try.func44, Try.ntmps44
        go_wp2
        go_ret
        exact ⟨ret_int H.out.symm, by go_grown⟩
      · by_cases h3 : 1000000 < r
        · have he := efault_rank (n := n) (r := r) (by omega) (.inr h3)
          have H := Lib.hid he
          clear he
          go_enter Try.func44, Try.ntmps44
          go_wp2
          go_ret
          exact ⟨ret_int H.out.symm, by go_grown⟩
        · have he := efault_ok (n := n) (r := r) (by omega) (by omega)
          have H := Lib.hid he
          clear he
          go_enter Try.func44, Try.ntmps44
          go_wp2
          go_ret
          exact ⟨ret_int H.out.symm, by go_grown⟩
end Go.Proofs.Ytefeiogbaiodnaa

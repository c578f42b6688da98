/- Putting two quotes in the place of one, as the library does, brought to plain data; the text is no longer than 2^45. -/
import Derived.Test.YtjkkpnkohaeoeaaDoorCvJ
import Derived.Shelf.Strings.Replace
set_option linter.all false
set_option linter.unusedSimpArgs false
set_option linter.unusedVariables false
namespace Go.Proofs.YtjkkpnkohaeoeaaDoor
open Go.Shelf Go.RowKit Go.Lib

theorem dbl_app (q : UInt8) : ∀ (a b : List UInt8), dbl q (a ++ b) = dbl q a ++ dbl q b
  | [], b => rfl
  | c :: cs, b => by simp only [List.cons_append, dbl, dbl_app q cs b, List.append_assoc]
/-- the first quote of a text -/
theorem first_at (q : UInt8) : ∀ (l : List UInt8), q ∈ l → ∃ j : Nat, Lib.index l [q] = j ∧ j < l.length ∧ q ∉ l.take j ∧ l.drop j = q :: l.drop (j + 1)
  | [], h => by cases h
  | c :: cs, h => by
    by_cases hc : c = q
    · subst hc
      exact ⟨0, by rw [Lib.index_one]; simp [Lib.indexByte], by simp, by simp, by simp⟩
    · have hm : q ∈ cs := by
        rcases List.mem_cons.1 h with rfl | h
        · exact absurd rfl hc
        · exact h
      obtain ⟨j, h1, h2, h3, h4⟩ := first_at q cs hm
      refine ⟨j + 1, ?_, by simp; omega, ?_, by simpa using h4⟩
      · rw [Lib.index_one] at h1 ⊢
        unfold Lib.indexByte
        rw [if_neg (by simpa using hc), if_neg (by rw [h1]; simp), h1]; simp
      · simp only [List.take_succ_cons, List.mem_cons, not_or]
        exact ⟨fun e => hc e.symm, h3⟩
theorem dbl_first (q : UInt8) (l : List UInt8) (j : Nat) (h3 : q ∉ l.take j) (h4 : l.drop j = q :: l.drop (j + 1)) : dbl q l = l.take j ++ [q, q] ++ dbl q (l.drop (j + 1)) := by
  conv => lhs; rw [← List.take_append_drop j l, dbl_app, dbl_none q _ h3, h4]
  simp [dbl]
theorem count_first (q : UInt8) (l : List UInt8) (j : Nat) (h3 : q ∉ l.take j) (h4 : l.drop j = q :: l.drop (j + 1)) : l.count q = (l.drop (j + 1)).count q + 1 := by
  conv => lhs; rw [← List.take_append_drop j l, List.count_append, List.count_eq_zero.2 h3, h4]
  simp
theorem hidS {p : Prop} (h : p) : Hid p := h

set_option maxHeartbeats 16000000 in
set_option maxRecDepth 1000000 in
theorem replaceOne_c {P : Program} {ρ : Ren} (L : Lays.n154 P ρ) (X : Builder.Extra P ρ) (s : ByteArray) (q : UInt8) (w : World) (hqm : q ∈ s.data.toList) (hlen : 3 * s.size ≤ 140737488355328) :
    Calls P (ρ.f 154) #[.string s, .string ⟨#[q]⟩, .string ⟨#[q, q]⟩, .int .i64 (-1)] w fun e w' => e = .returned (.string ⟨(dbl q s.data.toList).toArray⟩) ∧ Below w.heap.size w w' := by
  obtain ⟨old, hold⟩ : ∃ x : ByteArray, x = ⟨#[q]⟩ := ⟨_, rfl⟩
  obtain ⟨new, hnew⟩ : ∃ x : ByteArray, x = ⟨#[q, q]⟩ := ⟨_, rfl⟩
  have ho1 : old.size = 1 := by rw [hold]; rfl
  have hn2 : new.size = 2 := by rw [hnew]; rfl
  have hnl : new.data.toList = [q, q] := by rw [hnew]
  have hcnt := Any.strings_Count_one { L with } s q w
  have hidx : ∀ (s' : ByteArray) (w' : World), Calls P (ρ.f 143) #[.string s', .string old] w' fun e w2 => e = .returned (.int .i64 (Lib.index s'.data.toList [q])) ∧ w2 = w' := by
    intro s' w'
    rw [hold, Lib.index_one]
    exact Any.strings_Index_one { L with } s' q w'
  obtain ⟨K, hK⟩ : ∃ K : Nat, s.data.toList.count q = K := ⟨_, rfl⟩
  rw [show Lib.countByte s.data.toList q = K from hK, ← hold] at hcnt
  rw [← hold, ← hnew]
  have hlenL : s.data.toList.length = s.size := (Lib.size_eq s).symm
  have hK0 : 1 ≤ K := by rw [← hK]; exact List.count_pos_iff.2 hqm
  have hKs : K ≤ s.size := by rw [← hK, ← hlenL]; exact List.count_le_length
  have hbeq : (old.toList == new.toList) = false := (Lib.bytes_beq_false_iff old new).2 (by rw [hold, hnew]; intro h; injection h with h; simp at h)
  have hcz : ((K : Int) == 0) = false := beq_eq_false_iff_ne.2 (by omega)
  have hm1 : K * old.size = K := by rw [ho1, Nat.mul_one]
  have hm2 : K * new.size = 2 * K := by rw [hn2, Nat.mul_comm]
  have hga := Lib.grow_arg s.size K new.size old.size hK0 (by omega) (by omega)
  have hod : decide (0 < old.size) = true := decide_eq_true (by omega)
  clear hold hnew
  have mixed := L.mixed
  have t72 := L.t72; have a72 := L.a72; have z72 := L.z72; have v72 := L.v72; have u72 := run_underlying L.t72
  have t70 := L.t70; have a70 := L.a70; have z70 := L.z70; have v70 := L.v70; have u70 := run_underlying L.t70
  have t37 := L.t37; have a37 := L.a37; have z37 := L.z37; have v37 := L.v37; have u37 := run_underlying L.t37
  have t3 := L.t3; have a3 := L.a3; have z3 := L.z3; have v3 := L.v3; have u3 := run_underlying L.t3
  have t9 := L.t9; have a9 := L.a9; have z9 := L.z9; have v9 := L.v9; have u9 := run_underlying L.t9
  have t4 := L.t4; have a4 := L.a4; have z4 := L.z4; have v4 := L.v4; have u4 := run_underlying L.t4
  have e138 : ∀ args w, (callFunc (ρ.f 138) args).run P w = .ok (.enter (ρ.f 138) args) w := enters_of L.f138 (by kernel_rfl) rfl
  have e143 : ∀ args w, (callFunc (ρ.f 143) args).run P w = .ok (.enter (ρ.f 143) args) w := enters_of L.f143 (by kernel_rfl) rfl
  have e165 : ∀ args w, (callFunc (ρ.f 165) args).run P w = .ok (.enter (ρ.f 165) args) w := enters_of L.f165 (by kernel_rfl) rfl
  have e166 : ∀ args w, (callFunc (ρ.f 166) args).run P w = .ok (.enter (ρ.f 166) args) w := enters_of L.f166 (by kernel_rfl) rfl
  have e169 : ∀ args w, (callFunc (ρ.f 169) args).run P w = .ok (.enter (ρ.f 169) args) w := enters_of L.f169 (by kernel_rfl) rfl
  go_enter L.f154, Body.n154_ntmps ρ
  go_wp2_with (first | (go_at_fn (ρ.f 138); refine hcnt.mono ?_; rintro e w' ⟨rfl, hw⟩; rw [hw]))
  all_goals (
  clear hcnt
  try rw [hga]
  refine (Any.Builder_Grow_fresh { L with } X w.heap.size w.heap.size _ _ (Nat.le_refl _) (heap_alloc_new w _) (by simp) (by omega)).mono ?_
  rintro e w1 ⟨rfl, hb0, hb1⟩
  have H1 := hidS (Or.inr hb0 : Lib.IsBuilder (ρ.t 72) (ρ.t 5) w.heap.size w.heap.size (Lib.byteCells []) w1)
  have Hb1 := hidS (((Below.refl w.heap.size w).alloc (Nat.le_refl _) _).trans hb1)
  clear hb0 hb1 hga
  go_wp2_with fail
  go_loopg [11, 53] K (fun g s11 s53 wx => ∃ (i start : Nat) (acc : List UInt8), s53 = .int .i64 i ∧ s11 = .int .i64 start ∧ i + g = K ∧ start ≤ s.size ∧
    Hid (Lib.IsBuilder (ρ.t 72) (ρ.t 5) w.heap.size w.heap.size (Lib.byteCells acc) wx) ∧ Hid (Below w.heap.size w wx) ∧ Hid (acc ++ dbl q (s.data.toList.drop start) = dbl q s.data.toList) ∧
    (s.data.toList.drop start).count q = g ∧ acc.length ≤ start + 2 * i ∧ start + g ≤ s.size)
  case atStart => exact ⟨0, 0, [], rfl, rfl, by omega, Nat.zero_le _, H1, Hb1, hidS (by simp), by simpa using hK, by simp, by omega⟩
  case round =>
    obtain ⟨i, start, acc, rfl, rfl, hig, hst, HB, HW, HR, hgc, hbd, hsg⟩ := hrel
    have hBw : w.heap.size ≤ wr.heap.size := HW.out.size
    have c1 : (0 : Int) ≤ (start : Int) := by omega
    have c2 : (start : Int) ≤ (s.size : Int) := by omega
    cases gk with
    | zero =>
      have hiK : ¬ ((i : Int) < (K : Int)) := by omega
      go_wp2_with fail
      refine (Any.Builder_WriteString { L with } X w.heap.size w.heap.size _ _ wr HB.out (by rw [Lib.byteCells_length, ByteArray.size_extract]; omega) hBw).mono ?_
      rintro e w3 ⟨rfl, h3, hb3⟩
      rw [Lib.strCells_eq, Lib.extract_to_end, ← Lib.byteCells_append] at h3
      have hfin : acc ++ s.data.toList.drop start = dbl q s.data.toList := by
        rw [← HR.out, dbl_none q _ (List.count_eq_zero.1 hgc)]
      rw [hfin] at h3
      have H3 := hidS (Or.inr h3 : Lib.IsBuilder (ρ.t 72) (ρ.t 5) w.heap.size w.heap.size _ w3)
      have Hb3 := hidS (HW.out.trans hb3)
      have hBw3 : w.heap.size ≤ w3.heap.size := Hb3.out.size
      clear h3 hb3 hfin
      go_wp2_with fail
      refine (Any.Builder_String_any { L with } X w.heap.size w.heap.size _ w3 H3.out hBw3).mono ?_
      rintro e w5 ⟨rfl, hb5⟩
      have Hb5 := hidS (Hb3.out.trans hb5)
      clear hb5
      go_wp2
      go_ret
      exact ⟨rfl, Hb5.out⟩
    | succ g =>
      have hiK : (i : Int) < (K : Int) := by omega
      obtain ⟨j, hj, hjl, hjq, hjd⟩ := first_at q (s.data.toList.drop start) (List.count_pos_iff.1 (by omega))
      rw [List.length_drop, hlenL] at hjl
      have hj1 := dbl_first q _ j hjq hjd
      have hj2 := count_first q _ j hjq hjd
      rw [List.drop_drop] at hj1 hj2
      have c3 : (start : Int) ≤ (start : Int) + (j : Int) := by omega
      have c4 : (start : Int) + (j : Int) ≤ (s.size : Int) := by omega
      have hnext : Lib.byteCells acc ++ Lib.strCells (s.extract start (start + j)) ++ Lib.strCells new = Lib.byteCells (acc ++ (s.data.toList.drop start).take j ++ [q, q]) := by
        rw [Lib.strCells_eq, Lib.strCells_eq, Lib.extract_data, Nat.add_sub_cancel_left, hnl, ← Lib.byteCells_append, ← Lib.byteCells_append]
      have hrep : (acc ++ (s.data.toList.drop start).take j ++ [q, q]) ++ dbl q (s.data.toList.drop (start + j + 1)) = dbl q s.data.toList := by
        rw [← HR.out, hj1, Nat.add_assoc]
        simp only [List.append_assoc]
      have hcn : (s.data.toList.drop (start + j + 1)).count q = g := by rw [Nat.add_assoc]; omega
      have hroom : g ≤ s.size - (start + j + 1) := by
        have h5 : (s.data.toList.drop (start + j + 1)).count q ≤ (s.data.toList.drop (start + j + 1)).length := List.count_le_length
        rw [List.length_drop, hlenL] at h5
        omega
      have htl : ((s.data.toList.drop start).take j).length = j := by rw [List.length_take, List.length_drop, hlenL]; omega
      have Hn := hidS hnext
      have Hrep := hidS hrep
      have Hcn := hidS hcn
      clear hnext hrep HR hcn hj1 hj2 hjd hjq
      go_wp2_with (first | (go_at_fn (ρ.f 143); refine (hidx _ _).mono ?_; rintro e w' ⟨rfl, hw⟩; rw [hw, Lib.extract_to_end, hj]))
      refine (Any.Builder_WriteString { L with } X w.heap.size w.heap.size _ (s.extract start (start + j)) wr HB.out (by rw [Lib.byteCells_length, ByteArray.size_extract]; omega) hBw).mono ?_
      rintro e w3 ⟨rfl, h3, hb3⟩
      have hBw3 : w.heap.size ≤ w3.heap.size := Nat.le_trans hBw hb3.size
      have H3 := hidS h3
      have Hb3 := hidS hb3
      clear h3 hb3
      go_wp2_with fail
      refine (Any.Builder_WriteString { L with } X w.heap.size w.heap.size _ new w3 (Or.inr H3.out) (by rw [List.length_append, Lib.byteCells_length, Lib.strCells_length, ByteArray.size_extract]; omega) hBw3).mono ?_
      rintro e w4 ⟨rfl, h4, hb4⟩
      rw [Hn.out] at h4
      have H4 := hidS (Or.inr h4 : Lib.IsBuilder (ρ.t 72) (ρ.t 5) w.heap.size w.heap.size _ w4)
      have Hb4 := hidS ((HW.out.trans Hb3.out).trans hb4)
      clear h4 hb4
      go_wp2
      go_roundg g
      case measure => omega
      case rel => exact ⟨i + 1, start + j + 1, _, by first | rfl | (simp; unfold wrap64; omega), by first | rfl | simp | (simp; unfold wrap64; omega), by omega, by omega, H4, Hb4, Hrep, Hcn.out, by simp only [List.length_append, htl, List.length_cons, List.length_nil]; omega, by omega⟩)
end Go.Proofs.YtjkkpnkohaeoeaaDoor

/- Searching bytes in strings, as the library does, brought to plain data; no condition. -/
import Derived.Test.YtjkkpnkohaeoeaaDoorAmFnc
import Derived.Test.YtjkkpnkohaeoeaaDoorCvC
import Derived.Lib.Strings
import Derived.Lib.Slices
import Derived.Lib.Walk
import Derived.Lib.Bytealg
set_option linter.all false
set_option linter.unusedSimpArgs false
set_option linter.unusedVariables false
namespace Go.Proofs.YtjkkpnkohaeoeaaDoor
open Go.RowKit

set_option maxHeartbeats 1000000 in
set_option maxRecDepth 100000 in
theorem lIndexByte_c (s : ByteArray) (c : Int) (w : World) :
    Calls Tryd.prog 52 #[.string s, .int .u8 c] w fun e w' => e = .returned (.int .i64 (Lib.indexByte s.data.toList c.toNat.toUInt8)) ∧ w' = w := by
  go_enter Tryd.func52, Tryd.ntmps52
  go_wp2
  rw [run_callFunc_extern Tryd.func56 (by kernel_rfl) (by kernel_rfl) (by kernel_rfl) (e := Extern.BytealgIndexByte.indexByte) (by kernel_rfl), Lib.run_indexByteString]
  simp only [Result.andThen]
  rw [Oper.upon_value]
  go_wp2
  go_ret
  exact ⟨rfl, rfl⟩
set_option maxHeartbeats 1000000 in
theorem indexByte_c (s : ByteArray) (c : Int) (w : World) :
    Calls Tryd.prog 45 #[.string s, .int .u8 c] w fun e w' => e = .returned (.int .i64 (Lib.indexByte s.data.toList c.toNat.toUInt8)) ∧ w' = w := by
  go_enter Tryd.func45, Tryd.ntmps45
  go_wp2_with (go_at_call 52; refine (lIndexByte_c _ _ _).mono ?_; rintro e w' ⟨rfl, rfl⟩)
  go_ret
  exact ⟨rfl, rfl⟩
set_option maxHeartbeats 1000000 in
set_option maxRecDepth 100000 in
theorem count_c (s : ByteArray) (c : UInt8) (w : World) :
    Calls Tryd.prog 57 #[.string s, .string ⟨#[c]⟩] w fun e w' => e = .returned (.int .i64 (Lib.countByte s.data.toList c)) ∧ w' = w := by
  go_enter Tryd.func57, Tryd.ntmps57
  go_wp2
  rw [run_callFunc_extern Tryd.func62 (by kernel_rfl) (by kernel_rfl) (by kernel_rfl) (e := Extern.BytealgCount.count) (by kernel_rfl), Lib.run_countString]
  simp only [Result.andThen]
  rw [Oper.upon_value]
  go_wp2
  go_ret
  exact ⟨rfl, rfl⟩

/-- what a call of the machine does, brought to plain data -/
theorem apure_of {P : Program} {f : Nat} {args : List AV} {v : AV} (h : ∀ (G : Gh) (vs : List Value), RepL G vs args → ∃ u : Value, (∀ G', Rep G' u v) ∧ ∀ w : World, Calls P f vs.toArray w fun e w' => e = .returned u ∧ Below w.heap.size w w') : APure P f args v := by
  intro n H hs w0 G w vs h0 hrep
  obtain ⟨u, hu, hc⟩ := h G vs hrep
  refine (hc w).mono ?_
  rintro e w' ⟨rfl, hb⟩
  refine ⟨u, v, G, n, H, rfl, ⟨rfl, rfl, rfl⟩, hu G, Gh.Le.rfl_ _, Nat.le_refl _, ?_⟩
  have hbl : ∀ g, g < w.heap.size → w'.heap[g]? = w.heap[g]? := fun g hg => hb.block g hg
  refine ⟨h0.ext.tr hb, h0.lo, Nat.le_trans h0.hi hb.size, fun b o v hv => ?_, fun g e c hg => ?_, h0.capLo, fun g ob hob => ?_⟩
  · have hc := h0.seal_ b o v hv
    have hlt : b < w.heap.size := World.block_lt_of_cell? _ _ hc
    rw [hb.cell (p := ⟨b, o, none⟩) hlt]; exact hc
  · obtain ⟨cur, fz, h1, h2⟩ := h0.caps g e c hg
    refine ⟨cur, fz, ?_, h2⟩
    rw [hbl g (Array.getElem?_eq_some_iff.1 h1).1]; exact h1
  · obtain ⟨h1, h2, h3⟩ := h0.objs g ob hob
    refine ⟨h1, h2, ?_⟩
    have hlt : g < w.heap.size := Nat.lt_of_lt_of_le h2 h0.hi
    cases ob with
    | cells e cs => obtain ⟨k1, vs, k2, k3⟩ := h3; exact ⟨k1, vs, by rw [hbl g hlt]; exact k2, k3⟩
    | row e m => obtain ⟨cur, c, fz, k1, k2, k3⟩ := h3; exact ⟨cur, c, fz, k1, by rw [hbl g hlt]; exact k2, k3⟩
    | map m => exact h3

theorem str_data (s : ByteArray) (l : List UInt8) (h : s.data.toList = l) : s = ⟨l.toArray⟩ := by cases s; subst h; simp
theorem u8_back (c : UInt8) : (Int.toNat (c.toNat : Int)).toUInt8 = c := by simp
theorem indexByte_a (s : Str) (c : UInt8) : APure Tryd.prog 45 [.str s, .int .u8 c.toNat] (.int .i64 (Lib.indexByte s c)) := by
  refine apure_of fun G vs hr => ⟨.int .i64 (Lib.indexByte s c), fun _ => .int, fun w => ?_⟩
  cases hr with
  | cons h1 h2 => cases h2 with
    | cons h3 h4 =>
      cases h4; cases h1; cases h3
      rename_i h
      refine (indexByte_c _ _ w).mono ?_
      rintro e w' ⟨rfl, rfl⟩
      rw [h, u8_back]
      exact ⟨rfl, Below.refl _ _⟩
theorem count_a (s : Str) (c : UInt8) : APure Tryd.prog 57 [.str s, .str [c]] (.int .i64 (s.count c : Nat)) := by
  refine apure_of fun G vs hr => ⟨.int .i64 (s.count c : Nat), fun _ => .int, fun w => ?_⟩
  cases hr with
  | cons h1 h2 => cases h2 with
    | cons h3 h4 =>
      cases h4; cases h1; cases h3
      rename_i h _ h'
      rw [str_data _ _ h']
      refine (count_c _ c w).mono ?_
      rintro e w' ⟨rfl, rfl⟩
      rw [h]
      exact ⟨rfl, Below.refl _ _⟩
end Go.Proofs.YtjkkpnkohaeoeaaDoor

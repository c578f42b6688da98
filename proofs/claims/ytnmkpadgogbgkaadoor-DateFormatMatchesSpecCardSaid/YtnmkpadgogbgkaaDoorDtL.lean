/- What the library does with numbers and words, brought to plain data; no condition. -/
import Derived.Test.YtnmkpadgogbgkaaDoorAmFnc
import Derived.Test.YtnmkpadgogbgkaaDoorAcA
import Derived.Test.YtnmkpadgogbgkaaDoorDtY
import Derived.Test.YtnmkpadgogbgkaaDoorDtF
import Derived.Shelf.Strings.Fields
import Derived.Shelf.Strconv.Itoa3
import Derived.Shelf.Strings.Repeat
import Derived.Shelf.Strings.Search3
import Derived.Lib.AppendIntMem
set_option linter.all false
set_option linter.unusedSimpArgs false
set_option linter.unusedVariables false
namespace Go.Proofs.YtnmkpadgogbgkaaDoor
open Go.RowKit

/-- what a call of the machine does, brought to plain data -/
theorem rel_below {P : Program} {w0 w w' : World} {G : Gh} {n : Nat} {H : AHeap} (h0 : Rel0 P w0 G n H w) (hb : Below w.heap.size w w') : Rel0 P w0 G n H w' := by
  have hbl : ∀ g, g < w.heap.size → w'.heap[g]? = w.heap[g]? := fun g hg => hb.block g hg
  refine ⟨h0.ext.tr hb, h0.lo, Nat.le_trans h0.hi hb.size, fun b o v hv => ?_, fun g e c hg => ?_, h0.capLo, fun g ob hob => ?_⟩
  · have hc := h0.seal_ b o v hv
    have hlt : b < w.heap.size := World.block_lt_of_cell? _ _ hc
    rw [hb.cell (p := ⟨b, o, none⟩) hlt]; exact hc
  · obtain ⟨cur, fz, h1, h2⟩ := h0.caps g e c hg
    refine ⟨cur, fz, ?_, h2⟩
    rw [hbl g (Array.getElem?_eq_some_iff.1 h1).1]; exact h1
  · obtain ⟨h1, h2, h3⟩ := h0.objs g ob hob
    refine ⟨h1, h2, ?_⟩
    have hlt : g < w.heap.size := Nat.lt_of_lt_of_le h2 h0.hi
    cases ob with
    | cells e cs => obtain ⟨k1, vs, k2, k3⟩ := h3; exact ⟨k1, vs, by rw [hbl g hlt]; exact k2, k3⟩
    | row e m => obtain ⟨cur, c, fz, k1, k2, k3⟩ := h3; exact ⟨cur, c, fz, k1, by rw [hbl g hlt]; exact k2, k3⟩
    | map kk es => obtain ⟨es', c, k1, k2⟩ := h3; exact ⟨es', c, by rw [hbl g hlt]; exact k1, k2⟩
theorem apure_ofL {P : Program} {f : Nat} {args : List AV} {v : AV} (h : ∀ (G : Gh) (vs : List Value), RepL G vs args → ∃ u : Value, (∀ G', Rep G' u v) ∧ ∀ w : World, Laid w → Calls P f vs.toArray w fun e w' => e = .returned u ∧ Below w.heap.size w w') : APure P f args v := by
  intro n H hs w0 G w vs hl h0 hrep
  obtain ⟨u, hu, hc⟩ := h G vs hrep
  refine (hc w (hl.ext h0.ext)).mono ?_
  rintro e w' ⟨rfl, hb⟩
  exact ⟨u, v, G, n, H, rfl, ⟨rfl, rfl, rfl⟩, hu G, Gh.Le.rfl_ _, Nat.le_refl _, rel_below h0 hb⟩
theorem str_data (s : ByteArray) (l : List UInt8) (h : s.data.toList = l) : s = ⟨l.toArray⟩ := by cases s; subst h; simp

theorem itoa_a (n : Int) (h : -9223372036854775808 ≤ n ∧ n ≤ 9223372036854775807) : APure Tryd.prog 46 [.int .i64 n] (.str (Lib.itoa n)) := by
  refine apure_ofL fun G vs hr => ⟨.string ⟨(Lib.itoa n).toArray⟩, fun _ => .str (by simp), fun w hl => ?_⟩
  cases hr with | cons h1 h2 =>
  cases h2; cases h1
  refine (Any.strconv_Itoa laysM171 n h.1 h.2 w (tab_of (by kernel_rfl) hl.2)).mono ?_
  rintro e w' ⟨rfl, k, os, rfl⟩
  exact ⟨rfl, Lib.below_grow _ _ (Nat.le_refl _) _ _⟩
theorem repeatL_one (c : UInt8) (k : Nat) : Lib.repeatL [c] k = List.replicate k c := by
  induction k with
  | zero => rfl
  | succ k ih => rw [List.replicate_succ, ← ih]; rfl
theorem repeat_a (c : UInt8) (k : Nat) (hk : k ≤ 1000) : APure Tryd.prog 47 [.str [c], .int .i64 k] (.str (List.replicate k c)) := by
  refine apure_ofL fun G vs hr => ⟨.string ⟨(Lib.repeatL [c] k).toArray⟩, fun _ => .str (by simp [repeatL_one]), fun w hl => ?_⟩
  cases hr with | cons h1 h2 =>
  cases h2 with | cons h3 h4 =>
  cases h4; cases h1; cases h3
  rename_i s hs
  rw [str_data _ _ hs]
  refine (Any.strings_Repeat lays105 Builder_Extra_105 ⟨#[c]⟩ k w (by omega) (by show 1 * k ≤ _; omega)).mono ?_
  rintro e w' ⟨rfl, hb⟩
  exact ⟨rfl, hb⟩
theorem contains_a (s : Str) (c : UInt8) : APure Tryd.prog 68 [.str s, .str [c]] (.bool (decide (0 ≤ Lib.indexByte s c))) := by
  refine apure_ofL fun G vs hr => ⟨.bool (decide (0 ≤ Lib.indexByte s c)), fun _ => .bool, fun w hl => ?_⟩
  cases hr with | cons h1 h2 =>
  cases h2 with | cons h3 h4 =>
  cases h4; cases h1; cases h3
  rename_i s1 hs1 s2 hs2
  rw [str_data _ _ hs2, str_data _ _ hs1]
  refine (Any.strings_Contains_one lays144 _ _ w).mono ?_
  rintro e w' ⟨rfl, rfl⟩
  exact ⟨by simp, Below.refl _ _⟩
theorem flat_strs (l : List Str) : flatA (l.map AV.str) = l.map AV.str := by
  induction l with
  | nil => rfl
  | cons x l ih => simp only [List.map_cons, flatA, List.flatMap_cons, AV.cells, List.singleton_append] at ih ⊢; rw [ih]
theorem repL_strs {G : Gh} (l : List Str) : RepL G (l.map fun x => Value.string ⟨x.toArray⟩) (l.map AV.str) := by
  induction l with
  | nil => exact .nil
  | cons x l ih => exact .cons (.str (by simp)) ih
theorem fields_a (s : Str) (hs : s.length < 4294967281) (ha : ∀ b ∈ s, b.toNat < 128) (hk : (Lib.fields s).length ≤ 1000000) : APure Tryd.prog 69 [.str s] (.sl 1 ((Lib.fields s).map AV.str) .ro) := by
  intro n H hH w0 G w vs hl h0 hrep
  cases hrep with | cons h1 h2 =>
  cases h2; cases h1
  rename_i sb hsb
  subst hsb
  refine (Any.strings_Fields lays157 (by kernel_rfl) (by kernel_rfl) sb w (by rw [Lib.size_eq]; exact hs) (fun j b hj => ha b (List.mem_of_getElem? hj)) (tab_of (by kernel_rfl) (hl.ext h0.ext).1)).mono ?_
  rintro e w' ⟨rfl, rfl⟩
  have hrel := h0.newRow (w' := w.alloc (.cells ((Lib.fields sb.data.toList).map fun l => Value.string ⟨l.toArray⟩).toArray 9)) (cur := ((Lib.fields sb.data.toList).map fun l => Value.string ⟨l.toArray⟩).toArray) (e := 9) (fz := (0, 0)) (vs := (Lib.fields sb.data.toList).map fun l => Value.string ⟨l.toArray⟩) (c := none) (ob := none) rfl rfl rfl rfl
    (fun j u hu => by simpa using hu) (fun e' c' hc => by cases hc) (.inl rfl)
  have hle := h0.addLe ((Lib.fields sb.data.toList).map fun l => Value.string ⟨l.toArray⟩) none
  have hhi := h0.hi
  refine ⟨_, _, _, n, H, rfl, ⟨rfl, rfl, rfl⟩, .slro (vs := (Lib.fields sb.data.toList).map fun l => Value.string ⟨l.toArray⟩) ?_ (Gh.add_sealed _ _ _) ?_ (by simp), hle, Nat.le_refl _, hrel.less h0.lo (by omega) hH ?_⟩
  · rw [flat_strs]; exact repL_strs _
  · refine ⟨by simp, by simp only [maxLen]; omega, by decide, fun x hx => ?_, fun x hx => ?_⟩
    · obtain ⟨y, _, rfl⟩ := List.mem_map.1 hx; rfl
    · rw [flat_strs] at hx; obtain ⟨y, _, rfl⟩ := List.mem_map.1 hx; rfl
  · intro k hk'
    rw [upd_ne (by omega)]
end Go.Proofs.YtnmkpadgogbgkaaDoor

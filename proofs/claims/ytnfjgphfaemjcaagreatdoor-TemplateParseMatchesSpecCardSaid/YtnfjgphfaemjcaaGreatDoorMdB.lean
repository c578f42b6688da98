/- Words for memory that the walks of this claim use: nothing old has turned (Ext); a slice that reads as cells (Rd); no condition. -/
import Derived.Below
import Derived.Laws.OwnMore
import Derived.Deep.AppendLies
import Derived.Deep.Draws
import Derived.OwnWalk
import Derived.Maps.AppendAt
import Derived.WalkSmall
import Derived.Lib.Hide
set_option linter.all false
namespace Go.Proofs.YtnfjgphfaemjcaaGreatDoor
open Go.RowKit
variable {a b c W w1 : World} {row : Option Nat} {p : Addr} {g size n : Nat} {v : Value} {xs : List Value}
abbrev Ext (w w' : World) : Prop := Below w.heap.size w w'
theorem Ext.tr (h : Ext a b) (k : Ext b c) : Ext a c := Below.trans h (Below.mono k h.size)
theorem Ext.rfl_ (a : World) : Ext a a := Below.refl _ _
theorem Ext.re {a a' b : World} (h : Ext a b) (h1 : a'.heap = a.heap := by rfl) (h2 : a'.os = a.os := by rfl) (h3 : a'.tape = a.tape := by rfl) (h4 : a'.output = a.output := by rfl) : Ext a' b :=
 ⟨h.os.trans h2.symm, h.tape.trans h3.symm, h.output.trans h4.symm, by rw [h1]; exact h.size, fun k hk => by rw [h1] at hk ⊢; exact h.block k hk⟩
theorem Ext.alloc' (h : Ext a b) (o : Obj) : Ext a (b.alloc o) := Below.alloc h h.size o
theorem Ext.new (a : World) (o : Obj) : Ext a (a.alloc o) := (Ext.rfl_ a).alloc' o
theorem Ext.toG (h : Ext a b) (row : Option Nat) : a.grownBy b row := ⟨h.os, h.tape, h.output, h.size, fun k hk _ => h.block k hk⟩
theorem Ext.grow (h : Ext a b) (hg : b.grownBy c row) (hr : ∀ k, row = some k → a.heap.size ≤ k) : Ext a c := Below.grown h hg h.size hr
theorem Ext.set (h : Ext a b) (hp : a.heap.size ≤ p.block) (u : Value) : Ext a (b.setCell p u) := Below.setCell h hp u
theorem G.tr (h : a.grownBy b row) (k : b.grownBy c row) : a.grownBy c row :=
 ⟨k.os.trans h.os, k.tape.trans h.tape, k.output.trans h.output, Nat.le_trans h.size k.size, fun i hi hn => (k.block i (Nat.lt_of_lt_of_le hi h.size) hn).trans (h.block i hi hn)⟩
theorem G.ext (h : a.grownBy b row) (k : Ext b c) : a.grownBy c row := G.tr h (k.toG row)
theorem G.set (h : a.grownBy b (some g)) (hp : p.block = g ∨ a.heap.size ≤ p.block) (u : Value) : a.grownBy (b.setCell p u) (some g) :=
 ⟨h.os, h.tape, h.output, by simpa [World.setCell] using h.size, fun i hi hne => (Below.heap_setCell b p u i (by
  rintro rfl
  rcases hp with hp | hp
  ·exact hne (by rw [hp])
  ·omega)).trans (h.block i hi hne)⟩
theorem Ext.cellAt (hb : Ext W w1) {b o : Nat} (h : W.cell? ⟨b, o, none⟩ = some v) : w1.cell? ⟨b, o, none⟩ = some v :=
 (Below.cell hb (p := ⟨b, o, none⟩) (World.block_lt_of_cell? W _ h)).trans h
theorem G.cellAt (hb : W.grownBy w1 (some g)) {b o : Nat} (h : W.cell? ⟨b, o, none⟩ = some v) (hne : b ≠ g) : w1.cell? ⟨b, o, none⟩ = some v :=
 hb.cell h (by simpa using hne)
def Rd (w : World) (size : Nat) (v : Value) (n : Nat) (xs : List Value) : Prop :=
 ∃ A c, v = .slice A n c ∧ xs.length = n * size ∧ n ≤ c ∧ c ≤ maxLen ∧ (0 < n → ∃ g off, A = some ⟨g, off, none⟩ ∧ ∀ j u, xs[j]? = some u → w.cell? ⟨g, off + j, none⟩ = some u)
theorem Rd.keep {w w' : World} (h : Rd w size v n xs) (hk : ∀ b o u, w.cell? ⟨b, o, none⟩ = some u → w'.cell? ⟨b, o, none⟩ = some u) : Rd w' size v n xs := by
 obtain ⟨A, c, hv, hl, hc, hm, hx⟩ := h
 refine ⟨A, c, hv, hl, hc, hm, fun hn => ?_⟩
 obtain ⟨g, off, hA, hcell⟩ := hx hn
 exact ⟨g, off, hA, fun j u hu => hk _ _ _ (hcell j u hu)⟩
theorem Rd.ext {w w' : World} (h : Rd w size v n xs) (hb : Ext w w') : Rd w' size v n xs :=
 h.keep fun _ _ _ hu => hb.cellAt hu
theorem Rd.own {w : World} {base : Nat} {e : TypeId} (h : w.ownsRow base e size v n xs) : Rd w size v n xs := by
 obtain ⟨hl, h2⟩ := h
 rcases h2 with ⟨rfl, rfl⟩ | ⟨g, cap, cur, rfl, hb, hg, hn, hm, hs, ht⟩
 ·exact ⟨none, 0, rfl, hl, Nat.le_refl _, by simp [maxLen], fun h => absurd h (by omega)⟩
 ·refine ⟨some ⟨g, 0, none⟩, cap, rfl, hl, hn, hm, fun _ => ⟨g, 0, rfl, fun j u hu => ?_⟩⟩
  rw [Nat.zero_add, cell_of_row w g j cur e (0, 0) hg]
  rw [← ht, List.getElem?_take] at hu
  split at hu
  ·simpa using hu
  ·cases hu
theorem addr_add (g off j : Nat) : (⟨g, off, none⟩ : Addr).add j = ⟨g, off + j, none⟩ := by
 unfold Addr.add
 split
 ·simp [*]
 ·rfl
theorem Rd.back {w : World} {size n k c : Nat} {g off : Nat} (h : Rd w size (.slice (some ⟨g, off, none⟩) n c) n xs) (hk : k ≤ n) (A' : Option Addr) (hA' : k < n → A' = some ⟨g, off + k * size, none⟩) :
  Rd w size (.slice A' (n - k) (c - k)) (n - k) (xs.drop (k * size)) := by
 obtain ⟨A, c', hv, hl, hc, hmx, hx⟩ := h
 injection hv with h1 h2 h3
 subst h3
 refine ⟨A', c - k, rfl, by rw [List.length_drop, hl, Nat.sub_mul], by omega, by omega, fun h0 => ?_⟩
 obtain ⟨g', off', hA, hcell⟩ := hx (by omega)
 rw [← h1] at hA
 injection hA with hA
 injection hA with e1 e2
 subst e1; subst e2
 refine ⟨g, off + k * size, hA' (by omega), fun j u hu => ?_⟩
 rw [Nat.add_assoc]
 exact hcell _ u (by rw [← hu, List.getElem?_drop])
section
variable {P : Program} (w : World)
end
end Go.Proofs.YtnfjgphfaemjcaaGreatDoor

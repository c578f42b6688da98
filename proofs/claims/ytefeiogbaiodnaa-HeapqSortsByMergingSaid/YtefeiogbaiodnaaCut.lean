/- Parts of slices, by the equation of the run, whatever the slice (nil too); no condition. -/
import Derived.Test.YtefeiogbaiodnaaLst
namespace Go.Proofs.Ytefeiogbaiodnaa
open Go.RowKit

theorem addr_add0 (a : Addr) : a.add 0 = a := by unfold Addr.add; simp
theorem map_add0 (A : Option Addr) : A.map (fun a => Addr.add a 0) = A := by cases A <;> simp [addr_add0]

/-- v[:m] -/
theorem Rd.frontRun {P : Program} {w : World} {t e : TypeId} {size n m : Nat} {v : Value} {xs : List Value} (ht : P.underlying t = some (.slice e)) (hs : ∀ w : World, (sizeOf e).run P w = .ok size w) (h : Rd w size v n xs) (hm : m ≤ n) (mi : Int) (hmi : mi = m) :
    ∃ v', (∀ W : World, (Instr.slice t v none (some (.int .i64 mi)) none).run P W = .ok v' W) ∧ Rd w size v' m (xs.take (m * size)) := by
  subst hmi
  have h' := h
  obtain ⟨A, c, rfl, hl, hc, hmx, hx⟩ := h
  refine ⟨.slice A m c, fun W => ?_, Rd.front h' hm⟩
  simp [Instr.slice, run_underlying ht, Instr.sliceBounds, run_sliceBound, show (m : Int) ≤ (c : Int) by omega, hs, map_add0]

/-- v[k:] -/
theorem Rd.backRun {P : Program} {w : World} {t e : TypeId} {size n k : Nat} {v : Value} {xs : List Value} (ht : P.underlying t = some (.slice e)) (hs : ∀ w : World, (sizeOf e).run P w = .ok size w) (h : Rd w size v n xs) (hk : k ≤ n) (ki : Int) (hki : ki = k) :
    ∃ v', (∀ W : World, (Instr.slice t v (some (.int .i64 ki)) none none).run P W = .ok v' W) ∧ Rd w size v' (n - k) (xs.drop (k * size)) := by
  subst hki
  have h' := h
  obtain ⟨A, c, rfl, hl, hc, hmx, hx⟩ := h
  rcases Nat.eq_zero_or_pos n with h0 | h0
  · subst h0
    have hk0 : k = 0 := by omega
    subst hk0
    have hxs : xs = [] := List.eq_nil_of_length_eq_zero (by simpa using hl)
    subst hxs
    refine ⟨.slice A 0 c, fun W => ?_, ⟨A, c, rfl, by simp, Nat.zero_le _, hmx, fun h => by omega⟩⟩
    simp [Instr.slice, run_underlying ht, Instr.sliceBounds, run_sliceBound, hs, map_add0]
  · obtain ⟨g, off, rfl, _⟩ := hx h0
    obtain ⟨A', h1, h2⟩ := slice_back ht hs g off n c k (k : Int) rfl hk hc
    exact ⟨_, h1, Rd.back h' hk A' h2⟩
end Go.Proofs.Ytefeiogbaiodnaa

/- What closes the row of a law out of its walk: the arguments read as they did, the result is true; no condition. -/
import Derived.Test.YtefeiogbaiodnaaLst
import Derived.ProofKit
import Derived.OpenShut
import Derived.Deep.Slices
import Derived.Deep.Fields
namespace Go.Proofs.Ytefeiogbaiodnaa
open Go.ChangeShapes Go.WideShapes Go.ChangeAt Go.RowKit Go.Deep

section
variable {H : Type} {enc : TypeId × Value → H} {P : Program}

theorem trodAll_stays (hl : laidOutB P = true) {W W' : World} (hb : Ext W W') (sp : Nat → Bool) : ∀ {ts : List TypeId} {vs : List Value} {ds : List (DataW H)} {ps : List MemPlace}, (∀ t ∈ ts, P.readableRec t = true ∧ t < P.types.size) →
    DataW.TrodAll enc P W 0 (fun _ => true) true ts vs ds ps → (∀ p ∈ ps, p.block < W.heap.size) → (∀ p ∈ ps, sp p.block = true) → DataW.TrodAll enc P W' 0 sp true ts vs ds ps
  | [], _, _, _, _, h, _, _ => by
    obtain ⟨rfl, rfl, rfl⟩ := trodAll_nil h
    exact trodAll_mk0
  | t :: ts, _, _, _, ht, h, hlt, hsp => by
    obtain ⟨v, vs, d, ds, p, q, rfl, rfl, rfl, h1, h2⟩ := trodAll_cons h
    have h3 := ht t List.mem_cons_self
    refine trodAll_cons_mk (WideElems.Trod_stays hl h3.1 h3.2 h1 (fun x hx => Below.same hb (hlt x (List.mem_append_left _ hx))) (fun x hx => hsp x (List.mem_append_left _ hx))) ?_
    exact trodAll_stays hl hb sp (fun u hu => ht u (List.mem_cons_of_mem _ hu)) h2 (fun x hx => hlt x (List.mem_append_right _ hx)) (fun x hx => hsp x (List.mem_append_right _ hx))

/-- the row's post: true is handed back, what came in reads as it did -/
theorem law_post {f : Func} {s : ChangeSpec} {W W' : World} {args : Array Value} {ds gs : List (DataW H)} {before : List MemPlace} {tb : TypeId}
    (hW : DataW.Whole enc P f.params.toList s.vars false W args.toList ds gs before) (hv : s.vars = []) (hl : laidOutB P = true) (hr : ∀ t ∈ f.params.toList, P.readableRec t = true ∧ t < P.types.size)
    (hres : f.resultTypes = #[tb]) (htb : P.underlying tb = some .bool) (h1 : (s.fn H ds).results = [.lit (.bool true)]) (h2 : (s.fn H ds).args = ds) (h3 : (s.fn H ds).vars = []) (hb : Ext W W') :
    s.post enc P f false true false false W args (.bool true) W' := by
  have hlt : ∀ p ∈ before, p.block < W.heap.size := fun p hp => hW.lt p hp
  have hW' := hW
  obtain ⟨p, q, hA, hV, rfl, _, _⟩ := hW
  rw [hv] at hV
  obtain ⟨rfl, rfl⟩ := trodVars_none hV
  refine ⟨ds, [], p ++ [], [], p, [], hW', ?_, ?_, ?_, ?_, fun h => by cases h⟩
  · rw [List.append_nil, h1, hres]
    exact trodAll_mk1 (shut_bool htb true)
  · rw [List.append_nil, h2]
    exact trodAll_stays hl hb _ hr hA (fun x hx => hlt x (by simpa using hx)) (fun x hx => by simpa using hlt x (by simpa using hx))
  · rw [List.append_nil, h3, hv]; rfl
  · exact Below.frame hb _

theorem addr_of_cell {w : World} {a : Addr} {v : Value} (h : w.cell? (a.add 0) = some v) : ∃ g off, a = ⟨g, off, none⟩ := by
  obtain ⟨g, off, spot⟩ := a
  cases spot with
  | none => exact ⟨g, off, rfl⟩
  | some s =>
    unfold Addr.add World.cell? at h
    simp at h
    split at h <;> cases h

/-- an argument that is a slice: its cells -/
theorem open_flat {w : World} {base : Nat} {spare : Nat → Bool} {held : Bool} {t e : TypeId} {fuel C : Nat} {v : Value} {x : DataW H × List MemPlace} (ht : P.underlying t = some (.slice e)) (hC : P.cellsOf e = C) (hC0 : 0 < C)
    (h : DataW.trod enc P w base spare held fuel t [v] = some x) :
    ∃ (n k : Nat) (X : Nat → List Value), Rd w C v n ((List.range n).flatMap X) ∧ ∀ i, i < n → (X i).length = C ∧ ∃ y, DataW.trod enc P w base spare held k e (X i) = some y := by
  rcases open_slice ht h with ⟨hv, _⟩ | ⟨a, len, cap, m, n, D, Pl, hv, hb, hl, hm, hmm, hx, hi⟩
  · injection hv with hv
    subst hv
    exact ⟨0, 0, fun _ => [], Rd.nil_ w C, fun i hi => by omega⟩
  · injection hv with hv
    subst hv
    rw [hC] at hi
    have hlm : len ≤ m := by rw [hmm]; split <;> omega
    obtain ⟨X, hX⟩ := choose_lt (n := len) (p := fun i (cs : List Value) => w.cells? base (a.add (i * C)) C = some cs ∧ DataW.trod enc P w base spare held n e cs = some (D i, Pl i)) (fun i h => hi i (by omega))
    have hlen : ∀ i, i < len → (X i).length = C := fun i h => (World.cells?_some (hX i h).1).2.1
    have hflen : ∀ k, k ≤ len → ((List.range k).flatMap X).length = k * C := by
      intro k hk
      induction k with
      | zero => simp
      | succ k ih => rw [List.range_succ, List.flatMap_append, List.length_append, ih (by omega)]; simp [hlen k (by omega), Nat.add_mul]
    refine ⟨len, n, X, ⟨some a, cap, rfl, hflen len (Nat.le_refl _), hl, hm, fun h0 => ?_⟩, fun i hi => ⟨hlen i hi, _, (hX i hi).2⟩⟩
    have hcell : ∀ i, i < len → ∀ j, j < C → w.cell? (a.add (i * C + j)) = (X i)[j]? := fun i hi' j hj => by
      have := (World.cells?_some (hX i hi').1).2.2 j hj
      rwa [Go.Deep.add_add] at this
    obtain ⟨g, off, rfl⟩ : ∃ g off, a = ⟨g, off, none⟩ := by
      have h1 := hcell 0 h0 0 hC0
      have h2 : (X 0)[0]? = some ((X 0)[0]'(by rw [hlen 0 h0]; exact hC0)) := List.getElem?_eq_getElem _
      rw [h2] at h1
      exact addr_of_cell (by simpa using h1)
    refine ⟨g, off, rfl, fun j u hu => ?_⟩
    have hj : j < len * C := by
      have := (List.getElem?_eq_some_iff.1 hu).1
      rwa [hflen len (Nat.le_refl _)] at this
    have hdiv : j / C < len := Nat.div_lt_of_lt_mul (by rwa [Nat.mul_comm])
    have hmod := Nat.mod_lt j hC0
    have h1 := hcell (j / C) hdiv (j % C) hmod
    have hsplit : j / C * C + j % C = j := by rw [Nat.mul_comm]; exact Nat.div_add_mod j C
    rw [hsplit, addr_add] at h1
    rw [h1, ← hu]
    -- the j-th of all cells is the (j % C)-th of element j / C
    have hget : ∀ k, k ≤ len → j < k * C → ((List.range k).flatMap X)[j]? = (X (j / C))[j % C]? := by
      intro k hk hjk
      induction k with
      | zero => omega
      | succ k ih =>
        rw [List.range_succ, List.flatMap_append]
        by_cases hc : j < k * C
        · rw [List.getElem?_append_left (by rw [hflen k (by omega)]; exact hc)]
          exact ih (by omega) hc
        · rw [List.getElem?_append_right (by rw [hflen k (by omega)]; omega), hflen k (by omega)]
          have hq : j / C = k := by
            rw [Nat.add_mul] at hjk
            have h2 : k ≤ j / C := (Nat.le_div_iff_mul_le hC0).2 (by omega)
            have h3 : j / C < k + 1 := Nat.div_lt_of_lt_mul (by rw [Nat.mul_add]; rw [Nat.mul_comm C k]; omega)
            omega
          rw [hq]
          have hr : j - k * C = j % C := by rw [← hq]; omega
          rw [hr]
          simp
    exact (hget len (Nat.le_refl _) hj).symm
end
end Go.Proofs.Ytefeiogbaiodnaa

/- Arguments that are lists of lists of pairs, opened, and the bulk of their readings; no condition. -/
import Derived.Test.YtefeiogbaiodnaaRows
import Derived.Test.YtefeiogbaiodnaaRowKit
import Derived.Test.YtefeiogbaiodnaaMrgW
import Derived.OpenShut
namespace Go.Proofs.Ytefeiogbaiodnaa
open Go.ChangeShapes Go.WideShapes Go.ChangeAt Go.RowKit Go.Deep

section
variable {H : Type} {enc : TypeId × Value → H} {P : Program}
theorem open_flatY {w : World} {base : Nat} {spare : Nat → Bool} {held : Bool} {t e : TypeId} {fuel C : Nat} {v : Value} {x : DataW H × List MemPlace} (ht : P.underlying t = some (.slice e)) (hC : P.cellsOf e = C) (hC0 : 0 < C)
    (h : DataW.trod enc P w base spare held fuel t [v] = some x) :
    ∃ (n k : Nat) (X : Nat → List Value) (Y : Nat → DataW H × List MemPlace), Rd w C v n ((List.range n).flatMap X) ∧ (∀ i, i < n → (X i).length = C ∧ DataW.trod enc P w base spare held k e (X i) = some (Y i)) ∧ (n = 0 ∨ ∃ sp, x.1 = .slice ((List.range n).map fun i => (Y i).1) sp) := by
  rcases open_slice ht h with ⟨hv, _⟩ | ⟨a, len, cap, m, n, D, Pl, hv, hb, hl, hm, hmm, hx, hi⟩
  · injection hv with hv
    subst hv
    exact ⟨0, 0, fun _ => [], fun _ => (.nil, []), Rd.nil_ w C, fun i hi => by omega, .inl rfl⟩
  · injection hv with hv
    subst hv
    rw [hC] at hi
    have hlm : len ≤ m := by rw [hmm]; split <;> omega
    obtain ⟨X, hX⟩ := choose_lt (n := len) (p := fun i (cs : List Value) => w.cells? base (a.add (i * C)) C = some cs ∧ DataW.trod enc P w base spare held n e cs = some (D i, Pl i)) (fun i h => hi i (by omega))
    have hlen : ∀ i, i < len → (X i).length = C := fun i h => (World.cells?_some (hX i h).1).2.1
    have hflen : ∀ k, k ≤ len → ((List.range k).flatMap X).length = k * C := by
      intro k hk
      induction k with
      | zero => simp
      | succ k ih => rw [List.range_succ, List.flatMap_append, List.length_append, ih (by omega)]; simp [hlen k (by omega), Nat.add_mul]
    refine ⟨len, n, X, fun i => (D i, Pl i), ⟨some a, cap, rfl, hflen len (Nat.le_refl _), hl, hm, fun h0 => ?_⟩, fun i hi => ⟨hlen i hi, (hX i hi).2⟩, .inr ⟨_, by rw [hx]⟩⟩
    have hcell : ∀ i, i < len → ∀ j, j < C → w.cell? (a.add (i * C + j)) = (X i)[j]? := fun i hi' j hj => by
      have := (World.cells?_some (hX i hi').1).2.2 j hj
      rwa [Go.Deep.add_add] at this
    obtain ⟨g, off, rfl⟩ : ∃ g off, a = ⟨g, off, none⟩ := by
      have h1 := hcell 0 h0 0 hC0
      have h2 : (X 0)[0]? = some ((X 0)[0]'(by rw [hlen 0 h0]; exact hC0)) := List.getElem?_eq_getElem _
      rw [h2] at h1
      exact addr_of_cell (by simpa using h1)
    refine ⟨g, off, rfl, fun j u hu => ?_⟩
    have hj : j < len * C := by
      have := (List.getElem?_eq_some_iff.1 hu).1
      rwa [hflen len (Nat.le_refl _)] at this
    have hdiv : j / C < len := Nat.div_lt_of_lt_mul (by rwa [Nat.mul_comm])
    have hmod := Nat.mod_lt j hC0
    have h1 := hcell (j / C) hdiv (j % C) hmod
    have hsplit : j / C * C + j % C = j := by rw [Nat.mul_comm]; exact Nat.div_add_mod j C
    rw [hsplit, addr_add] at h1
    rw [h1, ← hu]
    -- the j-th of all cells is the (j % C)-th of element j / C
    have hget : ∀ k, k ≤ len → j < k * C → ((List.range k).flatMap X)[j]? = (X (j / C))[j % C]? := by
      intro k hk hjk
      induction k with
      | zero => omega
      | succ k ih =>
        rw [List.range_succ, List.flatMap_append]
        by_cases hc : j < k * C
        · rw [List.getElem?_append_left (by rw [hflen k (by omega)]; exact hc)]
          exact ih (by omega) hc
        · rw [List.getElem?_append_right (by rw [hflen k (by omega)]; omega), hflen k (by omega)]
          have hq : j / C = k := by
            rw [Nat.add_mul] at hjk
            have h2 : k ≤ j / C := (Nat.le_div_iff_mul_le hC0).2 (by omega)
            have h3 : j / C < k + 1 := Nat.div_lt_of_lt_mul (by rw [Nat.mul_add]; rw [Nat.mul_comm C k]; omega)
            omega
          rw [hq]
          have hr : j - k * C = j % C := by rw [← hq]; omega
          rw [hr]
          simp
    exact (hget len (Nat.le_refl _) hj).symm
end

theorem bulk_one {H : Type} (d : DataW H) : 1 ≤ Rows.uptoBulk d := by
  cases d with
  | lit l => cases l <;> simp [Rows.uptoBulk]
  | nil => simp [Rows.uptoBulk]
  | ptr d => simp [Rows.uptoBulk]
  | slice elems spare => simp [Rows.uptoBulk]
  | agg parts => simp [Rows.uptoBulk]
  | iface t d => simp [Rows.uptoBulk]
  | map entries => simp [Rows.uptoBulk]
  | held h => simp [Rows.uptoBulk]

theorem bulk_append {H : Type} (l r : List (DataW H)) : Rows.uptoBulkAll (l ++ r) = Rows.uptoBulkAll l + Rows.uptoBulkAll r := by
  induction l with
  | nil => simp [Rows.uptoBulkAll]
  | cons x l ih => simp only [List.cons_append, Rows.uptoBulkAll, ih]; omega

theorem bulk_sum {H : Type} (n : Nat) (f : Nat → DataW H) (g : Nat → Nat) (h : ∀ i, i < n → g i ≤ Rows.uptoBulk (f i)) : ((List.range n).map g).sum ≤ Rows.uptoBulkAll ((List.range n).map f) := by
  induction n with
  | zero => simp
  | succ n ih =>
    have := ih (fun i hi => h i (by omega))
    have := h n (by omega)
    rw [List.range_succ, List.map_append, List.map_append, bulk_append, List.sum_append]
    simp [Rows.uptoBulkAll]
    omega

theorem sum_ones (n : Nat) : ((List.range n).map fun _ => 1).sum = n := by
  induction n with
  | zero => rfl
  | succ n ih => rw [List.range_succ, List.map_append, List.sum_append, ih]; simp

theorem one_of' {α : Type} {l : List α} (h : l.length = 1) : ∃ a, l = [a] := by
  rcases l with _ | ⟨a, _ | ⟨b, l⟩⟩
  · cases h
  · exact ⟨a, rfl⟩
  · simp at h
theorem two_of' {α : Type} {l : List α} (h : l.length = 2) : ∃ a b, l = [a, b] := by
  rcases l with _ | ⟨a, _ | ⟨b, _ | ⟨c, l⟩⟩⟩
  · cases h
  · cases h
  · exact ⟨a, b, rfl⟩
  · simp at h
theorem flat_of2 {α : Type} (E : Enc α) {n : Nat} {X : Nat → List Value} {f : Nat → α} (h : ∀ i, i < n → X i = E.cells (f i)) : (List.range n).flatMap X = flat E ((List.range n).map f) := by
  induction n with
  | zero => rfl
  | succ n ih =>
    rw [List.range_succ, List.flatMap_append, List.map_append, flat_append, ih (fun i hi => h i (by omega))]
    simp [flat, h n (by omega)]
theorem flatMap_single {n : Nat} {X : Nat → List Value} {u : Nat → Value} (h : ∀ i, i < n → X i = [u i]) : (List.range n).flatMap X = (List.range n).map u := by
  induction n with
  | zero => rfl
  | succ n ih =>
    rw [List.range_succ, List.flatMap_append, List.map_append, ih (fun i hi => h i (by omega))]
    simp [h n (by omega)]

theorem cells35 : Try.prog.cellsOf 35 = 2 := by kernel_rfl
theorem cells33 : Try.prog.cellsOf 33 = 1 := by kernel_rfl
theorem cells3' : Try.prog.cellsOf 3 = 1 := by kernel_rfl

theorem open_pairs {H : Type} {enc : TypeId × Value → H} {w : World} {base : Nat} {spare : Nat → Bool} {held : Bool} {fuel : Nat} {v : Value} {x : DataW H × List MemPlace}
    (h : DataW.trod enc Try.prog w base spare held fuel 33 [v] = some x) : ∃ l, SlA encP w v l ∧ l.length ≤ Rows.uptoBulk x.1 := by
  obtain ⟨n, k, X, Y, hr, hX, hY⟩ := open_flatY Try.underlying33 cells35 (by decide) h
  have hel : ∀ i, i < n → ∃ e : ElP, X i = encP.cells e := by
    intro i hi
    obtain ⟨hlen, hy⟩ := hX i hi
    obtain ⟨xs, m, _, _, _, hxl, hf⟩ := DataW.trod_array und35 hy
    obtain ⟨a, b, hab⟩ := two_of' hlen
    obtain ⟨y0, y1, hys⟩ := two_of' hxl
    subst hys
    have g0 := hf 0 (by omega)
    have g1 := hf 1 (by omega)
    rw [hab, cells3'] at g0 g1
    obtain ⟨r0, h0, _⟩ := DataW.trod_int Try.underlying3 g0
    obtain ⟨r1, h1, _⟩ := DataW.trod_int Try.underlying3 g1
    simp at h0 h1
    exact ⟨(r0, r1), by rw [hab, h0, h1]; rfl⟩
  obtain ⟨f, hf⟩ := choose_lt (n := n) (p := fun i e => X i = encP.cells e) hel
  refine ⟨(List.range n).map f, ?_, ?_⟩
  · unfold SlA
    rw [← flat_of2 encP hf]
    simpa [encP] using hr
  · simp only [List.length_map, List.length_range]
    rcases hY with h0 | ⟨sp, hs⟩
    · omega
    · rw [hs]
      have := bulk_sum n (fun i => (Y i).1) (fun _ => 1) (fun i _ => bulk_one _)
      rw [sum_ones] at this
      simp only [Rows.uptoBulk]
      omega

theorem open_lists {H : Type} {enc : TypeId × Value → H} {w : World} {base : Nat} {spare : Nat → Bool} {held : Bool} {fuel : Nat} {v : Value} {x : DataW H × List MemPlace}
    (h : DataW.trod enc Try.prog w base spare held fuel 32 [v] = some x) : ∃ ls, SlL encP w v ls ∧ ls.length ≤ Rows.uptoBulk x.1 ∧ total ls ≤ Rows.uptoBulk x.1 := by
  obtain ⟨n, k, X, Y, hr, hX, hY⟩ := open_flatY Try.underlying32 cells33 (by decide) h
  have hel : ∀ i, i < n → ∃ e : Value × List ElP, X i = [e.1] ∧ SlA encP w e.1 e.2 ∧ e.2.length ≤ Rows.uptoBulk (Y i).1 := by
    intro i hi
    obtain ⟨hlen, hy⟩ := hX i hi
    obtain ⟨a, ha⟩ := one_of' hlen
    rw [ha] at hy
    obtain ⟨l, h1, h2⟩ := open_pairs hy
    exact ⟨(a, l), ha, h1, h2⟩
  obtain ⟨f, hf⟩ := @choose_lt (Value × List ElP) ⟨(.bool false, [])⟩ n (fun i e => X i = [e.1] ∧ SlA encP w e.1 e.2 ∧ e.2.length ≤ Rows.uptoBulk (Y i).1) hel
  refine ⟨(List.range n).map fun i => (f i).2, ⟨(List.range n).map fun i => (f i).1, ?_, fun i l hl => ?_⟩, ?_, ?_⟩
  · rw [← flatMap_single (fun i hi => (hf i hi).1)]
    simpa using hr
  · simp only [List.getElem?_map, Option.map_eq_some_iff] at hl
    obtain ⟨j, hj, rfl⟩ := hl
    have hjn : i < n := by
      have := (List.getElem?_eq_some_iff.1 hj).1
      simpa using this
    have e : j = i := by
      rw [List.getElem?_range hjn] at hj
      injection hj with hj
      exact hj.symm
    subst e
    exact ⟨(f j).1, by simp [hjn], (hf j hjn).2.1⟩
  · simp only [List.length_map, List.length_range]
    rcases hY with h0 | ⟨sp, hs⟩
    · omega
    · rw [hs]
      have := bulk_sum n (fun i => (Y i).1) (fun _ => 1) (fun i _ => bulk_one _)
      rw [sum_ones] at this
      simp only [Rows.uptoBulk]
      omega
  · rcases hY with h0 | ⟨sp, hs⟩
    · subst h0; simp [total]
    · rw [hs]
      have := bulk_sum n (fun i => (Y i).1) (fun i => (f i).2.length) (fun i hi => (hf i hi).2.2)
      simp only [Rows.uptoBulk]
      simp only [total, List.map_map]
      have e : (List.length ∘ fun i => (f i).2) = fun i => (f i).2.length := rfl
      rw [e]
      omega
end Go.Proofs.Ytefeiogbaiodnaa

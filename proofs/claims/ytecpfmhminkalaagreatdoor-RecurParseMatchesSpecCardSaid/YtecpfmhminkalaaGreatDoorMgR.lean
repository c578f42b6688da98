/- What closes the row of a law out of what the machine shows: arguments are opened as plain data; the result is true; no condition. -/
import Derived.Test.YtecpfmhminkalaaGreatDoorMgA
import Derived.Test.YtecpfmhminkalaaGreatDoorRows
import Derived.ProofKit
import Derived.OpenShut
import Derived.Deep.Slices
import Derived.Deep.Fields
set_option linter.all false
set_option linter.unusedSimpArgs false
set_option linter.unusedVariables false
namespace Go.Proofs.YtecpfmhminkalaaGreatDoor
open Go.ChangeShapes Go.WideShapes Go.ChangeAt Go.RowKit Go.Deep
section
variable {H : Type} {enc : TypeId × Value → H} {P : Program}
theorem trodAll_stays (hl : laidOutB P = true) {W W' : World} (hb : Ext W W') (sp : Nat → Bool) : ∀ {ts : List TypeId} {vs : List Value} {ds : List (DataW H)} {ps : List MemPlace}, (∀ t ∈ ts, P.readableRec t = true ∧ t < P.types.size) →
    DataW.TrodAll enc P W 0 (fun _ => true) true ts vs ds ps → (∀ p ∈ ps, p.block < W.heap.size) → (∀ p ∈ ps, sp p.block = true) → DataW.TrodAll enc P W' 0 sp true ts vs ds ps
  | [], _, _, _, _, h, _, _ => by
    obtain ⟨rfl, rfl, rfl⟩ := trodAll_nil h
    exact trodAll_mk0
  | t :: ts, _, _, _, ht, h, hlt, hsp => by
    obtain ⟨v, vs, d, ds, p, q, rfl, rfl, rfl, h1, h2⟩ := trodAll_cons h
    have h3 := ht t List.mem_cons_self
    refine trodAll_cons_mk (WideElems.Trod_stays hl h3.1 h3.2 h1 (fun x hx => Below.same hb (hlt x (List.mem_append_left _ hx))) (fun x hx => hsp x (List.mem_append_left _ hx))) ?_
    exact trodAll_stays hl hb sp (fun u hu => ht u (List.mem_cons_of_mem _ hu)) h2 (fun x hx => hlt x (List.mem_append_right _ hx)) (fun x hx => hsp x (List.mem_append_right _ hx))
/-- the row's post: true is handed back, what came in reads as it did -/
theorem law_post {f : Func} {s : ChangeSpec} {W W' : World} {args : Array Value} {ds gs : List (DataW H)} {before : List MemPlace} {tb : TypeId}
    (hW : DataW.Whole enc P f.params.toList s.vars false W args.toList ds gs before) (hv : s.vars = []) (hl : laidOutB P = true) (hr : ∀ t ∈ f.params.toList, P.readableRec t = true ∧ t < P.types.size)
    (hres : f.resultTypes = #[tb]) (htb : P.underlying tb = some .bool) (h1 : (s.fn H ds).results = [.lit (.bool true)]) (h2 : (s.fn H ds).args = ds) (h3 : (s.fn H ds).vars = []) (hb : Ext W W') :
    s.post enc P f false true false false W args (.bool true) W' := by
  have hlt : ∀ p ∈ before, p.block < W.heap.size := fun p hp => hW.lt p hp
  have hW' := hW
  obtain ⟨p, q, hA, hV, rfl, _, _⟩ := hW
  rw [hv] at hV
  obtain ⟨rfl, rfl⟩ := trodVars_none hV
  refine ⟨ds, [], p ++ [], [], p, [], hW', ?_, ?_, ?_, ?_, fun h => by cases h⟩
  · rw [List.append_nil, h1, hres]
    exact trodAll_mk1 (shut_bool htb true)
  · rw [List.append_nil, h2]
    exact trodAll_stays hl hb _ hr hA (fun x hx => hlt x (by simpa using hx)) (fun x hx => by simpa using hlt x (by simpa using hx))
  · rw [List.append_nil, h3, hv]; rfl
  · exact Below.frame hb _
theorem addr_of_cell {w : World} {a : Addr} {v : Value} (h : w.cell? (a.add 0) = some v) : ∃ g off, a = ⟨g, off, none⟩ := by
  obtain ⟨g, off, spot⟩ := a
  cases spot with
  | none => exact ⟨g, off, rfl⟩
  | some s =>
    unfold Addr.add World.cell? at h
    simp at h
    split at h <;> cases h
/-- an argument that is a slice: its cells, and how it reads -/
theorem open_flatY {w : World} {base : Nat} {spare : Nat → Bool} {held : Bool} {t e : TypeId} {fuel C : Nat} {v : Value} {x : DataW H × List MemPlace} (ht : P.underlying t = some (.slice e)) (hC : P.cellsOf e = C) (hC0 : 0 < C)
    (h : DataW.trod enc P w base spare held fuel t [v] = some x) :
    ∃ (n k : Nat) (X : Nat → List Value) (Y : Nat → DataW H × List MemPlace), Rd w C v n ((List.range n).flatMap X) ∧ (∀ i, i < n → (X i).length = C ∧ DataW.trod enc P w base spare held k e (X i) = some (Y i)) ∧ ((n = 0 ∧ x.1 = .nil) ∨ ∃ sp, x.1 = .slice ((List.range n).map fun i => (Y i).1) sp) := by
  rcases open_slice ht h with ⟨hv, hx⟩ | ⟨a, len, cap, m, n, D, Pl, hv, hb, hl, hm, hmm, hx, hi⟩
  · injection hv with hv
    subst hv
    exact ⟨0, 0, fun _ => [], fun _ => (.nil, []), Rd.nil_ w C, fun i hi => by omega, .inl ⟨rfl, by rw [hx]⟩⟩
  · injection hv with hv
    subst hv
    rw [hC] at hi
    have hlm : len ≤ m := by rw [hmm]; split <;> omega
    obtain ⟨X, hX⟩ := choose_lt (n := len) (p := fun i (cs : List Value) => w.cells? base (a.add (i * C)) C = some cs ∧ DataW.trod enc P w base spare held n e cs = some (D i, Pl i)) (fun i h => hi i (by omega))
    have hlen : ∀ i, i < len → (X i).length = C := fun i h => (World.cells?_some (hX i h).1).2.1
    have hflen : ∀ k, k ≤ len → ((List.range k).flatMap X).length = k * C := by
      intro k hk
      induction k with
      | zero => simp
      | succ k ih => rw [List.range_succ, List.flatMap_append, List.length_append, ih (by omega)]; simp [hlen k (by omega), Nat.add_mul]
    refine ⟨len, n, X, fun i => (D i, Pl i), ⟨some a, cap, rfl, hflen len (Nat.le_refl _), hl, hm, fun h0 => ?_⟩, fun i hi => ⟨hlen i hi, (hX i hi).2⟩, .inr ⟨_, by rw [hx]⟩⟩
    have hcell : ∀ i, i < len → ∀ j, j < C → w.cell? (a.add (i * C + j)) = (X i)[j]? := fun i hi' j hj => by
      have := (World.cells?_some (hX i hi').1).2.2 j hj
      rwa [Go.Deep.add_add] at this
    obtain ⟨g, off, rfl⟩ : ∃ g off, a = ⟨g, off, none⟩ := by
      have h1 := hcell 0 h0 0 hC0
      have h2 : (X 0)[0]? = some ((X 0)[0]'(by rw [hlen 0 h0]; exact hC0)) := List.getElem?_eq_getElem _
      rw [h2] at h1
      exact addr_of_cell (by simpa using h1)
    refine ⟨g, off, rfl, fun j u hu => ?_⟩
    have hj : j < len * C := by
      have := (List.getElem?_eq_some_iff.1 hu).1
      rwa [hflen len (Nat.le_refl _)] at this
    have hdiv : j / C < len := Nat.div_lt_of_lt_mul (by rwa [Nat.mul_comm])
    have hmod := Nat.mod_lt j hC0
    have h1 := hcell (j / C) hdiv (j % C) hmod
    have hsplit : j / C * C + j % C = j := by rw [Nat.mul_comm]; exact Nat.div_add_mod j C
    rw [hsplit, addr_add] at h1
    rw [h1, ← hu]
    have hget : ∀ k, k ≤ len → j < k * C → ((List.range k).flatMap X)[j]? = (X (j / C))[j % C]? := by
      intro k hk hjk
      induction k with
      | zero => omega
      | succ k ih =>
        rw [List.range_succ, List.flatMap_append]
        by_cases hc : j < k * C
        · rw [List.getElem?_append_left (by rw [hflen k (by omega)]; exact hc)]
          exact ih (by omega) hc
        · rw [List.getElem?_append_right (by rw [hflen k (by omega)]; omega), hflen k (by omega)]
          have hq : j / C = k := by
            rw [Nat.add_mul] at hjk
            have h2 : k ≤ j / C := (Nat.le_div_iff_mul_le hC0).2 (by omega)
            have h3 : j / C < k + 1 := Nat.div_lt_of_lt_mul (by rw [Nat.mul_add]; rw [Nat.mul_comm C k]; omega)
            omega
          rw [hq]
          have hr : j - k * C = j % C := by rw [← hq]; omega
          rw [hr]
          simp
    exact (hget len (Nat.le_refl _) hj).symm
end
theorem bulk_append {H : Type} (l r : List (DataW H)) : Rows.uptoBulkAll (l ++ r) = Rows.uptoBulkAll l + Rows.uptoBulkAll r := by
  induction l with
  | nil => simp [Rows.uptoBulkAll]
  | cons x l ih => simp only [List.cons_append, Rows.uptoBulkAll, ih]; omega
theorem bulk_sum {H : Type} (n : Nat) (f : Nat → DataW H) (g : Nat → Nat) (h : ∀ i, i < n → g i ≤ Rows.uptoBulk (f i)) : ((List.range n).map g).sum ≤ Rows.uptoBulkAll ((List.range n).map f) := by
  induction n with
  | zero => simp
  | succ n ih =>
    have := ih (fun i hi => h i (by omega))
    have := h n (by omega)
    rw [List.range_succ, List.map_append, List.map_append, bulk_append, List.sum_append]
    simp [Rows.uptoBulkAll]
    omega
theorem weights_mem {H : Type} {P : Program} {e : TypeId} {l : List (DataW H)} {d : DataW H} (hd : d ∈ l) {y : Nat} (hy : y ∈ d.weights P e) : y ∈ DataW.weightsAll P e l := by
  induction l with
  | nil => cases hd
  | cons a l ih =>
    simp only [DataW.weightsAll, List.mem_append]
    rcases List.mem_cons.1 hd with rfl | hd
    · exact .inl hy
    · exact .inr (ih hd)
/-- the cells of a world, none of which turns -/
def ghW (w : World) : Gh := ⟨fun b o => w.cell? ⟨b, o, none⟩, fun _ => none⟩
theorem rel_start (P : Program) (w : World) : Rel0 P w (ghW w) w.heap.size (fun _ => none) w :=
  ⟨Ext.rfl_ w, Nat.le_refl _, Nat.le_refl _, fun _ _ _ h => h, (fun _ _ _ h => by cases h), (fun _ _ _ h => by cases h), (fun _ _ h => by cases h)⟩
theorem law_calls {P : Program} {f : Nat} {args : List AV} {vs : List Value} {w : World} (hl : Laid w) (h : APure P f args (.bool true)) (hr : RepL (ghW w) vs args) : Calls P f vs.toArray w fun e w' => e = .returned (.bool true) ∧ Ext w w' := by
  refine (h w.heap.size (fun _ => none) (fun _ _ => rfl) w (ghW w) w vs hl (rel_start P w) hr).mono ?_
  rintro e w' ⟨v, r, G', n', H', rfl, ⟨rfl, _, _⟩, hv, _, _, h0⟩
  cases hv
  exact ⟨rfl, h0.ext⟩
theorem repL_flat {G : Gh} {n : Nat} {X : Nat → List Value} {l : Nat → AV} (h : ∀ i, i < n → RepL G (X i) (l i).cells) : RepL G ((List.range n).flatMap X) (flatA ((List.range n).map l)) := by
  induction n with
  | zero => exact .nil
  | succ n ih =>
    rw [List.range_succ, List.flatMap_append, List.map_append]
    unfold flatA
    rw [List.flatMap_append]
    exact (ih fun i hi => h i (by omega)).append (by simpa using h n (by omega))
/-- a slice that reads as cells stands for a list -/
theorem rep_slice {w : World} {sz n : Nat} {v : Value} {xs : List Value} {l : List AV} (hr : Rd w sz v n xs) (hx : RepL (ghW w) xs (flatA l)) (hl : l.length = n) (h0 : 0 < sz) (hu : ∀ x ∈ l, x.cells.length = sz) (h1 : ∀ x ∈ flatA l, x.one = true) : Rep (ghW w) v (.sl sz l .ro) := by
  obtain ⟨A, c, rfl, hlen, hc, hm, hcell⟩ := hr
  rcases Nat.eq_zero_or_pos n with h | h
  · subst h
    have : l = [] := List.length_eq_zero_iff.1 hl
    subst this
    exact .sl0 hm
  · obtain ⟨g, off, rfl, hcs⟩ := hcell h
    exact .slro hx (fun j u hu => hcs j u hu) ⟨by omega, hm, h0, hu, h1⟩ hl.symm
section
variable {H : Type} {enc : TypeId × Value → H} {P : Program}
/-- what a value of a type opens to: it stands for a; if its reading lies within reach, so does a; a is no greater than its reading -/
def OpenAs {α : Type} (P : Program) (w : World) (e : TypeId) (en : α → AV) (Wa : α → Prop) (q : α → Nat) (cs : List Value) (d : DataW H) (a : α) : Prop :=
  RepL (ghW w) cs (en a).cells ∧ ((∀ y ∈ d.weights P e, y ≤ reachBytes) → Wa a) ∧ q a ≤ Rows.uptoBulk d
theorem open_list {α : Type} [Inhabited α] {w : World} {base : Nat} {spare : Nat → Bool} {held : Bool} {t e : TypeId} {fuel C : Nat} {v : Value} {x : DataW H × List MemPlace} (en : α → AV) (Wa : α → Prop) (q : α → Nat)
    (ht : P.underlying t = some (.slice e)) (hC : P.cellsOf e = C) (hC0 : 0 < C) (hu : ∀ a, (en a).cells.length = C ∧ ∀ y ∈ (en a).cells, y.one = true)
    (he : ∀ k cs y, cs.length = C → DataW.trod enc P w base spare held k e cs = some y → ∃ a, OpenAs P w e en Wa q cs y.1 a)
    (h : DataW.trod enc P w base spare held fuel t [v] = some x) : ∃ l : List α, OpenAs P w t (fun l : List α => .sl C (l.map en) .ro) (fun l => l.length * P.bytesOf e ≤ reachBytes ∧ ∀ a ∈ l, Wa a) (fun l => (l.map q).sum + 1) [v] x.1 l := by
  obtain ⟨n, k, X, Y, hr, hX, hY⟩ := open_flatY ht hC hC0 h
  obtain ⟨f, hf⟩ := choose_lt (n := n) (p := fun i a => OpenAs P w e en Wa q (X i) (Y i).1 a) (fun i hi => he k (X i) (Y i) (hX i hi).1 (hX i hi).2)
  have hlen : ((List.range n).map f).length = n := by simp
  refine ⟨(List.range n).map f, .cons (rep_slice hr ?_ (by simp) hC0 ?_ ?_) .nil, fun hw => ?_, ?_⟩
  · rw [List.map_map]
    exact repL_flat fun i hi => (hf i hi).1
  · intro y hy
    obtain ⟨a, _, rfl⟩ := List.mem_map.1 hy
    exact (hu a).1
  · intro y hy
    obtain ⟨z, hz, hy⟩ := List.mem_flatMap.1 hy
    obtain ⟨a, _, rfl⟩ := List.mem_map.1 hz
    exact (hu a).2 y hy
  · rcases hY with ⟨h0, h1⟩ | ⟨sp, h1⟩
    · subst h0; simp
    · rw [h1] at hw
      simp only [DataW.weights, ht, List.mem_cons, List.mem_append, List.length_map, List.length_range] at hw
      refine ⟨?_, fun a ha => ?_⟩
      · have := hw _ (.inl rfl)
        rw [hlen]
        exact Nat.le_trans (Nat.mul_le_mul_right _ (Nat.le_add_right _ _)) this
      · obtain ⟨i, hi, rfl⟩ := List.mem_map.1 ha
        have hi' : i < n := List.mem_range.1 hi
        exact (hf i hi').2.1 fun y hy => hw y (.inr (.inl (weights_mem (List.mem_map.2 ⟨i, hi, rfl⟩) hy)))
  · rcases hY with ⟨h0, h1⟩ | ⟨sp, h1⟩
    · subst h0; rw [h1]; simp [Rows.uptoBulk]
    · rw [h1]
      have := bulk_sum n (fun i => (Y i).1) (fun i => q (f i)) (fun i hi => (hf i hi).2.2)
      simp only [Rows.uptoBulk, List.map_map]
      have e : (q ∘ f) = fun i => q (f i) := rfl
      rw [e]; omega
theorem open_strA {w : World} {base : Nat} {spare : Nat → Bool} {held : Bool} {t : TypeId} {fuel : Nat} {cs : List Value} {x : DataW H × List MemPlace} (ht : P.underlying t = some .string)
    (h : DataW.trod enc P w base spare held fuel t cs = some x) : ∃ a : List UInt8, OpenAs P w t AV.str (fun a => a.length ≤ reachBytes) (fun a => a.length + 1) cs x.1 a := by
  obtain ⟨s, rfl, hx, hs⟩ := DataW.trod_string ht h
  refine ⟨s.data.toList, .cons (.str rfl) .nil, fun hw => ?_, ?_⟩
  · rw [hx] at hw
    simpa [DataW.weights] using hw
  · rw [hx]; simp [Rows.uptoBulk]
end
end Go.Proofs.YtecpfmhminkalaaGreatDoor

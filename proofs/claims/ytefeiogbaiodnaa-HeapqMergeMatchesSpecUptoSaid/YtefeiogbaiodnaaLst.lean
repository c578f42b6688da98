/- Lists of elements of one kind in memory: a slice of them, a slice of such slices; no condition. -/
import Derived.Test.YtefeiogbaiodnaaMem
namespace Go.Proofs.Ytefeiogbaiodnaa
open Go.RowKit

/-- how an element lies in memory -/
structure Enc (α : Type) where
  size : Nat
  pos : 0 < size
  cells : α → List Value
  len : ∀ a, (cells a).length = size
  one : ∀ a, ∀ u ∈ cells a, u.oneCell' = true

def flat {α : Type} (E : Enc α) (l : List α) : List Value := l.flatMap E.cells

section
variable {α : Type} (E : Enc α)
theorem flat_nil : flat E [] = [] := rfl
theorem flat_cons (a : α) (l : List α) : flat E (a :: l) = E.cells a ++ flat E l := rfl
theorem flat_append (a b : List α) : flat E (a ++ b) = flat E a ++ flat E b := by simp [flat]
theorem flat_len (l : List α) : (flat E l).length = l.length * E.size := by
  induction l with
  | nil => simp [flat_nil]
  | cons a l ih => rw [flat_cons, List.length_append, E.len, ih, List.length_cons, Nat.add_mul]; omega
theorem flat_drop (l : List α) (k : Nat) : flat E (l.drop k) = (flat E l).drop (k * E.size) := by
  induction l generalizing k with
  | nil => simp [flat_nil]
  | cons a l ih =>
    cases k with
    | zero => simp
    | succ k =>
      rw [List.drop_succ_cons, flat_cons, ih, Nat.add_mul, Nat.one_mul, Nat.add_comm, ← List.drop_drop]
      rw [List.drop_append_of_le_length (by rw [E.len]; omega), List.drop_of_length_le (l := E.cells a) (by rw [E.len]; omega), List.nil_append]
theorem flat_take (l : List α) (k : Nat) : flat E (l.take k) = (flat E l).take (k * E.size) := by
  induction l generalizing k with
  | nil => simp [flat_nil]
  | cons a l ih =>
    cases k with
    | zero => simp [flat_nil]
    | succ k =>
      rw [List.take_succ_cons, flat_cons, flat_cons, ih, Nat.add_mul, Nat.one_mul, Nat.add_comm, List.take_append, E.len]
      rw [List.take_of_length_le (l := E.cells a) (by rw [E.len]; omega), show E.size + k * E.size - E.size = k * E.size by omega]
theorem flat_get {l : List α} {k : Nat} {a : α} (h : l[k]? = some a) {j : Nat} (hj : j < E.size) : (flat E l)[k * E.size + j]? = (E.cells a)[j]? := by
  induction l generalizing k with
  | nil => simp at h
  | cons b l ih =>
    cases k with
    | zero =>
      simp at h; subst h
      rw [flat_cons, Nat.zero_mul, Nat.zero_add, List.getElem?_append_left (by rw [E.len]; exact hj)]
    | succ k =>
      rw [flat_cons, List.getElem?_append_right (by rw [E.len, Nat.add_mul]; omega), E.len]
      rw [show (k + 1) * E.size + j - E.size = k * E.size + j by rw [Nat.add_mul]; omega]
      exact ih (by simpa using h)
theorem flat_one (l : List α) : ∀ u ∈ flat E l, u.oneCell' = true := by
  intro u hu
  simp only [flat, List.mem_flatMap] at hu
  obtain ⟨a, _, hu⟩ := hu
  exact E.one a u hu

/-- v is a slice of these elements -/
def SlA (w : World) (v : Value) (l : List α) : Prop := Rd w E.size v l.length (flat E l)
/-- v is a slice of slices of these elements -/
def SlL (w : World) (v : Value) (ls : List (List α)) : Prop := ∃ xs, Rd w 1 v ls.length xs ∧ ∀ (i : Nat) (l : List α), ls[i]? = some l → ∃ x, xs[i]? = some x ∧ SlA E w x l
end

section
variable {α : Type} {E : Enc α} {w w' : World} {v : Value} {l : List α} {ls : List (List α)}
theorem SlA.ext (h : SlA E w v l) (hb : Ext w w') : SlA E w' v l := Rd.ext h hb
theorem SlL.ext (h : SlL E w v ls) (hb : Ext w w') : SlL E w' v ls := by
  obtain ⟨xs, h1, h2⟩ := h
  exact ⟨xs, h1.ext hb, fun i l hl => by obtain ⟨x, hx, hs⟩ := h2 i l hl; exact ⟨x, hx, hs.ext hb⟩⟩
theorem SlA.nil_ : SlA E w (.slice none 0 0) [] := Rd.nil_ w E.size

theorem SlA.out (h : SlA E w v l) : ∃ A c, v = .slice A l.length c ∧ l.length ≤ c ∧ l.length ≤ 9223372036854775807 ∧
    (0 < l.length → ∃ g off, A = some ⟨g, off, none⟩ ∧ ∀ (k : Nat) (a : α), l[k]? = some a → ∀ (j : Nat) (u : Value), (E.cells a)[j]? = some u → w.cell? ⟨g, off + (k * E.size + j), none⟩ = some u) := by
  have hle := Rd.len_le h
  obtain ⟨A, c, hv, hl, hc, hm, hx⟩ := h
  refine ⟨A, c, hv, hc, hle, fun h0 => ?_⟩
  obtain ⟨g, off, hA, hcell⟩ := hx h0
  refine ⟨g, off, hA, fun k a hk j u hu => hcell _ _ ?_⟩
  have hj : j < E.size := by
    have := (List.getElem?_eq_some_iff.1 hu).1
    rwa [E.len] at this
  rw [flat_get E hk hj, hu]

theorem SlL.out (h : SlL E w v ls) : ∃ A c, v = .slice A ls.length c ∧ ls.length ≤ c ∧ ls.length ≤ 9223372036854775807 ∧
    (0 < ls.length → ∃ g off, A = some ⟨g, off, none⟩ ∧ ∀ (k : Nat) (l : List α), ls[k]? = some l → ∃ A' c', w.cell? ⟨g, off + k, none⟩ = some (.slice A' l.length c') ∧ SlA E w (.slice A' l.length c') l) := by
  obtain ⟨xs, h1, h2⟩ := h
  have hle := Rd.len_le h1
  obtain ⟨A, c, hv, hl, hc, hm, hx⟩ := h1
  refine ⟨A, c, hv, hc, hle, fun h0 => ?_⟩
  obtain ⟨g, off, hA, hcell⟩ := hx h0
  refine ⟨g, off, hA, fun k l hk => ?_⟩
  obtain ⟨x, hxx, hs⟩ := h2 k l hk
  obtain ⟨A', c', rfl, _⟩ := SlA.out hs
  exact ⟨A', c', hcell _ _ hxx, hs⟩
end

/-- v[l:], whatever the capacity: one equation for its run -/
theorem slice_back {P : Program} {t e : TypeId} {size : Nat} (ht : P.underlying t = some (.slice e)) (hs : ∀ w : World, (sizeOf e).run P w = .ok size w) (g off len cap l : Nat) (li : Int) (hli : li = l) (hl : l ≤ len) (_hc : len ≤ cap) :
    ∃ A', (∀ w : World, (Instr.slice t (.slice (some ⟨g, off, none⟩) len cap) (some (.int .i64 li)) none none).run P w = .ok (.slice A' (len - l) (cap - l)) w) ∧ (l < len → A' = some ⟨g, off + l * size, none⟩) := by
  subst hli
  refine ⟨if cap = l then some ⟨g, off, none⟩ else some (Addr.add ⟨g, off, none⟩ (l * size)), fun w => ?_, fun h => ?_⟩
  · simp [Instr.slice, run_underlying ht, Instr.sliceBounds, run_sliceBound, hl, hs]
  · rw [if_neg (by omega), addr_add]

/-- append, by the equation of its run -/
theorem wpList_append_run {P : Program} {w : World} {ops : Array Oper} {rest : List Oper} {o : Oper} {a : Act} {Q : Exit → Act → World → Prop} (hgd : o.guard = none) (s x : Operand) (t tn : TypeId)
    (ho : o.op = .call { callee := .builtin .append, args := #[s, x], argTypes := #[t, tn] }) (vs vx v' : Value) (w' : World) (hs : a.eval s = vs) (hx : a.eval x = vx)
    (hrun : (Builtin.append_ #[t, tn] o.type #[vs, vx]).run P w = .ok v' w') (h : wpList P ops Q rest (a.put o.dst v') w') : wpList P ops Q (o :: rest) a w :=
  wpList_plain hgd fun _ hK => by
    unfold Oper.wp execOp
    simp only [ho, resolve, invoke, builtin, Sem.run_bind, Sem.run_pure, Result.andThen_ok, List.map_toArray, List.map_cons, List.map_nil, hs, hx, hrun]
    exact hK _ _ h

/-- rows of two element types lie in two blocks -/
theorem own_ne {w : World} {b1 b2 : Nat} {e1 e2 : TypeId} {s1 s2 n1 n2 : Nat} {v1 v2 : Value} {x1 x2 : List Value} (h1 : w.ownsRow b1 e1 s1 v1 n1 x1) (h2 : w.ownsRow b2 e2 s2 v2 n2 x2) (hne : e1 ≠ e2) : v1.ownBlock = none ∨ v1.ownBlock ≠ v2.ownBlock := by
  rcases h1.2 with ⟨rfl, _⟩ | ⟨g, c, cur, rfl, _, hg, _⟩
  · exact .inl rfl
  · rcases h2.2 with ⟨rfl, _⟩ | ⟨g', c', cur', rfl, _, hg', _⟩
    · right; simp [Value.ownBlock]
    · right
      intro e
      simp only [Value.ownBlock, Option.some.injEq] at e
      subst e
      rw [hg] at hg'
      injection hg' with hg'
      injection hg' with _ he
      exact hne he
/-- what a row of the call's own that is not empty is -/
theorem own_form {w : World} {base n : Nat} {e : TypeId} {v : Value} {xs : List Value} (h : w.ownsRow base e 1 v n xs) (h0 : 0 < n) : ∃ g cap, v = .slice (some ⟨g, 0, none⟩) n cap ∧ base ≤ g ∧ n ≤ cap ∧ (∀ (i : Nat) (x : Value), xs[i]? = some x → w.cell? ⟨g, i, none⟩ = some x) ∧ (∀ o, w.frozen? ⟨g, o, none⟩ = false) := by
  have hr := Rd.own h
  rcases h.2 with ⟨_, h3⟩ | ⟨g, cap, cur, hv, hb, hg, hnc, hm, hs, ht⟩
  · omega
  · refine ⟨g, cap, hv, hb, hnc, fun i x hx => ?_, fun o => by simp [World.frozen?, hg]⟩
    obtain ⟨A, c, hv', _, _, _, hx'⟩ := hr
    obtain ⟨g', off', hA, hc⟩ := hx' h0
    rw [hv] at hv'
    injection hv' with h1 h2 h3
    rw [hA] at h1
    injection h1 with h1
    injection h1 with e1 e2
    subst e1; subst e2
    have := hc i x hx
    rwa [Nat.zero_add] at this

/-- a new slice of these elements is handed back -/
def SlRet {α : Type} (E : Enc α) (l : List α) (w : World) (e : Ending) (w' : World) : Prop := ∃ v, e = .returned v ∧ SlA E w' v l ∧ Ext w w'
end Go.Proofs.Ytefeiogbaiodnaa

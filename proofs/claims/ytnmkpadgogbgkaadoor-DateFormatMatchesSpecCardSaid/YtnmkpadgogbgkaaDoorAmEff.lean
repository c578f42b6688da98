/- Operations that make or turn memory: what they leave stands for what the plain machine says; no condition. -/
import Derived.Test.YtnmkpadgogbgkaaDoorAmPur5
import Derived.Laws.CopyRow
set_option linter.all false
set_option linter.unusedSimpArgs false
set_option linter.unusedVariables false
namespace Go.Proofs.YtnmkpadgogbgkaaDoor
open Go.RowKit

section
variable {P : Program} {w w' w0 : World} {G G' : Gh} {n : Nat} {H : AHeap}

theorem ObjOk.keep {g : Nat} {ob : AObj} (h : ObjOk P G w g ob) (hg : w'.heap[g]? = w.heap[g]?) (hI : ∀ o, G'.I g o = G.I g o) (hc : G'.cap g = G.cap g) (hl : G.Le G') : ObjOk P G' w' g ob := by
  cases ob with
  | cells e cs => obtain ⟨h1, vs, h2, h3, h4⟩ := h; exact ⟨fun o => by rw [hI]; exact h1 o, vs, by rw [hg]; exact h2, h3.mono hl, h4⟩
  | row e m => obtain ⟨cur, c, fz, h1, h2, hz, h3, h4, h5, h6⟩ := h; exact ⟨cur, c, fz, by rw [hc]; exact h1, by rw [hg]; exact h2, hz, h3, h4, h5, fun o ho => by rw [hI]; exact h6 o ho⟩
  | map kk es => obtain ⟨es', clock, h1, h2, h3⟩ := h; exact ⟨es', clock, by rw [hg]; exact h1, h2.mono hl, h3⟩
theorem Rel0.fresh (h : Rel0 P w0 G n H w) (o : Nat) : G.I w.heap.size o = none := by
  cases hc : G.I w.heap.size o with
  | none => rfl
  | some v => have := World.block_lt_of_cell? w _ (h.seal_ _ _ _ hc); simp at this
theorem Rel0.freshCap (h : Rel0 P w0 G n H w) : G.cap w.heap.size = none := by
  cases hc : G.cap w.heap.size with
  | none => rfl
  | some v => obtain ⟨e, c⟩ := v; obtain ⟨cur, fz, h1, _⟩ := h.caps _ _ _ hc; have := (Array.getElem?_eq_some_iff.1 h1).1; omega
theorem Rel0.capLt (h : Rel0 P w0 G n H w) {g c : Nat} {e : TypeId} (hc : G.cap g = some (e, c)) : g < w.heap.size := by
  obtain ⟨cur, fz, h1, _⟩ := h.caps _ _ _ hc; exact (Array.getElem?_eq_some_iff.1 h1).1
/-- a block's shape stays -/
theorem caps_keep {g c : Nat} {e : TypeId} (hg : w'.heap[g]? = w.heap[g]?) (h : ∃ (cur : Array Value) (fz : Nat × Nat), w.heap[g]? = some (.cells cur e fz) ∧ cur.size = c * szP P e) : ∃ (cur : Array Value) (fz : Nat × Nat), w'.heap[g]? = some (.cells cur e fz) ∧ cur.size = c * szP P e := by rw [hg]; exact h
theorem Rel0.supp (h : Rel0 P w0 G n H w) : ∀ g, n ≤ g → H g = none := fun g hg => by
  cases hc : H g with
  | none => rfl
  | some ob => have := (h.objs g ob hc).2.1; omega

/-- what only draws -/
theorem Rel0.same (h : Rel0 P w0 G n H w) (hh : w'.heap = w.heap) (ho : w'.os = w.os) (ht : w'.tape = w.tape) (hu : w'.output = w.output) : Rel0 P w0 G n H w' := by
  have he : Ext w0 w' := ⟨by rw [ho]; exact h.ext.os, by rw [ht]; exact h.ext.tape, by rw [hu]; exact h.ext.output, by rw [hh]; exact h.ext.size, fun k hk => by rw [hh]; exact h.ext.block k hk⟩
  refine ⟨he, h.lo, by rw [hh]; exact h.hi, fun b o v hv => ?_, fun g e c hc => caps_keep (by rw [hh]) (h.caps g e c hc), h.capLo, fun g ob hob => ?_⟩
  · have := h.seal_ b o v hv; unfold World.cell? at this ⊢; rw [hh]; exact this
  · obtain ⟨h1, h2, h3⟩ := h.objs g ob hob
    exact ⟨h1, h2, h3.keep (by rw [hh]) (fun _ => rfl) rfl (Gh.Le.rfl_ G)⟩
/-- less is known -/
theorem Rel0.less {n' : Nat} {H' : AHeap} (h : Rel0 P w0 G n H w) (hlo : w0.heap.size ≤ n') (hn : n' ≤ n) (hs : ∀ g, n' ≤ g → H' g = none) (hb : SameB n' H' H) : Rel0 P w0 G n' H' w := by
  refine ⟨h.ext, hlo, Nat.le_trans hn h.hi, h.seal_, h.caps, h.capLo, fun g ob hob => ?_⟩
  have hlt : g < n' := by
    rcases Nat.lt_or_ge g n' with h1 | h1
    · exact h1
    · rw [hs g h1] at hob; cases hob
  obtain ⟨h1, _, h3⟩ := h.objs g ob (by rw [hb g hlt]; exact hob)
  exact ⟨h1, hlt, h3⟩
theorem Rel0.more {n' : Nat} (h : Rel0 P w0 G n H w) (hn : n ≤ n') (hw : n' ≤ w.heap.size) : Rel0 P w0 G n' H w :=
  ⟨h.ext, Nat.le_trans h.lo hn, hw, h.seal_, h.caps, h.capLo, fun g ob hob => by obtain ⟨h1, h2, h3⟩ := h.objs g ob hob; exact ⟨h1, by omega, h3⟩⟩

/-- a variable of the call's own -/
theorem Rel0.new (h : Rel0 P w0 G n H w) {vs : Array Value} {e : TypeId} {cs : List AV} (hr : RepL G vs.toList cs) (h1 : ∀ x ∈ cs, x.one = true) :
    Rel0 P w0 G (w.heap.size + 1) (upd H w.heap.size (some (.cells e cs))) (w.alloc (.cells vs e)) := by
  refine ⟨h.ext.alloc' _, by have := h.lo; have := h.hi; omega, by simp, fun b o v hv => ?_, fun g e' c hc => caps_keep (by first | exact heap_alloc_old w _ (h.capLt hc) | exact Go.heap_alloc_old w _ g (h.capLt hc)) (h.caps g e' c hc), h.capLo, fun g ob hob => ?_⟩
  · exact (Ext.new w _).cellAt (h.seal_ b o v hv)
  · simp only [upd] at hob
    split at hob
    · rename_i hg
      subst hg
      injection hob with hob; subst hob
      exact ⟨by have := h.lo; have := h.hi; omega, by omega, h.fresh, vs, by rw [heap_alloc_new], hr, h1⟩
    · rename_i hg
      obtain ⟨k1, k2, k3⟩ := h.objs g ob hob
      have hlt : g < w.heap.size := by have := h.hi; omega
      exact ⟨k1, by omega, k3.keep (by first | exact heap_alloc_old w _ hlt | exact Go.heap_alloc_old w _ g hlt) (fun _ => rfl) rfl (Gh.Le.rfl_ G)⟩
/-- a variable of the call's own is turned -/
theorem Rel0.setRow (h : Rel0 P w0 G n H w) {g : Nat} {vs vs' : Array Value} {e : TypeId} {cs cs' : List AV} (hg : H g = some (.cells e cs)) (hgw : w.heap[g]? = some (.cells vs e (0, 0))) (hr : RepL G vs'.toList cs') (h1 : ∀ x ∈ cs', x.one = true) (hvs : vs'.size = vs.size) :
    Rel0 P w0 G n (upd H g (some (.cells e cs'))) (w.setRow g vs') := by
  obtain ⟨k1, k2, k3⟩ := h.objs g _ hg
  have hoth : ∀ k, k ≠ g → (w.setRow g vs').heap[k]? = w.heap[k]? := fun k hk => setRow_other w g k vs' hk
  refine ⟨⟨h.ext.os, h.ext.tape, h.ext.output, by simpa using h.ext.size, fun k hk => by rw [hoth k (by omega)]; exact h.ext.block k hk⟩, h.lo, by simpa using h.hi, fun b o v hv => ?_, fun k e' c hc => ?_, h.capLo, fun k ob hob => ?_⟩
  · have hne : b ≠ g := by intro e; subst e; have h0 := k3.1 o; rw [h0] at hv; cases hv
    rw [World.cell?_of_block (hoth b hne)]; exact h.seal_ b o v hv
  · by_cases hk : k = g
    · subst hk
      obtain ⟨cur, fz, c1, c2⟩ := h.caps k e' c hc
      rw [hgw] at c1; injection c1 with c1; injection c1 with c1 c3 c4
      subst c1; subst c3
      exact ⟨vs', (0, 0), setRow_heap w _ vs vs' e _ hgw, by rw [hvs]; exact c2⟩
    · exact caps_keep (hoth k hk) (h.caps k e' c hc)
  · simp only [upd] at hob
    split at hob
    · rename_i hk; subst hk
      injection hob with hob; subst hob
      exact ⟨k1, k2, k3.1, vs', setRow_heap w _ vs vs' e _ hgw, hr, h1⟩
    · rename_i hk
      obtain ⟨j1, j2, j3⟩ := h.objs k ob hob
      exact ⟨j1, j2, j3.keep (hoth k hk) (fun _ => rfl) rfl (Gh.Le.rfl_ G)⟩

/-- cells of a block that nothing turns any more -/
def Gh.add (G : Gh) (g : Nat) (vs : List Value) (c : Option (TypeId × Nat)) : Gh :=
  { I := fun b o => if b = g then vs[o]? else G.I b o, cap := fun b => if b = g then c else G.cap b }
theorem Gh.add_le {g : Nat} {vs : List Value} {c : Option (TypeId × Nat)} (hI : ∀ o v, G.I g o = some v → vs[o]? = some v) (hc : ∀ c', G.cap g = some c' → c = some c') : G.Le (G.add g vs c) := by
  refine ⟨fun b o v hv => ?_, fun b c' hc' => ?_⟩
  · simp only [Gh.add]; split
    · rename_i hb; subst hb; exact hI o v hv
    · exact hv
  · simp only [Gh.add]; split
    · rename_i hb; subst hb; exact hc c' hc'
    · exact hc'
theorem Gh.add_sealed (g : Nat) (vs : List Value) (c : Option (TypeId × Nat)) : Sealed (G.add g vs c) g 0 vs := fun j u hu => by simp [Gh.add, hu]
theorem Rel0.addLe (h : Rel0 P w0 G n H w) (vs : List Value) (c : Option (TypeId × Nat)) : G.Le (G.add w.heap.size vs c) :=
  Gh.add_le (fun o v hv => by rw [h.fresh] at hv; cases hv) (fun c' hc' => by rw [h.freshCap] at hc'; cases hc')
/-- a new block whose first cells nothing turns any more; it may be one to append to -/
theorem Rel0.newRow (h : Rel0 P w0 G n H w) {cur : Array Value} {e : TypeId} {fz : Nat × Nat} {vs : List Value} {c : Option (TypeId × Nat)} {ob : Option AObj} (hw : w'.heap = w.heap.push (.cells cur e fz)) (ho : w'.os = w.os) (ht : w'.tape = w.tape) (hu : w'.output = w.output)
    (hv : ∀ (j : Nat) (u : Value), vs[j]? = some u → cur[j]? = some u) (hcs : ∀ e' c', c = some (e', c') → e' = e ∧ cur.size = c' * szP P e) (hob : ob = none ∨ ∃ m c', ob = some (.row e m) ∧ c = some (e, c') ∧ fz.2 ≤ m * szP P e ∧ m ≤ c' ∧ c' ≤ maxLen ∧ vs.length ≤ m * szP P e) :
    Rel0 P w0 (G.add w.heap.size vs c) (w.heap.size + 1) (upd H w.heap.size ob) w' := by
  have hnew : w'.heap[w.heap.size]? = some (.cells cur e fz) := by rw [hw]; simp
  have hold : ∀ k, k < w.heap.size → w'.heap[k]? = w.heap[k]? := fun k hk => by rw [hw, Array.getElem?_push]; simp [Nat.ne_of_lt hk]
  have hsz : w'.heap.size = w.heap.size + 1 := by rw [hw]; simp
  refine ⟨⟨ho.trans h.ext.os, ht.trans h.ext.tape, hu.trans h.ext.output, by rw [hsz]; have := h.ext.size; omega, fun k hk => by rw [hold k (by have := h.ext.size; omega)]; exact h.ext.block k hk⟩, by have := h.lo; have := h.hi; omega, by omega, fun b o v hv' => ?_, fun g e' c' hc' => ?_, fun g e' c' hc' => ?_, fun g ob' hob' => ?_⟩
  · simp only [Gh.add] at hv'
    split at hv'
    · rename_i hb; subst hb
      rw [cell_of_row w' _ o cur e fz hnew]; exact hv o v hv'
    · rw [World.cell?_of_block (hold b (by have := World.block_lt_of_cell? w _ (h.seal_ b o v hv'); simpa using this))]
      exact h.seal_ b o v hv'
  · simp only [Gh.add] at hc'
    split at hc'
    · rename_i hb; subst hb
      obtain ⟨rfl, h2⟩ := hcs e' c' hc'
      exact ⟨cur, fz, hnew, h2⟩
    · exact caps_keep (hold g (h.capLt hc')) (h.caps g e' c' hc')
  · simp only [Gh.add] at hc'
    split at hc'
    · rename_i hb; subst hb; have := h.lo; have := h.hi; omega
    · exact h.capLo g e' c' hc'
  · simp only [upd] at hob'
    split at hob'
    · rename_i hg; subst hg
      rcases hob with rfl | ⟨m, c', rfl, rfl, e2, e3, e4, e6⟩
      · cases hob'
      · injection hob' with hob'; subst hob'
        refine ⟨by have := h.lo; have := h.hi; omega, by omega, cur, c', fz, by simp [Gh.add], hnew, e2, e3, e4, (hcs e c' rfl).2, fun o ho' => ?_⟩
        simp only [Gh.add, if_true]
        exact List.getElem?_eq_none (by omega)
    · rename_i hg
      obtain ⟨k1, k2, k3⟩ := h.objs g ob' hob'
      have hlt : g < w.heap.size := by have := h.hi; omega
      exact ⟨k1, by omega, k3.keep (hold g hlt) (fun o => by simp [Gh.add, hg]) (by simp [Gh.add, hg]) (h.addLe vs c)⟩
/-- a map of the call's own -/
theorem Rel0.newMap (h : Rel0 P w0 G n H w) (kk : Option IntKind) :
    Rel0 P w0 G (w.heap.size + 1) (upd H w.heap.size (some (.map kk []))) (w.alloc (.map #[] 0)) := by
  refine ⟨h.ext.alloc' _, by have := h.lo; have := h.hi; omega, by simp, fun b o v hv => ?_, fun g e' c hc => caps_keep (by first | exact heap_alloc_old w _ (h.capLt hc) | exact Go.heap_alloc_old w _ g (h.capLt hc)) (h.caps g e' c hc), h.capLo, fun g ob hob => ?_⟩
  · exact (Ext.new w _).cellAt (h.seal_ b o v hv)
  · simp only [upd] at hob
    split at hob
    · rename_i hg
      subst hg
      injection hob with hob; subst hob
      exact ⟨by have := h.lo; have := h.hi; omega, by omega, #[], 0, by rw [heap_alloc_new], .nil, fun e he => by cases he⟩
    · rename_i hg
      obtain ⟨k1, k2, k3⟩ := h.objs g ob hob
      have hlt : g < w.heap.size := by have := h.hi; omega
      exact ⟨k1, by omega, k3.keep (by first | exact heap_alloc_old w _ hlt | exact Go.heap_alloc_old w _ g hlt) (fun _ => rfl) rfl (Gh.Le.rfl_ G)⟩
/-- a map of the call's own is turned -/
theorem Rel0.setMap (h : Rel0 P w0 G n H w) {g : Nat} {kk : Option IntKind} {es es' : List (AV × AV)} {ms : Array MapEntry} {clock : Nat} {ms0 : Array MapEntry} {clock0 : Nat} (hg : H g = some (.map kk es)) (hb0 : w.heap[g]? = some (.map ms0 clock0)) (hb : w'.heap[g]? = some (.map ms clock)) (hr : RepM G ms.toList es') (hk : ∀ e ∈ es', keyOkK kk e.1 = true)
    (hoth : ∀ k, k ≠ g → w'.heap[k]? = w.heap[k]?) (hsz : w'.heap.size = w.heap.size) (ho : w'.os = w.os) (ht : w'.tape = w.tape) (hu : w'.output = w.output) :
    Rel0 P w0 G n (upd H g (some (.map kk es'))) w' := by
  obtain ⟨k1, k2, k3⟩ := h.objs g _ hg
  refine ⟨⟨ho.trans h.ext.os, ht.trans h.ext.tape, hu.trans h.ext.output, by rw [hsz]; exact h.ext.size, fun k hk => by rw [hoth k (by omega)]; exact h.ext.block k hk⟩, h.lo, by rw [hsz]; exact h.hi, fun b o v hv => ?_, fun k e' c hc => ?_, h.capLo, fun k ob hob => ?_⟩
  · have hne : b ≠ g := by
      intro e; subst e
      have h1 := h.seal_ b o v hv
      simp [World.cell?, hb0] at h1
    rw [World.cell?_of_block (hoth b hne)]; exact h.seal_ b o v hv
  · have hne : k ≠ g := by
      intro e; subst e
      obtain ⟨cur, fz, c1, _⟩ := h.caps k e' c hc
      rw [hb0] at c1; cases c1
    exact caps_keep (hoth k hne) (h.caps k e' c hc)
  · simp only [upd] at hob
    split at hob
    · rename_i hk'; subst hk'
      injection hob with hob; subst hob
      exact ⟨k1, k2, ms, clock, hb, hr, hk⟩
    · rename_i hk'
      obtain ⟨j1, j2, j3⟩ := h.objs k ob hob
      exact ⟨j1, j2, j3.keep (hoth k hk') (fun _ => rfl) rfl (Gh.Le.rfl_ G)⟩
end
end Go.Proofs.YtnmkpadgogbgkaaDoor

/- Each operation of the program agrees with the operation on plain data: all of them, and a row of them; no condition. -/
import Derived.Test.YtnmkpadgogbgkaaDoorAmOp
import Derived.Lib.UnsafeStr
set_option linter.all false
set_option linter.unusedSimpArgs false
set_option linter.unusedVariables false
namespace Go.Proofs.YtnmkpadgogbgkaaDoor
open Go.RowKit

section
variable {P : Program} {w w' w0 : World} {G G' : Gh} {nt : Nat} {s : AS} {a : Act}

theorem K1_iff {o : Option AV} {k : AV → Prop} : K1 o k ↔ ∃ v, o = some v ∧ k v := by
  cases o <;> simp [K1]

theorem s2b_sound {o : Oper} {src dst e : TypeId} {xo : Operand} {b : ByteArray} {K : AS → Prop} {Q : Exit → Act → World → Prop} (hr : RelS P w0 nt G s a w) (hd : ∀ t, o.dst = some t → t < nt) (hop : o.op = .convert src dst xo) (hs : P.underlying src = some .string) (hdu : P.underlying dst = some (.slice e)) (he : P.underlying e = some (.int .u8))
    (hx : Rep G (a.eval xo) (.str b.data.toList)) (hb : b.size ≤ maxLen) (hk : ∀ n', s.n ≤ n' → K ⟨putO s.e o.dst (.sl 1 (b.data.toList.map fun u => .int .u8 u.toNat) .ro), n', s.H⟩) : o.wp P a w (After P w0 nt G K) Q := by
  generalize hxv : a.eval xo = xv at hx
  have hxs : xv = .string b := by
    cases hx with | str h => exact congrArg Value.string (ByteArray.ext (Array.toList_inj.1 h))
  subst hxs
  have hge := grownCap_ge w b.size 0 e
  have hcm := grownCap_le_maxLen w b.size 0 e hb
  let row : Array Value := (b.data.map fun u => Value.int .u8 u.toNat) ++ Array.replicate (grownCap w b.size 0 e - b.size) (.int .u8 0)
  have hrun : ∃ w1, (execOp a.eval o).run P w = .ok (.value (.slice (some ⟨w.heap.size, 0, none⟩) b.size (grownCap w b.size 0 e))) w1 ∧ w1.heap = w.heap.push (.cells row e (row.size, row.size + 1)) ∧ w1.os = w.os ∧ w1.tape = w.tape ∧ w1.output = w.output := by
    refine ⟨(w.drew.alloc (.cells row e)).freeze ⟨w.heap.size, row.size, none⟩ 1, ?_, ?_, rfl, rfl, rfl⟩
    · have hsh : (w.drew.alloc (.cells row e)).shape? w.heap.size = some (e, row.size) := by
        have := heap_alloc_new w.drew (.cells row e)
        simp only [World.shape?]
        rw [show w.heap.size = w.drew.heap.size from rfl, this]
      simp only [execOp, hop, convert, Sem.run_bind, run_underlying hs, run_underlying hdu, run_underlying he, hxv, Result.andThen_ok, Conv.stringToBytes, run_choose, Question.forced, Go.newRow, run_newObj, Sem.run_pure, markStringish, run_shape, Bool.false_eq_true, if_false]
      have hcap : (Question.appendCap b.size 0 e).cut (w.tape w.drawn (.appendCap b.size 0 e)) = grownCap w b.size 0 e := rfl
      simp only [hcap]
      have hsh' : World.shape? { { w with drawn := w.drawn + 1 } with heap := ({ w with drawn := w.drawn + 1 } : World).heap.push (.cells row e) } w.heap.size = some (e, row.size) := hsh
      simp only [row] at hsh' ⊢
      rw [hsh']
      rfl
    · have hsz : (w.drew.alloc (.cells row e)).heap = w.heap.push (.cells row e) := rfl
      simp only [World.freeze, Nat.one_ne_zero, if_false, hsz]
      apply Array.ext_getElem?
      intro j
      rw [Array.getElem?_modify, Array.getElem?_push, Array.getElem?_push]
      by_cases hj : w.heap.size = j
      · subst hj; simp
      · have hj2 : ¬ j = w.heap.size := fun e => hj e.symm
        simp [hj, hj2]
  obtain ⟨w1, hrun, hw1, ho1, ht1, hu1⟩ := hrun
  let vs : List Value := b.data.toList.map fun u => Value.int .u8 u.toNat
  have hvl : vs.length = b.size := by simp [vs]
  have hrel := hr.r0.newRow (w' := w1) (vs := vs) (c := none) (ob := none) hw1 ho1 ht1 hu1 (fun j u hu => by
    have hj := (List.getElem?_eq_some_iff.1 hu).1
    have hj' : j < b.data.size := by rw [hvl] at hj; exact hj
    simp only [row]
    rw [Array.getElem?_append_left (by simpa using hj')]
    simpa [vs] using hu) (fun e' c' hc => by cases hc) (.inl rfl)
  have hle := hr.r0.addLe vs none
  have hH : upd s.H w.heap.size none = s.H := by
    funext k; simp only [upd]; split
    · rename_i hk'; subst hk'; exact (hr.r0.supp _ hr.r0.hi).symm
    · rfl
  rw [hH] at hrel
  refine wp_value hrun ⟨_, _, hk (w.heap.size + 1) (by have := hr.r0.hi; omega), hle, hr.put hd hle hrel ?_⟩
  have hflat : ∀ l : List UInt8, flatA (l.map fun u => AV.int .u8 u.toNat) = l.map fun u => AV.int .u8 u.toNat := fun l => by
    induction l with
    | nil => rfl
    | cons x l ih => simp only [List.map_cons, flatA, List.flatMap_cons, AV.cells, List.singleton_append] at ih ⊢; rw [ih]
  refine .slro (vs := vs) ?_ (Gh.add_sealed _ _ _) ⟨?_, hcm, by omega, ?_, ?_⟩ ?_
  · rw [hflat]
    refine RepL.of (by simp [vs]) fun i v x h1 h2 => ?_
    simp only [vs, List.getElem?_map] at h1 h2
    cases hl : b.data.toList[i]? with
    | none => rw [hl] at h1; cases h1
    | some u => rw [hl] at h1 h2; injection h1 with h1; injection h2 with h2; subst h1; subst h2; exact .int
  · simpa using hge
  · intro x hx; obtain ⟨u, _, rfl⟩ := List.mem_map.1 hx; rfl
  · intro x hx; rw [hflat] at hx; obtain ⟨u, _, rfl⟩ := List.mem_map.1 hx; rfl
  · simp
theorem freeze_heap (g k : Nat) (hk : k ≠ 0) : (∀ j, j ≠ g → (w.freeze ⟨g, 0, none⟩ k).heap[j]? = w.heap[j]?) ∧ (w.freeze ⟨g, 0, none⟩ k).heap.size = w.heap.size ∧ ∀ cur e fz, w.heap[g]? = some (.cells cur e fz) → ∃ fz' : Nat × Nat, (w.freeze ⟨g, 0, none⟩ k).heap[g]? = some (.cells cur e fz') ∧ fz'.2 ≤ max fz.2 k := by
  simp only [World.freeze, hk, if_false]
  refine ⟨fun j hj => by rw [Array.getElem?_modify, if_neg (fun e => hj e.symm)], by simp, fun cur e fz hg => ?_⟩
  obtain ⟨lo, hi⟩ := fz
  rw [Array.getElem?_modify, if_pos rfl, hg]
  refine ⟨_, rfl, ?_⟩
  simp only
  split <;> simp <;> omega
theorem freeze_at (g off k : Nat) (hk : k ≠ 0) : (∀ j, j ≠ g → (w.freeze ⟨g, off, none⟩ k).heap[j]? = w.heap[j]?) ∧ (w.freeze ⟨g, off, none⟩ k).heap.size = w.heap.size ∧ ∀ cur e fz, w.heap[g]? = some (.cells cur e fz) → ∃ fz', (w.freeze ⟨g, off, none⟩ k).heap[g]? = some (.cells cur e fz') := by
  simp only [World.freeze, hk, if_false]
  refine ⟨fun j hj => by rw [Array.getElem?_modify, if_neg (fun e => hj e.symm)], by simp, fun cur e fz hg => ?_⟩
  obtain ⟨lo, hi⟩ := fz
  rw [Array.getElem?_modify, if_pos rfl, hg]
  exact ⟨_, rfl⟩
/-- a slice of bytes, converted to its own type: it may be appended to no more -/
theorem s2s_sound {o : Oper} {src dst e e2 : TypeId} {xo : Operand} {sz g : Nat} {l : List AV} {K : AS → Prop} {Q : Exit → Act → World → Prop} (hr : RelS P w0 nt G s a w) (hd : ∀ t, o.dst = some t → t < nt) (hop : o.op = .convert src dst xo) (hs : P.underlying src = some (.slice e)) (hdu : P.underlying dst = some (.slice e2)) (he : P.underlying e = some (.int .u8)) (hsd : src = dst)
    (hx : Rep G (a.eval xo) (.sl sz l (.own g))) (hl : l ≠ []) (hk : K ⟨putO s.e o.dst (.sl sz l .ro), s.n, upd s.H g none⟩) : o.wp P a w (After P w0 nt G K) Q := by
  subst hsd
  rw [hs] at hdu
  injection hdu with hdu
  injection hdu with hdu
  subst hdu
  have hro := hx.toRo
  generalize hxv : a.eval xo = xv at hx hro
  cases hx with
  | @slown _ vs _ _ c n ee hrl hsl ho hn hcap =>
    obtain ⟨cur, fz, hcur, hcsz⟩ := hr.r0.caps g _ c hcap
    have hlo := hr.r0.capLo g _ c hcap
    have hsh : w.shape? g = some (ee, cur.size) := by simp [World.shape?, hcur]
    obtain ⟨f1, f2, f3⟩ := freeze_at (w := w) g cur.size 1 (by simp)
    have hrun : (execOp a.eval o).run P w = .ok (.value (.slice (some ⟨g, 0, none⟩) n c)) (w.freeze ⟨g, cur.size, none⟩ 1) := by
      simp only [execOp, hop, convert, Sem.run_bind, run_underlying hs, run_underlying he, hxv, Result.andThen_ok, markStringish, run_shape, hsh, run_freeze, Sem.run_pure, beq_self_eq_true]
    have hcell : ∀ b oo, (w.freeze ⟨g, cur.size, none⟩ 1).cell? ⟨b, oo, none⟩ = w.cell? ⟨b, oo, none⟩ := by
      intro b oo
      by_cases hb : b = g
      · subst hb
        obtain ⟨fz', h1⟩ := f3 cur _ fz hcur
        rw [cell_of_row _ _ oo cur _ fz' h1, cell_of_row w _ oo cur _ fz hcur]
      · exact World.cell?_of_block (f1 b hb)
    have h0 : Rel0 P w0 G s.n (upd s.H g none) (w.freeze ⟨g, cur.size, none⟩ 1) := by
      refine ⟨⟨hr.r0.ext.os, hr.r0.ext.tape, hr.r0.ext.output, by rw [f2]; exact hr.r0.ext.size, fun k hk => by rw [f1 k (by omega)]; exact hr.r0.ext.block k hk⟩, hr.r0.lo, by rw [f2]; exact hr.r0.hi, fun b oo v hv => by rw [hcell]; exact hr.r0.seal_ b oo v hv, fun k e3 c3 hc3 => ?_, hr.r0.capLo, fun k ob hob => ?_⟩
      · by_cases hk : k = g
        · subst hk
          obtain ⟨cur2, fz2, h1, h2⟩ := hr.r0.caps k e3 c3 hc3
          obtain ⟨fz', h3⟩ := f3 cur2 e3 fz2 h1
          exact ⟨cur2, fz', h3, h2⟩
        · exact caps_keep (f1 k hk) (hr.r0.caps k e3 c3 hc3)
      · by_cases hk : k = g
        · subst hk; rw [xz3q] at hob; cases hob
        · rw [upd_ne hk] at hob
          obtain ⟨j1, j2, j3⟩ := hr.r0.objs k ob hob
          exact ⟨j1, j2, j3.keep (f1 k hk) (fun _ => rfl) rfl (Gh.Le.rfl_ G)⟩
    exact wp_value hrun ⟨G, _, hk, Gh.Le.rfl_ G, hr.put hd (Gh.Le.rfl_ G) h0 hro⟩
theorem u8ok_map (bs : List UInt8) : (bs.map fun u => AV.int .u8 u.toNat).all u8ok = true := by
  rw [List.all_eq_true]
  intro x hx
  obtain ⟨u, _, rfl⟩ := List.mem_map.1 hx
  have := u.toNat_lt
  simp [u8ok]; omega
theorem u8_of_ok {n : Int} (h : u8ok (.int .u8 n) = true) : n = ((UInt8.ofNat n.toNat).toNat : Int) := by
  simp [u8ok] at h
  simp [UInt8.toNat_ofNat']
  omega
theorem flatA_bytes : ∀ {l : List AV} {bs : List UInt8}, bytesOf l = some bs → flatA l = l
  | [], _, _ => rfl
  | y :: l, bs, h => by
    cases y <;> try (simp [bytesOf] at h; done)
    rename_i k n
    cases k <;> try (simp [bytesOf] at h; done)
    simp only [bytesOf] at h
    obtain ⟨bs', h1, h2⟩ := Option.map_eq_some_iff.1 h
    have ih := flatA_bytes h1
    simp only [flatA, List.flatMap_cons, AV.cells, List.singleton_append] at ih ⊢
    rw [ih]
theorem RepL.at2 {G : Gh} {vs : List Value} {xs : List AV} (h : RepL G vs xs) {i : Nat} {v : Value} (hv : vs[i]? = some v) : ∃ x, xs[i]? = some x ∧ Rep G v x := by
  have hl := (List.getElem?_eq_some_iff.1 hv).1
  rw [h.len] at hl
  have hx : xs[i]? = some xs[i] := List.getElem?_eq_getElem hl
  obtain ⟨u, hu, hr⟩ := h.at hx
  rw [hv] at hu; injection hu with hu; subst hu
  exact ⟨_, hx, hr⟩
theorem ust_sound {o : Oper} {e t ty2 : TypeId} {vx vn : Value} {x n : AV} {v : AV} (hr : RelS P w0 nt G s a w) (ht : P.underlying t = some (.pointer e)) (hc1 : P.cellsOf e = 1) (hx : Rep G vx x) (hn : Rep G vn n) (h : ustAV e x n = some v) (hown : ∀ g e c, G.cap g = some (e, c) → w0.heap.size ≤ g) :
    ∃ v' w', (Builtin.unsafeString_ #[t, ty2] o.type #[vx, vn]).run P w = .ok v' w' ∧ Rep G v' v ∧ Rel0 P w0 G s.n s.H w' := by
  unfold ustAV at h
  split at h
  · rename_i e' l nn
    split at h
    · rename_i hcond
      obtain ⟨rfl, rfl, hlen, hok⟩ := hcond
      obtain ⟨bs, hb1, hb2⟩ := Option.map_eq_some_iff.1 h
      subst hb2
      cases hn
      have hneg : ¬ ((l.length : Int) < 0) := by omega
      have hmx : ¬ ((l.length : Int) > IntKind.i64.max) := by simp [IntKind.max, IntKind.bits, IntKind.signed]; unfold bigLen at hlen; omega
      by_cases hl : l = []
      · subst hl
        simp [bytesOf] at hb1; subst hb1
        have hp : ∃ A, vx = .pointer A := by cases hx <;> exact ⟨_, rfl⟩
        obtain ⟨A, rfl⟩ := hp
        refine ⟨.string .empty, w, ?_, .str rfl, hr.r0⟩
        exact Lib.run_unsafeString_none w _ _ _ A
      · cases hx with
        | dat0 => exact absurd rfl hl
        | @dat g vs _ _ c hrl hs hcap =>
          obtain ⟨ns, e1, e2⟩ := bytesOf_rep hb1 hrl
          have hvl : vs.length = l.length := by rw [hrl.len, flatA_len (bytesOf_cells hb1), Nat.mul_one]
          obtain ⟨cur, fz, hcur, hcsz⟩ := hr.r0.caps g _ c hcap
          have hpos : 0 < l.length := List.length_pos_iff.2 hl
          have hin : l.length ≤ cur.size := by
            obtain ⟨u, hu⟩ : ∃ u, vs[l.length - 1]? = some u := ⟨_, List.getElem?_eq_getElem (by omega)⟩
            have h1 := hr.r0.seal_ _ _ _ (hs _ u hu)
            rw [Nat.zero_add, cell_of_row w g _ cur _ fz hcur] at h1
            have := (Array.getElem?_eq_some_iff.1 h1).1
            omega
          have hnl : ns.length = l.length := by rw [← hvl, e1]; simp
          have hbl : bs.length = l.length := by rw [e2, List.length_map, hnl]
          have hfl : flatA l = l := flatA_bytes hb1
          have hus := Lib.run_unsafeString_row w t ty2 o.type e' ht hc1 g cur.size (by simp [World.shape?, hcur]) bs (by intro h0; rw [h0] at hbl; simp at hbl; omega) (by omega) (by unfold bigLen at hlen; omega) (fun j x hx => by
            rw [addr_add]
            rw [e2, List.getElem?_map, Option.map_eq_some_iff] at hx
            obtain ⟨n, hn1, rfl⟩ := hx
            have hv : vs[j]? = some (.int .u8 n) := by rw [e1]; simp [hn1]
            obtain ⟨y, hy1, hy2⟩ := hrl.at2 hv
            rw [hfl] at hy1
            have hyo := List.all_eq_true.1 hok y (List.mem_of_getElem? hy1)
            cases hy2 with
            | any => simp [u8ok] at hyo
            | int => rw [← u8_of_ok hyo]; exact hr.r0.seal_ _ _ _ (hs j _ hv))
          rw [hbl] at hus
          have hne : ¬ ((l.length : Int) = 0) := by omega
          have hne' : ¬ l.length = 0 := by omega
          obtain ⟨f1, f2, f3⟩ := freeze_heap (w := w) g l.length hne'
          refine ⟨.string ⟨bs.toArray⟩, w.freeze ⟨g, 0, none⟩ l.length, ?_, .str (by simp), ?_⟩
          · exact hus
          · have hcell : ∀ b oo, (w.freeze ⟨g, 0, none⟩ l.length).cell? ⟨b, oo, none⟩ = w.cell? ⟨b, oo, none⟩ := by
              intro b oo
              by_cases hb : b = g
              · subst hb
                obtain ⟨fz', h1, _⟩ := f3 cur _ fz hcur
                rw [cell_of_row _ _ oo cur _ fz' h1, cell_of_row w _ oo cur _ fz hcur]
              · exact World.cell?_of_block (f1 b hb)
            have hI : ∀ o, l.length ≤ o + 1 → o < l.length → ∃ v, G.I g o = some v := fun o _ ho => by
              obtain ⟨u, hu⟩ : ∃ u, vs[o]? = some u := ⟨_, List.getElem?_eq_getElem (by omega)⟩
              exact ⟨u, by have := hs o u hu; rwa [Nat.zero_add] at this⟩
            obtain ⟨v1, hv1⟩ := hI (l.length - 1) (by omega) (by omega)
            have hgw0 : w0.heap.size ≤ g := hown g e' c hcap
            refine ⟨Lib.below_freeze hr.r0.ext hgw0 _, hr.r0.lo, by rw [f2]; exact hr.r0.hi, fun b oo v hv => by rw [hcell]; exact hr.r0.seal_ b oo v hv, fun k e2 c2 hc2 => ?_, hr.r0.capLo, fun k ob hob => ?_⟩
            · by_cases hk : k = g
              · subst hk
                obtain ⟨cur2, fz2, h1, h2⟩ := hr.r0.caps k e2 c2 hc2
                obtain ⟨fz', h3, _⟩ := f3 cur2 e2 fz2 h1
                exact ⟨cur2, fz', h3, h2⟩
              · exact caps_keep (f1 k hk) (hr.r0.caps k e2 c2 hc2)
            · obtain ⟨j1, j2, j3⟩ := hr.r0.objs k ob hob
              by_cases hk : k = g
              · subst hk
                refine ⟨j1, j2, ?_⟩
                cases ob with
                | cells e2 cs => have := j3.1 (l.length - 1); rw [this] at hv1; cases hv1
                | row e2 m =>
                  obtain ⟨cur2, c2, fz2, q1, q2, q3, q4, q5, q6, q7⟩ := j3
                  obtain ⟨fz', h3, h4⟩ := f3 cur2 e2 fz2 q2
                  refine ⟨cur2, c2, fz', q1, h3, ?_, q4, q5, q6, q7⟩
                  have hlt : l.length - 1 < m * szP P e2 := by
                    rcases Nat.lt_or_ge (l.length - 1) (m * szP P e2) with h | h
                    · exact h
                    · rw [q7 _ h] at hv1; cases hv1
                  omega
                | map kk es => obtain ⟨es', clock, m1, _⟩ := j3; rw [hcur] at m1; cases m1
              · exact ⟨j1, j2, j3.keep (f1 k hk) (fun _ => rfl) rfl (Gh.Le.rfl_ G)⟩
    · cases h
  · cases h
theorem mkmap_sound {o : Oper} {t : TypeId} {kk : Option IntKind} {K : AS → Prop} {Q : Exit → Act → World → Prop} (hr : RelS P w0 nt G s a w) (hd : ∀ t, o.dst = some t → t < nt) (hop : o.op = .makeMap t none)
    (hk : ∀ g, s.n ≤ g → K ⟨putO s.e o.dst (.mp g), g + 1, upd s.H g (some (.map kk []))⟩) : o.wp P a w (After P w0 nt G K) Q := by
  have hrun : (execOp a.eval o).run P w = .ok (.value (.map (some w.heap.size))) (w.alloc (.map #[] 0)) := by
    simp [execOp, hop, Instr.makeMap]
  exact wp_value hrun ⟨G, _, hk w.heap.size hr.r0.hi, Gh.Le.rfl_ G, hr.put hd (Gh.Le.rfl_ G) (hr.r0.newMap kk) .mp⟩
theorem msetL_keys {kk : Option IntKind} {k v : AV} (hk : keyOkK kk k = true) : ∀ {es : List (AV × AV)}, (∀ e ∈ es, keyOkK kk e.1 = true) → ∀ e ∈ msetL k v es, keyOkK kk e.1 = true
  | [], _, e, he => by simp [msetL] at he; subst he; exact hk
  | x :: es, h, e, he => by
    simp only [msetL] at he
    split at he
    · rcases List.mem_cons.1 he with he | he
      · subst he; exact hk
      · exact h e (List.mem_cons_of_mem _ he)
    · rcases List.mem_cons.1 he with he | he
      · rw [he]; exact h x List.mem_cons_self
      · exact msetL_keys hk (fun e he => h e (List.mem_cons_of_mem _ he)) e he
theorem mset_sound {o : Oper} {mt kt et : TypeId} {kk : Option IntKind} {mo ko vo : Operand} {m k v : AV} {K : AS → Prop} {Q : Exit → Act → World → Prop} (hr : RelS P w0 nt G s a w) (hd : ∀ t, o.dst = some t → t < nt) (hop : o.op = .mapUpdate mt mo ko vo ∨ o.op = .insert mt mo ko vo)
    (hm : P.underlying mt = some (.map kt et)) (hkk : mkind P kt = some kk) (hmr : Rep G (a.eval mo) m) (hkr : Rep G (a.eval ko) k) (hvr : Rep G (a.eval vo) v)
    (h : msetS kk o.dst K s k v m) : o.wp P a w (After P w0 nt G K) Q := by
  have hku := mkind_out hkk
  unfold msetS at h
  split at h
  · rename_i g
    split at h
    · rename_i kk' es hH
      obtain ⟨rfl, hko, hk⟩ := h
      obtain ⟨j1, j2, es', clock, hb, hrep, hall⟩ := hr.r0.objs g _ hH
      generalize hmv : a.eval mo = mv at hmr
      cases hmr
      obtain ⟨ms, clock', w1, e1, e2, e3, e4, e5, e6, e7, e8⟩ := run_mapUpdate_rep (t := kdesc kk') hm hku hkr (keyOk_of hko) hvr hb hrep (fun e he => keyOk_of (hall e he))
      have hrun : (execOp a.eval o).run P w = .ok .skip w1 := by
        rcases hop with hop | hop <;> simp only [execOp, hop, hmv, Sem.run_bind, e1, Result.andThen_ok, Sem.run_pure]
      exact wp_skip' hrun ⟨G, _, hk, Gh.Le.rfl_ G, hr.put hd (Gh.Le.rfl_ G) (hr.r0.setMap hH hb e2 e3 (msetL_keys hko hall) e4 e5 e6 e7 e8) .any⟩
    · exact h.elim
  · exact h.elim
theorem append_sound {o : Oper} {c : Call} {b : Builtin} {op : AOp} {K : AS → Prop} {Q : Exit → Act → World → Prop} (hr : RelS P w0 nt G s a w) (hd : ∀ t, o.dst = some t → t < nt) (hop : o.op = .call c) (hcal : c.callee = .builtin b) (hc : cBuiltin P b c.args.toList c.argTypes.toList = some op) (hef : ¬ op.eff = false) (h : awOp P o.dst op K s) :
    o.wp P a w (After P w0 nt G K) Q := by
  have ht := hr.tm
  have hargs : c.args.map a.eval = (c.args.toList.map a.eval).toArray := by rw [← Array.toList_map]
  have htys : c.argTypes = c.argTypes.toList.toArray := by simp
  have hrun : (execOp a.eval o) = builtin b c.argTypes.toList.toArray o.type (c.args.map fun | .const _ => true | _ => false) (c.args.toList.map a.eval).toArray := by
    simp only [execOp, hop, resolve, hcal, hargs, invoke]
    rw [← htys]
    rfl
  generalize c.args.toList = al at hc hrun
  generalize c.argTypes.toList = tl at hc hrun
  unfold cBuiltin at hc
  split at hc
  · split at hc <;> first | (injection hc with hc; subst hc; exact absurd rfl hef) | cases hc
  · rename_i x y t u
    split at hc
    · rename_i e x' y' hu hx hy
      split at hc
      · rename_i i hi
        split at hc
        · rename_i hcond
          obtain ⟨hpos, hzz⟩ := hcond
          obtain ⟨zv, hz, hzs⟩ := Option.map_eq_some_iff.1 hzz
          have hyr := opd_rep (G := G) (a := a) (e := s.e) hy ht
          split at hc
          · rename_i hut
            subst hut
            injection hc with hc; subst hc
            simp only [awOp] at h
            unfold appKS at h
            split at h
            · rename_i z m tk hey
              obtain ⟨hz0, m', hsm, h⟩ := h
              rw [hey] at hyr
              have hyr : Rep G (a.eval y) (.sl i.size m' .ro) := hyr.sim ⟨i.size, m', .ro, rfl, .inl rfl, hz0.imp (fun e => e.symm) (fun e => ⟨e, rfl⟩), hsm⟩
              obtain ⟨news, s1, s2, s3, s4⟩ := src_slice hu hr.r0 hyr
              obtain ⟨v', w1, G1, r, n1, H1, e1, e2, e3, e4, e5⟩ := app_sound (ty := o.type) hu hi hz hzs hpos hr.r0 (opd_rep hx ht) s1 s2 s3 s4 h
              refine wp_value (w' := w1) (v := v') ?_ ⟨G1, _, e2, e3, hr.put hd e3 e5 e4⟩
              rw [hrun]
              simp only [builtin, List.map_cons, List.map_nil, Sem.run_bind, e1, Result.andThen_ok, Sem.run_pure]
            · exact h.elim
          · split at hc
            · rename_i hcs
              obtain ⟨hstr, hs1⟩ := hcs
              injection hc with hc; subst hc
              have hus : P.underlying u = some .string := by
                unfold isStr at hstr
                split at hstr
                · assumption
                · cases hstr
              simp only [awOp] at h
              unfold appKB at h
              split at h
              · rename_i b hey
                rw [hey] at hyr
                obtain ⟨b, rfl, hyv⟩ : ∃ b' : ByteArray, b = b'.data.toList ∧ a.eval y = .string b' := by
                  generalize a.eval y = v at hyr; cases hyr with | str h => exact ⟨_, h.symm, rfl⟩
                obtain ⟨news, s1, s2, s3, s4⟩ := src_string (P := P) (w := w) (G := G) (s := b) hus
                rw [← hs1] at s1 s3 h
                obtain ⟨v', w1, G1, r, n1, H1, e1, e2, e3, e4, e5⟩ := app_sound (ty := o.type) hu hi hz hzs hpos hr.r0 (opd_rep hx ht) s1 s2 s3 s4 h
                refine wp_value (w' := w1) (v := v') ?_ ⟨G1, _, e2, e3, hr.put hd e3 e5 e4⟩
                rw [hrun]
                simp only [builtin, List.map_cons, List.map_nil, Sem.run_bind, hyv, e1, Result.andThen_ok, Sem.run_pure]
              · exact h.elim
            · cases hc
        · cases hc
      · cases hc
    · cases hc
  · split at hc <;> first | (injection hc with hc; subst hc; exact absurd rfl hef) | cases hc
  · rename_i x n t u
    split at hc
    · rename_i el x' n' hu hx hn
      split at hc
      · rename_i hcond
        injection hc with hc; subst hc
        simp only [awOp, K1_iff] at h
        obtain ⟨v, hv, hk⟩ := h
        obtain ⟨v', w1, e1, e2, e3⟩ := ust_sound (o := o) (ty2 := u) hr hu hcond.1 (opd_rep hx ht) (opd_rep hn ht) hv hr.r0.capLo
        refine wp_value (w' := w1) (v := v') ?_ ⟨G, _, hk, Gh.Le.rfl_ G, hr.put hd (Gh.Le.rfl_ G) e3 e2⟩
        rw [hrun]
        simp only [builtin, List.map_cons, List.map_nil, Sem.run_bind, e1, Result.andThen_ok, Sem.run_pure]
      · cases hc
    · cases hc
  · split at hc <;> first | (injection hc with hc; subst hc; exact absurd rfl hef) | cases hc
  · split at hc <;> first | (injection hc with hc; subst hc; exact absurd rfl hef) | cases hc
  · cases hc

theorem op_sound {o : Oper} {op : AOp} {ef : List Nat} {K : AS → Prop} {Q : Exit → Act → World → Prop} (hc : cOp P ef o.op = some op) (hd : ∀ t, o.dst = some t → t < nt) (hr : RelS P w0 nt G s a w) (h : awOp P o.dst op K s) :
    o.wp P a w (After P w0 nt G K) Q := by
  by_cases hef : op.eff = false
  · rw [awOp_pure hef] at h
    unfold K1 at h
    split at h
    · rename_i v hv
      obtain ⟨v', h1, h2⟩ := pe_sound hc hv hr
      exact wp_value h1 ⟨G, _, h, Gh.Le.rfl_ G, hr.put hd (Gh.Le.rfl_ G) hr.r0 h2⟩
    · exact h.elim
  · have ht := hr.tm
    have hc0 := hc
    unfold cOp at hc
    split at hc
    case h_4 => -- alloc
      rename_i e hop
      split at hc
      · rename_i z hz
        injection hc with hc; subst hc
        obtain ⟨i, zv, hi, hzv, hrz, h1⟩ := zeroOf_out (G := G) hz
        obtain ⟨ho, hk⟩ := h
        exact box_sound hr hd rfl hrz h1 (by simp [execOp, hop, Instr.alloc, zeroValue, typeInfo, hi, hzv, newVar, Go.newRow]) hk
      · cases hc
    case h_5 => -- box
      rename_i e x hop
      split at hc
      · rename_i sh x' hsh hx
        injection hc with hc; subst hc
        obtain ⟨hf, ho, hk⟩ := h
        have hxr := opd_rep (G := G) (a := a) (e := s.e) hx ht
        exact box_sound hr hd rfl (hxr.cells ho) ho (by simp [execOp, hop, Instr.box, newVar, Go.newRow]) hk
      · cases hc
    case h_7 => -- buildSlice
      rename_i t len ps hop
      split at hc
      · rename_i e hu
        split at hc
        · rename_i sh xs hsh hxs
          split at hc
          · rename_i hcond
            injection hc with hc; subst hc
            obtain ⟨h1, hk⟩ := h
            exact bsl_sound hr hd hop hu hsh hxs hcond.1 hcond.2.1 hcond.2.2 h1 hk
          · cases hc
        · cases hc
      · cases hc
    case h_9 => -- store
      rename_i t xo vo hop
      split at hc
      · rename_i sh x' v' hsh hx hv
        injection hc with hc; subst hc
        exact store_sound hr hd hop hsh (opd_rep hx ht) (opd_rep hv ht) h
      · cases hc
    case h_14 => -- convert
      rename_i src dst x hop
      split at hc
      · injection hc with hc; subst hc; exact absurd rfl hef
      · injection hc with hc; subst hc; exact absurd rfl hef
      · split at hc
        · injection hc with hc; subst hc; exact absurd rfl hef
        · cases hc
      · split at hc
        · injection hc with hc; subst hc; exact absurd rfl hef
        · cases hc
      · rename_i x' u hx hs hdu
        split at hc
        · rename_i hinf
          injection hc with hc; subst hc
          simp only [awOp, K1_iff] at h
          obtain ⟨v, hv, hk⟩ := h
          obtain ⟨v', h1, h2⟩ := run_updn_rep hr.r0 hs hdu hinf.1 hinf.2 (opd_rep hx ht) hv
          exact wp_value (v := v') (by simp only [execOp, hop, Sem.run_bind, h1, Result.andThen_ok, Sem.run_pure]) ⟨G, _, hk, Gh.Le.rfl_ G, hr.put hd (Gh.Le.rfl_ G) hr.r0 h2⟩
        · cases hc
      · rename_i x' e hx hs hdu
        split at hc
        · rename_i he
          injection hc with hc; subst hc
          simp only [awOp] at h
          have hxr := opd_rep (G := G) (a := a) (e := s.e) hx ht
          split at h
          · rename_i b hb
            rw [hb] at hxr
            have hb' : b = (⟨b.toArray⟩ : ByteArray).data.toList := by simp
            rw [hb'] at hxr
            exact s2b_sound hr hd hop hs hdu he hxr h.1 (fun n' hn => by simpa using h.2 n' hn)
          · exact h.elim
        · cases hc
      · rename_i x' e _ hx hs hdu
        split at hc
        · rename_i he
          split at hc
          · rename_i hsd
            injection hc with hc; subst hc
            simp only [awOp] at h
            have hxr := opd_rep (G := G) (a := a) (e := s.e) hx ht
            split at h
            · rename_i sz l g hb
              rw [hb] at hxr
              exact s2s_sound hr hd hop hs hdu he hsd hxr h.1 h.2
            · exact h.elim
          · cases hc
        · cases hc
      · cases hc
    case h_15 => -- makeMap
      rename_i t hop
      split at hc
      · obtain ⟨kk, _, rfl⟩ := Option.map_eq_some_iff.1 hc
        exact mkmap_sound hr hd hop h
      · cases hc
    case h_17 => -- mapUpdate
      rename_i t m k x hop
      split at hc
      · rename_i kt el m' k' x' hm hm' hk' hx'
        obtain ⟨kk, hkk, rfl⟩ := Option.map_eq_some_iff.1 hc
        exact mset_sound hr hd (.inl hop) hm hkk (opd_rep hm' ht) (opd_rep hk' ht) (opd_rep hx' ht) h
      · cases hc
    case h_18 => -- insert
      rename_i t m k x hop
      split at hc
      · rename_i kt el m' k' x' hm hm' hk' hx'
        obtain ⟨kk, hkk, rfl⟩ := Option.map_eq_some_iff.1 hc
        exact mset_sound hr hd (.inr hop) hm hkk (opd_rep hm' ht) (opd_rep hk' ht) (opd_rep hx' ht) h
      · cases hc
    case h_26 => -- call
      rename_i c hop
      unfold cCall at hc
      split at hc
      · rename_i f hcal
        split at hc
        · rename_i xs hxs
          split at hc
          · rename_i fn hfn
            split at hc
            · rename_i hb
              injection hc with hc
              have hrep := opds_rep (G := G) (a := a) (e := s.e) hxs ht
              have hrun : (execOp a.eval o).run P w = .ok (.enter f (c.args.toList.map a.eval).toArray) w := by
                simp only [execOp, hop, resolve, hcal, Act.eval, Deferred.ofValue, Sem.run_bind, Sem.run_pure, Result.andThen_ok, invoke]
                rw [callFunc_run hfn hb, ← Array.toList_map]
                simp only [Array.toArray_toList, Array.append_empty, Array.empty_append]
              split at hc
              · subst hc; exact call_wp hr hd hrep hrun h
              · subst hc; exact call_wp hr hd hrep hrun h.toK
            · split at hc
              · split at hc
                · injection hc with hc; subst hc; exact absurd rfl hef
                · cases hc
              · cases hc
          · cases hc
        · cases hc
      · rename_i t hcal
        split at hc
        · rename_i xs hxs
          injection hc with hc; subst hc
          simp only [awOp] at h
          split at h
          · rename_i f fst cap hev
            have hrep := opds_rep (G := G) (a := a) (e := s.e) hxs ht
            have hfr := ht t
            simp only [ev] at hev
            rw [hev] at hfr
            obtain ⟨hcb, h⟩ := h
            unfold callable at hcb
            split at hcb
            · rename_i fn hfn
              generalize hfv : a.tmps.getD t undef = fv at hfr
              cases hfr with
              | fn h1 h2 =>
                rename_i va vb
                have hrep' := (h1.append hrep).append h2
                refine call_wp hr hd hrep' ?_ h
                simp only [execOp, hop, resolve, hcal, Act.eval, hfv, Deferred.ofValue, Sem.run_bind, Sem.run_pure, Result.andThen_ok, invoke]
                rw [callFunc_run hfn hcb]
                congr 2
                rw [← Array.toList_map]
                simp
            · cases hcb
          · exact h.elim
        · cases hc
      · rename_i b hcal
        exact append_sound hr hd hop hcal hc hef h
      · cases hc
    all_goals (repeat' (first | (injection hc with hc; subst hc; exact absurd rfl hef) | (obtain ⟨_, _, rfl⟩ := Option.map_eq_some_iff.1 hc; exact absurd rfl hef) | (cases hc; done) | split at hc | (unfold cPtrEq at hc; split at hc)))
end
end Go.Proofs.YtnmkpadgogbgkaaDoor

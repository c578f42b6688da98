/- Each operation of the program agrees with the operation on plain data; no condition. -/
import Derived.Test.YtnmkpadgogbgkaaDoorAmApp
import Derived.Orders
set_option linter.all false
set_option linter.unusedSimpArgs false
set_option linter.unusedVariables false
namespace Go.Proofs.YtnmkpadgogbgkaaDoor
open Go.RowKit

theorem get_put (e : AEnv) (t : Nat) (v : AV) (k : Nat) : get (put e t v) k = if k = t then v else get e k := by
  induction e with
  | nil =>
    simp only [put, get]
    split
    · rename_i h; subst h; simp
    · rename_i h; rw [if_neg (fun e => h e.symm)]
  | cons p r ih =>
    obtain ⟨k', u⟩ := p
    simp only [put]
    split
    · rename_i h; subst h
      simp only [get]
      by_cases hk : k = k'
      · subst hk; simp
      · have hk2 : ¬ k' = k := fun e => hk e.symm
        simp [hk, hk2]
    · rename_i h
      simp only [get, ih]
      by_cases hk : k' = k
      · subst hk; simp [h]
      · simp [hk]
theorem get_keep (e : AEnv) (ks : List Nat) (k : Nat) : get (keepE e ks) k = .any ∨ get (keepE e ks) k = get e k := by
  induction ks with
  | nil => left; rfl
  | cons a ks ih =>
    simp only [keepE, List.map_cons, get]
    split
    · rename_i h; subst h; right; rfl
    · exact ih

def AOp.eff : AOp → Bool
  | .alloc _ _ | .box _ _ _ | .store _ _ _ | .bsl _ _ _ | .app _ _ _ _ _ | .appB _ _ _ _ | .s2b _ _ | .s2s _ | .mkmap _ | .mset _ _ _ _ | .call _ _ | .callp _ _ | .callv _ _ | .updn _ _ | .ust _ _ _ => true
  | _ => false

section
variable {P : Program} {w w' w0 : World} {G G' : Gh} {nt : Nat} {s : AS} {a : Act}

theorem awOp_pure {d : Option Nat} {op : AOp} {K : AS → Prop} (h : op.eff = false) : awOp P d op K s = K1 (pe op s.e s.H) fun v => K ⟨putO s.e d v, s.n, s.H⟩ := by
  cases op <;> first | rfl | cases h

/-- behind an operation -/
def After (P : Program) (w0 : World) (nt : Nat) (G : Gh) (K : AS → Prop) (a' : Act) (w' : World) : Prop := ∃ G' s', K s' ∧ G.Le G' ∧ RelS P w0 nt G' s' a' w'

theorem RelS.put {n : Nat} {H : AHeap} {d : Option Nat} {v : Value} {x : AV} (h : RelS P w0 nt G s a w) (hd : ∀ t, d = some t → t < nt) (hl : G.Le G') (h0 : Rel0 P w0 G' n H w') (hr : Rep G' v x) : RelS P w0 nt G' ⟨putO s.e d x, n, H⟩ (a.put d v) w' := by
  refine ⟨h0, ?_, ?_, h.ld, fun t => ?_⟩
  · cases d <;> simp [Act.put, h.sz]
  · cases d <;> simp [Act.put, h.df]
  · cases d with
    | none => exact (h.tm t).mono hl
    | some k =>
      have hk : k < a.tmps.size := by rw [h.sz]; exact hd k rfl
      simp only [Act.put, putO, get_put]
      by_cases ht : t = k
      · subst ht
        rw [if_pos rfl]
        have : (a.tmps.setIfInBounds t v).getD t undef = v := by simp [Array.getD_eq_getD_getElem?, hk]
        rw [this]; exact hr
      · rw [if_neg ht]
        have : (a.tmps.setIfInBounds k v).getD t undef = a.tmps.getD t undef := by simp [Array.getD_eq_getD_getElem?, Array.getElem?_setIfInBounds_ne (fun e => ht e.symm)]
        rw [this]; exact (h.tm t).mono hl

theorem wp_value {o : Oper} {v : Value} {K : Act → World → Prop} {Q : Exit → Act → World → Prop} (h : (execOp a.eval o).run P w = .ok (.value v) w') (hk : K (a.put o.dst v) w') : o.wp P a w K Q := by
  unfold Oper.wp; rw [h]; exact hk
theorem wp_skip' {o : Oper} {K : Act → World → Prop} {Q : Exit → Act → World → Prop} (h : (execOp a.eval o).run P w = .ok .skip w') (hk : K (a.put o.dst undef) w') : o.wp P a w K Q := by
  unfold Oper.wp; rw [h]; exact hk

theorem callFunc_run {f : Nat} {fn : Func} {args : Array Value} (hf : P.funcs[f]? = some fn) (hb : (fn.body.isSome && fn.name != "runtime.NumGoroutine") = true) : (callFunc f args).run P w = .ok (.enter f args) w := by
  simp only [Bool.and_eq_true] at hb
  obtain ⟨b, hb1⟩ := Option.isSome_iff_exists.1 hb.1
  have h2 : ¬ fn.name = "runtime.NumGoroutine" := by simpa using hb.2
  simp [callFunc, hf, h2, hb1]

theorem call_wp {o : Oper} {f : Nat} {vs : List Value} {args : List AV} {K : AS → Prop} {Q : Exit → Act → World → Prop} (hr : RelS P w0 nt G s a w) (hd : ∀ t, o.dst = some t → t < nt) (hrep : RepL G vs args)
    (hrun : (execOp a.eval o).run P w = .ok (.enter f vs.toArray) w) (h : CallK P f args o.dst K s) : o.wp P a w (After P w0 nt G K) Q := by
  obtain ⟨R, hc, hk⟩ := h
  unfold Oper.wp
  rw [hrun]
  simp only [Oper.upon]
  refine (hc hr.r0.supp w0 G w vs hr.ld hr.r0 hrep).mono ?_
  rintro e w1 ⟨v, r, G1, n1, H1, rfl, hR, hv, hle, hn, h1⟩
  exact ⟨G1, _, hk r n1 H1 hn h1.supp hR, hle, hr.put hd hle h1 hv⟩
theorem ACalls.sim {f : Nat} {args args' : List AV} {n : Nat} {H : AHeap} {R : APost} (h : ACalls P f args' n H R) (hw : simL args args') : ACalls P f args n H R :=
  fun hs w0 G w vs hld h0 hr => h hs w0 G w vs hld h0 (hr.sim hw)
theorem CallP.toK {f : Nat} {args : List AV} {d : Option Nat} {K : AS → Prop} (h : CallP P f args d K s) : CallK P f args d K s := by
  obtain ⟨args', v, h1, hs, h2⟩ := h
  exact ⟨_, (h1 s.n s.H).sim hs, fun r n' H' _ _ ⟨e1, e2, e3⟩ => by subst e1; subst e2; subst e3; exact h2⟩

theorem box_sound {d : Option Nat} {o : Oper} {e : TypeId} {v : Value} {cs : List AV} {K : AS → Prop} {Q : Exit → Act → World → Prop} (hr : RelS P w0 nt G s a w) (hd : ∀ t, o.dst = some t → t < nt) (hdd : d = o.dst) (hrep : RepL G v.cells.toList cs) (h1 : ones cs)
    (hrun : (execOp a.eval o).run P w = .ok (.value (.pointer (some ⟨w.heap.size, 0, none⟩))) (w.alloc (.cells v.cells e))) (hk : ∀ g, s.n ≤ g → K ⟨putO s.e d (.ptr g 0), g + 1, upd s.H g (some (.cells e cs))⟩) : o.wp P a w (After P w0 nt G K) Q := by
  subst hdd
  exact wp_value hrun ⟨G, _, hk w.heap.size hr.r0.hi, Gh.Le.rfl_ G, hr.put hd (Gh.Le.rfl_ G) (hr.r0.new hrep h1) .ptr⟩

theorem store_sound {o : Oper} {t : TypeId} {xo vo : Operand} {x v : AV} {sh : Shp} {K : AS → Prop} {Q : Exit → Act → World → Prop} (hr : RelS P w0 nt G s a w) (hd : ∀ t, o.dst = some t → t < nt) (hop : o.op = .store t xo vo) (hs : shpOk P t = some sh) (hx : Rep G (a.eval xo) x) (hv : Rep G (a.eval vo) v)
    (h : storeK sh o.dst K s v x) : o.wp P a w (After P w0 nt G K) Q := by
  obtain ⟨k1, k2, k3, i, hi, k5⟩ := shpOk_out hs
  unfold storeK at h
  split at h
  · rename_i g off
    split at h
    · rename_i e cs hg
      obtain ⟨hf, h1, hle, hk⟩ := h
      obtain ⟨j1, j2, j3, vs, hgw, hrv, ho⟩ := hr.r0.objs g _ hg
      have hcl := hv.cells h1
      have hlen : (a.eval vo).cells.size = szP P t := by have := hcl.len; rw [fits_cells hf, k2] at this; simpa using this
      have hlen' : (a.eval vo).cells.toList.length = v.cells.length := hcl.len
      have hvl := hrv.len
      generalize hxv : a.eval xo = xv at hx
      cases hx
      have hst := run_storeCells_at (P := P) g off e (a.eval vo).cells.toList 0 vs w hgw (by simp at hvl hlen' ⊢; omega) (hcl.ones h1)
      simp only [Nat.add_zero] at hst
      refine wp_skip' (w' := w.setRow g (vs.toList.take off ++ (a.eval vo).cells.toList ++ vs.toList.drop (off + (a.eval vo).cells.toList.length)).toArray) ?_ ?_
      · simp only [execOp, hop, Sem.run_bind, Instr.storeAt, hxv, Instr.sureAddr, Sem.run_pure, Result.andThen_ok, storeVar, run_szP hi, hlen, ne_eq, not_true, if_false, hst]
      · refine ⟨G, _, hk, Gh.Le.rfl_ G, hr.put hd (Gh.Le.rfl_ G) (hr.r0.setRow hg hgw ?_ ?_ (by simp at hvl hlen' ⊢; omega)) .any⟩
        · simp only [splice]
          rw [← hlen']
          exact ((hrv.take off).append hcl).append (hrv.drop _)
        · intro y hy
          simp only [splice, List.mem_append] at hy
          rcases hy with (hy | hy) | hy
          · exact ho y (List.mem_of_mem_take hy)
          · exact h1 y hy
          · exact ho y (List.mem_of_mem_drop hy)
    · exact h.elim
  · exact h.elim

theorem fill_all (size : Nat) : ∀ (vs : List Value) (k : Nat) (cells : Array Value), (∀ v ∈ vs, v.cells.size = size) → (k + vs.length) * size ≤ cells.size →
    ∃ cells', Instr.fill (fun i => some (i * size, size)) cells ((vs.zipIdx k).map fun x => (x.2, x.1)) = some cells' ∧ cells'.toList = cells.toList.take (k * size) ++ vs.flatMap (fun v => v.cells.toList) ++ cells.toList.drop ((k + vs.length) * size)
  | [], k, cells, _, _ => ⟨cells, rfl, by simp⟩
  | v :: vs, k, cells, hv, hl => by
    have h1 := hv v List.mem_cons_self
    simp only [List.length_cons] at hl
    have hk1 : k * size + size ≤ cells.size := by
      have : (k + 1) * size ≤ (k + (vs.length + 1)) * size := Nat.mul_le_mul_right _ (by omega)
      rw [Nat.add_mul, Nat.one_mul] at this; omega
    have hfold := foldl_set_arr (vs := v.cells) (off := k * size) (cells := cells) (by omega)
    have hsz : (v.cells.zipIdx.foldl (fun cs (x : Value × Nat) => cs.setIfInBounds (k * size + x.2) x.1) cells).size = cells.size := by
      have := congrArg List.length hfold
      simp only [List.length_append, List.length_take, List.length_drop, Array.length_toList, h1] at this
      omega
    obtain ⟨cells', e1, e2⟩ := fill_all size vs (k + 1) (v.cells.zipIdx.foldl (fun cs (x : Value × Nat) => cs.setIfInBounds (k * size + x.2) x.1) cells) (fun u hu => hv u (List.mem_cons_of_mem _ hu)) (by rw [hsz]; rw [show k + 1 + vs.length = k + (vs.length + 1) by omega]; exact hl)
    refine ⟨cells', ?_, ?_⟩
    · simp only [List.zipIdx_cons, List.map_cons, Instr.fill, h1, ne_eq, not_true, decide_false, Bool.false_or]
      rw [if_neg (by simp; omega)]
      exact e1
    · rw [e2, hfold, h1]
      have ht : (cells.toList.take (k * size)).length = k * size := by simp; omega
      have hvl : v.cells.toList.length = size := by simpa using h1
      rw [Nat.add_mul, Nat.one_mul]
      rw [List.take_append_of_le_length (by simp [ht, hvl]), List.take_of_length_le (by simp [ht, hvl])]
      rw [show k + 1 + vs.length = k + (vs.length + 1) by omega]
      have hge : k * size + size ≤ (k + (vs.length + 1)) * size := by
        have : (k + 1) * size ≤ (k + (vs.length + 1)) * size := Nat.mul_le_mul_right _ (by omega)
        rw [Nat.add_mul, Nat.one_mul] at this; omega
      rw [List.drop_append, List.drop_of_length_le (l := cells.toList.take (k * size) ++ v.cells.toList) (by simp only [List.length_append, ht, hvl]; omega), List.nil_append, List.drop_drop]
      simp only [List.length_append, ht, hvl, List.flatMap_cons, List.length_cons, List.append_assoc]
      congr 3
      congr 1
      omega
theorem sparts_out {e : AEnv} (ht : ∀ t, Rep G (a.tmps.getD t undef) (get e t)) : ∀ {ps : List (Nat × Operand)} {i : Nat} {xs : List Opd}, sparts i ps = some xs → ∃ vs : List Value, ps.map (fun (j, x) => (j, a.eval x)) = (vs.zipIdx i).map (fun x => (x.2, x.1)) ∧ RepL G vs (xs.map (ev e))
  | [], i, xs, h => by simp [sparts] at h; subst h; exact ⟨[], rfl, .nil⟩
  | (j, x) :: ps, i, xs, h => by
    simp only [sparts] at h
    split at h
    · rename_i hj; subst hj
      split at h
      · rename_i y r h1 h2
        injection h with h; subst h
        obtain ⟨vs, e1, e2⟩ := sparts_out ht h2
        exact ⟨a.eval x :: vs, by simp [List.zipIdx_cons, e1], .cons (opd_rep h1 ht) e2⟩
      · cases h
    · cases h
theorem RepL.flat {vs : List Value} {xs : List AV} (h : RepL G vs xs) (h1 : ∀ x ∈ xs, ∀ y ∈ x.cells, y.one = true) : RepL G (vs.flatMap fun v => v.cells.toList) (flatA xs) := by
  induction xs generalizing vs with
  | nil => cases h; exact .nil
  | cons x xs ih =>
    cases h with
    | cons hv hr =>
      simp only [List.flatMap_cons, flatA]
      exact (hv.cells (h1 x List.mem_cons_self)).append (ih hr fun y hy => h1 y (List.mem_cons_of_mem _ hy))

theorem bsl_sound {o : Oper} {t e : TypeId} {len : Nat} {ps : Array (Nat × Operand)} {sh : Shp} {xs : List Opd} {K : AS → Prop} {Q : Exit → Act → World → Prop} (hr : RelS P w0 nt G s a w) (hd : ∀ t, o.dst = some t → t < nt) (hop : o.op = .buildSlice t len ps) (hu : P.underlying t = some (.slice e)) (hs : shpOk P e = some sh)
    (hps : sparts 0 ps.toList = some xs) (hlen : xs.length = len) (hsm : len * szP P e ≤ 1000) (hz : len = 0 ∨ ((P.info? e).bind (·.zero)).isSome)
    (h1 : ∀ x ∈ xs, (ev s.e x).fits sh = true ∧ ones (ev s.e x).cells) (hk : ∀ g, s.n ≤ g → K ⟨putO s.e o.dst (.sl (shpSz sh) (xs.map (ev s.e)) (.own g)), g + 1, upd s.H g (some (.row e xs.length))⟩) : o.wp P a w (After P w0 nt G K) Q := by
  obtain ⟨k1, k2, k3, i, hi, k5⟩ := shpOk_out hs
  obtain ⟨vs, e1, e2⟩ := sparts_out (G := G) (a := a) (e := s.e) hr.tm hps
  have hvl : vs.length = len := by have := e2.len; simp at this; omega
  have hone : ∀ x ∈ xs.map (ev s.e), ones x.cells := fun x hx => by obtain ⟨y, hy, rfl⟩ := List.mem_map.1 hx; exact (h1 y hy).2
  have huni : ∀ x ∈ xs.map (ev s.e), x.cells.length = szP P e := fun x hx => by obtain ⟨y, hy, rfl⟩ := List.mem_map.1 hx; rw [fits_cells (h1 y hy).1, k2]
  have hvs : ∀ v ∈ vs, v.cells.size = szP P e := by
    intro v hv
    obtain ⟨j, hj⟩ := List.getElem?_of_mem hv
    obtain ⟨x, hx⟩ : ∃ x, (xs.map (ev s.e))[j]? = some x := ⟨_, List.getElem?_eq_getElem (by have := (List.getElem?_eq_some_iff.1 hj).1; simp; omega)⟩
    obtain ⟨v', hv', hrep⟩ := e2.at hx
    rw [hj] at hv'; injection hv' with hv'; subst hv'
    have := (hrep.cells (hone x (List.mem_of_getElem? hx))).len
    rw [huni x (List.mem_of_getElem? hx)] at this
    simpa using this
  have hrun : ∃ cells : Array Value, cells.toList = vs.flatMap (fun v => v.cells.toList) ∧ (execOp a.eval o).run P w = .ok (.value (.slice (some ⟨w.heap.size, 0, none⟩) len len)) (w.alloc (.cells cells e)) := by
    have h24 : ¬ (len * szP P e > 2 ^ 24) := by omega
    have hpm : (ps.map fun x => (x.1, a.eval x.2)).toList = (vs.zipIdx 0).map (fun x => (x.2, x.1)) := by rw [Array.toList_map]; exact e1
    by_cases hlz : len * szP P e = 0
    · have hl0 : len = 0 := by rcases Nat.mul_eq_zero.1 hlz with h | h; exact h; omega
      subst hl0
      have hv0 : vs = [] := List.length_eq_zero_iff.1 hvl
      subst hv0
      refine ⟨#[], rfl, ?_⟩
      have hpm' : ps = #[] := by
        have := congrArg List.length e1
        simp at this
        exact this
      subst hpm'
      simp [execOp, hop, Instr.buildSlice, run_underlying hu, run_szP hi, Instr.fill, Go.newRow]
      congr 2
      exact Array.eq_empty_of_size_eq_zero (by simp)
    · have hzz : ((P.info? e).bind (·.zero)).isSome := hz.resolve_left (by rintro rfl; simp at hlz)
      obtain ⟨zv, hzv⟩ := Option.isSome_iff_exists.1 hzz
      rw [hi] at hzv
      have hzv' : i.zero = some zv := by simpa using hzv
      obtain ⟨cells', f1, f2⟩ := fill_all (szP P e) vs 0 ((Array.range (len * szP P e)).map (fun x => zv.cells[x % zv.cells.size]!)) hvs (by simp [hvl])
      refine ⟨cells', ?_, ?_⟩
      · rw [f2]; simp [hvl]
      · simp only [execOp, hop, Sem.run_bind, Instr.buildSlice, run_underlying hu, Result.andThen_ok, run_szP hi, h24, if_false, hlz, zeroValue, typeInfo, run_program, hi, hzv', Sem.run_pure]
        simp only [hpm, f1, Go.newRow, Sem.run_bind, run_newObj, Result.andThen_ok, Sem.run_pure]
        rfl
  obtain ⟨cells, hcl, hrun⟩ := hrun
  have hflat := e2.flat hone
  rw [← hcl] at hflat
  have hfl : (flatA (xs.map (ev s.e))).length = len * szP P e := by rw [flatA_len huni]; simp [hlen]
  have hcs : cells.size = len * szP P e := by have := hflat.len; rw [hfl] at this; simpa using this
  have hle := hr.r0.addLe cells.toList (some (e, len))
  have hmx : len ≤ maxLen := by
    simp only [maxLen]
    have : len * 1 ≤ len * szP P e := Nat.mul_le_mul_left _ k3
    omega
  have hrel := hr.r0.newRow (w' := w.alloc (.cells cells e)) (cur := cells) (e := e) (fz := (0, 0)) (vs := cells.toList) (c := some (e, len)) (ob := some (.row e xs.length)) rfl rfl rfl rfl (fun j u hu => by simpa using hu)
    (fun e' c' hc => by injection hc with hc; injection hc with a b; subst a; subst b; exact ⟨rfl, hcs⟩)
    (.inr ⟨xs.length, len, rfl, rfl, by simp, by omega, hmx, by simp [hcs, hlen]⟩)
  refine wp_value hrun ⟨_, _, hk w.heap.size hr.r0.hi, hle, hr.put hd hle hrel ?_⟩
  refine .slown (e := e) (hflat.mono hle) (Gh.add_sealed _ _ _) ⟨by simp [hlen], hmx, by rw [k2]; exact k3, fun x hx => by rw [k2]; exact huni x hx, ?_⟩ (by simp [hlen]) (by simp [Gh.add])
  intro x hx
  simp only [flatA, List.mem_flatMap] at hx
  obtain ⟨y, hy, hxy⟩ := hx
  exact hone y hy x hxy
end
end Go.Proofs.YtnmkpadgogbgkaaDoor

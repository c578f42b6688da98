/- Each operation of the program agrees with the operation on plain data; no condition. -/
import Derived.Test.YtnmkpadgogbgkaaDoorMgC
import Derived.Orders
import Derived.Laws.MakeOwn
import Derived.Lib.UnsafeStr
set_option linter.all false
set_option linter.unusedSimpArgs false
set_option linter.unusedVariables false
namespace Go.Proofs.YtnmkpadgogbgkaaDoor
open Go.RowKit
theorem get_put (e : AEnv) (t : Nat) (v : AV) (k : Nat) : get (put e t v) k = if k = t then v else get e k := by
  induction e with
  | nil =>
    simp only [put, get]
    split
    · rename_i h; subst h; simp
    · rename_i h; rw [if_neg (fun e => h e.symm)]
  | cons p r ih =>
    obtain ⟨k', u⟩ := p
    simp only [put]
    split
    · rename_i h; subst h
      simp only [get]
      by_cases hk : k = k'
      · subst hk; simp
      · have hk2 : ¬ k' = k := fun e => hk e.symm
        simp [hk, hk2]
    · rename_i h
      simp only [get, ih]
      by_cases hk : k' = k
      · subst hk; simp [h]
      · simp [hk]
theorem get_keep (e : AEnv) (ks : List Nat) (k : Nat) : get (keepE e ks) k = .any ∨ get (keepE e ks) k = get e k := by
  induction ks with
  | nil => left; rfl
  | cons a ks ih =>
    simp only [keepE, List.map_cons, get]
    split
    · rename_i h; subst h; right; rfl
    · exact ih
def AOp.eff : AOp → Bool
  | .alloc _ _ | .box _ _ _ | .store _ _ _ | .bsl _ _ _ | .app _ _ _ _ _ | .appB _ _ _ _ | .s2b _ _ | .s2s _ | .mkmap _ | .mset _ _ _ _ | .mksl _ _ _ _ _ | .rng _ | .nxt _ | .call _ _ | .callp _ _ | .callv _ _ | .updn _ _ | .ust _ _ _ => true
  | _ => false
section
variable {P : Program} {w w' w0 : World} {G G' : Gh} {nt : Nat} {s : AS} {a : Act}
theorem awOp_pure {d : Option Nat} {op : AOp} {K : AS → Prop} (h : op.eff = false) : awOp P d op K s = K1 (pe op s.e s.H) fun v => K ⟨putO s.e d v, s.n, s.H⟩ := by
  cases op <;> first | rfl | cases h
/-- behind an operation -/
def After (P : Program) (w0 : World) (nt : Nat) (G : Gh) (K : AS → Prop) (a' : Act) (w' : World) : Prop := ∃ G' s', K s' ∧ G.Le G' ∧ RelS P w0 nt G' s' a' w'
theorem RelS.put {n : Nat} {H : AHeap} {d : Option Nat} {v : Value} {x : AV} (h : RelS P w0 nt G s a w) (hd : ∀ t, d = some t → t < nt) (hl : G.Le G') (h0 : Rel0 P w0 G' n H w') (hr : Rep G' v x) : RelS P w0 nt G' ⟨putO s.e d x, n, H⟩ (a.put d v) w' := by
  refine ⟨h0, ?_, ?_, h.ld, fun t => ?_⟩
  · cases d <;> simp [Act.put, h.sz]
  · cases d <;> simp [Act.put, h.df]
  · cases d with
    | none => exact (h.tm t).mono hl
    | some k =>
      have hk : k < a.tmps.size := by rw [h.sz]; exact hd k rfl
      simp only [Act.put, putO, get_put]
      by_cases ht : t = k
      · subst ht
        rw [if_pos rfl]
        have : (a.tmps.setIfInBounds t v).getD t undef = v := by simp [Array.getD_eq_getD_getElem?, hk]
        rw [this]; exact hr
      · rw [if_neg ht]
        have : (a.tmps.setIfInBounds k v).getD t undef = a.tmps.getD t undef := by simp [Array.getD_eq_getD_getElem?, Array.getElem?_setIfInBounds_ne (fun e => ht e.symm)]
        rw [this]; exact (h.tm t).mono hl
theorem wp_value {o : Oper} {v : Value} {K : Act → World → Prop} {Q : Exit → Act → World → Prop} (h : (execOp a.eval o).run P w = .ok (.value v) w') (hk : K (a.put o.dst v) w') : o.wp P a w K Q := by
  unfold Oper.wp; rw [h]; exact hk
theorem wp_skip' {o : Oper} {K : Act → World → Prop} {Q : Exit → Act → World → Prop} (h : (execOp a.eval o).run P w = .ok .skip w') (hk : K (a.put o.dst undef) w') : o.wp P a w K Q := by
  unfold Oper.wp; rw [h]; exact hk
theorem callFunc_run {f : Nat} {fn : Func} {args : Array Value} (hf : P.funcs[f]? = some fn) (hb : (fn.body.isSome && fn.name != "runtime.NumGoroutine") = true) : (callFunc f args).run P w = .ok (.enter f args) w := by
  simp only [Bool.and_eq_true] at hb
  obtain ⟨b, hb1⟩ := Option.isSome_iff_exists.1 hb.1
  have h2 : ¬ fn.name = "runtime.NumGoroutine" := by simpa using hb.2
  simp [callFunc, hf, h2, hb1]
theorem call_wp {o : Oper} {f : Nat} {vs : List Value} {args : List AV} {K : AS → Prop} {Q : Exit → Act → World → Prop} (hr : RelS P w0 nt G s a w) (hd : ∀ t, o.dst = some t → t < nt) (hrep : RepL G vs args)
    (hrun : (execOp a.eval o).run P w = .ok (.enter f vs.toArray) w) (h : CallK P f args o.dst K s) : o.wp P a w (After P w0 nt G K) Q := by
  obtain ⟨R, hc, hk⟩ := h
  unfold Oper.wp
  rw [hrun]
  simp only [Oper.upon]
  refine (hc hr.r0.supp w0 G w vs hr.ld hr.r0 hrep).mono ?_
  rintro e w1 ⟨v, r, G1, n1, H1, rfl, hR, hv, hle, hn, h1⟩
  exact ⟨G1, _, hk r n1 H1 hn h1.supp hR, hle, hr.put hd hle h1 hv⟩
theorem ACalls.sim {f : Nat} {args args' : List AV} {n : Nat} {H : AHeap} {R : APost} (h : ACalls P f args' n H R) (hw : simL args args') : ACalls P f args n H R :=
  fun hs w0 G w vs hld h0 hr => h hs w0 G w vs hld h0 (hr.sim hw)
theorem CallP.toK {f : Nat} {args : List AV} {d : Option Nat} {K : AS → Prop} (h : CallP P f args d K s) : CallK P f args d K s := by
  obtain ⟨args', v, h1, hs, h2⟩ := h
  exact ⟨_, (h1 s.n s.H).sim hs, fun r n' H' _ _ ⟨e1, e2, e3⟩ => by subst e1; subst e2; subst e3; exact h2⟩
theorem box_sound {d : Option Nat} {o : Oper} {e : TypeId} {v : Value} {cs : List AV} {K : AS → Prop} {Q : Exit → Act → World → Prop} (hr : RelS P w0 nt G s a w) (hd : ∀ t, o.dst = some t → t < nt) (hdd : d = o.dst) (hrep : RepL G v.cells.toList cs) (h1 : ones cs)
    (hrun : (execOp a.eval o).run P w = .ok (.value (.pointer (some ⟨w.heap.size, 0, none⟩))) (w.alloc (.cells v.cells e))) (hk : ∀ g, s.n ≤ g → K ⟨putO s.e d (.ptr g 0), g + 1, upd s.H g (some (.cells e cs))⟩) : o.wp P a w (After P w0 nt G K) Q := by
  subst hdd
  exact wp_value hrun ⟨G, _, hk w.heap.size hr.r0.hi, Gh.Le.rfl_ G, hr.put hd (Gh.Le.rfl_ G) (hr.r0.new hrep h1) .ptr⟩
theorem store_sound {o : Oper} {t : TypeId} {xo vo : Operand} {x v : AV} {sh : Shp} {K : AS → Prop} {Q : Exit → Act → World → Prop} (hr : RelS P w0 nt G s a w) (hd : ∀ t, o.dst = some t → t < nt) (hop : o.op = .store t xo vo) (hs : shpOk P t = some sh) (hx : Rep G (a.eval xo) x) (hv : Rep G (a.eval vo) v)
    (h : storeK sh o.dst K s v x) : o.wp P a w (After P w0 nt G K) Q := by
  obtain ⟨k1, k2, k3, i, hi, k5⟩ := shpOk_out hs
  unfold storeK at h
  split at h
  · rename_i g off
    split at h
    · rename_i e cs hg
      obtain ⟨hf, h1, hle, hk⟩ := h
      obtain ⟨j1, j2, j3, vs, hgw, hrv, ho⟩ := hr.r0.objs g _ hg
      have hcl := hv.cells h1
      have hlen : (a.eval vo).cells.size = szP P t := by have := hcl.len; rw [fits_cells hf, k2] at this; simpa using this
      have hlen' : (a.eval vo).cells.toList.length = v.cells.length := hcl.len
      have hvl := hrv.len
      generalize hxv : a.eval xo = xv at hx
      cases hx
      have hst := run_storeCells_at (P := P) g off e (a.eval vo).cells.toList 0 vs w hgw (by simp at hvl hlen' ⊢; omega) (hcl.ones h1)
      simp only [Nat.add_zero] at hst
      refine wp_skip' (w' := w.setRow g (vs.toList.take off ++ (a.eval vo).cells.toList ++ vs.toList.drop (off + (a.eval vo).cells.toList.length)).toArray) ?_ ?_
      · simp only [execOp, hop, Sem.run_bind, Instr.storeAt, hxv, Instr.sureAddr, Sem.run_pure, Result.andThen_ok, storeVar, run_szP hi, hlen, ne_eq, not_true, if_false, hst]
      · refine ⟨G, _, hk, Gh.Le.rfl_ G, hr.put hd (Gh.Le.rfl_ G) (hr.r0.setRow hg hgw ?_ ?_ (by simp at hvl hlen' ⊢; omega)) .any⟩
        · simp only [splice]
          rw [← hlen']
          exact ((hrv.take off).append hcl).append (hrv.drop _)
        · intro y hy
          simp only [splice, List.mem_append] at hy
          rcases hy with (hy | hy) | hy
          · exact ho y (List.mem_of_mem_take hy)
          · exact h1 y hy
          · exact ho y (List.mem_of_mem_drop hy)
    · exact h.elim
  · exact h.elim
theorem fill_all (size : Nat) : ∀ (vs : List Value) (k : Nat) (cells : Array Value), (∀ v ∈ vs, v.cells.size = size) → (k + vs.length) * size ≤ cells.size →
    ∃ cells', Instr.fill (fun i => some (i * size, size)) cells ((vs.zipIdx k).map fun x => (x.2, x.1)) = some cells' ∧ cells'.toList = cells.toList.take (k * size) ++ vs.flatMap (fun v => v.cells.toList) ++ cells.toList.drop ((k + vs.length) * size)
  | [], k, cells, _, _ => ⟨cells, rfl, by simp⟩
  | v :: vs, k, cells, hv, hl => by
    have h1 := hv v List.mem_cons_self
    simp only [List.length_cons] at hl
    have hk1 : k * size + size ≤ cells.size := by
      have : (k + 1) * size ≤ (k + (vs.length + 1)) * size := Nat.mul_le_mul_right _ (by omega)
      rw [Nat.add_mul, Nat.one_mul] at this; omega
    have hfold := foldl_set_arr (vs := v.cells) (off := k * size) (cells := cells) (by omega)
    have hsz : (v.cells.zipIdx.foldl (fun cs (x : Value × Nat) => cs.setIfInBounds (k * size + x.2) x.1) cells).size = cells.size := by
      have := congrArg List.length hfold
      simp only [List.length_append, List.length_take, List.length_drop, Array.length_toList, h1] at this
      omega
    obtain ⟨cells', e1, e2⟩ := fill_all size vs (k + 1) (v.cells.zipIdx.foldl (fun cs (x : Value × Nat) => cs.setIfInBounds (k * size + x.2) x.1) cells) (fun u hu => hv u (List.mem_cons_of_mem _ hu)) (by rw [hsz]; rw [show k + 1 + vs.length = k + (vs.length + 1) by omega]; exact hl)
    refine ⟨cells', ?_, ?_⟩
    · simp only [List.zipIdx_cons, List.map_cons, Instr.fill, h1, ne_eq, not_true, decide_false, Bool.false_or]
      rw [if_neg (by simp; omega)]
      exact e1
    · rw [e2, hfold, h1]
      have ht : (cells.toList.take (k * size)).length = k * size := by simp; omega
      have hvl : v.cells.toList.length = size := by simpa using h1
      rw [Nat.add_mul, Nat.one_mul]
      rw [List.take_append_of_le_length (by simp [ht, hvl]), List.take_of_length_le (by simp [ht, hvl])]
      rw [show k + 1 + vs.length = k + (vs.length + 1) by omega]
      have hge : k * size + size ≤ (k + (vs.length + 1)) * size := by
        have : (k + 1) * size ≤ (k + (vs.length + 1)) * size := Nat.mul_le_mul_right _ (by omega)
        rw [Nat.add_mul, Nat.one_mul] at this; omega
      rw [List.drop_append, List.drop_of_length_le (l := cells.toList.take (k * size) ++ v.cells.toList) (by simp only [List.length_append, ht, hvl]; omega), List.nil_append, List.drop_drop]
      simp only [List.length_append, ht, hvl, List.flatMap_cons, List.length_cons, List.append_assoc]
      congr 3
      congr 1
      omega
theorem sparts_out {e : AEnv} (ht : ∀ t, Rep G (a.tmps.getD t undef) (get e t)) : ∀ {ps : List (Nat × Operand)} {i : Nat} {xs : List Opd}, sparts i ps = some xs → ∃ vs : List Value, ps.map (fun (j, x) => (j, a.eval x)) = (vs.zipIdx i).map (fun x => (x.2, x.1)) ∧ RepL G vs (xs.map (ev e))
  | [], i, xs, h => by simp [sparts] at h; subst h; exact ⟨[], rfl, .nil⟩
  | (j, x) :: ps, i, xs, h => by
    simp only [sparts] at h
    split at h
    · rename_i hj; subst hj
      split at h
      · rename_i y r h1 h2
        injection h with h; subst h
        obtain ⟨vs, e1, e2⟩ := sparts_out ht h2
        exact ⟨a.eval x :: vs, by simp [List.zipIdx_cons, e1], .cons (opd_rep h1 ht) e2⟩
      · cases h
    · cases h
theorem RepL.flat {vs : List Value} {xs : List AV} (h : RepL G vs xs) (h1 : ∀ x ∈ xs, ∀ y ∈ x.cells, y.one = true) : RepL G (vs.flatMap fun v => v.cells.toList) (flatA xs) := by
  induction xs generalizing vs with
  | nil => cases h; exact .nil
  | cons x xs ih =>
    cases h with
    | cons hv hr =>
      simp only [List.flatMap_cons, flatA]
      exact (hv.cells (h1 x List.mem_cons_self)).append (ih hr fun y hy => h1 y (List.mem_cons_of_mem _ hy))
theorem bsl_sound {o : Oper} {t e : TypeId} {len : Nat} {ps : Array (Nat × Operand)} {sh : Shp} {xs : List Opd} {K : AS → Prop} {Q : Exit → Act → World → Prop} (hr : RelS P w0 nt G s a w) (hd : ∀ t, o.dst = some t → t < nt) (hop : o.op = .buildSlice t len ps) (hu : P.underlying t = some (.slice e)) (hs : shpOk P e = some sh)
    (hps : sparts 0 ps.toList = some xs) (hlen : xs.length = len) (hsm : len * szP P e ≤ 1000) (hz : len = 0 ∨ ((P.info? e).bind (·.zero)).isSome)
    (h1 : ∀ x ∈ xs, (ev s.e x).fits sh = true ∧ ones (ev s.e x).cells) (hk : ∀ g, s.n ≤ g → K ⟨putO s.e o.dst (.sl (shpSz sh) (xs.map (ev s.e)) (.own g)), g + 1, upd s.H g (some (.row e xs.length))⟩) : o.wp P a w (After P w0 nt G K) Q := by
  obtain ⟨k1, k2, k3, i, hi, k5⟩ := shpOk_out hs
  obtain ⟨vs, e1, e2⟩ := sparts_out (G := G) (a := a) (e := s.e) hr.tm hps
  have hvl : vs.length = len := by have := e2.len; simp at this; omega
  have hone : ∀ x ∈ xs.map (ev s.e), ones x.cells := fun x hx => by obtain ⟨y, hy, rfl⟩ := List.mem_map.1 hx; exact (h1 y hy).2
  have huni : ∀ x ∈ xs.map (ev s.e), x.cells.length = szP P e := fun x hx => by obtain ⟨y, hy, rfl⟩ := List.mem_map.1 hx; rw [fits_cells (h1 y hy).1, k2]
  have hvs : ∀ v ∈ vs, v.cells.size = szP P e := by
    intro v hv
    obtain ⟨j, hj⟩ := List.getElem?_of_mem hv
    obtain ⟨x, hx⟩ : ∃ x, (xs.map (ev s.e))[j]? = some x := ⟨_, List.getElem?_eq_getElem (by have := (List.getElem?_eq_some_iff.1 hj).1; simp; omega)⟩
    obtain ⟨v', hv', hrep⟩ := e2.at hx
    rw [hj] at hv'; injection hv' with hv'; subst hv'
    have := (hrep.cells (hone x (List.mem_of_getElem? hx))).len
    rw [huni x (List.mem_of_getElem? hx)] at this
    simpa using this
  have hrun : ∃ cells : Array Value, cells.toList = vs.flatMap (fun v => v.cells.toList) ∧ (execOp a.eval o).run P w = .ok (.value (.slice (some ⟨w.heap.size, 0, none⟩) len len)) (w.alloc (.cells cells e)) := by
    have h24 : ¬ (len * szP P e > 2 ^ 24) := by omega
    have hpm : (ps.map fun x => (x.1, a.eval x.2)).toList = (vs.zipIdx 0).map (fun x => (x.2, x.1)) := by rw [Array.toList_map]; exact e1
    by_cases hlz : len * szP P e = 0
    · have hl0 : len = 0 := by rcases Nat.mul_eq_zero.1 hlz with h | h; exact h; omega
      subst hl0
      have hv0 : vs = [] := List.length_eq_zero_iff.1 hvl
      subst hv0
      refine ⟨#[], rfl, ?_⟩
      have hpm' : ps = #[] := by
        have := congrArg List.length e1
        simp at this
        exact this
      subst hpm'
      simp [execOp, hop, Instr.buildSlice, run_underlying hu, run_szP hi, Instr.fill, Go.newRow]
      congr 2
      exact Array.eq_empty_of_size_eq_zero (by simp)
    · have hzz : ((P.info? e).bind (·.zero)).isSome := hz.resolve_left (by rintro rfl; simp at hlz)
      obtain ⟨zv, hzv⟩ := Option.isSome_iff_exists.1 hzz
      rw [hi] at hzv
      have hzv' : i.zero = some zv := by simpa using hzv
      obtain ⟨cells', f1, f2⟩ := fill_all (szP P e) vs 0 ((Array.range (len * szP P e)).map (fun x => zv.cells[x % zv.cells.size]!)) hvs (by simp [hvl])
      refine ⟨cells', ?_, ?_⟩
      · rw [f2]; simp [hvl]
      · simp only [execOp, hop, Sem.run_bind, Instr.buildSlice, run_underlying hu, Result.andThen_ok, run_szP hi, h24, if_false, hlz, zeroValue, typeInfo, run_program, hi, hzv', Sem.run_pure]
        simp only [hpm, f1, Go.newRow, Sem.run_bind, run_newObj, Result.andThen_ok, Sem.run_pure]
        rfl
  obtain ⟨cells, hcl, hrun⟩ := hrun
  have hflat := e2.flat hone
  rw [← hcl] at hflat
  have hfl : (flatA (xs.map (ev s.e))).length = len * szP P e := by rw [flatA_len huni]; simp [hlen]
  have hcs : cells.size = len * szP P e := by have := hflat.len; rw [hfl] at this; simpa using this
  have hle := hr.r0.addLe cells.toList (some (e, len))
  have hmx : len ≤ maxLen := by
    simp only [maxLen]
    have : len * 1 ≤ len * szP P e := Nat.mul_le_mul_left _ k3
    omega
  have hrel := hr.r0.newRow (w' := w.alloc (.cells cells e)) (cur := cells) (e := e) (fz := (0, 0)) (vs := cells.toList) (c := some (e, len)) (ob := some (.row e xs.length)) rfl rfl rfl rfl (fun j u hu => by simpa using hu)
    (fun e' c' hc => by injection hc with hc; injection hc with a b; subst a; subst b; exact ⟨rfl, hcs⟩)
    (.inr ⟨xs.length, len, rfl, rfl, by simp, by omega, hmx, by simp [hcs, hlen]⟩)
  refine wp_value hrun ⟨_, _, hk w.heap.size hr.r0.hi, hle, hr.put hd hle hrel ?_⟩
  refine .slown (e := e) (hflat.mono hle) (Gh.add_sealed _ _ _) ⟨by simp [hlen], hmx, by rw [k2]; exact k3, fun x hx => by rw [k2]; exact huni x hx, ?_⟩ (by simp [hlen]) (by simp [Gh.add])
  intro x hx
  simp only [flatA, List.mem_flatMap] at hx
  obtain ⟨y, hy, hxy⟩ := hx
  exact hone y hy x hxy
theorem bslm_sound {o : Oper} {t e : TypeId} {len : Nat} {ps : Array (Nat × Operand)} {sh : Shp} {xs : List Opd} {K : AS → Prop} {Q : Exit → Act → World → Prop} (hr : RelS P w0 nt G s a w) (hd : ∀ t, o.dst = some t → t < nt) (hop : o.op = .buildSlice t len ps) (hu : P.underlying t = some (.slice e)) (hs : shpOk P e = some sh)
    (hps : sparts 0 ps.toList = some xs) (hlen : xs.length = len) (hsm : len * szP P e ≤ 1000) (hz : len = 0 ∨ ((P.info? e).bind (·.zero)).isSome)
    (h1 : ∀ x ∈ xs, (ev s.e x).fits sh = true ∧ ones (ev s.e x).cells) (hk : ∀ g, s.n ≤ g → K ⟨putO s.e o.dst (.slm (shpSz sh) g 0 xs.length), g + 1, upd s.H g (some (.cells e (flatA (xs.map (ev s.e)))))⟩) : o.wp P a w (After P w0 nt G K) Q := by
  obtain ⟨k1, k2, k3, i, hi, k5⟩ := shpOk_out hs
  obtain ⟨vs, e1, e2⟩ := sparts_out (G := G) (a := a) (e := s.e) hr.tm hps
  have hvl : vs.length = len := by have := e2.len; simp at this; omega
  have hone : ∀ x ∈ xs.map (ev s.e), ones x.cells := fun x hx => by obtain ⟨y, hy, rfl⟩ := List.mem_map.1 hx; exact (h1 y hy).2
  have huni : ∀ x ∈ xs.map (ev s.e), x.cells.length = szP P e := fun x hx => by obtain ⟨y, hy, rfl⟩ := List.mem_map.1 hx; rw [fits_cells (h1 y hy).1, k2]
  have hvs : ∀ v ∈ vs, v.cells.size = szP P e := by
    intro v hv
    obtain ⟨j, hj⟩ := List.getElem?_of_mem hv
    obtain ⟨x, hx⟩ : ∃ x, (xs.map (ev s.e))[j]? = some x := ⟨_, List.getElem?_eq_getElem (by have := (List.getElem?_eq_some_iff.1 hj).1; simp; omega)⟩
    obtain ⟨v', hv', hrep⟩ := e2.at hx
    rw [hj] at hv'; injection hv' with hv'; subst hv'
    have := (hrep.cells (hone x (List.mem_of_getElem? hx))).len
    rw [huni x (List.mem_of_getElem? hx)] at this
    simpa using this
  have hrun : ∃ cells : Array Value, cells.toList = vs.flatMap (fun v => v.cells.toList) ∧ (execOp a.eval o).run P w = .ok (.value (.slice (some ⟨w.heap.size, 0, none⟩) len len)) (w.alloc (.cells cells e)) := by
    have h24 : ¬ (len * szP P e > 2 ^ 24) := by omega
    have hpm : (ps.map fun x => (x.1, a.eval x.2)).toList = (vs.zipIdx 0).map (fun x => (x.2, x.1)) := by rw [Array.toList_map]; exact e1
    by_cases hlz : len * szP P e = 0
    · have hl0 : len = 0 := by rcases Nat.mul_eq_zero.1 hlz with h | h; exact h; omega
      subst hl0
      have hv0 : vs = [] := List.length_eq_zero_iff.1 hvl
      subst hv0
      refine ⟨#[], rfl, ?_⟩
      have hpm' : ps = #[] := by
        have := congrArg List.length e1
        simp at this
        exact this
      subst hpm'
      simp [execOp, hop, Instr.buildSlice, run_underlying hu, run_szP hi, Instr.fill, Go.newRow]
      congr 2
      exact Array.eq_empty_of_size_eq_zero (by simp)
    · have hzz : ((P.info? e).bind (·.zero)).isSome := hz.resolve_left (by rintro rfl; simp at hlz)
      obtain ⟨zv, hzv⟩ := Option.isSome_iff_exists.1 hzz
      rw [hi] at hzv
      have hzv' : i.zero = some zv := by simpa using hzv
      obtain ⟨cells', f1, f2⟩ := fill_all (szP P e) vs 0 ((Array.range (len * szP P e)).map (fun x => zv.cells[x % zv.cells.size]!)) hvs (by simp [hvl])
      refine ⟨cells', ?_, ?_⟩
      · rw [f2]; simp [hvl]
      · simp only [execOp, hop, Sem.run_bind, Instr.buildSlice, run_underlying hu, Result.andThen_ok, run_szP hi, h24, if_false, hlz, zeroValue, typeInfo, run_program, hi, hzv', Sem.run_pure]
        simp only [hpm, f1, Go.newRow, Sem.run_bind, run_newObj, Result.andThen_ok, Sem.run_pure]
        rfl
  obtain ⟨cells, hcl, hrun⟩ := hrun
  have hflat := e2.flat hone
  rw [← hcl] at hflat
  have hfl : (flatA (xs.map (ev s.e))).length = len * szP P e := by rw [flatA_len huni]; simp [hlen]
  have hcs : cells.size = len * szP P e := by have := hflat.len; rw [hfl] at this; simpa using this
  have hmx : len ≤ maxLen := by
    simp only [maxLen]
    have : len * 1 ≤ len * szP P e := Nat.mul_le_mul_left _ k3
    omega
  have hof : ∀ x ∈ flatA (xs.map (ev s.e)), x.one = true := by
    intro x hx
    simp only [flatA, List.mem_flatMap] at hx
    obtain ⟨y, hy, hxy⟩ := hx
    exact hone y hy x hxy
  exact wp_value hrun ⟨_, _, hk w.heap.size hr.r0.hi, Gh.Le.rfl_ G, hr.put hd (Gh.Le.rfl_ G) (hr.r0.new hflat hof) (by rw [← hlen]; exact .slm (Nat.le_refl _) (by rw [hlen]; exact hmx))⟩
end
end Go.Proofs.YtnmkpadgogbgkaaDoor
namespace Go.Proofs.YtnmkpadgogbgkaaDoor
open Go.RowKit
section
variable {P : Program} {w w' w0 : World} {G G' : Gh} {nt : Nat} {s : AS} {a : Act}
theorem K1_iff {o : Option AV} {k : AV → Prop} : K1 o k ↔ ∃ v, o = some v ∧ k v := by
  cases o <;> simp [K1]
theorem s2b_sound {o : Oper} {src dst e : TypeId} {xo : Operand} {b : ByteArray} {K : AS → Prop} {Q : Exit → Act → World → Prop} (hr : RelS P w0 nt G s a w) (hd : ∀ t, o.dst = some t → t < nt) (hop : o.op = .convert src dst xo) (hs : P.underlying src = some .string) (hdu : P.underlying dst = some (.slice e)) (he : P.underlying e = some (.int .u8))
    (hx : Rep G (a.eval xo) (.str b.data.toList)) (hb : b.size ≤ maxLen) (hk : ∀ n', s.n ≤ n' → K ⟨putO s.e o.dst (.sl 1 (b.data.toList.map fun u => .int .u8 u.toNat) .ro), n', s.H⟩) : o.wp P a w (After P w0 nt G K) Q := by
  generalize hxv : a.eval xo = xv at hx
  have hxs : xv = .string b := by
    cases hx with | str h => exact congrArg Value.string (ByteArray.ext (Array.toList_inj.1 h))
  subst hxs
  have hge := grownCap_ge w b.size 0 e
  have hcm := grownCap_le_maxLen w b.size 0 e hb
  let row : Array Value := (b.data.map fun u => Value.int .u8 u.toNat) ++ Array.replicate (grownCap w b.size 0 e - b.size) (.int .u8 0)
  have hrun : ∃ w1, (execOp a.eval o).run P w = .ok (.value (.slice (some ⟨w.heap.size, 0, none⟩) b.size (grownCap w b.size 0 e))) w1 ∧ w1.heap = w.heap.push (.cells row e (row.size, row.size + 1)) ∧ w1.os = w.os ∧ w1.tape = w.tape ∧ w1.output = w.output := by
    refine ⟨(w.drew.alloc (.cells row e)).freeze ⟨w.heap.size, row.size, none⟩ 1, ?_, ?_, rfl, rfl, rfl⟩
    · have hsh : (w.drew.alloc (.cells row e)).shape? w.heap.size = some (e, row.size) := by
        have := heap_alloc_new w.drew (.cells row e)
        simp only [World.shape?]
        rw [show w.heap.size = w.drew.heap.size from rfl, this]
      simp only [execOp, hop, convert, Sem.run_bind, run_underlying hs, run_underlying hdu, run_underlying he, hxv, Result.andThen_ok, Conv.stringToBytes, run_choose, Question.forced, Go.newRow, run_newObj, Sem.run_pure, markStringish, run_shape, Bool.false_eq_true, if_false]
      have hcap : (Question.appendCap b.size 0 e).cut (w.tape w.drawn (.appendCap b.size 0 e)) = grownCap w b.size 0 e := rfl
      simp only [hcap]
      have hsh' : World.shape? { { w with drawn := w.drawn + 1 } with heap := ({ w with drawn := w.drawn + 1 } : World).heap.push (.cells row e) } w.heap.size = some (e, row.size) := hsh
      simp only [row] at hsh' ⊢
      rw [hsh']
      rfl
    · have hsz : (w.drew.alloc (.cells row e)).heap = w.heap.push (.cells row e) := rfl
      simp only [World.freeze, Nat.one_ne_zero, if_false, hsz]
      apply Array.ext_getElem?
      intro j
      rw [Array.getElem?_modify, Array.getElem?_push, Array.getElem?_push]
      by_cases hj : w.heap.size = j
      · subst hj; simp
      · have hj2 : ¬ j = w.heap.size := fun e => hj e.symm
        simp [hj, hj2]
  obtain ⟨w1, hrun, hw1, ho1, ht1, hu1⟩ := hrun
  let vs : List Value := b.data.toList.map fun u => Value.int .u8 u.toNat
  have hvl : vs.length = b.size := by simp [vs]
  have hrel := hr.r0.newRow (w' := w1) (vs := vs) (c := none) (ob := none) hw1 ho1 ht1 hu1 (fun j u hu => by
    have hj := (List.getElem?_eq_some_iff.1 hu).1
    have hj' : j < b.data.size := by rw [hvl] at hj; exact hj
    simp only [row]
    rw [Array.getElem?_append_left (by simpa using hj')]
    simpa [vs] using hu) (fun e' c' hc => by cases hc) (.inl rfl)
  have hle := hr.r0.addLe vs none
  have hH : upd s.H w.heap.size none = s.H := by
    funext k; simp only [upd]; split
    · rename_i hk'; subst hk'; exact (hr.r0.supp _ hr.r0.hi).symm
    · rfl
  rw [hH] at hrel
  refine wp_value hrun ⟨_, _, hk (w.heap.size + 1) (by have := hr.r0.hi; omega), hle, hr.put hd hle hrel ?_⟩
  have hflat : ∀ l : List UInt8, flatA (l.map fun u => AV.int .u8 u.toNat) = l.map fun u => AV.int .u8 u.toNat := fun l => by
    induction l with
    | nil => rfl
    | cons x l ih => simp only [List.map_cons, flatA, List.flatMap_cons, AV.cells, List.singleton_append] at ih ⊢; rw [ih]
  refine .slro (vs := vs) ?_ (Gh.add_sealed _ _ _) ⟨?_, hcm, by omega, ?_, ?_⟩ ?_
  · rw [hflat]
    refine RepL.of (by simp [vs]) fun i v x h1 h2 => ?_
    simp only [vs, List.getElem?_map] at h1 h2
    cases hl : b.data.toList[i]? with
    | none => rw [hl] at h1; cases h1
    | some u => rw [hl] at h1 h2; injection h1 with h1; injection h2 with h2; subst h1; subst h2; exact .int
  · simpa using hge
  · intro x hx; obtain ⟨u, _, rfl⟩ := List.mem_map.1 hx; rfl
  · intro x hx; rw [hflat] at hx; obtain ⟨u, _, rfl⟩ := List.mem_map.1 hx; rfl
  · simp
theorem freeze_heap (g k : Nat) (hk : k ≠ 0) : (∀ j, j ≠ g → (w.freeze ⟨g, 0, none⟩ k).heap[j]? = w.heap[j]?) ∧ (w.freeze ⟨g, 0, none⟩ k).heap.size = w.heap.size ∧ ∀ cur e fz, w.heap[g]? = some (.cells cur e fz) → ∃ fz' : Nat × Nat, (w.freeze ⟨g, 0, none⟩ k).heap[g]? = some (.cells cur e fz') ∧ fz'.2 ≤ max fz.2 k := by
  simp only [World.freeze, hk, if_false]
  refine ⟨fun j hj => by rw [Array.getElem?_modify, if_neg (fun e => hj e.symm)], by simp, fun cur e fz hg => ?_⟩
  obtain ⟨lo, hi⟩ := fz
  rw [Array.getElem?_modify, if_pos rfl, hg]
  refine ⟨_, rfl, ?_⟩
  simp only
  split <;> simp <;> omega
theorem freeze_at (g off k : Nat) (hk : k ≠ 0) : (∀ j, j ≠ g → (w.freeze ⟨g, off, none⟩ k).heap[j]? = w.heap[j]?) ∧ (w.freeze ⟨g, off, none⟩ k).heap.size = w.heap.size ∧ ∀ cur e fz, w.heap[g]? = some (.cells cur e fz) → ∃ fz', (w.freeze ⟨g, off, none⟩ k).heap[g]? = some (.cells cur e fz') := by
  simp only [World.freeze, hk, if_false]
  refine ⟨fun j hj => by rw [Array.getElem?_modify, if_neg (fun e => hj e.symm)], by simp, fun cur e fz hg => ?_⟩
  obtain ⟨lo, hi⟩ := fz
  rw [Array.getElem?_modify, if_pos rfl, hg]
  exact ⟨_, rfl⟩
/-- a slice of bytes, converted to its own type: it may be appended to no more -/
theorem s2s_sound {o : Oper} {src dst e e2 : TypeId} {xo : Operand} {sz g : Nat} {l : List AV} {K : AS → Prop} {Q : Exit → Act → World → Prop} (hr : RelS P w0 nt G s a w) (hd : ∀ t, o.dst = some t → t < nt) (hop : o.op = .convert src dst xo) (hs : P.underlying src = some (.slice e)) (hdu : P.underlying dst = some (.slice e2)) (he : P.underlying e = some (.int .u8)) (hsd : src = dst)
    (hx : Rep G (a.eval xo) (.sl sz l (.own g))) (hl : l ≠ []) (hk : K ⟨putO s.e o.dst (.sl sz l .ro), s.n, upd s.H g none⟩) : o.wp P a w (After P w0 nt G K) Q := by
  subst hsd
  rw [hs] at hdu
  injection hdu with hdu
  injection hdu with hdu
  subst hdu
  have hro := hx.toRo
  generalize hxv : a.eval xo = xv at hx hro
  cases hx with
  | @slown _ vs _ _ c n ee hrl hsl ho hn hcap =>
    obtain ⟨cur, fz, hcur, hcsz⟩ := hr.r0.caps g _ c hcap
    have hlo := hr.r0.capLo g _ c hcap
    have hsh : w.shape? g = some (ee, cur.size) := by simp [World.shape?, hcur]
    obtain ⟨f1, f2, f3⟩ := freeze_at (w := w) g cur.size 1 (by simp)
    have hrun : (execOp a.eval o).run P w = .ok (.value (.slice (some ⟨g, 0, none⟩) n c)) (w.freeze ⟨g, cur.size, none⟩ 1) := by
      simp only [execOp, hop, convert, Sem.run_bind, run_underlying hs, run_underlying he, hxv, Result.andThen_ok, markStringish, run_shape, hsh, run_freeze, Sem.run_pure, beq_self_eq_true]
    have hcell : ∀ b oo, (w.freeze ⟨g, cur.size, none⟩ 1).cell? ⟨b, oo, none⟩ = w.cell? ⟨b, oo, none⟩ := by
      intro b oo
      by_cases hb : b = g
      · subst hb
        obtain ⟨fz', h1⟩ := f3 cur _ fz hcur
        rw [cell_of_row _ _ oo cur _ fz' h1, cell_of_row w _ oo cur _ fz hcur]
      · exact World.cell?_of_block (f1 b hb)
    have h0 : Rel0 P w0 G s.n (upd s.H g none) (w.freeze ⟨g, cur.size, none⟩ 1) := by
      refine ⟨⟨hr.r0.ext.os, hr.r0.ext.tape, hr.r0.ext.output, by rw [f2]; exact hr.r0.ext.size, fun k hk => by rw [f1 k (by omega)]; exact hr.r0.ext.block k hk⟩, hr.r0.lo, by rw [f2]; exact hr.r0.hi, fun b oo v hv => by rw [hcell]; exact hr.r0.seal_ b oo v hv, fun k e3 c3 hc3 => ?_, hr.r0.capLo, fun k ob hob => ?_⟩
      · by_cases hk : k = g
        · subst hk
          obtain ⟨cur2, fz2, h1, h2⟩ := hr.r0.caps k e3 c3 hc3
          obtain ⟨fz', h3⟩ := f3 cur2 e3 fz2 h1
          exact ⟨cur2, fz', h3, h2⟩
        · exact caps_keep (f1 k hk) (hr.r0.caps k e3 c3 hc3)
      · by_cases hk : k = g
        · subst hk; rw [xz4f] at hob; cases hob
        · rw [upd_ne hk] at hob
          obtain ⟨j1, j2, j3⟩ := hr.r0.objs k ob hob
          exact ⟨j1, j2, j3.keep (f1 k hk) (fun _ => rfl) rfl (Gh.Le.rfl_ G) (MapsKeep.ne (fun m hm => f1 m hm) fun es c e => by rw [hcur] at e; cases e)⟩
    exact wp_value hrun ⟨G, _, hk, Gh.Le.rfl_ G, hr.put hd (Gh.Le.rfl_ G) h0 hro⟩
theorem u8ok_map (bs : List UInt8) : (bs.map fun u => AV.int .u8 u.toNat).all u8ok = true := by
  rw [List.all_eq_true]
  intro x hx
  obtain ⟨u, _, rfl⟩ := List.mem_map.1 hx
  have := u.toNat_lt
  simp [u8ok]; omega
theorem u8_of_ok {n : Int} (h : u8ok (.int .u8 n) = true) : n = ((UInt8.ofNat n.toNat).toNat : Int) := by
  simp [u8ok] at h
  simp [UInt8.toNat_ofNat']
  omega
theorem flatA_bytes : ∀ {l : List AV} {bs : List UInt8}, bytesOf l = some bs → flatA l = l
  | [], _, _ => rfl
  | y :: l, bs, h => by
    cases y <;> try (simp [bytesOf] at h; done)
    rename_i k n
    cases k <;> try (simp [bytesOf] at h; done)
    simp only [bytesOf] at h
    obtain ⟨bs', h1, h2⟩ := Option.map_eq_some_iff.1 h
    have ih := flatA_bytes h1
    simp only [flatA, List.flatMap_cons, AV.cells, List.singleton_append] at ih ⊢
    rw [ih]
theorem RepL.at2 {G : Gh} {vs : List Value} {xs : List AV} (h : RepL G vs xs) {i : Nat} {v : Value} (hv : vs[i]? = some v) : ∃ x, xs[i]? = some x ∧ Rep G v x := by
  have hl := (List.getElem?_eq_some_iff.1 hv).1
  rw [h.len] at hl
  have hx : xs[i]? = some xs[i] := List.getElem?_eq_getElem hl
  obtain ⟨u, hu, hr⟩ := h.at hx
  rw [hv] at hu; injection hu with hu; subst hu
  exact ⟨_, hx, hr⟩
theorem ust_sound {o : Oper} {e t ty2 : TypeId} {vx vn : Value} {x n : AV} {v : AV} (hr : RelS P w0 nt G s a w) (ht : P.underlying t = some (.pointer e)) (hc1 : P.cellsOf e = 1) (hx : Rep G vx x) (hn : Rep G vn n) (h : ustAV e x n = some v) (hown : ∀ g e c, G.cap g = some (e, c) → w0.heap.size ≤ g) :
    ∃ v' w', (Builtin.unsafeString_ #[t, ty2] o.type #[vx, vn]).run P w = .ok v' w' ∧ Rep G v' v ∧ Rel0 P w0 G s.n s.H w' := by
  unfold ustAV at h
  split at h
  · rename_i e' l nn
    split at h
    · rename_i hcond
      obtain ⟨rfl, rfl, hlen, hok⟩ := hcond
      obtain ⟨bs, hb1, hb2⟩ := Option.map_eq_some_iff.1 h
      subst hb2
      cases hn
      have hneg : ¬ ((l.length : Int) < 0) := by omega
      have hmx : ¬ ((l.length : Int) > IntKind.i64.max) := by simp [IntKind.max, IntKind.bits, IntKind.signed]; unfold bigLen at hlen; omega
      by_cases hl : l = []
      · subst hl
        simp [bytesOf] at hb1; subst hb1
        have hp : ∃ A, vx = .pointer A := by cases hx <;> exact ⟨_, rfl⟩
        obtain ⟨A, rfl⟩ := hp
        refine ⟨.string .empty, w, ?_, .str rfl, hr.r0⟩
        exact Lib.run_unsafeString_none w _ _ _ A
      · cases hx with
        | dat0 => exact absurd rfl hl
        | @dat g vs _ _ c hrl hs hcap =>
          obtain ⟨ns, e1, e2⟩ := bytesOf_rep hb1 hrl
          have hvl : vs.length = l.length := by rw [hrl.len, flatA_len (bytesOf_cells hb1), Nat.mul_one]
          obtain ⟨cur, fz, hcur, hcsz⟩ := hr.r0.caps g _ c hcap
          have hpos : 0 < l.length := List.length_pos_iff.2 hl
          have hin : l.length ≤ cur.size := by
            obtain ⟨u, hu⟩ : ∃ u, vs[l.length - 1]? = some u := ⟨_, List.getElem?_eq_getElem (by omega)⟩
            have h1 := hr.r0.seal_ _ _ _ (hs _ u hu)
            rw [Nat.zero_add, cell_of_row w g _ cur _ fz hcur] at h1
            have := (Array.getElem?_eq_some_iff.1 h1).1
            omega
          have hnl : ns.length = l.length := by rw [← hvl, e1]; simp
          have hbl : bs.length = l.length := by rw [e2, List.length_map, hnl]
          have hfl : flatA l = l := flatA_bytes hb1
          have hus := Lib.run_unsafeString_row w t ty2 o.type e' ht hc1 g cur.size (by simp [World.shape?, hcur]) bs (by intro h0; rw [h0] at hbl; simp at hbl; omega) (by omega) (by unfold bigLen at hlen; omega) (fun j x hx => by
            rw [addr_add]
            rw [e2, List.getElem?_map, Option.map_eq_some_iff] at hx
            obtain ⟨n, hn1, rfl⟩ := hx
            have hv : vs[j]? = some (.int .u8 n) := by rw [e1]; simp [hn1]
            obtain ⟨y, hy1, hy2⟩ := hrl.at2 hv
            rw [hfl] at hy1
            have hyo := List.all_eq_true.1 hok y (List.mem_of_getElem? hy1)
            cases hy2 with
            | any => simp [u8ok] at hyo
            | int => rw [← u8_of_ok hyo]; exact hr.r0.seal_ _ _ _ (hs j _ hv))
          rw [hbl] at hus
          have hne : ¬ ((l.length : Int) = 0) := by omega
          have hne' : ¬ l.length = 0 := by omega
          obtain ⟨f1, f2, f3⟩ := freeze_heap (w := w) g l.length hne'
          refine ⟨.string ⟨bs.toArray⟩, w.freeze ⟨g, 0, none⟩ l.length, ?_, .str (by simp), ?_⟩
          · exact hus
          · have hcell : ∀ b oo, (w.freeze ⟨g, 0, none⟩ l.length).cell? ⟨b, oo, none⟩ = w.cell? ⟨b, oo, none⟩ := by
              intro b oo
              by_cases hb : b = g
              · subst hb
                obtain ⟨fz', h1, _⟩ := f3 cur _ fz hcur
                rw [cell_of_row _ _ oo cur _ fz' h1, cell_of_row w _ oo cur _ fz hcur]
              · exact World.cell?_of_block (f1 b hb)
            have hI : ∀ o, l.length ≤ o + 1 → o < l.length → ∃ v, G.I g o = some v := fun o _ ho => by
              obtain ⟨u, hu⟩ : ∃ u, vs[o]? = some u := ⟨_, List.getElem?_eq_getElem (by omega)⟩
              exact ⟨u, by have := hs o u hu; rwa [Nat.zero_add] at this⟩
            obtain ⟨v1, hv1⟩ := hI (l.length - 1) (by omega) (by omega)
            have hgw0 : w0.heap.size ≤ g := hown g e' c hcap
            refine ⟨Lib.below_freeze hr.r0.ext hgw0 _, hr.r0.lo, by rw [f2]; exact hr.r0.hi, fun b oo v hv => by rw [hcell]; exact hr.r0.seal_ b oo v hv, fun k e2 c2 hc2 => ?_, hr.r0.capLo, fun k ob hob => ?_⟩
            · by_cases hk : k = g
              · subst hk
                obtain ⟨cur2, fz2, h1, h2⟩ := hr.r0.caps k e2 c2 hc2
                obtain ⟨fz', h3, _⟩ := f3 cur2 e2 fz2 h1
                exact ⟨cur2, fz', h3, h2⟩
              · exact caps_keep (f1 k hk) (hr.r0.caps k e2 c2 hc2)
            · obtain ⟨j1, j2, j3⟩ := hr.r0.objs k ob hob
              by_cases hk : k = g
              · subst hk
                refine ⟨j1, j2, ?_⟩
                cases ob with
                | cells e2 cs => have := j3.1 (l.length - 1); rw [this] at hv1; cases hv1
                | row e2 m =>
                  obtain ⟨cur2, c2, fz2, q1, q2, q3, q4, q5, q6, q7⟩ := j3
                  obtain ⟨fz', h3, h4⟩ := f3 cur2 e2 fz2 q2
                  refine ⟨cur2, c2, fz', q1, h3, ?_, q4, q5, q6, q7⟩
                  have hlt : l.length - 1 < m * szP P e2 := by
                    rcases Nat.lt_or_ge (l.length - 1) (m * szP P e2) with h | h
                    · exact h
                    · rw [q7 _ h] at hv1; cases hv1
                  omega
                | map kk es => obtain ⟨es', clock, m1, _⟩ := j3; rw [hcur] at m1; cases m1
                | iter m len left cur => obtain ⟨_, _, _, _, m1, _⟩ := j3; rw [hcur] at m1; cases m1
              · exact ⟨j1, j2, j3.keep (f1 k hk) (fun _ => rfl) rfl (Gh.Le.rfl_ G) (MapsKeep.ne (fun m hm => f1 m hm) fun es c e => by rw [hcur] at e; cases e)⟩
    · cases h
  · cases h
theorem mkmap_sound {o : Oper} {t : TypeId} {kk : Option IntKind} {K : AS → Prop} {Q : Exit → Act → World → Prop} (hr : RelS P w0 nt G s a w) (hd : ∀ t, o.dst = some t → t < nt) (hop : o.op = .makeMap t none)
    (hk : ∀ g, s.n ≤ g → K ⟨putO s.e o.dst (.mp g), g + 1, upd s.H g (some (.map kk []))⟩) : o.wp P a w (After P w0 nt G K) Q := by
  have hrun : (execOp a.eval o).run P w = .ok (.value (.map (some w.heap.size))) (w.alloc (.map #[] 0)) := by
    simp [execOp, hop, Instr.makeMap]
  exact wp_value hrun ⟨G, _, hk w.heap.size hr.r0.hi, Gh.Le.rfl_ G, hr.put hd (Gh.Le.rfl_ G) (hr.r0.newMap kk) .mp⟩
theorem msetL_keys {kk : Option IntKind} {k v : AV} (hk : keyOkK kk k = true) : ∀ {es : List (AV × AV)}, (∀ e ∈ es, keyOkK kk e.1 = true) → ∀ e ∈ msetL k v es, keyOkK kk e.1 = true
  | [], _, e, he => by simp [msetL] at he; subst he; exact hk
  | x :: es, h, e, he => by
    simp only [msetL] at he
    split at he
    · rcases List.mem_cons.1 he with he | he
      · subst he; exact hk
      · exact h e (List.mem_cons_of_mem _ he)
    · rcases List.mem_cons.1 he with he | he
      · rw [he]; exact h x List.mem_cons_self
      · exact msetL_keys hk (fun e he => h e (List.mem_cons_of_mem _ he)) e he
theorem mset_sound {o : Oper} {mt kt et : TypeId} {kk : Option IntKind} {mo ko vo : Operand} {m k v : AV} {K : AS → Prop} {Q : Exit → Act → World → Prop} (hr : RelS P w0 nt G s a w) (hd : ∀ t, o.dst = some t → t < nt) (hop : o.op = .mapUpdate mt mo ko vo ∨ o.op = .insert mt mo ko vo)
    (hm : P.underlying mt = some (.map kt et)) (hkk : mkind P kt = some kk) (hmr : Rep G (a.eval mo) m) (hkr : Rep G (a.eval ko) k) (hvr : Rep G (a.eval vo) v)
    (h : msetS kk o.dst K s k v m) : o.wp P a w (After P w0 nt G K) Q := by
  have hku := mkind_out hkk
  unfold msetS at h
  split at h
  · rename_i g
    split at h
    · rename_i kk' es hH
      obtain ⟨rfl, hko, hk⟩ := h
      obtain ⟨j1, j2, es', clock, hb, hrep, hall, hbo⟩ := hr.r0.objs g _ hH
      generalize hmv : a.eval mo = mv at hmr
      cases hmr
      obtain ⟨ms, clock', w1, b1, b2, e1, e2, e3, e4, e5, e6, e7, e8⟩ := run_mapUpdate_rep (t := kdesc kk') hm hku hkr (keyOk_of hko) hvr hb hrep (fun e he => keyOk_of (hall e he)) hbo
      have hrun : (execOp a.eval o).run P w = .ok .skip w1 := by
        rcases hop with hop | hop <;> simp only [execOp, hop, hmv, Sem.run_bind, e1, Result.andThen_ok, Sem.run_pure]
      exact wp_skip' hrun ⟨G, _, hk, Gh.Le.rfl_ G, hr.put hd (Gh.Le.rfl_ G) (hr.r0.setMap hH hb e2 e3 (msetL_keys hko hall) b1 b2 e4 e5 e6 e7 e8) .any⟩
    · exact h.elim
  · exact h.elim
theorem rng_sound {o : Oper} {t kt et : TypeId} {xo : Operand} {x : AV} {K : AS → Prop} {Q : Exit → Act → World → Prop} (hr : RelS P w0 nt G s a w) (hd : ∀ t, o.dst = some t → t < nt) (hop : o.op = .range t xo) (hm : P.underlying t = some (.map kt et)) (hxr : Rep G (a.eval xo) x)
    (h : rngS o.dst K s x) : o.wp P a w (After P w0 nt G K) Q := by
  unfold rngS at h
  split at h
  · rename_i m
    split at h
    · rename_i kk es hH
      obtain ⟨j1, j2, es', clock, hb, hrep, hall, hbo⟩ := hr.r0.objs m _ hH
      generalize hxv : a.eval xo = xv at hxr
      cases hxr
      have hrun : (execOp a.eval o).run P w = .ok (.value (.pointer (some ⟨w.heap.size, 0, none⟩))) (w.alloc (.mapIter (some m) clock #[] clock)) := by
        simp only [execOp, hop, hxv, Sem.run_bind, run_range_map w t kt et m es' clock hm hb, Result.andThen_ok, Sem.run_pure]
      exact wp_value hrun ⟨G, _, h w.heap.size hr.r0.hi, Gh.Le.rfl_ G, hr.put hd (Gh.Le.rfl_ G) (hr.r0.newIter hH hb) .ptr⟩
    · exact h.elim
  · exact h.elim
theorem nxt_sound {o : Oper} {xo : Operand} {x : AV} {K : AS → Prop} {Q : Exit → Act → World → Prop} (hr : RelS P w0 nt G s a w) (hd : ∀ t, o.dst = some t → t < nt) (hop : o.op = .next xo false) (hxr : Rep G (a.eval xo) x)
    (h : nxtS o.dst K s x) : o.wp P a w (After P w0 nt G K) Q := by
  unfold nxtS at h
  split at h
  · rename_i g off
    obtain ⟨rfl, h⟩ := h
    split at h
    · rename_i m len left cur hH
      split at h
      · rename_i kk es hM
        obtain ⟨hlen, hz, hstep⟩ := h
        obtain ⟨i1, i2, since, seen, es', clock, hg, hb, hle, hck, hnd, hlt, hiff, hcur⟩ := hr.r0.objs g _ hH
        obtain ⟨_, _, es2, c2, hb2, hrep, hall, hbo⟩ := hr.r0.objs m _ hM
        rw [hb] at hb2; injection hb2 with hb2; injection hb2 with q1 q2; subst q1; subst q2
        have hsz : es'.size = es.length := by rw [← hrep.len]; simp
        have hcs : clock = since := by omega
        have hold : ∀ x ∈ es'.toList, x.born < since := fun x hx => by rw [← hcs]; exact hbo.2 _ (List.mem_map.2 ⟨x, hx, rfl⟩)
        generalize hxv : a.eval xo = xv at hxr
        cases hxr
        rcases run_next_any (P := P) o.type hg hb hold (Nat.le_refl _) with ⟨hl0, hrun⟩ | ⟨e, he, w1, a1, a2, a3, a4, hrun⟩
        · have hempty : left = [] := by
            rcases left with _ | ⟨j, l⟩
            · rfl
            · exfalso
              have hj := hlt j List.mem_cons_self
              have hjs : j < es'.size := by omega
              have hbj : (bornsOf es')[j]? = some es'[j].born := by simp [bornsOf, hjs]
              have hns := (hiff j _ hbj hj).1 List.mem_cons_self
              have hmem : es'[j] ∈ (leftOf es' seen).toList := by
                simp only [leftOf, Array.toList_filter, List.mem_filter]
                exact ⟨by simp, by simpa using hns⟩
              have : (leftOf es' seen).toList = [] := by
                have := Array.eq_empty_of_size_eq_zero hl0
                rw [this]
              rw [this] at hmem; cases hmem
          have hrun' : (execOp a.eval o).run P w = .ok (.value (.tuple #[.bool false])) w := by
            simp only [execOp, hop, hxv, Sem.run_bind, hrun, Result.andThen_ok, Sem.run_pure]
          exact wp_value hrun' ⟨G, _, hz hempty, Gh.Le.rfl_ G, hr.put hd (Gh.Le.rfl_ G) hr.r0 (.tup (.cons .bool .nil))⟩
        · obtain ⟨he1, he2⟩ := mem_left he
          obtain ⟨j, hjl, hje⟩ := List.getElem_of_mem he1
          have hje' : es'.toList[j]? = some e := by rw [List.getElem?_eq_getElem hjl, hje]
          have hjlen : j < len := by have : es'.toList.length = es'.size := by simp
                                     omega
          have hbj : (bornsOf es')[j]? = some e.born := by simp only [bornsOf, List.getElem?_map, hje', Option.map_some]
          have hns : e.born ∉ seen := by simpa using he2
          have hjm : j ∈ left := (hiff j _ hbj hjlen).2 hns
          obtain ⟨k, v, hkv, hkr, hvr⟩ := hrep.at_ hje'
          have hK := hstep j hjm k v hkv
          have hglt : g < w.heap.size := (Array.getElem?_eq_some_iff.1 hg).1
          have hrun' : (execOp a.eval o).run P w = .ok (.value (.tuple #[.bool true, e.key, e.val])) { w1 with heap := w1.heap.setIfInBounds g (.mapIter (some m) since (seen.push e.born) clock) } := by
            simp only [execOp, hop, hxv, Sem.run_bind, hrun, Result.andThen_ok, Sem.run_pure]
          have hoth : ∀ k, k ≠ g → ({ w1 with heap := w1.heap.setIfInBounds g (.mapIter (some m) since (seen.push e.born) clock) } : World).heap[k]? = w.heap[k]? := fun k hk => by
            simp [Array.getElem?_setIfInBounds, Ne.symm hk, a1]
          have hmg : m ≠ g := fun e => by rw [e, hg] at hb; cases hb
          have hob : ObjOk P G ({ w1 with heap := w1.heap.setIfInBounds g (.mapIter (some m) since (seen.push e.born) clock) } : World) g (.iter m len (left.erase j) (some j)) := by
            refine ⟨since, seen.push e.born, es', clock, by simp [a1, hglt, hcs], by rw [hoth m hmg]; exact hb, hle, hck, hnd.erase j, fun i hi => hlt i (List.mem_of_mem_erase hi), fun i b hib hi => ?_, fun i hi => ?_⟩
            · rw [hnd.mem_erase_iff, hiff i b hib hi]
              simp only [Array.mem_push, not_or]
              constructor
              · rintro ⟨h1, h2⟩
                refine ⟨h2, fun h3 => h1 ?_⟩
                exact (List.getElem?_inj (List.getElem?_eq_some_iff.1 hib).1 hbo.1).1 (by rw [hib, hbj, h3])
              · rintro ⟨h1, h2⟩
                exact ⟨fun h3 => h2 (by rw [h3, hbj] at hib; injection hib with hib; exact hib.symm), h1⟩
            · injection hi with hi; subst hi
              exact ⟨hjlen, _, hbj, by simp⟩
          exact wp_value hrun' ⟨G, _, hK, Gh.Le.rfl_ G, hr.put hd (Gh.Le.rfl_ G) (hr.r0.setIter hH hg hob hoth (by simp [a1]) (by simp [a2]) (by simp [a3]) (by simp [a4])) (.tup (.cons .bool (.cons hkr (.cons hvr .nil))))⟩
      · exact h.elim
    · exact h.elim
  · exact h.elim
theorem mksl_sound {o : Oper} {t e : TypeId} {lo co : Operand} {x y z : AV} {i : TypeInfo} {K : AS → Prop} {Q : Exit → Act → World → Prop} (hr : RelS P w0 nt G s a w) (hd : ∀ t, o.dst = some t → t < nt) (hop : o.op = .makeSlice t lo co) (hu : P.underlying t = some (.slice e))
    (hz : zeroOf P e = some [z]) (hi : P.info? e = some i) (h1 : i.size = 1) (hx : Rep G (a.eval lo) x) (hy : Rep G (a.eval co) y) (h : mkslS e i.bytes z o.dst K s x y) : o.wp P a w (After P w0 nt G K) Q := by
  unfold mkslS at h
  split at h
  · rename_i k n k' m
    obtain ⟨rfl, h0, hb, hm, hk⟩ := h
    obtain ⟨i', zv, hi', hzv, hrz, hone⟩ := zeroOf_out (G := G) hz
    rw [hi] at hi'; injection hi' with hi'; subst hi'
    generalize hxv : a.eval lo = xv at hx
    generalize hyv : a.eval co = yv at hy
    cases hx; cases hy
    obtain ⟨c, rfl⟩ : ∃ c : Nat, n = c := ⟨n.toNat, by omega⟩
    have hmx : c ≤ maxLen := by omega
    have hrun : (execOp a.eval o).run P w = .ok (.value (.slice (some ⟨w.heap.size, 0, none⟩) c c)) (w.alloc (.cells (madeCells zv.cells (c * 1)) e)) := by
      have := run_make (P := P) w t e i zv hu hi hzv k k' (c : Int) (c : Int) (by omega) (by omega) hb (by simp only [maxLen] at hmx; omega)
      rw [h1] at this
      simp only [execOp, hop, hxv, hyv, Sem.run_bind, this, Result.andThen_ok, Sem.run_pure, Int.toNat_natCast]
    have hzl : ∃ u, zv.cells.toList = [u] ∧ Rep G u z := by
      generalize zv.cells.toList = l at hrz
      cases hrz with | cons a b => cases b; exact ⟨_, rfl, a⟩
    obtain ⟨u, hzu, hur⟩ := hzl
    have hcells : (madeCells zv.cells (c * 1)).toList = List.replicate c u := by
      have hz2 : zv.cells = #[u] := Array.toList_inj.1 (by rw [hzu])
      rw [hz2]
      unfold madeCells
      apply List.ext_getElem
      · simp
      · intro j h1 h2
        simp [Nat.mod_one]
    have hrep : RepL G (madeCells zv.cells (c * 1)).toList (List.replicate c z) := by
      rw [hcells]
      refine RepL.of (by simp) fun j v x hv hx => ?_
      have h1 := List.eq_of_mem_replicate (List.mem_of_getElem? hv)
      have h2 := List.eq_of_mem_replicate (List.mem_of_getElem? hx)
      rw [h1, h2]; exact hur
    have hk' := hk w.heap.size hr.r0.hi
    rw [Int.toNat_natCast] at hk'
    exact wp_value hrun ⟨G, _, hk', Gh.Le.rfl_ G, hr.put hd (Gh.Le.rfl_ G) (hr.r0.new hrep (fun x hx => by rw [List.eq_of_mem_replicate hx]; exact hone z (by simp))) (.slm (Nat.le_refl _) hmx)⟩
  · exact h.elim
theorem append_sound {o : Oper} {c : Call} {b : Builtin} {op : AOp} {K : AS → Prop} {Q : Exit → Act → World → Prop} (hr : RelS P w0 nt G s a w) (hd : ∀ t, o.dst = some t → t < nt) (hop : o.op = .call c) (hcal : c.callee = .builtin b) (hc : cBuiltin P b c.args.toList c.argTypes.toList = some op) (hef : ¬ op.eff = false) (h : awOp P o.dst op K s) :
    o.wp P a w (After P w0 nt G K) Q := by
  have ht := hr.tm
  have hargs : c.args.map a.eval = (c.args.toList.map a.eval).toArray := by rw [← Array.toList_map]
  have htys : c.argTypes = c.argTypes.toList.toArray := by simp
  have hrun : (execOp a.eval o) = builtin b c.argTypes.toList.toArray o.type (c.args.map fun | .const _ => true | _ => false) (c.args.toList.map a.eval).toArray := by
    simp only [execOp, hop, resolve, hcal, hargs, invoke]
    rw [← htys]
    rfl
  generalize c.args.toList = al at hc hrun
  generalize c.argTypes.toList = tl at hc hrun
  unfold cBuiltin at hc
  split at hc
  · split at hc <;> first | (injection hc with hc; subst hc; exact absurd rfl hef) | cases hc
  · rename_i x y t u
    split at hc
    · rename_i e x' y' hu hx hy
      split at hc
      · rename_i i hi
        split at hc
        · rename_i hcond
          obtain ⟨hpos, hzz⟩ := hcond
          obtain ⟨zv, hz, hzs⟩ := Option.map_eq_some_iff.1 hzz
          have hyr := opd_rep (G := G) (a := a) (e := s.e) hy ht
          split at hc
          · rename_i hut
            subst hut
            injection hc with hc; subst hc
            simp only [awOp] at h
            unfold appKS at h
            split at h
            · rename_i z m tk hey
              obtain ⟨hz0, m', hsm, h⟩ := h
              rw [hey] at hyr
              have hyr : Rep G (a.eval y) (.sl i.size m' .ro) := hyr.sim ⟨i.size, m', .ro, rfl, .inl rfl, hz0.imp (fun e => e.symm) (fun e => ⟨e, rfl⟩), hsm⟩
              obtain ⟨news, s1, s2, s3, s4⟩ := src_slice hu hr.r0 hyr
              obtain ⟨v', w1, G1, r, n1, H1, e1, e2, e3, e4, e5⟩ := app_sound (ty := o.type) hu hi hz hzs hpos hr.r0 (opd_rep hx ht) s1 s2 s3 s4 h
              refine wp_value (w' := w1) (v := v') ?_ ⟨G1, _, e2, e3, hr.put hd e3 e5 e4⟩
              rw [hrun]
              simp only [builtin, List.map_cons, List.map_nil, Sem.run_bind, e1, Result.andThen_ok, Sem.run_pure]
            · exact h.elim
          · split at hc
            · rename_i hcs
              obtain ⟨hstr, hs1⟩ := hcs
              injection hc with hc; subst hc
              have hus : P.underlying u = some .string := by
                unfold isStr at hstr
                split at hstr
                · assumption
                · cases hstr
              simp only [awOp] at h
              unfold appKB at h
              split at h
              · rename_i b hey
                rw [hey] at hyr
                obtain ⟨b, rfl, hyv⟩ : ∃ b' : ByteArray, b = b'.data.toList ∧ a.eval y = .string b' := by
                  generalize a.eval y = v at hyr; cases hyr with | str h => exact ⟨_, h.symm, rfl⟩
                obtain ⟨news, s1, s2, s3, s4⟩ := src_string (P := P) (w := w) (G := G) (s := b) hus
                rw [← hs1] at s1 s3 h
                obtain ⟨v', w1, G1, r, n1, H1, e1, e2, e3, e4, e5⟩ := app_sound (ty := o.type) hu hi hz hzs hpos hr.r0 (opd_rep hx ht) s1 s2 s3 s4 h
                refine wp_value (w' := w1) (v := v') ?_ ⟨G1, _, e2, e3, hr.put hd e3 e5 e4⟩
                rw [hrun]
                simp only [builtin, List.map_cons, List.map_nil, Sem.run_bind, hyv, e1, Result.andThen_ok, Sem.run_pure]
              · exact h.elim
            · cases hc
        · cases hc
      · cases hc
    · cases hc
  · split at hc <;> first | (injection hc with hc; subst hc; exact absurd rfl hef) | cases hc
  · rename_i x n t u
    split at hc
    · rename_i el x' n' hu hx hn
      split at hc
      · rename_i hcond
        injection hc with hc; subst hc
        simp only [awOp, K1_iff] at h
        obtain ⟨v, hv, hk⟩ := h
        obtain ⟨v', w1, e1, e2, e3⟩ := ust_sound (o := o) (ty2 := u) hr hu hcond.1 (opd_rep hx ht) (opd_rep hn ht) hv hr.r0.capLo
        refine wp_value (w' := w1) (v := v') ?_ ⟨G, _, hk, Gh.Le.rfl_ G, hr.put hd (Gh.Le.rfl_ G) e3 e2⟩
        rw [hrun]
        simp only [builtin, List.map_cons, List.map_nil, Sem.run_bind, e1, Result.andThen_ok, Sem.run_pure]
      · cases hc
    · cases hc
  · split at hc <;> first | (injection hc with hc; subst hc; exact absurd rfl hef) | cases hc
  · split at hc <;> first | (injection hc with hc; subst hc; exact absurd rfl hef) | cases hc
  · cases hc
theorem op_sound {o : Oper} {op : AOp} {ef : List Nat} {K : AS → Prop} {Q : Exit → Act → World → Prop} (hc : cOp P ef o.op = some op) (hd : ∀ t, o.dst = some t → t < nt) (hr : RelS P w0 nt G s a w) (h : awOp P o.dst op K s) :
    o.wp P a w (After P w0 nt G K) Q := by
  by_cases hef : op.eff = false
  · rw [awOp_pure hef] at h
    unfold K1 at h
    split at h
    · rename_i v hv
      obtain ⟨v', h1, h2⟩ := pe_sound hc hv hr
      exact wp_value h1 ⟨G, _, h, Gh.Le.rfl_ G, hr.put hd (Gh.Le.rfl_ G) hr.r0 h2⟩
    · exact h.elim
  · have ht := hr.tm
    have hc0 := hc
    unfold cOp at hc
    split at hc
    case h_4 => -- alloc
      rename_i e hop
      split at hc
      · rename_i z hz
        injection hc with hc; subst hc
        obtain ⟨i, zv, hi, hzv, hrz, h1⟩ := zeroOf_out (G := G) hz
        obtain ⟨ho, hk⟩ := h
        exact box_sound hr hd rfl hrz h1 (by simp [execOp, hop, Instr.alloc, zeroValue, typeInfo, hi, hzv, newVar, Go.newRow]) hk
      · cases hc
    case h_5 => -- box
      rename_i e x hop
      split at hc
      · rename_i sh x' hsh hx
        injection hc with hc; subst hc
        obtain ⟨hf, ho, hk⟩ := h
        have hxr := opd_rep (G := G) (a := a) (e := s.e) hx ht
        exact box_sound hr hd rfl (hxr.cells ho) ho (by simp [execOp, hop, Instr.box, newVar, Go.newRow]) hk
      · cases hc
    case h_7 => -- buildSlice
      rename_i t len ps hop
      split at hc
      · rename_i e hu
        split at hc
        · rename_i sh xs hsh hxs
          split at hc
          · rename_i hcond
            injection hc with hc; subst hc
            obtain ⟨h1, hk⟩ := h
            rcases hk with hk | hk
            · exact bsl_sound hr hd hop hu hsh hxs hcond.1 hcond.2.1 hcond.2.2 h1 hk
            · exact bslm_sound hr hd hop hu hsh hxs hcond.1 hcond.2.1 hcond.2.2 h1 hk
          · cases hc
        · cases hc
      · cases hc
    case h_9 => -- store
      rename_i t xo vo hop
      split at hc
      · rename_i sh x' v' hsh hx hv
        injection hc with hc; subst hc
        exact store_sound hr hd hop hsh (opd_rep hx ht) (opd_rep hv ht) h
      · cases hc
    case h_14 => -- convert
      rename_i src dst x hop
      split at hc
      · injection hc with hc; subst hc; exact absurd rfl hef
      · injection hc with hc; subst hc; exact absurd rfl hef
      · split at hc
        · injection hc with hc; subst hc; exact absurd rfl hef
        · cases hc
      · split at hc
        · injection hc with hc; subst hc; exact absurd rfl hef
        · cases hc
      · rename_i x' u hx hs hdu
        split at hc
        · rename_i hinf
          injection hc with hc; subst hc
          simp only [awOp, K1_iff] at h
          obtain ⟨v, hv, hk⟩ := h
          obtain ⟨v', h1, h2⟩ := run_updn_rep hr.r0 hs hdu hinf.1 hinf.2 (opd_rep hx ht) hv
          exact wp_value (v := v') (by simp only [execOp, hop, Sem.run_bind, h1, Result.andThen_ok, Sem.run_pure]) ⟨G, _, hk, Gh.Le.rfl_ G, hr.put hd (Gh.Le.rfl_ G) hr.r0 h2⟩
        · cases hc
      · rename_i x' e hx hs hdu
        split at hc
        · rename_i he
          injection hc with hc; subst hc
          simp only [awOp] at h
          have hxr := opd_rep (G := G) (a := a) (e := s.e) hx ht
          split at h
          · rename_i b hb
            rw [hb] at hxr
            have hb' : b = (⟨b.toArray⟩ : ByteArray).data.toList := by simp
            rw [hb'] at hxr
            exact s2b_sound hr hd hop hs hdu he hxr h.1 (fun n' hn => by simpa using h.2 n' hn)
          · exact h.elim
        · cases hc
      · rename_i x' e _ hx hs hdu
        split at hc
        · rename_i he
          split at hc
          · rename_i hsd
            injection hc with hc; subst hc
            simp only [awOp] at h
            have hxr := opd_rep (G := G) (a := a) (e := s.e) hx ht
            split at h
            · rename_i sz l g hb
              rw [hb] at hxr
              exact s2s_sound hr hd hop hs hdu he hsd hxr h.1 h.2
            · exact h.elim
          · cases hc
        · cases hc
      · cases hc
    case h_15 => -- makeMap
      rename_i t hop
      split at hc
      · obtain ⟨kk, _, rfl⟩ := Option.map_eq_some_iff.1 hc
        exact mkmap_sound hr hd hop h
      · cases hc
    case h_17 => -- mapUpdate
      rename_i t m k x hop
      split at hc
      · rename_i kt el m' k' x' hm hm' hk' hx'
        obtain ⟨kk, hkk, rfl⟩ := Option.map_eq_some_iff.1 hc
        exact mset_sound hr hd (.inl hop) hm hkk (opd_rep hm' ht) (opd_rep hk' ht) (opd_rep hx' ht) h
      · cases hc
    case h_18 => -- insert
      rename_i t m k x hop
      split at hc
      · rename_i kt el m' k' x' hm hm' hk' hx'
        obtain ⟨kk, hkk, rfl⟩ := Option.map_eq_some_iff.1 hc
        exact mset_sound hr hd (.inr hop) hm hkk (opd_rep hm' ht) (opd_rep hk' ht) (opd_rep hx' ht) h
      · cases hc
    case h_26 => -- call
      rename_i c hop
      unfold cCall at hc
      split at hc
      · rename_i f hcal
        split at hc
        · rename_i xs hxs
          split at hc
          · rename_i fn hfn
            split at hc
            · rename_i hb
              injection hc with hc
              have hrep := opds_rep (G := G) (a := a) (e := s.e) hxs ht
              have hrun : (execOp a.eval o).run P w = .ok (.enter f (c.args.toList.map a.eval).toArray) w := by
                simp only [execOp, hop, resolve, hcal, Act.eval, Deferred.ofValue, Sem.run_bind, Sem.run_pure, Result.andThen_ok, invoke]
                rw [callFunc_run hfn hb, ← Array.toList_map]
                simp only [Array.toArray_toList, Array.append_empty, Array.empty_append]
              split at hc
              · subst hc; exact call_wp hr hd hrep hrun h
              · subst hc; exact call_wp hr hd hrep hrun h.toK
            · split at hc
              · split at hc
                · injection hc with hc; subst hc; exact absurd rfl hef
                · cases hc
              · cases hc
          · cases hc
        · cases hc
      · rename_i t hcal
        split at hc
        · rename_i xs hxs
          injection hc with hc; subst hc
          simp only [awOp] at h
          split at h
          · rename_i f fst cap hev
            have hrep := opds_rep (G := G) (a := a) (e := s.e) hxs ht
            have hfr := ht t
            simp only [ev] at hev
            rw [hev] at hfr
            obtain ⟨hcb, h⟩ := h
            unfold callable at hcb
            split at hcb
            · rename_i fn hfn
              generalize hfv : a.tmps.getD t undef = fv at hfr
              cases hfr with
              | fn h1 h2 =>
                rename_i va vb
                have hrep' := (h1.append hrep).append h2
                refine call_wp hr hd hrep' ?_ h
                simp only [execOp, hop, resolve, hcal, Act.eval, hfv, Deferred.ofValue, Sem.run_bind, Sem.run_pure, Result.andThen_ok, invoke]
                rw [callFunc_run hfn hcb]
                congr 2
                rw [← Array.toList_map]
                simp
            · cases hcb
          · exact h.elim
        · cases hc
      · rename_i b hcal
        exact append_sound hr hd hop hcal hc hef h
      · cases hc
    case h_27 => -- range
      rename_i t x hop
      split at hc
      · rename_i hm hx
        injection hc with hc; subst hc
        exact rng_sound hr hd hop hm (opd_rep hx ht) h
      · cases hc
    case h_28 => -- next
      rename_i x hop
      obtain ⟨x', hx, rfl⟩ := opd1 hc
      exact nxt_sound hr hd hop (opd_rep hx ht) h
    case h_30 => -- makeSlice
      rename_i t l c hop
      split at hc
      · rename_i e x' y' hu hx hy
        split at hc
        · rename_i z i hz hi
          split at hc
          · rename_i h1
            injection hc with hc; subst hc
            exact mksl_sound hr hd hop hu hz hi h1 (opd_rep hx ht) (opd_rep hy ht) h
          · cases hc
        · cases hc
      · cases hc
    all_goals (repeat' (first | (injection hc with hc; subst hc; exact absurd rfl hef) | (obtain ⟨_, _, rfl⟩ := Option.map_eq_some_iff.1 hc; exact absurd rfl hef) | (cases hc; done) | split at hc | (unfold cPtrEq at hc; split at hc)))
end
end Go.Proofs.YtnmkpadgogbgkaaDoor
namespace Go.Proofs.YtnmkpadgogbgkaaDoor
open Go.RowKit
section
variable {P : Program} {e e' : AEnv} {n : Nat} {H : AHeap}
theorem ev_congr {x : Opd} {l : List Nat} (hx : ∀ t ∈ x.use, t ∈ l) (h : ∀ t ∈ l, get e t = get e' t) : ev e x = ev e' x := by
  cases x with
  | t i => exact h i (hx i (by simp [Opd.use]))
  | c v => rfl
theorem evL_congr {xs : List Opd} {l : List Nat} (hx : ∀ t ∈ useL xs, t ∈ l) (h : ∀ t ∈ l, get e t = get e' t) : xs.map (ev e) = xs.map (ev e') := by
  induction xs with
  | nil => rfl
  | cons x xs ih =>
    simp only [useL, List.mem_append] at hx
    rw [List.map_cons, List.map_cons, ev_congr (fun t ht => hx t (.inl ht)) h, ih fun t ht => hx t (.inr ht)]
theorem evO_congr {x : Option Opd} {l : List Nat} (hx : ∀ t ∈ useO x, t ∈ l) (h : ∀ t ∈ l, get e t = get e' t) : x.map (ev e) = x.map (ev e') := by
  cases x with
  | none => rfl
  | some x => simp only [Option.map_some]; rw [ev_congr (x := x) hx h]
theorem evP_congr {ps : List (Nat × Shp × Opd)} {l : List Nat} (hx : ∀ t ∈ useP ps, t ∈ l) (h : ∀ t ∈ l, get e t = get e' t) : ps.map (fun x => (x.1, x.2.1, ev e x.2.2)) = ps.map (fun x => (x.1, x.2.1, ev e' x.2.2)) ∧ ps.map (fun x => (x.1, ev e x.2.2)) = ps.map (fun x => (x.1, ev e' x.2.2)) := by
  induction ps with
  | nil => exact ⟨rfl, rfl⟩
  | cons x xs ih =>
    simp only [useP, List.mem_append] at hx
    obtain ⟨i1, i2⟩ := ih fun t ht => hx t (.inr ht)
    have h1 : ev e x.2.2 = ev e' x.2.2 := ev_congr (fun t ht => hx t (.inl ht)) h
    constructor
    · rw [List.map_cons, List.map_cons, h1, i1]
    · rw [List.map_cons, List.map_cons, h1, i2]
theorem pe_congr {op : AOp} (h : ∀ t ∈ op.uses, get e t = get e' t) : pe op e H = pe op e' H := by
  cases op <;> simp only [pe] <;> simp only [AOp.uses] at h
  case mv x => rw [ev_congr (fun _ ht => ht) h]
  case pick c x y => rw [ev_congr (x := c) (by simp +contextual) h, ev_congr (x := x) (by simp +contextual) h, ev_congr (x := y) (by simp +contextual) h]
  case bin o x y => rw [ev_congr (x := x) (by simp +contextual) h, ev_congr (x := y) (by simp +contextual) h]
  case eqs k g x y => rw [ev_congr (x := x) (by simp +contextual) h, ev_congr (x := y) (by simp +contextual) h]
  case eqb g x y => rw [ev_congr (x := x) (by simp +contextual) h, ev_congr (x := y) (by simp +contextual) h]
  case eqn g x => rw [ev_congr (fun _ ht => ht) h]
  case eqp g x => rw [ev_congr (fun _ ht => ht) h]
  case eqi g x => rw [ev_congr (fun _ ht => ht) h]
  case neg x => rw [ev_congr (fun _ ht => ht) h]
  case not x => rw [ev_congr (fun _ ht => ht) h]
  case cvi k x => rw [ev_congr (fun _ ht => ht) h]
  case mkfn f a b => rw [evL_congr (xs := a) (by simp +contextual) h, evL_congr (xs := b) (by simp +contextual) h]
  case cut sz x lo hi => rw [ev_congr (x := x) (by simp +contextual) h, evO_congr (x := lo) (by simp +contextual) h, evO_congr (x := hi) (by simp +contextual) h]
  case cutS x lo hi => rw [ev_congr (x := x) (by simp +contextual) h, evO_congr (x := lo) (by simp +contextual) h, evO_congr (x := hi) (by simp +contextual) h]
  case faddr x o s => rw [ev_congr (fun _ ht => ht) h]
  case field x o s => rw [ev_congr (fun _ ht => ht) h]
  case iaddr z s x i => rw [ev_congr (x := x) (by simp +contextual) h, ev_congr (x := i) (by simp +contextual) h]
  case aaddr k z s x i => rw [ev_congr (x := x) (by simp +contextual) h, ev_congr (x := i) (by simp +contextual) h]
  case sidx x i => rw [ev_congr (x := x) (by simp +contextual) h, ev_congr (x := i) (by simp +contextual) h]
  case aidx k z s x i => rw [ev_congr (x := x) (by simp +contextual) h, ev_congr (x := i) (by simp +contextual) h]
  case len x => rw [ev_congr (fun _ ht => ht) h]
  case lenS x => rw [ev_congr (fun _ ht => ht) h]
  case extr x i => rw [ev_congr (fun _ ht => ht) h]
  case nilck x => rw [ev_congr (fun _ ht => ht) h]
  case load s x => rw [ev_congr (fun _ ht => ht) h]
  case build z ps =>
    obtain ⟨h1, h2⟩ := evP_congr (ps := ps) (fun _ ht => ht) h
    rw [h1, h2]
  case mm m x y => rw [ev_congr (x := x) (by simp +contextual) h, ev_congr (x := y) (by simp +contextual) h]
  case b2s x => rw [ev_congr (fun _ ht => ht) h]
  case upc x => rw [ev_congr (fun _ ht => ht) h]
  case usd el x => rw [ev_congr (fun _ ht => ht) h]
  case eqpp ng x y => rw [ev_congr (x := x) (by simp +contextual) h, ev_congr (x := y) (by simp +contextual) h]
  case r2s x => rw [ev_congr (fun _ ht => ht) h]
  case ent x => rw [ev_congr (fun _ ht => ht) h]
  case mget kk z ok x y => rw [ev_congr (x := x) (by simp +contextual) h, ev_congr (x := y) (by simp +contextual) h]
/-- an operation, from values that agree where it looks -/
theorem awOp_move {d : Option Nat} {op : AOp} {K K' : AS → Prop} (h : ∀ t ∈ op.uses, get e t = get e' t) (ha : awOp P d op K ⟨e, n, H⟩) (hk : ∀ r n' H', K ⟨putO e d r, n', H'⟩ → K' ⟨putO e' d r, n', H'⟩) : awOp P d op K' ⟨e', n, H⟩ := by
  by_cases hef : op.eff = false
  · rw [awOp_pure hef] at ha ⊢
    rw [← pe_congr (H := H) h]
    exact K1.mono ha fun v hv => hk v n H hv
  · cases op <;> first | exact absurd rfl hef | skip
    case alloc t z => exact ⟨ha.1, fun g hg => hk _ _ _ (ha.2 g hg)⟩
    case box t s x =>
      have hx := ev_congr (x := x) (fun _ ht => ht) h
      simp only [awOp] at ha ⊢
      rw [← hx]
      exact ⟨ha.1, ha.2.1, fun g hg => hk _ _ _ (ha.2.2 g hg)⟩
    case store s x v =>
      have hx := ev_congr (x := x) (by simp +contextual [AOp.uses]) h
      have hv := ev_congr (x := v) (by simp +contextual [AOp.uses]) h
      simp only [awOp] at ha ⊢
      rw [← hx, ← hv]
      unfold storeK at ha ⊢
      split at ha
      · split at ha
        · rename_i e0 cs hg
          simp only at hg ⊢
          rw [hg]
          exact ⟨ha.1, ha.2.1, ha.2.2.1, hk _ _ _ ha.2.2.2⟩
        · exact ha.elim
      · exact ha
    case bsl t s xs =>
      have hx := evL_congr (xs := xs) (fun _ ht => ht) h
      simp only [awOp] at ha ⊢
      rw [← hx]
      refine ⟨fun x hx' => ?_, ha.2.imp (fun ha g hg => hk _ _ _ (ha g hg)) (fun ha g hg => hk _ _ _ (ha g hg))⟩
      rw [← ev_congr (x := x) (e := e) (e' := e') (l := useL xs) ?_ h]
      · exact ha.1 x hx'
      · clear ha h hx hef
        induction xs with
        | nil => simp at hx'
        | cons y ys ih =>
          intro t ht
          simp only [useL, List.mem_append]
          rcases List.mem_cons.1 hx' with rfl | hx'
          · exact .inl ht
          · exact .inr (ih hx' t ht)
    case app t z b x y =>
      have hx := ev_congr (x := x) (by simp +contextual [AOp.uses]) h
      have hy := ev_congr (x := y) (by simp +contextual [AOp.uses]) h
      simp only [awOp] at ha ⊢
      rw [← hx, ← hy]
      unfold appKS at ha ⊢
      split at ha
      · obtain ⟨h1, m', h2, h3⟩ := ha
        exact ⟨h1, m', h2, appK_move h3 hk⟩
      · exact ha
    case appB t b x y =>
      have hx := ev_congr (x := x) (by simp +contextual [AOp.uses]) h
      have hy := ev_congr (x := y) (by simp +contextual [AOp.uses]) h
      simp only [awOp] at ha ⊢
      rw [← hx, ← hy]
      unfold appKB at ha ⊢
      split at ha
      · exact appK_move ha hk
      · exact ha
    case s2b t x =>
      have hx := ev_congr (x := x) (fun _ ht => ht) h
      simp only [awOp] at ha ⊢
      rw [← hx]
      split at ha
      · exact ⟨ha.1, fun n' hn => hk _ _ _ (ha.2 n' hn)⟩
      · exact ha
    case s2s x =>
      have hx := ev_congr (x := x) (fun _ ht => ht) h
      simp only [awOp] at ha ⊢
      rw [← hx]
      split at ha
      · exact ⟨ha.1, hk _ _ _ ha.2⟩
      · exact ha
    case mkmap kk => exact fun g hg => hk _ _ _ (ha g hg)
    case mset kk m k v =>
      have hm := ev_congr (x := m) (by simp +contextual [AOp.uses]) h
      have hk' := ev_congr (x := k) (by simp +contextual [AOp.uses]) h
      have hv := ev_congr (x := v) (by simp +contextual [AOp.uses]) h
      simp only [awOp] at ha ⊢
      rw [← hm, ← hk', ← hv]
      unfold msetS at ha ⊢
      split at ha
      · split at ha
        · rename_i kk' es hg
          simp only at hg ⊢
          rw [hg]
          exact ⟨ha.1, ha.2.1, hk _ _ _ ha.2.2⟩
        · exact ha.elim
      · exact ha
    case mksl el b z x y =>
      have hx := ev_congr (x := x) (by simp +contextual [AOp.uses]) h
      have hy := ev_congr (x := y) (by simp +contextual [AOp.uses]) h
      simp only [awOp] at ha ⊢
      rw [← hx, ← hy]
      unfold mkslS at ha ⊢
      split at ha
      · exact ⟨ha.1, ha.2.1, ha.2.2.1, ha.2.2.2.1, fun g hg => hk _ _ _ (ha.2.2.2.2 g hg)⟩
      · exact ha
    case rng x =>
      have hx := ev_congr (x := x) (fun _ ht => ht) h
      simp only [awOp] at ha ⊢
      rw [← hx]
      unfold rngS at ha ⊢
      split at ha
      · split at ha
        · rename_i kk es hg
          simp only at hg ⊢
          rw [hg]
          exact fun g hg' => hk _ _ _ (ha g hg')
        · exact ha.elim
      · exact ha
    case nxt x =>
      have hx := ev_congr (x := x) (fun _ ht => ht) h
      simp only [awOp] at ha ⊢
      rw [← hx]
      unfold nxtS at ha ⊢
      split at ha
      · refine ⟨ha.1, ?_⟩
        have ha := ha.2
        split at ha
        · rename_i hg
          split at ha
          · rename_i hg2
            simp only at hg hg2 ⊢
            rw [hg]
            simp only
            rw [hg2]
            exact ⟨ha.1, fun h0 => hk _ _ _ (ha.2.1 h0), fun j hj k v hv => hk _ _ _ (ha.2.2 j hj k v hv)⟩
          · exact ha.elim
        · exact ha.elim
      · exact ha
    case updn u x =>
      have hx := ev_congr (x := x) (fun _ ht => ht) h
      simp only [awOp] at ha ⊢
      rw [← hx]
      exact K1.mono ha fun v hv => hk _ _ _ hv
    case ust t x k =>
      have hx := ev_congr (x := x) (by simp +contextual [AOp.uses]) h
      have hy := ev_congr (x := k) (by simp +contextual [AOp.uses]) h
      simp only [awOp] at ha ⊢
      rw [← hx, ← hy]
      exact K1.mono ha fun v hv => hk _ _ _ hv
    case call f xs =>
      have hx := evL_congr (xs := xs) (fun _ ht => ht) h
      simp only [awOp] at ha ⊢
      rw [← hx]
      obtain ⟨R, h1, h2⟩ := ha
      exact ⟨R, h1, fun r n' H' a b c => hk _ _ _ (h2 r n' H' a b c)⟩
    case callp f xs =>
      have hx := evL_congr (xs := xs) (fun _ ht => ht) h
      simp only [awOp] at ha ⊢
      rw [← hx]
      obtain ⟨args', v, h1, hs, h2⟩ := ha
      exact ⟨args', v, h1, hs, hk _ _ _ h2⟩
    case callv x xs =>
      have hx := ev_congr (x := x) (by simp +contextual [AOp.uses]) h
      have hxs := evL_congr (xs := xs) (by simp +contextual [AOp.uses]) h
      simp only [awOp] at ha ⊢
      rw [← hx, ← hxs]
      split at ha
      · obtain ⟨hc, R, h1, h2⟩ := ha
        exact ⟨hc, R, h1, fun r n' H' a b c => hk _ _ _ (h2 r n' H' a b c)⟩
      · exact ha
theorem awO_move {o : AOper} {K K' : AS → Prop} (h : ∀ t ∈ o.uses, get e t = get e' t) (ha : awO P o K ⟨e, n, H⟩) (hk : ∀ r n' H', K ⟨putO e o.dst r, n', H'⟩ → K' ⟨putO e' o.dst r, n', H'⟩) : awO P o K' ⟨e', n, H⟩ := by
  have hop : ∀ t ∈ o.op.uses, get e t = get e' t := fun t ht => h t (List.mem_append_left _ ht)
  unfold awO at ha ⊢
  split at ha
  · exact awOp_move hop ha hk
  · rename_i t want hg
    have ht : get e t = get e' t := h t (List.mem_append_right _ (by rw [hg]; simp))
    simp only at ha ⊢
    rw [← ht]
    split at ha
    · exact ⟨fun hb => awOp_move hop (ha.1 hb) hk, fun hb => hk _ _ _ (ha.2 hb)⟩
    · exact hk _ _ _ ha
    · exact ha
/-! ### what has one outcome -/
def DV (P : Program) (op : AOp) (e : AEnv) (H : AHeap) (v : AV) : Prop :=
  match op with
  | .callp f xs => ∃ args', APure P f args' v ∧ simL (xs.map (ev e)) args'
  | .updn u x => updnAV P H u (ev e x) = some v
  | .ust t x k => ustAV t (ev e x) (ev e k) = some v
  | op => pe op e H = some v
def DVo (P : Program) (o : AOper) (e : AEnv) (H : AHeap) (v : AV) : Prop :=
  match o.guard with
  | none => DV P o.op e H v
  | some (t, want) => (∃ b, get e t = .bool b ∧ (b = want → DV P o.op e H v) ∧ (b ≠ want → v = .und)) ∨ (get e t = .und ∧ v = .und)
theorem det_op {d : Option Nat} {op : AOp} {K : AS → Prop} (hc : op.cls ≠ .eff) : awOp P d op K ⟨e, n, H⟩ ↔ ∃ v, DV P op e H v ∧ K ⟨putO e d v, n, H⟩ := by
  by_cases hef : op.eff = false
  · rw [awOp_pure hef, K1_iff]
    have : ∀ v, DV P op e H v ↔ pe op e H = some v := fun v => by cases op <;> first | rfl | (exact absurd hef (by simp [AOp.eff]))
    simp only [this]
  · cases op <;> first | exact absurd rfl hef | exact absurd rfl hc | rfl | (simp only [awOp, K1_iff, DV]; done) | (simp only [awOp, DV]; exact ⟨fun ⟨a, v, h1, h2, h3⟩ => ⟨v, ⟨a, h1, h2⟩, h3⟩, fun ⟨v, ⟨a, h1, h2⟩, h3⟩ => ⟨a, v, h1, h2, h3⟩⟩)
theorem det_o {o : AOper} {K : AS → Prop} (hc : o.op.cls ≠ .eff) : awO P o K ⟨e, n, H⟩ ↔ ∃ v, DVo P o e H v ∧ K ⟨putO e o.dst v, n, H⟩ := by
  unfold awO DVo
  cases hg : o.guard with
  | none => exact det_op hc
  | some p =>
    obtain ⟨t, want⟩ := p
    simp only
    constructor
    · intro h
      split at h
      · rename_i b hb
        by_cases hw : b = want
        · obtain ⟨v, h1, h2⟩ := (det_op hc).1 (h.1 hw)
          exact ⟨v, .inl ⟨b, hb, fun _ => h1, fun h => absurd hw h⟩, h2⟩
        · exact ⟨.und, .inl ⟨b, hb, fun h => absurd h hw, fun _ => rfl⟩, h.2 hw⟩
      · rename_i hb
        exact ⟨.und, .inr ⟨hb, rfl⟩, h⟩
      · exact h.elim
    · rintro ⟨v, ⟨b, hb, h1, h2⟩ | ⟨hb, h1⟩, hk⟩
      · rw [hb]
        simp only
        refine ⟨fun hw => (det_op hc).2 ⟨v, h1 hw, hk⟩, fun hw => ?_⟩
        rw [h2 hw] at hk; exact hk
      · rw [hb]
        simp only
        rw [h1] at hk; exact hk
theorem DV_congr {op : AOp} {H' : AHeap} {v : AV} (h : ∀ t ∈ op.uses, get e t = get e' t) (hH : op.cls = .pure ∨ H = H') (hd : DV P op e H v) : DV P op e' H' v := by
  have key : op.eff = false → op.cls = .pure ∨ op.cls = .rd → pe op e H = some v → pe op e' H' = some v := by
    intro _ hcl hp
    rcases hH with hH | hH
    · have : pe op e' H' = pe op e' H := by cases op <;> first | rfl | cases hH
      rw [this, ← pe_congr (H := H) h]; exact hp
    · subst hH; rw [← pe_congr (H := H) h]; exact hp
  cases op <;> first | exact key rfl (by simp [AOp.cls]) hd | (simp only [DV, pe] at hd; cases hd; done) | skip
  case updn u x =>
    rcases hH with hH | hH
    · cases hH
    · subst hH
      simp only [DV] at hd ⊢
      rw [← ev_congr (x := x) (fun _ ht => ht) h]; exact hd
  case ust t x k =>
    simp only [DV] at hd ⊢
    rw [← ev_congr (x := x) (by simp +contextual [AOp.uses]) h, ← ev_congr (x := k) (by simp +contextual [AOp.uses]) h]; exact hd
  case callp f xs =>
    simp only [DV] at hd ⊢
    rw [← evL_congr (xs := xs) (fun _ ht => ht) h]; exact hd
theorem DVo_congr {o : AOper} {H' : AHeap} {v : AV} (h : ∀ t ∈ o.uses, get e t = get e' t) (hH : o.op.cls = .pure ∨ H = H') (hd : DVo P o e H v) : DVo P o e' H' v := by
  have hop : ∀ t ∈ o.op.uses, get e t = get e' t := fun t ht => h t (List.mem_append_left _ ht)
  unfold DVo at hd ⊢
  cases hg : o.guard with
  | none => rw [hg] at hd; exact DV_congr hop hH hd
  | some p =>
    obtain ⟨t, want⟩ := p
    rw [hg] at hd
    have ht : get e t = get e' t := h t (List.mem_append_right _ (by rw [hg]; simp))
    rcases hd with ⟨b, hb, h1, h2⟩ | ⟨hb, h1⟩
    · exact .inl ⟨b, by rw [← ht]; exact hb, fun hw => DV_congr hop hH (h1 hw), h2⟩
    · exact .inr ⟨by rw [← ht]; exact hb, h1⟩
/-- the order of the environment's entries does not matter -/
def EInv (K : AS → Prop) : Prop := ∀ e e' n H, (∀ t, get e t = get e' t) → K ⟨e, n, H⟩ → K ⟨e', n, H⟩
theorem get_putO (e : AEnv) (d : Option Nat) (v : AV) (k : Nat) : get (putO e d v) k = if d = some k then v else get e k := by
  cases d with
  | none => simp [putO]
  | some t =>
    simp only [putO, get_put, Option.some.injEq]
    by_cases hk : k = t
    · subst hk; simp
    · have : ¬ t = k := fun e => hk e.symm
      simp [hk, this]
theorem EInv.awO {o : AOper} {K : AS → Prop} (hK : EInv K) : EInv (awO P o K) := fun e e' n H h ha =>
  awO_move (fun t _ => h t) ha fun r n' H' hk => hK _ _ _ _ (fun t => by simp only [get_putO, h]) hk
theorem EInv.awOps {os : List AOper} {K : AS → Prop} (hK : EInv K) : EInv (awOps P os K) := by
  induction os with
  | nil => exact hK
  | cons o os ih => exact EInv.awO ih
/-- two operations one behind the other, exchanged -/
theorem awO_swap {x y : AOper} {K : AS → Prop} {s : AS} (hK : EInv K) (hap : aApart x y = true) (hcm : x.op.cls.comm y.op.cls = true) (h : awO P x (awO P y K) s) : awO P y (awO P x K) s := by
  obtain ⟨e, n, H⟩ := s
  have hx : x.op.cls ≠ .eff := by intro hc; rw [hc] at hcm; cases hy : y.op.cls <;> rw [hy] at hcm <;> cases hcm
  obtain ⟨v, hv, hy⟩ := (det_o hx).1 h
  simp only [aApart, Bool.and_eq_true] at hap
  obtain ⟨hap1, hap2⟩ := hap
  have u1 : ∀ t ∈ y.uses, ¬ x.dst = some t := by
    intro t ht hd
    rw [hd] at hap1
    simp only [Bool.and_eq_true, Bool.not_eq_true', List.contains_eq_mem, decide_eq_false_iff_not] at hap1
    exact hap1.1 ht
  have u2 : ∀ t ∈ x.uses, ¬ y.dst = some t := by
    intro t ht hd
    rw [hd] at hap2
    simp only [Bool.not_eq_true', List.contains_eq_mem, decide_eq_false_iff_not] at hap2
    exact hap2 ht
  have u3 : ∀ t, x.dst = some t → ¬ y.dst = some t := by
    intro t hd hd'
    rw [hd, hd'] at hap1
    simp at hap1
  have perm : ∀ r t, get (putO (putO e x.dst v) y.dst r) t = get (putO (putO e y.dst r) x.dst v) t := by
    intro r t
    simp only [get_putO]
    by_cases h1 : x.dst = some t
    · simp [h1, u3 t h1]
    · simp [h1]
  have agreeX : ∀ r, ∀ t ∈ x.uses, get e t = get (putO e y.dst r) t := fun r t ht => by rw [get_putO, if_neg (u2 t ht)]
  by_cases hyd : y.op.cls = .eff
  · have hxp : x.op.cls = .pure := by cases hxc : x.op.cls <;> rw [hxc, hyd] at hcm <;> first | rfl | cases hcm
    refine awO_move (e := putO e x.dst v) (fun t ht => by rw [get_putO, if_neg (u1 t ht)]) hy fun r n' H' hk => ?_
    exact (det_o hx).2 ⟨v, DVo_congr (agreeX r) (.inl hxp) hv, hK _ _ _ _ (perm r) hk⟩
  · obtain ⟨r, hr, hk⟩ := (det_o hyd).1 hy
    refine (det_o hyd).2 ⟨r, DVo_congr (fun t ht => by rw [get_putO, if_neg (u1 t ht)]) (.inr rfl) hr, ?_⟩
    exact (det_o hx).2 ⟨v, DVo_congr (agreeX r) (.inr rfl) hv, hK _ _ _ _ (perm r) hk⟩
theorem maskH_in {gs : List Nat} {g : Nat} (h : g ∈ gs) (H : AHeap) : maskH gs H g = none := by
  induction gs with
  | nil => cases h
  | cons a gs ih =>
    simp only [maskH]
    split
    · rfl
    · rename_i hne
      rcases List.mem_cons.1 h with h | h
      · exact absurd h hne
      · exact ih h
theorem maskH_le {gs : List Nat} {H : AHeap} {k : Nat} {ob : AObj} (h : maskH gs H k = some ob) : H k = some ob := by
  induction gs with
  | nil => exact h
  | cons a gs ih =>
    simp only [maskH] at h
    split at h
    · cases h
    · exact ih h
theorem maskH_congr {gs : List Nat} {H H' : AHeap} {k : Nat} (h : H k = H' k) : maskH gs H k = maskH gs H' k := by
  induction gs with
  | nil => exact h
  | cons a gs ih => simp only [maskH, ih]
theorem maskH_upd {gs : List Nat} {g : Nat} (h : g ∈ gs) (H : AHeap) (o : Option AObj) : maskH gs (upd H g o) = maskH gs H := by
  funext k
  by_cases hk : k ∈ gs
  · rw [maskH_in hk, maskH_in hk]
  · exact maskH_congr (by have hne : k ≠ g := fun e => hk (e ▸ h)
                          simp [upd, hne])
theorem pe_load_le {sh : Shp} {x : Opd} {e : AEnv} {H H' : AHeap} {v : AV} (hH : ∀ k ob, H k = some ob → H' k = some ob) (h : pe (.load sh x) e H = some v) : pe (.load sh x) e H' = some v := by
  simp only [pe] at h ⊢
  generalize ev e x = p at h ⊢
  cases p <;> simp only [loadAV] at h ⊢ <;> first | exact h | skip
  rename_i g o
  cases hg : H g with
  | none => rw [hg] at h; simp at h
  | some ob => rw [hg] at h; rw [hH g ob hg]; exact h
theorem lvM_le {gs gs' : List Nat} {sh : Shp} {x : Opd} {g : Option (Nat × Bool)} {e : AEnv} {H H' : AHeap} {v : AV} (hH : ∀ k ob, maskH gs H k = some ob → maskH gs' H' k = some ob) (h : lvM gs sh x g e H = some v) : lvM gs' sh x g e H' = some v := by
  unfold lvM at h ⊢
  split at h
  · exact pe_load_le hH h
  · split at h
    · split at h
      · rename_i hb; simp only [hb, if_true]; exact pe_load_le hH h
      · rename_i hb; simp only [hb, if_false]; exact h
    · exact h
    · cases h
theorem lvM_awO {P : Program} {gs : List Nat} {sh : Shp} {x : Opd} {g : Option (Nat × Bool)} {d : Option Nat} {e : AEnv} {n : Nat} {H : AHeap} {v : AV} {K : AS → Prop} (h : lvM gs sh x g e H = some v) (hk : K ⟨putO e d v, n, H⟩) : awO P ⟨d, .load sh x, g⟩ K ⟨e, n, H⟩ := by
  have hl : pe (.load sh x) e (maskH gs H) = some v → awOp P d (.load sh x) K ⟨e, n, H⟩ := fun hv => by
    rw [awOp_pure rfl, pe_load_le (fun k ob => maskH_le) hv]; exact hk
  unfold lvM at h
  unfold awO
  split at h
  · exact hl h
  · simp only
    split at h
    · split at h
      · rename_i hb; exact ⟨fun _ => hl h, fun hne => absurd hb hne⟩
      · rename_i hb; injection h with h; subst h; exact ⟨fun he => absurd he hb, fun _ => hk⟩
    · injection h with h; subst h; exact hk
    · cases h
theorem awOM_down {gs : List Nat} {o : AOper} {K : AS → Prop} {s : AS} (hs : ∀ k, s.n ≤ k → s.H k = none) (h : awOM P gs o K s) : awO P o K s := by
  unfold awOM at h
  split at h
  · rename_i d sh x g
    unfold K1 at h
    split at h
    · rename_i v hv
      exact lvM_awO hv h
    · exact h.elim
  · exact ⟨h.1, fun g hg => h.2 g hg (hs g hg)⟩
  · exact h.2
  · exact ⟨h.1, .inl fun g hg => h.2 g hg (hs g hg)⟩
  · exact h
def AOper.sp (o : AOper) : Bool := match o with
  | ⟨_, .load _ _, _⟩ | ⟨_, .alloc _ _, none⟩ | ⟨_, .store _ _ _, none⟩ | ⟨_, .bsl _ _ _, none⟩ => true
  | _ => false
theorem lvM_congr {gs : List Nat} {sh : Shp} {x : Opd} {g : Option (Nat × Bool)} {d : Option Nat} {e e' : AEnv} {H : AHeap} (h : ∀ t ∈ (⟨d, .load sh x, g⟩ : AOper).uses, get e t = get e' t) : lvM gs sh x g e H = lvM gs sh x g e' H := by
  have hop : ∀ t ∈ (AOp.load sh x).uses, get e t = get e' t := fun t ht => h t (List.mem_append_left _ ht)
  have hp : pe (.load sh x) e (maskH gs H) = pe (.load sh x) e' (maskH gs H) := pe_congr hop
  unfold lvM
  split
  · exact hp
  · rename_i t want
    have ht : get e t = get e' t := h t (List.mem_append_right _ (by simp))
    rw [ht, hp]
theorem awOM_plain {gs : List Nat} {o : AOper} {K : AS → Prop} {s : AS} (h : o.sp = false) : awOM P gs o K s = awO P o K s := by
  unfold awOM
  split
  · cases h
  · cases h
  · cases h
  · cases h
  · rfl
theorem awOM_move {gs : List Nat} {o : AOper} {K K' : AS → Prop} (h : ∀ t ∈ o.uses, get e t = get e' t) (ha : awOM P gs o K ⟨e, n, H⟩) (hk : ∀ r n' H', K ⟨putO e o.dst r, n', H'⟩ → K' ⟨putO e' o.dst r, n', H'⟩) : awOM P gs o K' ⟨e', n, H⟩ := by
  have hop : ∀ t ∈ o.op.uses, get e t = get e' t := fun t ht => h t (List.mem_append_left _ ht)
  unfold awOM at ha ⊢
  split at ha
  · simp only at ha ⊢
    rw [← lvM_congr h]
    exact K1.mono ha fun v hv => hk _ _ _ hv
  · exact ⟨ha.1, fun g hg hn => hk _ _ _ (ha.2 g hg hn)⟩
  · rename_i d sh x v
    simp only at ha ⊢
    rw [← ev_congr (x := x) (e := e) (e' := e') (l := (AOp.store sh x v).uses) (by simp +contextual [AOp.uses]) hop]
    exact ⟨ha.1, awOp_move hop ha.2 hk⟩
  · rename_i d t sh xs
    have hb : awOp P d (.bsl t sh xs) (fun _ => True) ⟨e, n, H⟩ := ⟨ha.1, .inl fun _ _ => trivial⟩
    have := awOp_move (K' := fun _ => True) hop hb (fun _ _ _ _ => trivial)
    have hx := evL_congr (xs := xs) (fun _ ht => ht) hop
    refine ⟨this.1, fun g hg hn => ?_⟩
    simp only
    rw [← hx]
    exact hk _ _ _ (ha.2 g hg hn)
  · exact awO_move h ha hk
theorem EInv.awOM {gs : List Nat} {o : AOper} {K : AS → Prop} (hK : EInv K) : EInv (awOM P gs o K) := fun e e' n H h ha =>
  awOM_move (fun t _ => h t) ha fun r n' H' hk => hK _ _ _ _ (fun t => by simp only [get_putO, h]) hk
theorem store_mask {gs : List Nat} {d : Option Nat} {sh : Shp} {x v : Opd} {K : AS → Prop} {s : AS} (hb : blkIn gs (ev s.e x)) (h : awOp P d (.store sh x v) K s) : awOp P d (.store sh x v) (fun s' => K s' ∧ maskH gs s'.H = maskH gs s.H) s := by
  simp only [awOp] at h ⊢
  generalize ev s.e x = p at h hb ⊢
  unfold storeK at h ⊢
  cases p <;> simp only at h ⊢ <;> first | exact h.elim | skip
  rename_i g o
  split at h
  · exact ⟨h.1, h.2.1, h.2.2.1, h.2.2.2, maskH_upd hb _ _⟩
  · exact h.elim
/-- how the order of two operations may be turned -/
structure Drw (P : Program) (W : AOper → (AS → Prop) → AS → Prop) (C : AOper → AOper → Bool) : Prop where
  mono : ∀ {o : AOper} {K K' : AS → Prop} {s : AS}, W o K s → (∀ s, K s → K' s) → W o K' s
  einv : ∀ {o : AOper} {K : AS → Prop}, EInv K → EInv (W o K)
  swap : ∀ {x y : AOper} {K : AS → Prop} {s : AS}, EInv K → aApart x y = true → C x y = true → W x (W y K) s → W y (W x K) s
  down : ∀ {o : AOper} {K : AS → Prop} {s : AS}, (∀ k, s.n ≤ k → s.H k = none) → W o K s → awO P o K s
theorem drw_plain : Drw P (awO P) fun x y => x.op.cls.comm y.op.cls :=
  ⟨fun h hk => awO_mono h hk, fun hK => EInv.awO hK, fun hK ha hc h => awO_swap hK ha hc h, fun _ h => h⟩
theorem apart1 {x y : AOper} (h : aApart x y = true) : (∀ t ∈ y.uses, ¬ x.dst = some t) ∧ (∀ t ∈ x.uses, ¬ y.dst = some t) ∧ ∀ (e : AEnv) v r t, get (putO (putO e x.dst v) y.dst r) t = get (putO (putO e y.dst r) x.dst v) t := by
  simp only [aApart, Bool.and_eq_true] at h
  obtain ⟨hap1, hap2⟩ := h
  refine ⟨fun t ht hd => ?_, fun t ht hd => ?_, fun e v r t => ?_⟩
  · rw [hd] at hap1
    simp only [Bool.and_eq_true, Bool.not_eq_true', List.contains_eq_mem, decide_eq_false_iff_not] at hap1
    exact hap1.1 ht
  · rw [hd] at hap2
    simp only [Bool.not_eq_true', List.contains_eq_mem, decide_eq_false_iff_not] at hap2
    exact hap2 ht
  · have u3 : ∀ t, x.dst = some t → ¬ y.dst = some t := by
      intro t hd hd'
      rw [hd, hd'] at hap1
      simp at hap1
    simp only [get_putO]
    by_cases h1 : x.dst = some t
    · simp [h1, u3 t h1]
    · simp [h1]
theorem swap_pure {gs : List Nat} {x y : AOper} {K : AS → Prop} {s : AS} (hK : EInv K) (hap : aApart x y = true) (hxp : x.op.cls = .pure) (h : awOM P gs x (awOM P gs y K) s) : awOM P gs y (awOM P gs x K) s := by
  obtain ⟨e, n, H⟩ := s
  have hxs : x.sp = false := by
    obtain ⟨d, op, g⟩ := x
    cases op <;> first | rfl | cases hxp
  have hx : x.op.cls ≠ .eff := by rw [hxp]; intro hc; cases hc
  rw [awOM_plain hxs] at h
  obtain ⟨v, hv, hy⟩ := (det_o hx).1 h
  obtain ⟨u1, u2, perm⟩ := apart1 hap
  refine awOM_move (e := putO e x.dst v) (fun t ht => by rw [get_putO, if_neg (u1 t ht)]) hy fun r n' H' hk => ?_
  rw [awOM_plain hxs]
  exact (det_o hx).2 ⟨v, DVo_congr (fun t ht => by rw [get_putO, if_neg (u2 t ht)]) (.inl hxp) hv, hK _ _ _ _ (perm e v r) hk⟩
theorem swap_load {gs : List Nat} {d : Option Nat} {sh : Shp} {p : Opd} {g : Option (Nat × Bool)} {y : AOper} {K : AS → Prop} {s : AS} (hK : EInv K) (hap : aApart ⟨d, .load sh p, g⟩ y = true)
    (hy : ∀ {K : AS → Prop} {e : AEnv} {n : Nat} {H : AHeap}, awOM P gs y K ⟨e, n, H⟩ → awOM P gs y (fun s' => K s' ∧ ∀ k ob, maskH gs H k = some ob → maskH gs s'.H k = some ob) ⟨e, n, H⟩) (h : awOM P gs ⟨d, .load sh p, g⟩ (awOM P gs y K) s) : awOM P gs y (awOM P gs ⟨d, .load sh p, g⟩ K) s := by
  obtain ⟨e, n, H⟩ := s
  obtain ⟨u1, u2, perm⟩ := apart1 hap
  have h : K1 (lvM gs sh p g e H) fun v => awOM P gs y K ⟨putO e d v, n, H⟩ := h
  unfold K1 at h
  split at h
  · rename_i v hv
    refine awOM_move (e := putO e d v) (fun t ht => by rw [get_putO, if_neg (u1 t ht)]) (hy h) fun r n' H' hk => ?_
    show K1 (lvM gs sh p g (putO e y.dst r) H') fun v => K ⟨putO (putO e y.dst r) d v, n', H'⟩
    rw [← lvM_congr (d := d) (e := e) (fun t ht => by rw [get_putO, if_neg (u2 t ht)]), lvM_le hk.2 hv]
    exact hK _ _ _ _ (perm e v r) hk.1
  · exact h.elim
theorem awOM_rd {gs : List Nat} {y : AOper} {K : AS → Prop} {e : AEnv} {n : Nat} {H : AHeap} (hy : y.op.cls ≠ .eff) (h : awOM P gs y K ⟨e, n, H⟩) : awOM P gs y (fun s' => K s' ∧ s'.H = H) ⟨e, n, H⟩ := by
  unfold awOM at h ⊢
  split at h
  · exact K1.mono h fun v hv => ⟨hv, rfl⟩
  · exact absurd rfl hy
  · exact absurd rfl hy
  · exact absurd rfl hy
  · obtain ⟨v, h1, h2⟩ := (det_o hy).1 h
    exact (det_o hy).2 ⟨v, h1, h2, rfl⟩
theorem swap_rd {gs : List Nat} {x y : AOper} {K : AS → Prop} {s : AS} (hK : EInv K) (hap : aApart x y = true) (hxs : x.sp = false) (hx : x.op.cls ≠ .eff) (hyd : y.op.cls ≠ .eff) (h : awOM P gs x (awOM P gs y K) s) : awOM P gs y (awOM P gs x K) s := by
  obtain ⟨e, n, H⟩ := s
  rw [awOM_plain hxs] at h
  obtain ⟨v, hv, hy⟩ := (det_o hx).1 h
  obtain ⟨u1, u2, perm⟩ := apart1 hap
  refine awOM_move (e := putO e x.dst v) (fun t ht => by rw [get_putO, if_neg (u1 t ht)]) (awOM_rd hyd hy) fun r n' H' hk => ?_
  rw [awOM_plain hxs]
  have hH : H' = H := hk.2
  exact (det_o hx).2 ⟨v, DVo_congr (fun t ht => by rw [get_putO, if_neg (u2 t ht)]) (.inr hH.symm) hv, hK _ _ _ _ (perm e v r) hk.1⟩
theorem sp_load {y : AOper} (h : y.sp = true) (hc : y.op.cls = .rd) : ∃ d sh p g, y = ⟨d, .load sh p, g⟩ := by
  unfold AOper.sp at h
  split at h
  · exact ⟨_, _, _, _, rfl⟩
  · cases hc
  · cases hc
  · cases hc
  · cases h
theorem drw_late (gs : List Nat) (st : Bool) (hgs : st = true → gs ≠ []) : Drw P (awOM P gs) fun x y => x.op.cls.comm y.op.cls || x.late st y := by
  refine ⟨fun h hk => awOM_mono h hk, fun hK => EInv.awOM hK, fun {x y K s} hK ha hc h => ?_, fun hs h => awOM_down hs h⟩
  simp only [Bool.or_eq_true] at hc
  rcases hc with hc | hc
  · cases hxc : x.op.cls with
    | pure => exact swap_pure hK ha hxc h
    | eff => rw [hxc] at hc; cases hyc : y.op.cls <;> rw [hyc] at hc <;> cases hc
    | rd =>
      have hyd : y.op.cls ≠ .eff := by intro hyc; rw [hxc, hyc] at hc; cases hc
      by_cases hxs : x.sp = true
      · obtain ⟨d, sh, p, g, rfl⟩ := sp_load hxs hxc
        exact swap_load hK ha (fun h => awOM_mono (awOM_rd hyd h) fun s' h' => ⟨h'.1, fun k ob hk => by rw [h'.2]; exact hk⟩) h
      · exact swap_rd hK ha (by simpa using hxs) (by rw [hxc]; intro h; cases h) hyd h
  · unfold AOper.late at hc
    split at hc
    · refine swap_load hK ha (fun {K e n H} h => ?_) h
      refine ⟨h.1, fun g hg hn => ⟨h.2 g hg hn, fun k ob hk => ?_⟩⟩
      have hkg : k ≠ g := by
        intro e; subst e
        have := maskH_le hk
        simp only at hn
        rw [hn] at this; cases this
      rw [← hk]
      exact maskH_congr (by simp only [upd, hkg, if_false])
    · refine swap_load hK ha (fun {K e n H} h => ?_) h
      exact ⟨h.1, h.1.elim (fun hn => absurd hn (hgs hc)) fun hb => awOp_mono (store_mask hb h.2) fun s' h' => ⟨h'.1, fun k ob hk => by rw [h'.2]; exact hk⟩⟩
    · refine swap_load hK ha (fun {K e n H} h => ?_) h
      refine ⟨h.1, fun g hg hn => ⟨h.2 g hg hn, fun k ob hk => ?_⟩⟩
      have hkg : k ≠ g := by
        intro e; subst e
        have := maskH_le hk
        simp only at hn
        rw [hn] at this; cases this
      rw [← hk]
      exact maskH_congr (by simp only [upd, hkg, if_false])
    · cases hc
/-- operations one behind the other -/
def WOps (W : AOper → (AS → Prop) → AS → Prop) : List AOper → (AS → Prop) → AS → Prop
  | [], K, s => K s
  | o :: os, K, s => W o (WOps W os K) s
theorem WOps_plain {os : List AOper} {K : AS → Prop} : ∀ {s : AS}, WOps (awO P) os K s = awOps P os K s := by
  induction os with
  | nil => intro s; rfl
  | cons o os ih =>
    intro s
    have : WOps (awO P) os K = awOps P os K := funext fun s => ih
    show awO P o (WOps (awO P) os K) s = _
    rw [this]; rfl
theorem WOps_late {gs : List Nat} {os : List AOper} {K : AS → Prop} : ∀ {s : AS}, WOps (awOM P gs) os K s = awOpsM P gs os K s := by
  induction os with
  | nil => intro s; rfl
  | cons o os ih =>
    intro s
    have : WOps (awOM P gs) os K = awOpsM P gs os K := funext fun s => ih
    show awOM P gs o (WOps (awOM P gs) os K) s = _
    rw [this]; rfl
section
variable {W : AOper → (AS → Prop) → AS → Prop} {C : AOper → AOper → Bool}
theorem WOps_einv (hD : Drw P W C) {os : List AOper} {K : AS → Prop} (hK : EInv K) : EInv (WOps W os K) := by
  induction os with
  | nil => exact hK
  | cons o os ih => exact hD.einv ih
theorem WOps_front (hD : Drw P W C) {y : AOper} {xs zs : List AOper} {K : AS → Prop} {s : AS} (hK : EInv K) (hsw : ∀ x ∈ xs, aApart x y = true ∧ C x y = true) (h : WOps W (xs ++ y :: zs) K s) : W y (WOps W (xs ++ zs) K) s := by
  induction xs generalizing s with
  | nil => exact h
  | cons x xs ih =>
    have h1 := hsw x List.mem_cons_self
    have h2 : W x (W y (WOps W (xs ++ zs) K)) s := hD.mono h fun s' hs' => ih (fun z hz => hsw z (List.mem_cons_of_mem _ hz)) hs'
    exact hD.swap (WOps_einv hD hK) h1.1 h1.2 h2
end
end
end Go.Proofs.YtnmkpadgogbgkaaDoor
namespace Go.Proofs.YtnmkpadgogbgkaaDoor
open Go.RowKit
section
variable {P : Program} {w w' w0 : World} {G G' : Gh} {nt : Nat} {s : AS} {a : Act} {ops : Array Oper} {ef : List Nat} {Q : Exit → Act → World → Prop}
theorem After.weak {K : AS → Prop} (hl : G.Le G') (h : After P w0 nt G' K a w) : After P w0 nt G K a w := by
  obtain ⟨G1, s1, h1, h2, h3⟩ := h
  exact ⟨G1, s1, h1, hl.tr h2, h3⟩
theorem RelS.env {e e' : AEnv} {n : Nat} {H : AHeap} (h : RelS P w0 nt G ⟨e, n, H⟩ a w) (he : ∀ t, get e' t = .any ∨ get e' t = get e t) : RelS P w0 nt G ⟨e', n, H⟩ a w :=
  ⟨h.r0, h.sz, h.df, h.ld, fun t => by rcases he t with h1 | h1 <;> rw [h1]; exact .any; exact h.tm t⟩
/-- one operation, wanted or not -/
theorem o_sound {o : Oper} {ao : AOper} {K : AS → Prop} {i : Nat} {K' : Act → World → Prop} (hi : ops[i]? = some o) (hc : cOper P ef ops nt o = some ao) (hr : RelS P w0 nt G s a w) (h : awO P ao K s) (hk : ∀ a' w', After P w0 nt G K a' w' → K' a' w') :
    wpOp P ops Q i K' a w := by
  unfold cOper at hc
  split at hc
  · rename_i op hop
    split at hc
    · rename_i hd
      have hd' : ∀ t, o.dst = some t → t < nt := fun t ht => by rw [ht] at hd; simpa [dstOk] using hd
      unfold wpOp
      simp only [hi]
      split at hc
      · rename_i hg
        injection hc with hc; subst hc
        have hw : Region.wanted o (yielded ops a.tmps) = true := by simp [Region.wanted, hg]
        rw [if_pos hw]
        simp only [awO] at h
        exact .inl (Oper.wp_mono (fun a w => hk a w) (op_sound hop hd' hr h))
      · rename_i j want hg
        split at hc
        · rename_i t ht
          injection hc with hc; subst hc
          simp only [awO] at h
          split at h
          · rename_i b hb
            have hrt := hr.tm t
            rw [hb] at hrt
            have hval : a.tmps.getD t undef = .bool b := by generalize a.tmps.getD t undef = v at hrt; cases hrt; rfl
            have hy : yielded ops a.tmps j = some b := by
              simp only [yielded, ht, Option.bind_some]
              cases hx : a.tmps[t]? with
              | none => rw [Array.getD_eq_getD_getElem?, hx] at hval; cases hval
              | some v => rw [Array.getD_eq_getD_getElem?, hx] at hval; simp only [Option.getD_some] at hval; rw [hval]
            have hw : Region.wanted o (yielded ops a.tmps) = decide (b = want) := by
              simp only [Region.wanted, hg, hy]
              cases b <;> cases want <;> rfl
            by_cases hbw : b = want
            · rw [if_pos (by rw [hw]; simpa using hbw)]
              exact .inl (Oper.wp_mono (fun a w => hk a w) (op_sound hop hd' hr (h.1 hbw)))
            · rw [if_neg (by rw [hw]; simpa using hbw)]
              exact hk _ _ ⟨G, _, h.2 hbw, Gh.Le.rfl_ G, hr.put hd' (Gh.Le.rfl_ G) hr.r0 .und⟩
          · rename_i hb
            have hrt := hr.tm t
            rw [hb] at hrt
            have hval : a.tmps.getD t undef = undef := by generalize a.tmps.getD t undef = v at hrt; cases hrt; rfl
            have hy : yielded ops a.tmps j = none := by
              simp only [yielded, ht, Option.bind_some]
              cases hx : a.tmps[t]? with
              | none => rfl
              | some v => rw [Array.getD_eq_getD_getElem?, hx] at hval; simp only [Option.getD_some] at hval; rw [hval]; rfl
            have hw : Region.wanted o (yielded ops a.tmps) = false := by
              simp only [Region.wanted, hg, hy]
              rfl
            rw [if_neg (by rw [hw]; simp)]
            exact hk _ _ ⟨G, _, h, Gh.Le.rfl_ G, hr.put hd' (Gh.Le.rfl_ G) hr.r0 .und⟩
          · exact h.elim
        · cases hc
    · cases hc
  · injection hc with hc; subst hc
    exact h.elim
theorem cOpers_at : ∀ {os : List Oper} {aos : List AOper} {i : Nat} {o : Oper}, cOpers P ef ops nt os = some aos → os[i]? = some o → ∃ ao, aos[i]? = some ao ∧ cOper P ef ops nt o = some ao
  | [], _, i, o, _, h => by simp at h
  | x :: os, aos, i, o, hc, h => by
    simp only [cOpers] at hc
    split at hc
    · rename_i y ys h1 h2
      injection hc with hc; subst hc
      cases i with
      | zero => simp at h; subst h; exact ⟨y, rfl, h1⟩
      | succ i => obtain ⟨ao, e1, e2⟩ := cOpers_at h2 (by simpa using h); exact ⟨ao, by simpa using e1, e2⟩
    · cases hc
theorem cOpers_len : ∀ {os : List Oper} {aos : List AOper}, cOpers P ef ops nt os = some aos → aos.length = os.length
  | [], _, h => by simp [cOpers] at h; subst h; rfl
  | x :: os, aos, hc => by
    simp only [cOpers] at hc
    split at hc
    · rename_i y ys h1 h2
      injection hc with hc; subst hc
      simp [cOpers_len h2]
    · cases hc
def aAt (aos : List AOper) (i : Nat) : AOper := aos.getD i ⟨none, .clen 0, none⟩
theorem range_map_aAt (aos : List AOper) : (List.range aos.length).map (aAt aos) = aos := by
  apply List.ext_getElem?
  intro i
  by_cases hi : i < aos.length
  · simp [aAt, hi, List.getD]
  · simp [hi]
/-- operations in the order of the text -/
theorem ops_sound {aos : List AOper} {K : AS → Prop} (hc : cOpers P ef ops nt ops.toList = some aos) : ∀ (l : List Nat) {G : Gh} {s : AS} {a : Act} {w : World}, (∀ i ∈ l, i < ops.size) → RelS P w0 nt G s a w → awOps P (l.map (aAt aos)) K s → (∀ a' w', After P w0 nt G K a' w' → Q .normal a' w') → wpOps P ops Q l a w
  | [], G, s, a, w, _, hr, h, hq => hq a w ⟨G, s, h, Gh.Le.rfl_ G, hr⟩
  | i :: l, G, s, a, w, hl, hr, h, hq => by
    have hi : i < ops.size := hl i List.mem_cons_self
    obtain ⟨ao, e1, e2⟩ := cOpers_at hc (i := i) (o := ops[i]) (by simp [hi])
    have hat : aAt aos i = ao := by simp [aAt, List.getD, e1]
    rw [wpOps_cons]
    simp only [List.map_cons, hat] at h
    refine o_sound (by simp [hi]) e2 hr h fun a' w' ⟨G1, s1, h1, h2, h3⟩ => ?_
    exact ops_sound hc l (fun j hj => hl j (List.mem_cons_of_mem _ hj)) h3 h1 fun a2 w2 h4 => hq a2 w2 (h4.weak h2)
end
/-! ### the order that is drawn -/
def befF (acc : Array Nat) (o : Oper) : Array Nat := acc.push (o.after.foldl (fun s e => if Region.binds .any e then s ||| 2 ^ e.on ||| acc.getD e.on 0 else s) 0)
theorem before_eq (ops : Array Oper) : Region.before ops = ops.toList.foldl befF #[] := by
  simp only [Region.before, Array.foldl_toList]; rfl
theorem fold_bit (acc : Array Nat) (k : Nat) : ∀ (es : List Edge) (s0 : Nat), (es.foldl (fun s e => if Region.binds .any e then s ||| 2 ^ e.on ||| acc.getD e.on 0 else s) s0).testBit k = true → s0.testBit k = true ∨ ∃ e ∈ es, Region.binds .any e = true ∧ (e.on = k ∨ (acc.getD e.on 0).testBit k = true)
  | [], s0, h => .inl h
  | e :: es, s0, h => by
    rw [List.foldl_cons] at h
    rcases fold_bit acc k es _ h with h1 | ⟨e', he, hb, h2⟩
    · split at h1
      · rename_i hb
        simp only [Nat.testBit_or, Bool.or_eq_true, Nat.testBit_two_pow, decide_eq_true_eq] at h1
        rcases h1 with (h1 | h1) | h1
        · exact .inl h1
        · exact .inr ⟨e, List.mem_cons_self, hb, .inl h1⟩
        · exact .inr ⟨e, List.mem_cons_self, hb, .inr h1⟩
      · exact .inl h1
    · exact .inr ⟨e', List.mem_cons_of_mem _ he, hb, h2⟩
theorem befF_fold : ∀ (l : List Oper) (acc : Array Nat), (l.foldl befF acc).size = acc.size + l.length ∧ (∀ j, j < acc.size → (l.foldl befF acc).getD j 0 = acc.getD j 0) ∧
    ∀ i o k, l[i]? = some o → ((l.foldl befF acc).getD (acc.size + i) 0).testBit k = true → ∃ e ∈ o.after, Region.binds .any e = true ∧ (e.on = k ∨ ((l.foldl befF acc).getD e.on 0).testBit k = true)
  | [], acc => ⟨by simp, fun _ _ => rfl, fun i o k h => by simp at h⟩
  | x :: l, acc => by
    obtain ⟨h1, h2, h3⟩ := befF_fold l (befF acc x)
    have hs : (befF acc x).size = acc.size + 1 := by simp [befF]
    have hold : ∀ j, j < acc.size → (befF acc x).getD j 0 = acc.getD j 0 := fun j hj => by
      simp [befF, Array.getD_eq_getD_getElem?, Array.getElem?_push, Nat.ne_of_lt hj]
    refine ⟨by rw [List.foldl_cons, h1, hs]; simp; omega, fun j hj => by rw [List.foldl_cons, h2 j (by omega), hold j hj], fun i o k hi hb => ?_⟩
    rw [List.foldl_cons] at hb ⊢
    cases i with
    | zero =>
      simp at hi; subst hi
      rw [Nat.add_zero, h2 acc.size (by omega)] at hb
      have hnew : (befF acc x).getD acc.size 0 = x.after.foldl (fun s e => if Region.binds .any e then s ||| 2 ^ e.on ||| acc.getD e.on 0 else s) 0 := by
        simp [befF, Array.getD_eq_getD_getElem?]
      rw [hnew, ← Array.foldl_toList] at hb
      rcases fold_bit acc k _ _ hb with h4 | ⟨e, he, hb2, h4⟩
      · simp at h4
      · refine ⟨e, by simpa using he, hb2, ?_⟩
        rcases h4 with h4 | h4
        · exact .inl h4
        · right
          have hlt : e.on < acc.size := by
            rcases Nat.lt_or_ge e.on acc.size with h5 | h5
            · exact h5
            · simp [Array.getD_eq_getD_getElem?, Array.getElem?_eq_none h5] at h4
          rw [h2 e.on (by omega), hold e.on hlt]; exact h4
    | succ i =>
      have := h3 i o k (by simpa using hi) (by rw [hs, show acc.size + 1 + i = acc.size + (i + 1) by omega]; exact hb)
      exact this
theorem before_spec {ops : Array Oper} {j k : Nat} {o : Oper} (ho : ops[j]? = some o) (h : ((Region.before ops).getD j 0).testBit k = true) : ∃ e ∈ o.after, Region.binds .any e = true ∧ (e.on = k ∨ ((Region.before ops).getD e.on 0).testBit k = true) := by
  have h3 := (befF_fold ops.toList #[]).2.2 j o k (by simpa using ho)
  rw [before_eq] at h ⊢
  exact h3 (by simpa using h)
section
variable {P : Program} {w w' w0 : World} {nt : Nat} {ops : Array Oper} {ef : List Nat} {Q : Exit → Act → World → Prop}
structure OrdOk (P : Program) (ef : List Nat) (ops : Array Oper) (nt : Nat) (C : AOper → AOper → Bool) : Prop where
  mixed : P.follows .mixedOrders = true
  back : ∀ i o, ops[i]? = some o → ∀ e ∈ o.after, Region.binds .any e = true → e.on < i
  pairs : ∀ (i j : Nat) x y, ops[i]? = some x → ops[j]? = some y → i < j → ((Region.before ops).getD j 0).testBit i = true ∨ ∃ a c, cOper P ef ops nt x = some a ∧ cOper P ef ops nt y = some c ∧ aApart a c = true ∧ C a c = true
theorem mem_zipIdx_of {l : List Oper} {i : Nat} {o : Oper} (h : l[i]? = some o) : (o, i) ∈ l.zipIdx := by
  rw [List.mem_zipIdx_iff_getElem?]; exact h
theorem ordOk_spec (h : ordOk P ef ops nt = true) : OrdOk P ef ops nt fun x y => x.op.cls.comm y.op.cls := by
  simp only [ordOk, Bool.and_eq_true] at h
  obtain ⟨⟨h1, h2⟩, h3⟩ := h
  rw [List.all_eq_true] at h2 h3
  refine ⟨h1, fun i o ho e he hb => ?_, fun i j x y hx hy hij => ?_⟩
  · have := h2 (o, i) (mem_zipIdx_of (by simpa using ho))
    simp only [Array.all_eq_true_iff_forall_mem] at this
    have := this e he
    simpa [hb] using this
  · have := h3 (y, j) (mem_zipIdx_of (by simpa using hy))
    rw [List.all_eq_true] at this
    have := this (x, i) (mem_zipIdx_of (by simpa using hx))
    simp only [Bool.or_eq_true, decide_eq_true_eq] at this
    rcases this with (h4 | h4) | h4
    · omega
    · exact .inl h4
    · right
      split at h4
      · rename_i a c ha hc
        simp only [Bool.and_eq_true] at h4
        exact ⟨a, c, ha, hc, h4.1, h4.2⟩
      · cases h4
theorem ordOkD_spec {st : Bool} (h : ordOkD P ef ops nt st = true) : OrdOk P ef ops nt fun x y => x.op.cls.comm y.op.cls || x.late st y := by
  simp only [ordOkD, Bool.and_eq_true] at h
  obtain ⟨⟨h1, h2⟩, h3⟩ := h
  rw [List.all_eq_true] at h2 h3
  refine ⟨h1, fun i o ho e he hb => ?_, fun i j x y hx hy hij => ?_⟩
  · have := h2 (o, i) (mem_zipIdx_of (by simpa using ho))
    simp only [Array.all_eq_true_iff_forall_mem] at this
    have := this e he
    simpa [hb] using this
  · have := h3 (y, j) (mem_zipIdx_of (by simpa using hy))
    rw [List.all_eq_true] at this
    have := this (x, i) (mem_zipIdx_of (by simpa using hx))
    rw [Bool.or_eq_true, Bool.or_eq_true, decide_eq_true_eq] at this
    rcases this with (h4 | h4) | h4
    · omega
    · exact .inl h4
    · right
      split at h4
      · rename_i a c ha hc
        rw [Bool.and_eq_true] at h4
        exact ⟨a, c, ha, hc, h4.1, h4.2⟩
      · cases h4
/-- what is not carried out yet, in the order of the text -/
def left (ops : Array Oper) (listed : Array Bool) : List Nat := (List.range ops.size).filter fun i => !listed.getD i true
def Closed (ops : Array Oper) (listed : Array Bool) : Prop := ∀ i o, ops[i]? = some o → listed.getD i false = true → ∀ e ∈ o.after, Region.binds .any e = true → listed.getD e.on false = true
theorem before_listed {listed : Array Bool} (hc : Closed ops listed) {k : Nat} : ∀ (j : Nat) (o : Oper), ops[j]? = some o → (∀ i o', ops[i]? = some o' → ∀ e ∈ o'.after, Region.binds .any e = true → e.on < i) → (∀ e ∈ o.after, Region.binds .any e = true → listed.getD e.on false = true) → ((Region.before ops).getD j 0).testBit k = true → listed.getD k false = true := by
  intro j
  induction j using Nat.strongRecOn with
  | _ j ih =>
    intro o ho hb hl ht
    obtain ⟨e, he, hbe, h4⟩ := before_spec ho ht
    rcases h4 with h4 | h4
    · rw [← h4]; exact hl e he hbe
    · have hlt := hb j o ho e he hbe
      have hle := hl e he hbe
      have hos : ∃ o', ops[e.on]? = some o' := ⟨_, Array.getElem?_eq_getElem (by have := (Array.getElem?_eq_some_iff.1 ho).1; omega)⟩
      obtain ⟨o', ho'⟩ := hos
      exact ih e.on hlt o' ho' hb (fun e' he' hbe' => hc e.on o' ho' hle e' he' hbe') h4
theorem left_split {listed : Array Bool} {i : Nat} (hi : i < ops.size) (hl : listed.getD i true = false) (hsz : listed.size = ops.size) : ∃ l1 l2, left ops listed = l1 ++ i :: l2 ∧ left ops (listed.setIfInBounds i true) = l1 ++ l2 ∧ ∀ k ∈ l1, k < i ∧ listed.getD k true = false := by
  have hset : ∀ k, k ≠ i → (listed.setIfInBounds i true).getD k true = listed.getD k true := fun k hk => by
    simp [Array.getD_eq_getD_getElem?, Array.getElem?_setIfInBounds_ne (fun e => hk e.symm)]
  have hseti : (listed.setIfInBounds i true).getD i true = true := by simp [Array.getD_eq_getD_getElem?, hsz, hi]
  have hr : List.range ops.size = List.range i ++ i :: (List.range' (i + 1) (ops.size - (i + 1))) := by
    have h1 : ops.size = i + (1 + (ops.size - (i + 1))) := by omega
    rw [List.range_eq_range', List.range_eq_range']
    conv => lhs; rw [h1]
    rw [← List.range'_append_1, Nat.zero_add, ← List.range'_append_1]
    simp [List.range'_one]
  refine ⟨(List.range i).filter fun k => !listed.getD k true, (List.range' (i + 1) (ops.size - (i + 1))).filter fun k => !listed.getD k true, ?_, ?_, ?_⟩
  · simp only [left, hr, List.filter_append, List.filter_cons, hl, Bool.not_false, if_true]
  · simp only [left, hr, List.filter_append, List.filter_cons, hseti, Bool.not_true, Bool.false_eq_true, if_false]
    congr 1
    · apply List.filter_congr
      intro k hk
      rw [hset k (by simp at hk; omega)]
    · apply List.filter_congr
      intro k hk
      rw [hset k (by simp [List.mem_range'_1] at hk; omega)]
  · intro k hk
    simp only [List.mem_filter, List.mem_range, Bool.not_eq_true'] at hk
    exact hk
theorem draw_sound {W : AOper → (AS → Prop) → AS → Prop} {C : AOper → AOper → Bool} (hD : Drw P W C) {aos : List AOper} {K : AS → Prop} (hc : cOpers P ef ops nt ops.toList = some aos) (ho : OrdOk P ef ops nt C) (hK : EInv K) : ∀ (fuel : Nat) (listed : Array Bool) {G : Gh} {s : AS} {a : Act} {w : World}, listed.size = ops.size → (left ops listed).length ≤ fuel → Closed ops listed → RelS P w0 nt G s a w →
    WOps W ((left ops listed).map (aAt aos)) K s → (∀ a' w', After P w0 nt G K a' w' → Q .normal a' w') → wpAny P .any ops Q fuel listed a w := by
  intro fuel
  induction fuel with
  | zero =>
    intro listed G s a w hsz hlen hcl hr h hq
    have hnil : left ops listed = [] := List.length_eq_zero_iff.1 (by omega)
    refine ⟨?_, ?_⟩
    · cases hrd : Region.ready .any ops listed with
      | nil => rfl
      | cons i is =>
        have hi : i ∈ Region.ready .any ops listed := by rw [hrd]; exact List.mem_cons_self
        simp only [Region.ready, List.mem_filter, Bool.and_eq_true, List.mem_range] at hi
        have : i ∈ left ops listed := by simp only [left, List.mem_filter, List.mem_range]; exact ⟨hi.1, hi.2.1⟩
        rw [hnil] at this; cases this
    · rw [hnil] at h
      exact hq a w ⟨G, s, h, Gh.Le.rfl_ G, hr⟩
  | succ fuel ih =>
    intro listed G s a w hsz hlen hcl hr h hq
    refine ⟨fun hrd => ?_, fun i hi => ?_⟩
    · have hnil : left ops listed = [] := by
        cases hl : left ops listed with
        | nil => rfl
        | cons i is =>
          exfalso
          have hmem : i ∈ left ops listed := by rw [hl]; exact List.mem_cons_self
          simp only [left, List.mem_filter, List.mem_range] at hmem
          have hmin : ∀ k, k < i → listed.getD k false = true := by
            intro k hk
            by_cases hkl : listed.getD k true = true
            · have hks : k < listed.size := by omega
              simp only [Array.getD_eq_getD_getElem?, Array.getElem?_eq_getElem hks, Option.getD_some] at hkl ⊢
              exact hkl
            · exfalso
              have hkm : k ∈ left ops listed := by simp only [left, List.mem_filter, List.mem_range]; exact ⟨by omega, by simpa using hkl⟩
              rw [hl] at hkm
              rcases List.mem_cons.1 hkm with e | hkm
              · omega
              · have hsorted : (left ops listed).Pairwise (· < ·) := List.Pairwise.filter _ List.pairwise_lt_range
                rw [hl] at hsorted
                have := (List.pairwise_cons.1 hsorted).1 k hkm
                omega
          have : i ∈ Region.ready .any ops listed := by
            simp only [Region.ready, List.mem_filter, Bool.and_eq_true, List.mem_range]
            refine ⟨hmem.1, hmem.2, ?_⟩
            rw [Array.getElem?_eq_getElem hmem.1]
            simp only [Option.map_some, Option.getD_some, Array.all_eq_true_iff_forall_mem, Bool.or_eq_true, Bool.not_eq_true']
            intro e he
            by_cases hb : Region.binds .any e = true
            · right; exact hmin e.on (ho.back i ops[i] (Array.getElem?_eq_getElem hmem.1) e he hb)
            · left; simpa using hb
          rw [hrd] at this; cases this
      rw [hnil] at h
      exact hq a w ⟨G, s, h, Gh.Le.rfl_ G, hr⟩
    · simp only [Region.ready, List.mem_filter, Bool.and_eq_true, List.mem_range] at hi
      obtain ⟨his, hil, hie⟩ := hi
      have hnl : listed.getD i true = false := by simpa using hil
      have hoi : ops[i]? = some ops[i] := Array.getElem?_eq_getElem his
      rw [hoi] at hie
      simp only [Option.map_some, Option.getD_some, Array.all_eq_true_iff_forall_mem, Bool.or_eq_true, Bool.not_eq_true'] at hie
      have hedges : ∀ e ∈ ops[i].after, Region.binds .any e = true → listed.getD e.on false = true := fun e he hb => by
        rcases hie e he with h1 | h1
        · rw [hb] at h1; cases h1
        · exact h1
      obtain ⟨l1, l2, e1, e2, e3⟩ := left_split his hnl hsz
      obtain ⟨ao, f1, f2⟩ := cOpers_at hc (i := i) (o := ops[i]) (by simp [his])
      have hat : aAt aos i = ao := by simp [aAt, List.getD, f1]
      rw [e1, List.map_append, List.map_cons, hat] at h
      have hfront := WOps_front hD hK (fun x hx => by
        obtain ⟨k, hk, rfl⟩ := List.mem_map.1 hx
        obtain ⟨hki, hkl⟩ := e3 k hk
        have hks : k < ops.size := by omega
        have hok : ops[k]? = some ops[k] := Array.getElem?_eq_getElem hks
        obtain ⟨ak, g1, g2⟩ := cOpers_at hc (i := k) (o := ops[k]) (by simp [hks])
        have hak : aAt aos k = ak := by simp [aAt, List.getD, g1]
        rcases ho.pairs k i _ _ hok hoi hki with h1 | ⟨a1, c1, h1, h2, h3, h4⟩
        · have := before_listed hcl i ops[i] hoi ho.back hedges h1
          rw [Array.getD_eq_getD_getElem?, Array.getElem?_eq_getElem (by omega : k < listed.size)] at this hkl
          simp only [Option.getD_some] at this hkl
          rw [this] at hkl; cases hkl
        · rw [hak]
          rw [g2] at h1; injection h1 with h1; subst h1
          rw [f2] at h2; injection h2 with h2; subst h2
          exact ⟨h3, h4⟩) h
      refine o_sound hoi f2 hr (hD.down hr.r0.supp hfront) fun a' w' ⟨G1, s1, k1, k2, k3⟩ => ?_
      refine ih (listed.setIfInBounds i true) (by simpa using hsz) ?_ ?_ k3 ?_ fun a2 w2 h4 => hq a2 w2 (h4.weak k2)
      · rw [e2]; rw [e1] at hlen; simp at hlen ⊢; omega
      · intro j oj hoj hlj e he hb
        by_cases hji : j = i
        · subst hji
          rw [hoi] at hoj; injection hoj with hoj; subst hoj
          exact getD_set_true (hedges e he hb)
        · rw [getD_set_ne false (fun e => hji e.symm)] at hlj
          exact getD_set_true (hcl j oj hoj hlj e he hb)
      · rw [e2, List.map_append]; exact k1
end
end Go.Proofs.YtnmkpadgogbgkaaDoor
namespace Go.Proofs.YtnmkpadgogbgkaaDoor
open Go.RowKit
section
variable {P : Program} {w w' w0 : World} {G : Gh} {nt : Nat} {s : AS} {a : Act} {ef : List Nat} {Q : Exit → Act → World → Prop}
theorem cReg_kind {ops : Array Oper} {draw : Bool} {ac : ACode} (h : cReg P ef nt ops draw = some ac) : (∃ os, ac = .reg os) ∨ (∃ S os, ac = .regD S os) ∨ ac = .bad := by
  unfold cReg at h
  split at h
  · split at h
    · obtain ⟨aos, h1, h2⟩ := Option.map_eq_some_iff.1 h
      exact .inr (.inl ⟨_, _, h2.symm⟩)
    · split at h
      · obtain ⟨aos, h1, h2⟩ := Option.map_eq_some_iff.1 h
        split at h2
        · exact .inr (.inr h2.symm)
        · exact .inr (.inl ⟨_, _, h2.symm⟩)
      · injection h with h; exact .inr (.inr h.symm)
  · obtain ⟨aos, h1, h2⟩ := Option.map_eq_some_iff.1 h
    exact .inl ⟨_, h2.symm⟩
theorem cReg_reg {ops : Array Oper} {draw : Bool} {os : List AOper} (h : cReg P ef nt ops draw = some (.reg os)) : (draw && !ordOk P ef ops nt) = false ∧ cOpers P ef ops nt ops.toList = some os := by
  unfold cReg at h
  split at h
  · split at h
    · obtain ⟨aos, h1, h2⟩ := Option.map_eq_some_iff.1 h
      cases h2
    · split at h
      · obtain ⟨aos, h1, h2⟩ := Option.map_eq_some_iff.1 h
        split at h2 <;> cases h2
      · cases h
  · rename_i hd
    obtain ⟨aos, h1, h2⟩ := Option.map_eq_some_iff.1 h
    injection h2 with h2; subst h2
    exact ⟨by simpa using hd, h1⟩
theorem cReg_regD {ops : Array Oper} {draw : Bool} {S : List Nat} {os : List AOper} (h : cReg P ef nt ops draw = some (.regD S os)) : draw = true ∧ (∃ st, ordOkD P ef ops nt st = true ∧ (st = true → S ≠ [])) ∧ cOpers P ef ops nt ops.toList = some os := by
  unfold cReg at h
  split at h
  · rename_i hd
    split at h
    · rename_i ho
      obtain ⟨aos, h1, h2⟩ := Option.map_eq_some_iff.1 h
      injection h2 with h2 h3; subst h3
      exact ⟨by revert hd; cases draw <;> simp, ⟨false, ho, fun h => by cases h⟩, h1⟩
    · split at h
      · rename_i ho
        obtain ⟨aos, h1, h2⟩ := Option.map_eq_some_iff.1 h
        split at h2
        · cases h2
        · rename_i hne
          injection h2 with h2 h3; subst h3; subst h2
          exact ⟨by revert hd; cases draw <;> simp, ⟨true, ho, fun _ e => hne (by rw [e]; rfl)⟩, h1⟩
      · cases h
  · obtain ⟨aos, h1, h2⟩ := Option.map_eq_some_iff.1 h
    cases h2
theorem region_sound {id : Nat} {ops : Array Oper} {draw : Bool} {aos : List AOper} {K : AS → Prop} (hd : (draw && !ordOk P ef ops nt) = false) (hc : cOpers P ef ops nt ops.toList = some aos) (hr : RelS P w0 nt G s a w) (h : awOps P aos K s) (hq : ∀ a' w', After P w0 nt G K a' w' → Q .normal a' w') :
    (Code.region id ops draw).wp P Q a w := by
  have hlen := cOpers_len hc
  have hmap : (List.range ops.size).map (aAt aos) = aos := by
    have := range_map_aAt aos
    rw [hlen] at this
    simpa using this
  cases draw with
  | false =>
    refine wp_region (ops_sound hc (List.range ops.size) (fun i hi => by simpa using hi) hr ?_ hq)
    rw [hmap]; exact h
  | true =>
    have ho := ordOk_spec (P := P) (ef := ef) (ops := ops) (nt := nt) (by simpa using hd)
    let K' : AS → Prop := fun s => ∃ e', (∀ t, get e' t = get s.e t) ∧ K ⟨e', s.n, s.H⟩
    have hK : EInv K' := fun e e' n H he ⟨e1, h1, h2⟩ => ⟨e1, fun t => (h1 t).trans (he t), h2⟩
    have h' : WOps (awO P) aos K' s := by
      rw [WOps_plain]
      exact awOps_mono h fun s' hs' => ⟨s'.e, fun _ => rfl, hs'⟩
    have hleft : left ops (Array.replicate ops.size false) = List.range ops.size := by
      simp only [left]
      rw [List.filter_eq_self]
      intro i hi
      have hi' : i < ops.size := by simpa using hi
      simp [Array.getD_eq_getD_getElem?, hi']
    have hr' : RelS P w0 nt G s a { w with drawn := w.drawn + 1 } := ⟨hr.r0.same rfl rfl rfl rfl, hr.sz, hr.df, hr.ld, hr.tm⟩
    refine wp_region_any ho.mixed (draw_sound drw_plain hc ho hK ops.size (Array.replicate ops.size false) (by simp) (by rw [hleft]; simp) ?_ hr' (by rw [hleft, hmap]; exact h') ?_)
    · intro i o _ hl
      rw [Array.getD_eq_getD_getElem?, Array.getElem?_replicate] at hl
      split at hl <;> cases hl
    · rintro a' w1 ⟨G1, s1, ⟨e1, h1, h2⟩, h3, h4⟩
      exact hq a' w1 ⟨G1, ⟨e1, s1.n, s1.H⟩, h2, h3, h4.env fun t => .inr (h1 t)⟩
theorem gsOf_ne {e : AEnv} {S gs : List Nat} (hS : S ≠ []) (h : gsOf e S = some gs) : gs ≠ [] := by
  cases S with
  | nil => exact absurd rfl hS
  | cons t ts =>
    simp only [gsOf] at h
    unfold gsC at h
    split at h
    · injection h with h; subst h; simp
    · cases h
theorem region_late {id : Nat} {ops : Array Oper} {aos : List AOper} {gs : List Nat} {st : Bool} {K : AS → Prop} (hd : ordOkD P ef ops nt st = true) (hgs : st = true → gs ≠ []) (hc : cOpers P ef ops nt ops.toList = some aos) (hr : RelS P w0 nt G s a w) (h : awOpsM P gs aos K s) (hq : ∀ a' w', After P w0 nt G K a' w' → Q .normal a' w') :
    (Code.region id ops true).wp P Q a w := by
  have hlen := cOpers_len hc
  have hmap : (List.range ops.size).map (aAt aos) = aos := by
    have := range_map_aAt aos
    rw [hlen] at this
    simpa using this
  have ho := ordOkD_spec (P := P) (ef := ef) (ops := ops) (nt := nt) hd
  let K' : AS → Prop := fun s => ∃ e', (∀ t, get e' t = get s.e t) ∧ K ⟨e', s.n, s.H⟩
  have hK : EInv K' := fun e e' n H he ⟨e1, h1, h2⟩ => ⟨e1, fun t => (h1 t).trans (he t), h2⟩
  have h' : WOps (awOM P gs) aos K' s := by
    rw [WOps_late]
    exact awOpsM_mono h fun s' hs' => ⟨s'.e, fun _ => rfl, hs'⟩
  have hleft : left ops (Array.replicate ops.size false) = List.range ops.size := by
    simp only [left]
    rw [List.filter_eq_self]
    intro i hi
    have hi' : i < ops.size := by simpa using hi
    simp [Array.getD_eq_getD_getElem?, hi']
  have hr' : RelS P w0 nt G s a { w with drawn := w.drawn + 1 } := ⟨hr.r0.same rfl rfl rfl rfl, hr.sz, hr.df, hr.ld, hr.tm⟩
  refine wp_region_any ho.mixed (draw_sound (drw_late gs st hgs) hc ho hK ops.size (Array.replicate ops.size false) (by simp) (by rw [hleft]; simp) ?_ hr' (by rw [hleft, hmap]; exact h') ?_)
  · intro i o _ hl
    rw [Array.getD_eq_getD_getElem?, Array.getElem?_replicate] at hl
    split at hl <;> cases hl
  · rintro a' w1 ⟨G1, s1, ⟨e1, h1, h2⟩, h3, h4⟩
    exact hq a' w1 ⟨G1, ⟨e1, s1.n, s1.H⟩, h2, h3, h4.env fun t => .inr (h1 t)⟩
def exR : AExit → Exit
  | .normal => .normal
  | .exit id => .exit id
  | .ret => .ret
theorem get_putO_ne {e : AEnv} {d : Option Nat} {t : Nat} {v : AV} (h : d ≠ some t) : get (putO e d v) t = get e t := by
  rw [get_putO, if_neg h]
theorem gd_ops {t : Nat} {want : Bool} : ∀ (ops : List AOper) {K : AS → Prop} {s : AS}, (ops.all fun o => o.guard.isNone && o.dst != some t) = true → get s.e t = .bool want → awOps P ops K s →
    awOps P (ops.map fun o => { o with guard := some (t, want) }) K s
  | [], K, s, _, _, h => h
  | o :: os, K, s, hok, hg, h => by
    simp only [List.all_cons, Bool.and_eq_true, bne_iff_ne, ne_eq] at hok
    obtain ⟨⟨h1, h2⟩, h3⟩ := hok
    simp only [awOps, awO] at h
    obtain ⟨d, op, g⟩ := o
    simp only [Option.isNone_iff_eq_none] at h1
    subst h1
    simp only [List.map_cons, awOps, awO, hg]
    obtain ⟨e, n, H⟩ := s
    refine ⟨fun _ => awOp_move (fun _ _ => rfl) h fun r n' H' h' => gd_ops os (by simpa using h3) ?_ h', fun hb => absurd rfl hb⟩
    simp only at hg h2 ⊢
    rw [get_putO_ne h2]; exact hg
theorem gd_no {t : Nat} {want b : Bool} (hb : b ≠ want) : ∀ (ops : List AOper) {K : AS → Prop} {s : AS}, (ops.all fun o => o.guard.isNone && o.dst != some t) = true → get s.e t = .bool b → K ⟨undE s.e ops, s.n, s.H⟩ →
    awOps P (ops.map fun o => { o with guard := some (t, want) }) K s
  | [], K, s, _, _, h => h
  | o :: os, K, s, hok, hg, h => by
    simp only [List.all_cons, Bool.and_eq_true, bne_iff_ne, ne_eq] at hok
    obtain ⟨⟨h1, h2⟩, h3⟩ := hok
    simp only [List.map_cons, awOps, awO, hg]
    refine ⟨fun e => absurd e hb, fun _ => gd_no hb os (by simpa using h3) ?_ h⟩
    rw [get_putO_ne h2]; exact hg
theorem gd_und {t : Nat} {want : Bool} : ∀ (ops : List AOper) {K : AS → Prop} {s : AS}, (ops.all fun o => o.guard.isNone && o.dst != some t) = true → get s.e t = .und → K ⟨undE s.e ops, s.n, s.H⟩ →
    awOps P (ops.map fun o => { o with guard := some (t, want) }) K s
  | [], K, s, _, _, h => h
  | o :: os, K, s, hok, hg, h => by
    simp only [List.all_cons, Bool.and_eq_true, bne_iff_ne, ne_eq] at hok
    obtain ⟨⟨h1, h2⟩, h3⟩ := hok
    simp only [List.map_cons, awOps, awO, hg]
    refine gd_und os (by simpa using h3) ?_ h
    rw [get_putO_ne h2]; exact hg
theorem awOps_append {xs ys : List AOper} {K : AS → Prop} {s : AS} : awOps P (xs ++ ys) K s ↔ awOps P xs (awOps P ys K) s := by
  induction xs generalizing s with
  | nil => rfl
  | cons x xs ih =>
    simp only [List.cons_append, awOps]
    exact ⟨fun h => awO_mono h fun s h => ih.1 h, fun h => awO_mono h fun s h => ih.2 h⟩
theorem eval_ops : ∀ (ops : List AOper) {e e' : AEnv} {n : Nat} {H : AHeap} {K : AS → Prop}, (ops.all fun o => o.guard.isNone) = true → evalOps ops e H = some e' → K ⟨e', n, H⟩ → awOps P ops K ⟨e, n, H⟩
  | [], e, e', n, H, K, _, h, hk => by simp only [evalOps] at h; injection h with h; subst h; exact hk
  | o :: os, e, e', n, H, K, hok, h, hk => by
    simp only [List.all_cons, Bool.and_eq_true, Option.isNone_iff_eq_none] at hok
    simp only [evalOps] at h
    split at h
    · rename_i v hv
      simp only [awOps, awO, hok.1]
      have hpe : o.op.eff = false := by
        cases hop : o.op <;> first | rfl | (rw [hop] at hv; simp [pe] at hv; done)
      rw [awOp_pure hpe, hv]
      exact eval_ops os (by simpa using hok.2) h hk
    · cases h
theorem get_anyE {t : Nat} : ∀ (ops : List AOper) {e : AEnv}, (ops.all fun o => o.dst != some t) = true → get (anyE e ops) t = get e t
  | [], e, _ => rfl
  | o :: os, e, hok => by
    simp only [List.all_cons, Bool.and_eq_true, bne_iff_ne, ne_eq] at hok
    simp only [anyE]
    rw [get_anyE os (by simpa using hok.2), get_putO_ne hok.1]
/-- it is known of the second environment no more than of the first -/
def LeE (e e' : AEnv) : Prop := ∀ t, get e' t = .any ∨ get e' t = get e t
def KW (K : AS → Prop) (s : AS) : Prop := ∃ e', LeE s.e e' ∧ K ⟨e', s.n, s.H⟩
theorem KW.of {K : AS → Prop} {s : AS} (h : K s) : KW K s := ⟨s.e, fun _ => .inr rfl, h⟩
theorem LeE.put {e e' : AEnv} (h : LeE e e') (d : Option Nat) (v : AV) : LeE (putO e d v) (putO e' d v) := fun t => by
  rw [get_putO, get_putO]; split
  · exact .inr rfl
  · exact h t
theorem LeE.tr {a b c : AEnv} (h : LeE a b) (k : LeE b c) : LeE a c := fun t => by
  rcases k t with k1 | k1
  · exact .inl k1
  · rw [k1]; exact h t
theorem ops_le {K : AS → Prop} : ∀ {os : List AOper} {e e' : AEnv} {n : Nat} {H : AHeap}, (∀ o ∈ os, ∀ t ∈ o.uses, get e' t = get e t) → LeE e e' → awOps P os (KW K) ⟨e', n, H⟩ → awOps P os (KW K) ⟨e, n, H⟩
  | [], e, e', n, H, _, hl, h => by
    obtain ⟨e2, h1, h2⟩ := h
    exact ⟨e2, hl.tr h1, h2⟩
  | o :: os, e, e', n, H, hu, hl, h => by
    refine awO_move (hu o List.mem_cons_self) h fun r n' H' h' => ops_le (fun o' ho t ht => ?_) (hl.put _ _) h'
    rw [get_putO, get_putO]; split
    · rfl
    · exact hu o' (List.mem_cons_of_mem _ ho) t ht
theorem evalOps_get {t : Nat} : ∀ (ops : List AOper) {e e' : AEnv} {H : AHeap}, evalOps ops e H = some e' → (∀ o ∈ ops, o.dst ≠ some t) → get e' t = get e t
  | [], e, e', H, h, _ => by simp only [evalOps] at h; injection h with h; rw [h]
  | o :: os, e, e', H, h, ht => by
    simp only [evalOps] at h
    split at h
    · rw [evalOps_get os h (fun o' ho => ht o' (List.mem_cons_of_mem _ ho)), get_putO_ne (ht o List.mem_cons_self)]
    · cases h
theorem get_undE {t : Nat} : ∀ (ops : List AOper) {e : AEnv}, (ops.all fun o => o.dst != some t) = true → get (undE e ops) t = get e t
  | [], e, _ => rfl
  | o :: os, e, hok => by
    simp only [List.all_cons, Bool.and_eq_true, bne_iff_ne, ne_eq] at hok
    simp only [undE]
    rw [get_undE os (by simpa using hok.2), get_putO_ne hok.1]
theorem get_anyE2 {t : Nat} : ∀ (ops : List AOper) {e : AEnv}, get (anyE e ops) t = .any ∨ (get (anyE e ops) t = get e t ∧ ∀ o ∈ ops, o.dst ≠ some t)
  | [], e => .inr ⟨rfl, by simp⟩
  | o :: os, e => by
    simp only [anyE]
    rcases get_anyE2 (t := t) os (e := putO e o.dst .any) with h | ⟨h, h2⟩
    · exact .inl h
    · rw [h, get_putO]
      split
      · exact .inl rfl
      · rename_i hd
        exact .inr ⟨rfl, fun o' ho => by
          rcases List.mem_cons.1 ho with rfl | ho
          · exact hd
          · exact h2 o' ho⟩
theorem undE_le (ops : List AOper) (e : AEnv) : LeE (undE e ops) (anyE e ops) := fun t => by
  rcases get_anyE2 (t := t) ops (e := e) with h | ⟨h, h2⟩
  · exact .inl h
  · refine .inr ?_
    rw [h, get_undE ops (by rw [List.all_eq_true]; intro o ho; simpa using h2 o ho)]
theorem segs_ops : ∀ (l : List Seg) {K : AS → Prop} {s : AS}, segsOk l = true → awSegs P l K s → awOps P (l.flatMap Seg.flat) (KW K) s
  | [], K, s, _, h => KW.of h
  | ⟨none, ops, _⟩ :: l, K, s, hok, h => by
    simp only [segsOk, Bool.and_eq_true] at hok
    simp only [List.flatMap_cons, Seg.flat]
    exact awOps_append.2 (awOps_mono h fun s' h' => segs_ops l hok.2 h')
  | ⟨some (t, want), ops, some (d, x)⟩ :: l, K, s, hok, h => by
    simp only [segsOk, Bool.and_eq_true] at hok
    obtain ⟨⟨h1, h2⟩, h3⟩ := hok
    have h1 : (ops.all fun o => o.guard.isNone && o.dst != some t) = true := h1
    simp only [awSegs] at h
    obtain ⟨v, hv, hk⟩ := K1_iff.1 h
    have hk := segs_ops l h3 hk
    have hgn : ∀ o ∈ ops, o.guard.isNone = true ∧ o.dst ≠ some t := fun o ho => by
      have := List.all_eq_true.1 h1 o ho
      simp only [Bool.and_eq_true, bne_iff_ne, ne_eq] at this
      exact this
    have huse : ∀ o ∈ l.flatMap Seg.flat, ∀ t ∈ o.uses, ∀ o' ∈ ops, o'.dst ≠ some t := by
      intro o ho t ht o' ho' hd
      have h2' : (ops.all fun o => (match o.dst with | some t => !((l.flatMap Seg.flat).flatMap AOper.uses).contains t | none => true)) = true := h2
      have := List.all_eq_true.1 h2' o' ho'
      rw [hd] at this
      simp only [Bool.not_eq_true', List.contains_eq_mem, decide_eq_false_iff_not, List.mem_flatMap, not_exists, not_and] at this
      obtain ⟨sg, hs1, hs2⟩ := List.mem_flatMap.1 ho
      exact this o ⟨sg, hs1, hs2⟩ ht
    simp only [List.flatMap_cons, Seg.flat]
    rw [List.append_assoc]
    refine awOps_append.2 ?_
    obtain ⟨e, n, H⟩ := s
    simp only at hv hk ⊢
    have pick : ∀ e2, get e2 t = get e t → (∀ b, get e t = .bool b → b = want → get e2 x = v) → (∀ b, get e t = .bool b → b ≠ want → v = .bool (!want)) → (∃ b, get e t = .bool b) → LeE e2 (anyE e ops) → (∀ t, (∀ o ∈ ops, o.dst ≠ some t) → get e2 t = get e t) →
        awOps P (⟨some d, if want then .pick (.t t) (.t x) (.c (.bool false)) else .pick (.t t) (.c (.bool true)) (.t x), none⟩ :: l.flatMap Seg.flat) (KW K) ⟨e2, n, H⟩ := by
      intro e2 g1 g2 g3 ⟨b, hb⟩ g4 g5
      have hpe : pe (if want then .pick (.t t) (.t x) (.c (.bool false)) else .pick (.t t) (.c (.bool true)) (.t x)) e2 H = some v := by
        cases want
        · simp only [Bool.false_eq_true, if_false, pe, ev, g1, hb]
          cases b
          · simp only [Bool.false_eq_true, if_false]; rw [g2 false hb rfl]
          · simp only [if_true]; rw [g3 true hb (by simp)]; rfl
        · simp only [if_true, pe, ev, g1, hb]
          cases b
          · simp only [Bool.false_eq_true, if_false]; rw [g3 false hb (by simp)]; rfl
          · simp only [if_true]; rw [g2 true hb rfl]
      have heff : (if want then AOp.pick (.t t) (.t x) (.c (.bool false)) else AOp.pick (.t t) (.c (.bool true)) (.t x)).eff = false := by cases want <;> rfl
      simp only [awOps, awO]
      rw [awOp_pure heff, hpe]
      refine ops_le (fun o ho t' ht' => ?_) (g4.put (some d) v) hk
      rw [get_putO, get_putO]
      split
      · rfl
      · have hn := huse o ho t' ht'
        rw [g5 t' hn]
        rcases get_anyE2 (t := t') ops (e := e) with hx | hx
        · rw [get_anyE ops (by rw [List.all_eq_true]; intro o' ho'; simpa using hn o' ho')]
        · exact hx.1
    unfold scV at hv
    split at hv
    · rename_i b e' hb he
      split at hv
      · rename_i b' hb'
        injection hv with hv
        by_cases hbw : b = want
        · subst hbw
          refine gd_ops ops h1 hb (eval_ops ops (List.all_eq_true.2 fun o ho => (hgn o ho).1) he ?_)
          have hnt : ∀ o ∈ ops, o.dst ≠ some t := fun o ho => by have := List.all_eq_true.1 h1 o ho; simp only [Bool.and_eq_true, bne_iff_ne, ne_eq] at this; exact this.2
          refine pick e' (evalOps_get ops he hnt) (fun b2 hb2 e3 => ?_) (fun b2 hb2 e3 => ?_) ⟨_, hb⟩ (fun t' => ?_) (fun t' ht' => evalOps_get ops he ht')
          · rw [hb', ← hv]; cases b <;> simp
          · rw [hb] at hb2; injection hb2 with hb2; exact absurd hb2.symm e3
          · rcases get_anyE2 (t := t') ops (e := e) with hx | ⟨hx, hx2⟩
            · exact .inl hx
            · exact .inr (by rw [hx, evalOps_get ops he hx2])
        · refine gd_no hbw ops h1 hb ?_
          refine pick _ (get_undE ops ?_) (fun b2 hb2 e3 => ?_) (fun b2 hb2 e3 => ?_) ⟨_, hb⟩ (undE_le ops e) (fun t' ht' => get_undE ops (by rw [List.all_eq_true]; intro o' ho'; simpa using ht' o' ho'))
          · rw [List.all_eq_true]; intro o ho; have := List.all_eq_true.1 h1 o ho; simp only [Bool.and_eq_true] at this; exact this.2
          · have hb3 : b = b2 := by have := hb.symm.trans hb2; injection this
            exact absurd (hb3.trans e3) hbw
          · have hbn : b = !want := by cases b <;> cases want <;> first | rfl | exact absurd rfl hbw
            subst hbn
            rw [← hv]; cases want <;> rfl
      · cases hv
    · rename_i b hb he
      split at hv
      · cases hv
      · rename_i hbw
        injection hv with hv
        refine gd_no hbw ops h1 hb ?_
        refine pick _ (get_undE ops ?_) (fun b2 hb2 e3 => ?_) (fun b2 hb2 e3 => hv.symm) ⟨_, hb⟩ (undE_le ops e) (fun t' ht' => get_undE ops (by rw [List.all_eq_true]; intro o' ho'; simpa using ht' o' ho'))
        · rw [List.all_eq_true]; intro o ho; have := List.all_eq_true.1 h1 o ho; simp only [Bool.and_eq_true] at this; exact this.2
        · have hb3 : b = b2 := by have := hb.symm.trans hb2; injection this
          exact absurd (hb3.trans e3) hbw
    · cases hv
  | ⟨some (t, want), ops, none⟩ :: l, K, s, hok, h => by
    simp only [segsOk, Bool.and_eq_true] at hok
    have h1 : (ops.all fun o => o.guard.isNone && o.dst != some t) = true := hok.1.1
    simp only [List.flatMap_cons, Seg.flat, List.append_nil]
    refine awOps_append.2 ?_
    simp only [awSegs] at h
    unfold guardK at h
    split at h
    · rename_i b hb
      by_cases hbw : b = want
      · subst hbw
        exact gd_ops ops h1 hb (awOps_mono (h.1 rfl) fun s' h' => segs_ops l hok.2 h')
      · exact gd_no hbw ops h1 hb (segs_ops l hok.2 (h.2 hbw))
    · rename_i hb
      exact gd_und ops h1 hb (segs_ops l hok.2 h)
    · exact h.elim
theorem code_sound : ∀ (ac : ACode) {c : Code} {Qa : AExit → AS → Prop} {Q : Exit → Act → World → Prop} {G : Gh} {s : AS} {a : Act} {w : World}, cCode P ef nt c = some (bare ac) → RelS P w0 nt G s a w → aw P ac Qa s →
    (∀ e s' G' a' w', Qa e s' → G.Le G' → RelS P w0 nt G' s' a' w' → Q (exR e) a' w') → c.wp P Q a w := by
  intro ac
  induction ac with
  | skip =>
    intro c Qa Q G s a w hc hr h hq
    cases c <;> simp only [cCode, bare] at hc <;> first | exact wp_skip (hq .normal s G a w h (Gh.Le.rfl_ G) hr) | (simp at hc; done) | (split at hc <;> simp at hc; done) | (rcases cReg_kind hc with ⟨_, hk⟩ | ⟨_, _, hk⟩ | hk <;> cases hk; done) | skip
  | reg ops =>
    intro c Qa Q G s a w hc hr h hq
    cases c <;> simp only [cCode, bare] at hc <;> first | (simp at hc; done) | skip
    case region id ops' draw =>
      obtain ⟨hd, h1⟩ := cReg_reg hc
      exact region_sound hd h1 hr h fun a' w1 ⟨G1, s1, k1, k2, k3⟩ => hq .normal s1 G1 a' w1 k1 k2 k3
    all_goals first | (split at hc <;> simp at hc; done) | (rcases cReg_kind hc with ⟨_, hk⟩ | ⟨_, _, hk⟩ | hk <;> cases hk; done)
  | regD S ops =>
    intro c Qa Q G s a w hc hr h hq
    cases c <;> simp only [cCode, bare] at hc <;> first | (simp at hc; done) | skip
    case region id ops' draw =>
      obtain ⟨hdr, ⟨st, hd, hst⟩, h1⟩ := cReg_regD hc
      subst hdr
      simp only [aw] at h
      unfold gsK at h
      split at h
      · rename_i hgs
        exact region_late hd (fun e => gsOf_ne (hst e) hgs) h1 hr h fun a' w1 ⟨G1, s1, k1, k2, k3⟩ => hq .normal s1 G1 a' w1 k1 k2 k3
      · exact h.elim
    all_goals first | (split at hc <;> simp at hc; done) | (rcases cReg_kind hc with ⟨_, hk⟩ | ⟨_, _, hk⟩ | hk <;> cases hk; done)
  | segs l =>
    intro c Qa Q G s a w hc hr h hq
    simp only [bare] at hc
    split at hc
    · rename_i hok
      have h : awOps P (l.flatMap Seg.flat) (KW (Qa .normal)) s := segs_ops l hok h
      cases c <;> simp only [cCode] at hc <;> first | (simp at hc; done) | skip
      case region id ops' draw =>
        obtain ⟨hd, h1⟩ := cReg_reg hc
        exact region_sound hd h1 hr h fun a' w1 ⟨G1, s1, ⟨e2, k0, k1⟩, k2, k3⟩ => hq .normal ⟨e2, s1.n, s1.H⟩ G1 a' w1 k1 k2 (k3.env k0)
      all_goals first | (split at hc <;> simp at hc; done) | (rcases cReg_kind hc with ⟨_, hk⟩ | ⟨_, _, hk⟩ | hk <;> cases hk; done)
    · cases c <;> simp only [cCode] at hc <;> first | (simp at hc; done) | (split at hc <;> simp at hc; done) | (rcases cReg_kind hc with ⟨_, hk⟩ | ⟨_, _, hk⟩ | hk <;> cases hk; done)
  | seq x y ihx ihy =>
    intro c Qa Q G s a w hc hr h hq
    cases c <;> simp only [cCode, bare] at hc <;> first | (simp at hc; done) | skip
    case seq c1 c2 =>
      split at hc
      · rename_i x' y' h1 h2
        injection hc with hc
        injection hc with e1 e2
        subst e1; subst e2
        refine wp_seq (ihx h1 hr h fun e s' G' a' w1 hqa hle hr' => ?_)
        cases e with
        | normal => exact ihy h2 hr' hqa fun e2 s2 G2 a2 w2 q2 l2 r2 => hq e2 s2 G2 a2 w2 q2 (hle.tr l2) r2
        | exit id => exact hq _ s' G' a' w1 hqa hle hr'
        | ret => exact hq _ s' G' a' w1 hqa hle hr'
      · cases hc
    all_goals first | (split at hc <;> simp at hc; done) | (rcases cReg_kind hc with ⟨_, hk⟩ | ⟨_, _, hk⟩ | hk <;> cases hk; done)
  | cond cnd x y ihx ihy =>
    intro c Qa Q G s a w hc hr h hq
    cases c <;> simp only [cCode, bare] at hc <;> first | (simp at hc; done) | skip
    case cond o c1 c2 =>
      split at hc
      · rename_i o' x' y' h0 h1 h2
        injection hc with hc
        injection hc with e0 e1 e2
        subst e0; subst e1; subst e2
        simp only [aw] at h
        unfold condK at h
        have hor := opd_rep (G := G) (a := a) (e := s.e) h0 hr.tm
        split at h
        · rename_i b hb
          rw [hb] at hor
          have hval : a.eval o = .bool b := by generalize a.eval o = v at hor; cases hor; rfl
          refine wp_cond hval ?_
          cases b with
          | true => exact ihx h1 hr (h.1 rfl) hq
          | false => exact ihy h2 hr (h.2 rfl) hq
        · exact h.elim
      · cases hc
    all_goals first | (split at hc <;> simp at hc; done) | (rcases cReg_kind hc with ⟨_, hk⟩ | ⟨_, _, hk⟩ | hk <;> cases hk; done)
  | block id x ih =>
    intro c Qa Q G s a w hc hr h hq
    cases c <;> simp only [cCode, bare] at hc <;> first | (simp at hc; done) | skip
    case block id' c1 =>
      obtain ⟨x', h1, h2⟩ := Option.map_eq_some_iff.1 hc
      injection h2 with e1 e2
      subst e1; subst e2
      refine wp_block (ih h1 hr h fun e s' G' a' w1 hqa hle hr' => ?_)
      cases e with
      | normal => exact hq .normal s' G' a' w1 hqa hle hr'
      | exit i =>
        simp only [blockA] at hqa
        simp only [exR, Exit.inBlock]
        split
        · rename_i hi; rw [if_pos hi] at hqa; exact hq .normal s' G' a' w1 hqa hle hr'
        · rename_i hi; rw [if_neg hi] at hqa; exact hq (.exit i) s' G' a' w1 hqa hle hr'
      | ret => exact hq .ret s' G' a' w1 hqa hle hr'
    all_goals first | (split at hc <;> simp at hc; done) | (rcases cReg_kind hc with ⟨_, hk⟩ | ⟨_, _, hk⟩ | hk <;> cases hk; done)
  | loop x ih =>
    intro c Qa Q G s a w hc hr h hq
    cases c <;> simp only [cCode, bare] at hc <;> first | (simp at hc; done) | skip
    case loop c1 =>
      obtain ⟨x', h1, h2⟩ := Option.map_eq_some_iff.1 hc
      injection h2 with e2
      subst e2
      have key := h (fun s => ∀ G1 a1 w1, G.Le G1 → RelS P w0 nt G1 s a1 w1 → ∀ b k cs, ∃ e a' w', Q e a' w' ∧ Arrives P (lone (b.at a1 (.code c1 :: .inLoop c1 :: k)) cs w1) b k cs e a' w') (by
        intro s1 hs1 G1 a1 w1 hle hr1 b k cs
        have hbody := ih (Q := Exit.then (fun a1 w1 => ∀ b k cs, ∃ e a' w', Q e a' w' ∧ Arrives P (lone (b.at a1 (.code c1 :: .inLoop c1 :: k)) cs w1) b k cs e a' w') Q) h1 hr1 hs1 (fun e s' G' a' w2 hqa hle2 hr' => by
          cases e with
          | normal => exact hqa G' a' w2 (hle.tr hle2) hr'
          | exit i => exact hq _ s' G' a' w2 hqa (hle.tr hle2) hr'
          | ret => exact hq _ s' G' a' w2 hqa (hle.tr hle2) hr')
        obtain ⟨e, a2, w2, hq2, harr⟩ := hbody b (.inLoop c1 :: k) cs
        cases e with
        | normal =>
          obtain ⟨e3, a3, w3, hq3, harr3⟩ := hq2 b k cs
          exact ⟨e3, a3, w3, hq3, .of_steps (Steps.trans harr (.one step_inLoop)) harr3⟩
        | exit i => exact ⟨_, a2, w2, hq2, .pass (x := .inLoop c1) rfl (fun _ _ => .inl (by simp)) harr⟩
        | goto l => exact ⟨_, a2, w2, hq2, .pass (x := .inLoop c1) rfl (fun _ _ => .inl (by simp)) harr⟩
        | ret => exact ⟨_, a2, w2, hq2, .pass (x := .inLoop c1) rfl (fun _ _ => .inl (by simp)) harr⟩
        | panic ch => exact ⟨_, a2, w2, hq2, .pass (x := .inLoop c1) rfl (fun _ _ => .inl (by simp)) harr⟩
        | outgrown => exact ⟨_, a2, w2, hq2, .pass (x := .inLoop c1) rfl (fun _ _ => .inl (by simp)) harr⟩)
      intro b k cs
      obtain ⟨e, a2, w2, hq2, harr⟩ := key G a w (Gh.Le.rfl_ G) hr b k cs
      exact ⟨e, a2, w2, hq2, .of_steps (.one step_loop) harr⟩
    all_goals first | (split at hc <;> simp at hc; done) | (rcases cReg_kind hc with ⟨_, hk⟩ | ⟨_, _, hk⟩ | hk <;> cases hk; done)
  | exit id =>
    intro c Qa Q G s a w hc hr h hq
    cases c <;> simp only [cCode, bare] at hc <;> first | (simp at hc; done) | (split at hc <;> simp at hc; done) | (rcases cReg_kind hc with ⟨_, hk⟩ | ⟨_, _, hk⟩ | hk <;> cases hk; done) | skip
    case exit id' =>
      injection hc with hc; injection hc with hc; subst hc
      exact wp_exit (hq (.exit _) s G a w h (Gh.Le.rfl_ G) hr)
  | ret =>
    intro c Qa Q G s a w hc hr h hq
    cases c <;> simp only [cCode, bare] at hc <;> first | exact wp_ret (hq .ret s G a w h (Gh.Le.rfl_ G) hr) | (simp at hc; done) | (split at hc <;> simp at hc; done) | (rcases cReg_kind hc with ⟨_, hk⟩ | ⟨_, _, hk⟩ | hk <;> cases hk; done) | skip
  | bad =>
    intro c Qa Q G s a w hc hr h hq
    exact h.elim
  | kp ks x ih =>
    intro c Qa Q G s a w hc hr h hq
    exact ih hc (hr.env (fun t => get_keep s.e ks t)) h hq
  | ke ks x ih =>
    intro c Qa Q G s a w hc hr h hq
    refine ih hc hr h fun e s' G' a' w' hqa hle hr' => ?_
    cases e with
    | normal => exact hq .normal _ G' a' w' hqa hle (hr'.env (fun t => get_keep s'.e ks t))
    | _ => exact hq _ s' G' a' w' hqa hle hr'
end
end Go.Proofs.YtnmkpadgogbgkaaDoor
namespace Go.Proofs.YtnmkpadgogbgkaaDoor
open Go.RowKit
def resSem (tmps : Array Value) : ResultVar → Sem Value
  | .tmp t => pure (tmps.getD t undef)
  | .cell a t => do loadVar t (← asAddr (tmps.getD a undef))
theorem results_eq (fn : Func) (tmps : Array Value) : results fn tmps = (do let vs ← fn.results.mapM (resSem tmps); pure (if h : vs.size = 1 then vs[0] else .tuple vs)) := by
  unfold results
  congr 2
section
variable {P : Program} {w w' w0 : World} {G : Gh} {nt : Nat} {s : AS} {a : Act} {ef : List Nat}
theorem run_res {rv : ResultVar} {ar : ARes} {x : AV} (hr : RelS P w0 nt G s a w) (hc : cRes P [rv] = some [ar]) (h : resV s ar = some x) :
    ∃ v, (resSem a.tmps rv).run P w = .ok v w ∧ Rep G v x := by
  cases rv with
  | tmp t =>
    simp [cRes] at hc; subst hc
    simp only [resV] at h; injection h with h; subst h
    exact ⟨_, rfl, hr.tm t⟩
  | cell ad t =>
    simp only [cRes] at hc
    split at hc
    · rename_i sh r hsh h2
      injection hc with hc; injection hc with e1 e2; subst e1
      simp only [resV] at h
      have hv := hr.tm ad
      obtain ⟨v, h3, h4⟩ := run_load_rep (t := t) hr.r0 hsh hv h
      refine ⟨v, ?_, h4⟩
      simp only [resSem]
      generalize a.tmps.getD ad undef = av at h3 hv ⊢
      simp only [Instr.loadAt, Sem.run_bind] at h3 ⊢
      unfold loadAV at h
      split at h
      · rename_i g o he; rw [he] at hv; cases hv; exact h3
      · rename_i y he; rw [he] at hv; cases hv; exact h3
      · cases h
    · cases hc
theorem cRes_cons {rv : ResultVar} {rvs : List ResultVar} {ars : List ARes} (h : cRes P (rv :: rvs) = some ars) : ∃ ar ars', ars = ar :: ars' ∧ cRes P [rv] = some [ar] ∧ cRes P rvs = some ars' := by
  cases rv with
  | tmp t =>
    simp only [cRes] at h
    obtain ⟨r, h1, h2⟩ := Option.map_eq_some_iff.1 h
    exact ⟨.tmp t, r, h2.symm, by simp [cRes], h1⟩
  | cell ad t =>
    simp only [cRes] at h
    split at h
    · rename_i sh r hsh h2
      injection h with h
      exact ⟨.cell ad sh, r, h.symm, by simp [cRes, hsh], h2⟩
    · cases h
theorem run_ress : ∀ {rvs : List ResultVar} {ars : List ARes} {xs : List AV}, RelS P w0 nt G s a w → cRes P rvs = some ars → resVs s ars = some xs →
    ∃ vs, (rvs.mapM (resSem a.tmps)).run P w = .ok vs w ∧ RepL G vs xs
  | [], ars, xs, hr, hc, h => by
    simp [cRes] at hc; subst hc
    simp [resVs] at h; subst h
    exact ⟨[], by simp, .nil⟩
  | rv :: rvs, ars, xs, hr, hc, h => by
    obtain ⟨ar, ars', rfl, h1, h2⟩ := cRes_cons hc
    simp only [resVs] at h
    split at h
    · rename_i x xs' h3 h4
      injection h with h; subst h
      obtain ⟨v, e1, e2⟩ := run_res hr h1 h3
      obtain ⟨vs, e3, e4⟩ := run_ress hr h2 h4
      refine ⟨v :: vs, ?_, .cons e2 e4⟩
      simp only [List.mapM_cons, Sem.run_bind, e1, Result.andThen_ok, e3, Sem.run_pure]
    · cases h
theorem results_sound {fn : Func} {ars : List ARes} {x : AV} (hr : RelS P w0 nt G s a w) (hc : cRes P fn.results.toList = some ars) (h : resOf s ars = some x) : ∃ v, (results fn a.tmps).run P w = .ok v w ∧ Rep G v x := by
  unfold resOf at h
  have main : ∀ xs, resVs s ars = some xs → ∃ vs, (results fn a.tmps).run P w = .ok (if h : vs.length = 1 then vs[0] else .tuple vs.toArray) w ∧ RepL G vs xs := by
    intro xs hx
    obtain ⟨vs, e1, e2⟩ := run_ress hr hc hx
    refine ⟨vs, ?_, e2⟩
    rw [results_eq, Array.mapM_eq_mapM_toList]
    simp only [Sem.run_bind, Sem.run_map, e1, Result.andThen_ok, Sem.run_pure]
    simp
  split at h
  · rename_i y hx
    injection h with h; subst h
    obtain ⟨vs, e1, e2⟩ := main _ hx
    cases e2 with
    | cons hv hn =>
      cases hn
      exact ⟨_, e1, by simpa using hv⟩
  · rename_i xs hne hx
    injection h with h; subst h
    obtain ⟨vs, e1, e2⟩ := main _ hx
    have hl := e2.len
    have : ¬ vs.length = 1 := by
      intro h1
      rw [hl] at h1
      match xs, h1 with
      | [y], _ => exact hne y rfl
    rw [dif_neg this] at e1
    exact ⟨_, e1, .tup e2⟩
  · cases h
/-- what the arguments are at the start -/
def argE (args : List AV) : AEnv := args.zipIdx.map fun x => (x.2, x.1)
theorem get_argE (args : List AV) (t k : Nat) : get ((args.zipIdx k).map fun x => (x.2, x.1)) t = if k ≤ t then (args[t - k]?).getD .any else .any := by
  induction args generalizing k with
  | nil => simp [get]
  | cons x xs ih =>
    simp only [List.zipIdx_cons, List.map_cons, get, ih]
    by_cases h1 : k = t
    · subst h1; simp
    · rw [if_neg h1]
      by_cases h2 : k + 1 ≤ t
      · rw [if_pos h2, if_pos (by omega)]
        rw [show t - k = (t - (k + 1)) + 1 by omega, List.getElem?_cons_succ]
      · rw [if_neg h2, if_neg (by omega)]
theorem acalls_intro {f : Nat} {fn : Func} {c : AFun} {args : List AV} {n : Nat} {H : AHeap} {R : APost} (hf : P.funcs[f]? = some fn)
    (hc : (cFun P ef fn).map (fun x => (x.nargs, x.nt, x.res, x.code)) = some (c.nargs, c.nt, c.res, bare c.code)) (ha : args.length = c.nargs)
    (h : (∀ g, n ≤ g → H g = none) → aw P c.code (fin R n c.res) ⟨argE args, n, H⟩) : ACalls P f args n H R := by
  intro hs w0 G w vs hld h0 hrep
  have hcode := h hs
  obtain ⟨fc, hfc, hpr⟩ := Option.map_eq_some_iff.1 hc
  simp only [Prod.mk.injEq] at hpr
  obtain ⟨p1, p2, p3, p4⟩ := hpr
  unfold cFun at hfc
  split at hfc
  · rename_i code hb
    split at hfc
    · rename_i ac r hcc hcr
      split at hfc
      · rename_i hsz
        injection hfc with hfc
        subst hfc
        simp only at p1 p2 p3 p4
        have hvl : vs.length = fn.params.size + fn.nfree := by rw [hrep.len, ha, ← p1]
        have hrel : RelS P w0 fn.ntmps G ⟨argE args, n, H⟩ { tmps := vs.toArray ++ Array.replicate (fn.ntmps - vs.toArray.size) undef, defers := [] } w := by
          refine ⟨h0, by simp; omega, rfl, hld, fun t => ?_⟩
          have hget := get_argE args t 0
          simp only [Nat.zero_le, if_true, Nat.sub_zero] at hget
          show Rep G _ (get ((args.zipIdx 0).map fun x => (x.2, x.1)) t)
          rw [hget]
          cases hat : args[t]? with
          | none => exact .any
          | some x =>
            obtain ⟨v, hv, hrv⟩ := hrep.at hat
            have hlt := (List.getElem?_eq_some_iff.1 hv).1
            have : (vs.toArray ++ Array.replicate (fn.ntmps - vs.toArray.size) undef).getD t undef = v := by
              rw [Array.getD_eq_getD_getElem?, Array.getElem?_append_left (by simpa using hlt)]
              simp [hv]
            rw [this]; exact hrv
        refine calls_of_wp hf hb (code_sound c.code (by rw [← p4]; exact hcc) hrel hcode fun e s' G' a' w1 hq hle hr' => ?_)
        have fin' : (∃ r n' H', (∃ x, resOf s' c.res = some x ∧ simA x r) ∧ n ≤ n' ∧ n' ≤ s'.n ∧ (∀ k, n' ≤ k → H' k = none) ∧ SameB n' H' s'.H ∧ R r n' H') → a'.defers = [] ∧ ∃ v, (results fn a'.tmps).run P w1 = .ok v w1 ∧ ∃ (v' : Value) (r : AV) (G' : Gh) (n' : Nat) (H' : AHeap), Ending.returned v = .returned v' ∧ R r n' H' ∧ Rep G' v' r ∧ G.Le G' ∧ n ≤ n' ∧ Rel0 P w0 G' n' H' w1 := by
          rintro ⟨x, n', H', ⟨x0, h1, hx0⟩, h2, h3, h4, h5, h6⟩
          rw [← p3] at h1
          obtain ⟨v, e1, e2⟩ := results_sound hr' hcr h1
          have e2 : Rep G' v x := e2.sim hx0
          exact ⟨hr'.df, v, e1, v, x, G', n', H', rfl, h6, e2, hle, h2, hr'.r0.less (by have := h0.lo; omega) h3 h4 h5⟩
        cases e with
        | normal => exact fin' hq
        | ret => exact fin' hq
        | exit id => exact hq.elim
      · cases hfc
    · cases hfc
  · cases hfc
theorem apure_intro {f : Nat} {fn : Func} {c : AFun} {args : List AV} {v : AV} (hf : P.funcs[f]? = some fn)
    (hc : (cFun P ef fn).map (fun x => (x.nargs, x.nt, x.res, x.code)) = some (c.nargs, c.nt, c.res, bare c.code)) (ha : args.length = c.nargs)
    (h : ∀ n H, (∀ g, n ≤ g → H g = none) → aw P c.code (finP v n H c.res) ⟨argE args, n, H⟩) : APure P f args v := by
  intro n H
  refine acalls_intro hf hc ha fun hs => aw_mono (h n H hs) fun e s' hq => ?_
  cases e with
  | normal =>
    exact ⟨v, n, H, hq.1, Nat.le_refl _, hq.2.1, hs, hq.2.2, rfl, rfl, rfl⟩
  | ret =>
    exact ⟨v, n, H, hq.1, Nat.le_refl _, hq.2.1, hs, hq.2.2, rfl, rfl, rfl⟩
  | exit id => exact hq
end
end Go.Proofs.YtnmkpadgogbgkaaDoor

/- Each operation of the program agrees with the operation on plain data; no condition. -/
import Derived.Test.YtjdccdelcnmocaaGreatDoorMgG
import Derived.Orders
import Derived.Laws.MakeOwn
import Derived.Lib.UnsafeStr
set_option linter.all false
set_option linter.unusedSimpArgs false
set_option linter.unusedVariables false
namespace Go.Proofs.YtjdccdelcnmocaaGreatDoor
open Go.RowKit
theorem get_put (e : AT) (t : Nat) (v : AV) (k : Nat) : get (put e t v) k = if k = t then v else get e k := by
 simp only [put, get]
 split
 ·rename_i h; subst h; simp
 ·rename_i h; rw [if_neg (fun e => h e.symm)]
theorem RU (e : AT) (ks : List Nat) (k : Nat) : get (EK e ks) k = .any ∨ get (EK e ks) k = get e k := by
 induction ks with
 | nil => left; rfl
 | cons a ks ih =>
  simp only [EK, List.map_cons, get]
  split
  ·rename_i h; subst h; right; rfl
  ·exact ih
def AOp.eff : AOp → Bool
 | .alloc _ _ | .box _ _ _ | .store _ _ _ | .bsl _ _ _ | .app _ _ _ _ _ | .appB _ _ _ _ | .s2b _ _ | .s2s _ | .mkmap _ | .mset _ _ _ _ | .mksl _ _ _ _ _ | .rng _ | .nxt _ | .call _ _ | .callp _ _ | .callv _ _ | .updn _ _ | .ust _ _ _ => true
 | _ => false
section
variable {P : Program} {w w' w0 : World} {G G' : Gh} {nt : Nat} {s : AS} {a : Act}
theorem ET {d : Option Nat} {op : AOp} {K : AS → Prop} (h : op.eff = false) : AP P d op K s = K1 (pe op s.e s.H) fun v => K ⟨AN s.e d v, s.n, s.H⟩ := by
 cases op <;> first | rfl | cases h
def After (P : Program) (w0 : World) (nt : Nat) (G : Gh) (K : AS → Prop) (a' : Act) (w' : World) : Prop := ∃ G' s', K s' ∧ G.Le G' ∧ RelS P w0 nt G' s' a' w'
theorem RelS.put {n : Nat} {H : A3} {d : Option Nat} {v : Value} {x : AV} (h : RelS P w0 nt G s a w) (hd : ∀ t, d = some t → t < nt) (hl : G.Le G') (h0 : Rel0 P w0 G' n H w') (hr : Rep G' v x) : RelS P w0 nt G' ⟨AN s.e d x, n, H⟩ (a.put d v) w' := by
 refine ⟨h0, ?_, ?_, h.ld, fun t => ?_⟩
 ·cases d <;> simp [Act.put, h.sz]
 ·cases d <;> simp [Act.put, h.df]
 ·cases d with
  | none => exact (h.tm t).mono hl
  | some k =>
   have hk : k < a.tmps.size := by rw [h.sz]; exact hd k rfl
   simp only [Act.put, AN, get_put]
   by_cases ht : t = k
   ·subst ht
    rw [if_pos rfl]
    have : (a.tmps.setIfInBounds t v).getD t undef = v := by simp [Array.getD_eq_getD_getElem?, hk]
    rw [this]; exact hr
   ·rw [if_neg ht]
    have : (a.tmps.setIfInBounds k v).getD t undef = a.tmps.getD t undef := by simp [Array.getD_eq_getD_getElem?, Array.getElem?_setIfInBounds_ne (fun e => ht e.symm)]
    rw [this]; exact (h.tm t).mono hl
theorem C0 {o : Oper} {v : Value} {K : Act → World → Prop} {Q : Exit → Act → World → Prop} (h : (execOp a.eval o).run P w = .ok (.value v) w') (hk : K (a.put o.dst v) w') : o.wp P a w K Q := by
 unfold Oper.wp; rw [h]; exact hk
theorem Lf {o : Oper} {K : Act → World → Prop} {Q : Exit → Act → World → Prop} (h : (execOp a.eval o).run P w = .ok .skip w') (hk : K (a.put o.dst undef) w') : o.wp P a w K Q := by
 unfold Oper.wp; rw [h]; exact hk
theorem Il {f : Nat} {fn : Func} {args : Array Value} (hf : P.funcs[f]? = some fn) (hb : (fn.body.isSome && fn.name != "runtime.NumGoroutine") = true) : (callFunc f args).run P w = .ok (.enter f args) w := by
 simp only [Bool.and_eq_true] at hb
 obtain ⟨b, hb1⟩ := Option.isSome_iff_exists.1 hb.1
 have h2 : ¬ fn.name = "runtime.NumGoroutine" := by simpa using hb.2
 simp [callFunc, hf, h2, hb1]
theorem R7 {o : Oper} {f : Nat} {vs : List Value} {args : List AV} {K : AS → Prop} {Q : Exit → Act → World → Prop} (hr : RelS P w0 nt G s a w) (hd : ∀ t, o.dst = some t → t < nt) (hrep : RepL G vs args)
  (hrun : (execOp a.eval o).run P w = .ok (.enter f vs.toArray) w) (h : CallK P f args o.dst K s) : o.wp P a w (After P w0 nt G K) Q := by
 obtain ⟨R, hc, hk⟩ := h
 unfold Oper.wp
 rw [hrun]
 simp only [Oper.upon]
 refine (hc hr.r0.supp w0 G w vs hr.ld hr.r0 hrep).mono ?_
 rintro e w1 ⟨v, r, G1, n1, H1, rfl, hR, hv, hle, hn, h1⟩
 exact ⟨G1, _, hk r n1 H1 hn h1.supp hR, hle, hr.put hd hle h1 hv⟩
theorem ACalls.sim {f : Nat} {args args' : List AV} {n : Nat} {H : A3} {R : CJ} (h : ACalls P f args' n H R) (hw : AQ args args') : ACalls P f args n H R :=
 fun hs w0 G w vs hld h0 hr => h hs w0 G w vs hld h0 (hr.sim hw)
theorem CallP.toK {f : Nat} {args : List AV} {d : Option Nat} {K : AS → Prop} (h : CallP P f args d K s) : CallK P f args d K s := by
 obtain ⟨args', v, h1, hs, h2⟩ := h
 exact ⟨_, (h1 s.n s.H).sim hs, fun r n' H' _ _ ⟨e1, e2, e3⟩ => by subst e1; subst e2; subst e3; exact h2⟩
theorem Ml {d : Option Nat} {o : Oper} {e : TypeId} {v : Value} {cs : List AV} {K : AS → Prop} {Q : Exit → Act → World → Prop} (hr : RelS P w0 nt G s a w) (hd : ∀ t, o.dst = some t → t < nt) (hdd : d = o.dst) (hrep : RepL G v.cells.toList cs) (h1 : ones cs)
  (hrun : (execOp a.eval o).run P w = .ok (.value (.pointer (some ⟨w.heap.size, 0, none⟩))) (w.alloc (.cells v.cells e))) (hk : ∀ g, s.n ≤ g → K ⟨AN s.e d (.ptr g 0), g + 1, upd s.H g (some (.cells e cs))⟩) : o.wp P a w (After P w0 nt G K) Q := by
 subst hdd
 exact C0 hrun ⟨G, _, hk w.heap.size hr.r0.hi, Gh.Le.rfl_ G, hr.put hd (Gh.Le.rfl_ G) (hr.r0.new hrep h1) .ptr⟩
theorem Ra {o : Oper} {t : TypeId} {xo vo : Operand} {x v : AV} {sh : BV} {K : AS → Prop} {Q : Exit → Act → World → Prop} (hr : RelS P w0 nt G s a w) (hd : ∀ t, o.dst = some t → t < nt) (hop : o.op = .store t xo vo) (hs : DF P t = some sh) (hx : Rep G (a.eval xo) x) (hv : Rep G (a.eval vo) v)
  (h : Cc sh o.dst K s v x) : o.wp P a w (After P w0 nt G K) Q := by
 obtain ⟨k1, k2, k3, i, hi, k5⟩ := Cj hs
 unfold Cc at h
 split at h
 ·rename_i g off
  split at h
  ·rename_i e cs hg
   obtain ⟨hf, h1, hle, hk⟩ := h
   obtain ⟨j1, j2, j3, vs, hgw, hrv, ho⟩ := hr.r0.objs g _ hg
   have hcl := hv.cells h1
   have hlen : (a.eval vo).cells.size = Bn P t := by have := hcl.len; rw [EP hf, k2] at this; simpa using this
   have hlen' : (a.eval vo).cells.toList.length = v.cells.length := hcl.len
   have hvl := hrv.len
   generalize hxv : a.eval xo = xv at hx
   cases hx
   have hst := run_storeCells_at (P := P) g off e (a.eval vo).cells.toList 0 vs w hgw (by simp at hvl hlen' ⊢; omega) (hcl.ones h1)
   simp only [Nat.add_zero] at hst
   refine Lf (w' := w.setRow g (vs.toList.take off ++ (a.eval vo).cells.toList ++ vs.toList.drop (off + (a.eval vo).cells.toList.length)).toArray) ?_ ?_
   ·simp only [execOp, hop, Sem.run_bind, Instr.storeAt, hxv, Instr.sureAddr, Sem.run_pure, Result.andThen_ok, storeVar, CA hi, hlen, ne_eq, not_true, if_false, hst]
   ·refine ⟨G, _, hk, Gh.Le.rfl_ G, hr.put hd (Gh.Le.rfl_ G) (hr.r0.setRow hg hgw ?_ ?_ (by simp at hvl hlen' ⊢; omega)) .any⟩
    ·simp only [splice]
     rw [← hlen']
     exact ((hrv.take off).append hcl).append (hrv.drop _)
    ·intro y hy
     simp only [splice, List.mem_append] at hy
     rcases hy with (hy | hy) | hy
     ·exact ho y (List.mem_of_mem_take hy)
     ·exact h1 y hy
     ·exact ho y (List.mem_of_mem_drop hy)
  ·rename_i e cs hg
   obtain ⟨hf, h1, hle, hk⟩ := h
   obtain ⟨j1, j2, j3, vs, cp, hcp, hgw, hsz, hmx, hvl, hrv, ho⟩ := hr.r0.objs g _ hg
   have hcl := hv.cells h1
   have hlen : (a.eval vo).cells.size = Bn P t := by have := hcl.len; rw [EP hf, k2] at this; simpa using this
   have hlen' : (a.eval vo).cells.toList.length = v.cells.length := hcl.len
   generalize hxv : a.eval xo = xv at hx
   cases hx
   have hst := run_storeCells_at (P := P) g off e (a.eval vo).cells.toList 0 vs w hgw (by simp at hvl hlen' ⊢; omega) (hcl.ones h1)
   simp only [Nat.add_zero] at hst
   refine Lf (w' := w.setRow g (vs.toList.take off ++ (a.eval vo).cells.toList ++ vs.toList.drop (off + (a.eval vo).cells.toList.length)).toArray) ?_ ?_
   ·simp only [execOp, hop, Sem.run_bind, Instr.storeAt, hxv, Instr.sureAddr, Sem.run_pure, Result.andThen_ok, storeVar, CA hi, hlen, ne_eq, not_true, if_false, hst]
   ·refine ⟨G, _, hk, Gh.Le.rfl_ G, hr.put hd (Gh.Le.rfl_ G) (hr.r0.setGrow hg hcp hgw hmx hsz ?_ ?_ ?_ (by simp at hvl hlen' ⊢; omega)) .any⟩
    ·simp only [splice, List.length_append, List.length_take, List.length_drop, List.size_toArray] at hvl hlen' ⊢
     simp at hvl hlen' ⊢; omega
    ·have e1 : (splice cs off v.cells).length = cs.length := by simp only [splice, List.length_append, List.length_take, List.length_drop]; omega
     have e2 : (vs.toList.take off ++ (a.eval vo).cells.toList ++ vs.toList.drop (off + (a.eval vo).cells.toList.length)).take cs.length = (vs.toList.take cs.length).take off ++ (a.eval vo).cells.toList ++ (vs.toList.take cs.length).drop (off + (a.eval vo).cells.toList.length) := by
      have hvl' : cs.length ≤ vs.toList.length := by simpa using hvl
      generalize vs.toList = L at hvl' ⊢
      generalize (a.eval vo).cells.toList = M at hlen' ⊢
      apply List.ext_getElem?
      intro q
      simp only [List.getElem?_take, List.getElem?_append, List.getElem?_drop, List.length_append, List.length_take]
      grind
     rw [e1, e2]
     simp only [splice]
     rw [← hlen']
     exact ((hrv.take off).append hcl).append (hrv.drop _)
    ·intro y hy
     simp only [splice, List.mem_append] at hy
     rcases hy with (hy | hy) | hy
     ·exact ho y (List.mem_of_mem_take hy)
     ·exact h1 y hy
     ·exact ho y (List.mem_of_mem_drop hy)
  ·exact h.elim
 ·exact h.elim
theorem LF (size : Nat) : ∀ (vs : List Value) (k : Nat) (cells : Array Value), (∀ v ∈ vs, v.cells.size = size) → (k + vs.length) * size ≤ cells.size →
  ∃ cells', Instr.fill (fun i => some (i * size, size)) cells ((vs.zipIdx k).map fun x => (x.2, x.1)) = some cells' ∧ cells'.toList = cells.toList.take (k * size) ++ vs.flatMap (fun v => v.cells.toList) ++ cells.toList.drop ((k + vs.length) * size)
 | [], k, cells, _, _ => ⟨cells, rfl, by simp⟩
 | v :: vs, k, cells, hv, hl => by
  have h1 := hv v List.mem_cons_self
  simp only [List.length_cons] at hl
  have hk1 : k * size + size ≤ cells.size := by
   have : (k + 1) * size ≤ (k + (vs.length + 1)) * size := Nat.mul_le_mul_right _ (by omega)
   rw [Nat.add_mul, Nat.one_mul] at this; omega
  have hfold := I9 (vs := v.cells) (off := k * size) (cells := cells) (by omega)
  have hsz : (v.cells.zipIdx.foldl (fun cs (x : Value × Nat) => cs.setIfInBounds (k * size + x.2) x.1) cells).size = cells.size := by
   have := congrArg List.length hfold
   simp only [List.length_append, List.length_take, List.length_drop, Array.length_toList, h1] at this
   omega
  obtain ⟨cells', e1, e2⟩ := LF size vs (k + 1) (v.cells.zipIdx.foldl (fun cs (x : Value × Nat) => cs.setIfInBounds (k * size + x.2) x.1) cells) (fun u hu => hv u (List.mem_cons_of_mem _ hu)) (by rw [hsz]; rw [show k + 1 + vs.length = k + (vs.length + 1) by omega]; exact hl)
  refine ⟨cells', ?_, ?_⟩
  ·simp only [List.zipIdx_cons, List.map_cons, Instr.fill, h1, ne_eq, not_true, decide_false, Bool.false_or]
   rw [if_neg (by simp; omega)]
   exact e1
  ·rw [e2, hfold, h1]
   have ht : (cells.toList.take (k * size)).length = k * size := by simp; omega
   have hvl : v.cells.toList.length = size := by simpa using h1
   rw [Nat.add_mul, Nat.one_mul]
   rw [List.take_append_of_le_length (by simp [ht, hvl]), List.take_of_length_le (by simp [ht, hvl])]
   rw [show k + 1 + vs.length = k + (vs.length + 1) by omega]
   have hge : k * size + size ≤ (k + (vs.length + 1)) * size := by
    have : (k + 1) * size ≤ (k + (vs.length + 1)) * size := Nat.mul_le_mul_right _ (by omega)
    rw [Nat.add_mul, Nat.one_mul] at this; omega
   rw [List.drop_append, List.drop_of_length_le (l := cells.toList.take (k * size) ++ v.cells.toList) (by simp only [List.length_append, ht, hvl]; omega), List.nil_append, List.drop_drop]
   simp only [List.length_append, ht, hvl, List.flatMap_cons, List.length_cons, List.append_assoc]
   congr 3
   congr 1
   omega
theorem IX {e : AT} (ht : ∀ t, Rep G (a.tmps.getD t undef) (get e t)) : ∀ {ps : List (Nat × Operand)} {i : Nat} {xs : List Opd}, Ic i ps = some xs → ∃ vs : List Value, ps.map (fun (j, x) => (j, a.eval x)) = (vs.zipIdx i).map (fun x => (x.2, x.1)) ∧ RepL G vs (xs.map (ev e))
 | [], i, xs, h => by simp [Ic] at h; subst h; exact ⟨[], rfl, .nil⟩
 | (j, x) :: ps, i, xs, h => by
  simp only [Ic] at h
  split at h
  ·rename_i hj; subst hj
   split at h
   ·rename_i y r h1 h2
    injection h with h; subst h
    obtain ⟨vs, e1, e2⟩ := IX ht h2
    exact ⟨a.eval x :: vs, by simp [List.zipIdx_cons, e1], .cons (AU h1 ht) e2⟩
   ·cases h
  ·cases h
theorem RepL.flat {vs : List Value} {xs : List AV} (h : RepL G vs xs) (h1 : ∀ x ∈ xs, ∀ y ∈ x.cells, y.one = true) : RepL G (vs.flatMap fun v => v.cells.toList) (AO xs) := by
 induction xs generalizing vs with
 | nil => cases h; exact .nil
 | cons x xs ih =>
  cases h with
  | cons hv hr =>
   simp only [List.flatMap_cons, AO]
   exact (hv.cells (h1 x List.mem_cons_self)).append (ih hr fun y hy => h1 y (List.mem_cons_of_mem _ hy))
theorem W3 {o : Oper} {t e : TypeId} {len : Nat} {ps : Array (Nat × Operand)} {sh : BV} {xs : List Opd} {K : AS → Prop} {Q : Exit → Act → World → Prop} (hr : RelS P w0 nt G s a w) (hd : ∀ t, o.dst = some t → t < nt) (hop : o.op = .buildSlice t len ps) (hu : P.underlying t = some (.slice e)) (hs : DF P e = some sh)
  (hps : Ic 0 ps.toList = some xs) (hlen : xs.length = len) (hsm : len * Bn P e ≤ 1000) (hz : len = 0 ∨ ((P.info? e).bind (·.zero)).isSome)
  (h1 : ∀ x ∈ xs, (ev s.e x).fits sh = true ∧ ones (ev s.e x).cells) (hk : ∀ g, s.n ≤ g → K ⟨AN s.e o.dst (.sl (Bq sh) (xs.map (ev s.e)) (.own g)), g + 1, upd s.H g (some (.row e xs.length))⟩) : o.wp P a w (After P w0 nt G K) Q := by
 obtain ⟨k1, k2, k3, i, hi, k5⟩ := Cj hs
 obtain ⟨vs, e1, e2⟩ := IX (G := G) (a := a) (e := s.e) hr.tm hps
 have hvl : vs.length = len := by have := e2.len; simp at this; omega
 have hone : ∀ x ∈ xs.map (ev s.e), ones x.cells := fun x hx => by obtain ⟨y, hy, rfl⟩ := List.mem_map.1 hx; exact (h1 y hy).2
 have huni : ∀ x ∈ xs.map (ev s.e), x.cells.length = Bn P e := fun x hx => by obtain ⟨y, hy, rfl⟩ := List.mem_map.1 hx; rw [EP (h1 y hy).1, k2]
 have hvs : ∀ v ∈ vs, v.cells.size = Bn P e := by
  intro v hv
  obtain ⟨j, hj⟩ := List.getElem?_of_mem hv
  obtain ⟨x, hx⟩ : ∃ x, (xs.map (ev s.e))[j]? = some x := ⟨_, List.getElem?_eq_getElem (by have := (List.getElem?_eq_some_iff.1 hj).1; simp; omega)⟩
  obtain ⟨v', hv', hrep⟩ := e2.at hx
  rw [hj] at hv'; injection hv' with hv'; subst hv'
  have := (hrep.cells (hone x (List.mem_of_getElem? hx))).len
  rw [huni x (List.mem_of_getElem? hx)] at this
  simpa using this
 have hrun : ∃ cells : Array Value, cells.toList = vs.flatMap (fun v => v.cells.toList) ∧ (execOp a.eval o).run P w = .ok (.value (.slice (some ⟨w.heap.size, 0, none⟩) len len)) (w.alloc (.cells cells e)) := by
  have h24 : ¬ (len * Bn P e > 2 ^ 24) := by omega
  have hpm : (ps.map fun x => (x.1, a.eval x.2)).toList = (vs.zipIdx 0).map (fun x => (x.2, x.1)) := by rw [Array.toList_map]; exact e1
  by_cases hlz : len * Bn P e = 0
  ·have hl0 : len = 0 := by rcases Nat.mul_eq_zero.1 hlz with h | h; exact h; omega
   subst hl0
   have hv0 : vs = [] := List.length_eq_zero_iff.1 hvl
   subst hv0
   refine ⟨#[], rfl, ?_⟩
   have hpm' : ps = #[] := by
    have := congrArg List.length e1
    simp at this
    exact this
   subst hpm'
   simp [execOp, hop, Instr.buildSlice, run_underlying hu, CA hi, Instr.fill, Go.newRow]
   congr 2
   exact Array.eq_empty_of_size_eq_zero (by simp)
  ·have hzz : ((P.info? e).bind (·.zero)).isSome := hz.resolve_left (by rintro rfl; simp at hlz)
   obtain ⟨zv, hzv⟩ := Option.isSome_iff_exists.1 hzz
   rw [hi] at hzv
   have hzv' : i.zero = some zv := by simpa using hzv
   obtain ⟨cells', f1, f2⟩ := LF (Bn P e) vs 0 ((Array.range (len * Bn P e)).map (fun x => zv.cells[x % zv.cells.size]!)) hvs (by simp [hvl])
   refine ⟨cells', ?_, ?_⟩
   ·rw [f2]; simp [hvl]
   ·simp only [execOp, hop, Sem.run_bind, Instr.buildSlice, run_underlying hu, Result.andThen_ok, CA hi, h24, if_false, hlz, zeroValue, typeInfo, run_program, hi, hzv', Sem.run_pure]
    simp only [hpm, f1, Go.newRow, Sem.run_bind, run_newObj, Result.andThen_ok, Sem.run_pure]
    rfl
 obtain ⟨cells, hcl, hrun⟩ := hrun
 have hflat := e2.flat hone
 rw [← hcl] at hflat
 have hfl : (AO (xs.map (ev s.e))).length = len * Bn P e := by rw [F3 huni]; simp [hlen]
 have hcs : cells.size = len * Bn P e := by have := hflat.len; rw [hfl] at this; simpa using this
 have hle := hr.r0.addLe cells.toList (some (e, len))
 have hmx : len ≤ maxLen := by
  simp only [maxLen]
  have : len * 1 ≤ len * Bn P e := Nat.mul_le_mul_left _ k3
  omega
 have hrel := hr.r0.newRow (w' := w.alloc (.cells cells e)) (cur := cells) (e := e) (fz := (0, 0)) (vs := cells.toList) (c := some (e, len)) (ob := some (.row e xs.length)) rfl rfl rfl rfl (fun j u hu => by simpa using hu)
  (fun e' c' hc => by injection hc with hc; injection hc with a b; subst a; subst b; exact ⟨rfl, hcs⟩)
  (.inr ⟨xs.length, len, rfl, rfl, by simp, by omega, hmx, by simp [hcs, hlen]⟩)
 refine C0 hrun ⟨_, _, hk w.heap.size hr.r0.hi, hle, hr.put hd hle hrel ?_⟩
 refine .slown (e := e) (hflat.mono hle) (Gh.add_sealed _ _ _) ⟨by simp [hlen], hmx, by rw [k2]; exact k3, fun x hx => by rw [k2]; exact huni x hx, ?_⟩ (by simp [hlen]) (by simp [Gh.add])
 intro x hx
 simp only [AO, List.mem_flatMap] at hx
 obtain ⟨y, hy, hxy⟩ := hx
 exact hone y hy x hxy
theorem T9 {o : Oper} {t e : TypeId} {len : Nat} {ps : Array (Nat × Operand)} {sh : BV} {xs : List Opd} {K : AS → Prop} {Q : Exit → Act → World → Prop} (hr : RelS P w0 nt G s a w) (hd : ∀ t, o.dst = some t → t < nt) (hop : o.op = .buildSlice t len ps) (hu : P.underlying t = some (.slice e)) (hs : DF P e = some sh)
  (hps : Ic 0 ps.toList = some xs) (hlen : xs.length = len) (hsm : len * Bn P e ≤ 1000) (hz : len = 0 ∨ ((P.info? e).bind (·.zero)).isSome)
  (h1 : ∀ x ∈ xs, (ev s.e x).fits sh = true ∧ ones (ev s.e x).cells) (hk : ∀ g, s.n ≤ g → K ⟨AN s.e o.dst (.slm (Bq sh) g 0 xs.length), g + 1, upd s.H g (some (.cells e (AO (xs.map (ev s.e)))))⟩) : o.wp P a w (After P w0 nt G K) Q := by
 obtain ⟨k1, k2, k3, i, hi, k5⟩ := Cj hs
 obtain ⟨vs, e1, e2⟩ := IX (G := G) (a := a) (e := s.e) hr.tm hps
 have hvl : vs.length = len := by have := e2.len; simp at this; omega
 have hone : ∀ x ∈ xs.map (ev s.e), ones x.cells := fun x hx => by obtain ⟨y, hy, rfl⟩ := List.mem_map.1 hx; exact (h1 y hy).2
 have huni : ∀ x ∈ xs.map (ev s.e), x.cells.length = Bn P e := fun x hx => by obtain ⟨y, hy, rfl⟩ := List.mem_map.1 hx; rw [EP (h1 y hy).1, k2]
 have hvs : ∀ v ∈ vs, v.cells.size = Bn P e := by
  intro v hv
  obtain ⟨j, hj⟩ := List.getElem?_of_mem hv
  obtain ⟨x, hx⟩ : ∃ x, (xs.map (ev s.e))[j]? = some x := ⟨_, List.getElem?_eq_getElem (by have := (List.getElem?_eq_some_iff.1 hj).1; simp; omega)⟩
  obtain ⟨v', hv', hrep⟩ := e2.at hx
  rw [hj] at hv'; injection hv' with hv'; subst hv'
  have := (hrep.cells (hone x (List.mem_of_getElem? hx))).len
  rw [huni x (List.mem_of_getElem? hx)] at this
  simpa using this
 have hrun : ∃ cells : Array Value, cells.toList = vs.flatMap (fun v => v.cells.toList) ∧ (execOp a.eval o).run P w = .ok (.value (.slice (some ⟨w.heap.size, 0, none⟩) len len)) (w.alloc (.cells cells e)) := by
  have h24 : ¬ (len * Bn P e > 2 ^ 24) := by omega
  have hpm : (ps.map fun x => (x.1, a.eval x.2)).toList = (vs.zipIdx 0).map (fun x => (x.2, x.1)) := by rw [Array.toList_map]; exact e1
  by_cases hlz : len * Bn P e = 0
  ·have hl0 : len = 0 := by rcases Nat.mul_eq_zero.1 hlz with h | h; exact h; omega
   subst hl0
   have hv0 : vs = [] := List.length_eq_zero_iff.1 hvl
   subst hv0
   refine ⟨#[], rfl, ?_⟩
   have hpm' : ps = #[] := by
    have := congrArg List.length e1
    simp at this
    exact this
   subst hpm'
   simp [execOp, hop, Instr.buildSlice, run_underlying hu, CA hi, Instr.fill, Go.newRow]
   congr 2
   exact Array.eq_empty_of_size_eq_zero (by simp)
  ·have hzz : ((P.info? e).bind (·.zero)).isSome := hz.resolve_left (by rintro rfl; simp at hlz)
   obtain ⟨zv, hzv⟩ := Option.isSome_iff_exists.1 hzz
   rw [hi] at hzv
   have hzv' : i.zero = some zv := by simpa using hzv
   obtain ⟨cells', f1, f2⟩ := LF (Bn P e) vs 0 ((Array.range (len * Bn P e)).map (fun x => zv.cells[x % zv.cells.size]!)) hvs (by simp [hvl])
   refine ⟨cells', ?_, ?_⟩
   ·rw [f2]; simp [hvl]
   ·simp only [execOp, hop, Sem.run_bind, Instr.buildSlice, run_underlying hu, Result.andThen_ok, CA hi, h24, if_false, hlz, zeroValue, typeInfo, run_program, hi, hzv', Sem.run_pure]
    simp only [hpm, f1, Go.newRow, Sem.run_bind, run_newObj, Result.andThen_ok, Sem.run_pure]
    rfl
 obtain ⟨cells, hcl, hrun⟩ := hrun
 have hflat := e2.flat hone
 rw [← hcl] at hflat
 have hfl : (AO (xs.map (ev s.e))).length = len * Bn P e := by rw [F3 huni]; simp [hlen]
 have hcs : cells.size = len * Bn P e := by have := hflat.len; rw [hfl] at this; simpa using this
 have hmx : len ≤ maxLen := by
  simp only [maxLen]
  have : len * 1 ≤ len * Bn P e := Nat.mul_le_mul_left _ k3
  omega
 have hof : ∀ x ∈ AO (xs.map (ev s.e)), x.one = true := by
  intro x hx
  simp only [AO, List.mem_flatMap] at hx
  obtain ⟨y, hy, hxy⟩ := hx
  exact hone y hy x hxy
 exact C0 hrun ⟨_, _, hk w.heap.size hr.r0.hi, Gh.Le.rfl_ G, hr.put hd (Gh.Le.rfl_ G) (hr.r0.new hflat hof) (by rw [← hlen]; exact .slm (Nat.le_refl _) (by rw [hlen]; exact hmx))⟩
end
open Go.RowKit
section
variable {P : Program} {w w' w0 : World} {G G' : Gh} {nt : Nat} {s : AS} {a : Act}
theorem K1_iff {o : Option AV} {k : AV → Prop} : K1 o k ↔ ∃ v, o = some v ∧ k v := by
 cases o <;> simp [K1]
theorem Vz {o : Oper} {src dst e : TypeId} {xo : Operand} {b : ByteArray} {K : AS → Prop} {Q : Exit → Act → World → Prop} (hr : RelS P w0 nt G s a w) (hd : ∀ t, o.dst = some t → t < nt) (hop : o.op = .convert src dst xo) (hs : P.underlying src = some .string) (hdu : P.underlying dst = some (.slice e)) (he : P.underlying e = some (.int .u8))
  (hx : Rep G (a.eval xo) (.str b.data.toList)) (hb : b.size ≤ maxLen) (hk : ∀ n', s.n ≤ n' → K ⟨AN s.e o.dst (.sl 1 (b.data.toList.map fun u => .int .u8 u.toNat) .ro), n', s.H⟩) : o.wp P a w (After P w0 nt G K) Q := by
 generalize hxv : a.eval xo = xv at hx
 have hxs : xv = .string b := by
  cases hx with | str h => exact congrArg Value.string (ByteArray.ext (Array.toList_inj.1 h))
 subst hxs
 have hge := grownCap_ge w b.size 0 e
 have hcm := grownCap_le_maxLen w b.size 0 e hb
 let row : Array Value := (b.data.map fun u => Value.int .u8 u.toNat) ++ Array.replicate (grownCap w b.size 0 e - b.size) (.int .u8 0)
 have hrun : ∃ w1, (execOp a.eval o).run P w = .ok (.value (.slice (some ⟨w.heap.size, 0, none⟩) b.size (grownCap w b.size 0 e))) w1 ∧ w1.heap = w.heap.push (.cells row e (row.size, row.size + 1)) ∧ w1.os = w.os ∧ w1.tape = w.tape ∧ w1.output = w.output := by
  refine ⟨(w.drew.alloc (.cells row e)).freeze ⟨w.heap.size, row.size, none⟩ 1, ?_, ?_, rfl, rfl, rfl⟩
  ·have hsh : (w.drew.alloc (.cells row e)).shape? w.heap.size = some (e, row.size) := by
    have := heap_alloc_new w.drew (.cells row e)
    simp only [World.shape?]
    rw [show w.heap.size = w.drew.heap.size from rfl, this]
   simp only [execOp, hop, convert, Sem.run_bind, run_underlying hs, run_underlying hdu, run_underlying he, hxv, Result.andThen_ok, Conv.stringToBytes, run_choose, Question.forced, Go.newRow, run_newObj, Sem.run_pure, markStringish, run_shape, Bool.false_eq_true, if_false]
   have hcap : (Question.appendCap b.size 0 e).cut (w.tape w.drawn (.appendCap b.size 0 e)) = grownCap w b.size 0 e := rfl
   simp only [hcap]
   have hsh' : World.shape? { { w with drawn := w.drawn + 1 } with heap := ({ w with drawn := w.drawn + 1 } : World).heap.push (.cells row e) } w.heap.size = some (e, row.size) := hsh
   simp only [row] at hsh' ⊢
   rw [hsh']
   rfl
  ·have hsz : (w.drew.alloc (.cells row e)).heap = w.heap.push (.cells row e) := rfl
   simp only [World.freeze, Nat.one_ne_zero, if_false, hsz]
   apply Array.ext_getElem?
   intro j
   rw [Array.getElem?_modify, Array.getElem?_push, Array.getElem?_push]
   by_cases hj : w.heap.size = j
   ·subst hj; simp
   ·have hj2 : ¬ j = w.heap.size := fun e => hj e.symm
    simp [hj, hj2]
 obtain ⟨w1, hrun, hw1, ho1, ht1, hu1⟩ := hrun
 let vs : List Value := b.data.toList.map fun u => Value.int .u8 u.toNat
 have hvl : vs.length = b.size := by simp [vs]
 have hrel := hr.r0.newRow (w' := w1) (vs := vs) (c := none) (ob := none) hw1 ho1 ht1 hu1 (fun j u hu => by
  have hj := (List.getElem?_eq_some_iff.1 hu).1
  have hj' : j < b.data.size := by rw [hvl] at hj; exact hj
  simp only [row]
  rw [Array.getElem?_append_left (by simpa using hj')]
  simpa [vs] using hu) (fun e' c' hc => by cases hc) (.inl rfl)
 have hle := hr.r0.addLe vs none
 have hH : upd s.H w.heap.size none = s.H := by
  funext k; simp only [upd]; split
  ·rename_i hk'; subst hk'; exact (hr.r0.supp _ hr.r0.hi).symm
  ·rfl
 rw [hH] at hrel
 refine C0 hrun ⟨_, _, hk (w.heap.size + 1) (by have := hr.r0.hi; omega), hle, hr.put hd hle hrel ?_⟩
 have hflat : ∀ l : List UInt8, AO (l.map fun u => AV.int .u8 u.toNat) = l.map fun u => AV.int .u8 u.toNat := fun l => by
  induction l with
  | nil => rfl
  | cons x l ih => simp only [List.map_cons, AO, List.flatMap_cons, AV.cells, List.singleton_append] at ih ⊢; rw [ih]
 refine .slro (vs := vs) ?_ (Gh.add_sealed _ _ _) ⟨?_, hcm, by omega, ?_, ?_⟩ ?_
 ·rw [hflat]
  refine RepL.of (by simp [vs]) fun i v x h1 h2 => ?_
  simp only [vs, List.getElem?_map] at h1 h2
  cases hl : b.data.toList[i]? with
  | none => rw [hl] at h1; cases h1
  | some u => rw [hl] at h1 h2; injection h1 with h1; injection h2 with h2; subst h1; subst h2; exact .int
 ·simpa using hge
 ·intro x hx; obtain ⟨u, _, rfl⟩ := List.mem_map.1 hx; rfl
 ·intro x hx; rw [hflat] at hx; obtain ⟨u, _, rfl⟩ := List.mem_map.1 hx; rfl
 ·simp
theorem Sa (g k : Nat) (hk : k ≠ 0) : (∀ j, j ≠ g → (w.freeze ⟨g, 0, none⟩ k).heap[j]? = w.heap[j]?) ∧ (w.freeze ⟨g, 0, none⟩ k).heap.size = w.heap.size ∧ ∀ cur e fz, w.heap[g]? = some (.cells cur e fz) → ∃ fz' : Nat × Nat, (w.freeze ⟨g, 0, none⟩ k).heap[g]? = some (.cells cur e fz') ∧ fz'.2 ≤ max fz.2 k := by
 simp only [World.freeze, hk, if_false]
 refine ⟨fun j hj => by rw [Array.getElem?_modify, if_neg (fun e => hj e.symm)], by simp, fun cur e fz hg => ?_⟩
 obtain ⟨lo, hi⟩ := fz
 rw [Array.getElem?_modify, if_pos rfl, hg]
 refine ⟨_, rfl, ?_⟩
 simp only
 split <;> simp <;> omega
theorem V0 (g off k : Nat) (hk : k ≠ 0) : (∀ j, j ≠ g → (w.freeze ⟨g, off, none⟩ k).heap[j]? = w.heap[j]?) ∧ (w.freeze ⟨g, off, none⟩ k).heap.size = w.heap.size ∧ ∀ cur e fz, w.heap[g]? = some (.cells cur e fz) → ∃ fz', (w.freeze ⟨g, off, none⟩ k).heap[g]? = some (.cells cur e fz') := by
 simp only [World.freeze, hk, if_false]
 refine ⟨fun j hj => by rw [Array.getElem?_modify, if_neg (fun e => hj e.symm)], by simp, fun cur e fz hg => ?_⟩
 obtain ⟨lo, hi⟩ := fz
 rw [Array.getElem?_modify, if_pos rfl, hg]
 exact ⟨_, rfl⟩
theorem WE {o : Oper} {src dst e e2 : TypeId} {xo : Operand} {sz g : Nat} {l : List AV} {K : AS → Prop} {Q : Exit → Act → World → Prop} (hr : RelS P w0 nt G s a w) (hd : ∀ t, o.dst = some t → t < nt) (hop : o.op = .convert src dst xo) (hs : P.underlying src = some (.slice e)) (hdu : P.underlying dst = some (.slice e2)) (he : P.underlying e = some (.int .u8)) (hsd : src = dst)
  (hx : Rep G (a.eval xo) (.sl sz l (.own g))) (hl : l ≠ []) (hk : K ⟨AN s.e o.dst (.sl sz l .ro), s.n, upd s.H g none⟩) : o.wp P a w (After P w0 nt G K) Q := by
 subst hsd
 rw [hs] at hdu
 injection hdu with hdu
 injection hdu with hdu
 subst hdu
 have hro := hx.toRo
 generalize hxv : a.eval xo = xv at hx hro
 cases hx with
 | @slown _ vs _ _ c n ee hrl hsl ho hn hcap =>
  obtain ⟨cur, fz, hcur, hcsz⟩ := hr.r0.caps g _ c hcap
  have hlo := hr.r0.capLo g _ c hcap
  have hsh : w.shape? g = some (ee, cur.size) := by simp [World.shape?, hcur]
  obtain ⟨f1, f2, f3⟩ := V0 (w := w) g cur.size 1 (by simp)
  have hrun : (execOp a.eval o).run P w = .ok (.value (.slice (some ⟨g, 0, none⟩) n c)) (w.freeze ⟨g, cur.size, none⟩ 1) := by
   simp only [execOp, hop, convert, Sem.run_bind, run_underlying hs, run_underlying he, hxv, Result.andThen_ok, markStringish, run_shape, hsh, run_freeze, Sem.run_pure, beq_self_eq_true]
  have hcell : ∀ b oo, (w.freeze ⟨g, cur.size, none⟩ 1).cell? ⟨b, oo, none⟩ = w.cell? ⟨b, oo, none⟩ := by
   intro b oo
   by_cases hb : b = g
   ·subst hb
    obtain ⟨fz', h1⟩ := f3 cur _ fz hcur
    rw [cell_of_row _ _ oo cur _ fz' h1, cell_of_row w _ oo cur _ fz hcur]
   ·exact World.cell?_of_block (f1 b hb)
  have h0 : Rel0 P w0 G s.n (upd s.H g none) (w.freeze ⟨g, cur.size, none⟩ 1) := by
   refine ⟨⟨hr.r0.ext.os, hr.r0.ext.tape, hr.r0.ext.output, by rw [f2]; exact hr.r0.ext.size, fun k hk => by rw [f1 k (by omega)]; exact hr.r0.ext.block k hk⟩, hr.r0.lo, by rw [f2]; exact hr.r0.hi, fun b oo v hv => by rw [hcell]; exact hr.r0.seal_ b oo v hv, fun k e3 c3 hc3 => ?_, hr.r0.capLo, fun k ob hob => ?_⟩
   ·by_cases hk : k = g
    ·subst hk
     obtain ⟨cur2, fz2, h1, h2⟩ := hr.r0.caps k e3 c3 hc3
     obtain ⟨fz', h3⟩ := f3 cur2 e3 fz2 h1
     exact ⟨cur2, fz', h3, h2⟩
    ·exact CD (f1 k hk) (hr.r0.caps k e3 c3 hc3)
   ·by_cases hk : k = g
    ·subst hk; rw [AX] at hob; cases hob
    ·rw [upd_ne hk] at hob
     obtain ⟨j1, j2, j3⟩ := hr.r0.objs k ob hob
     exact ⟨j1, j2, j3.keep (f1 k hk) (fun _ => rfl) rfl (Gh.Le.rfl_ G) (MapsKeep.ne (fun m hm => f1 m hm) fun es c e => by rw [hcur] at e; cases e)⟩
  exact C0 hrun ⟨G, _, hk, Gh.Le.rfl_ G, hr.put hd (Gh.Le.rfl_ G) h0 hro⟩
theorem Xd {n : Int} (h : RJ (.int .u8 n) = true) : n = ((UInt8.ofNat n.toNat).toNat : Int) := by
 simp [RJ] at h
 simp [UInt8.toNat_ofNat']
 omega
theorem Kg : ∀ {l : List AV} {bs : List UInt8}, bytesOf l = some bs → AO l = l
 | [], _, _ => rfl
 | y :: l, bs, h => by
  cases y <;> try (simp [bytesOf] at h; done)
  rename_i k n
  cases k <;> try (simp [bytesOf] at h; done)
  simp only [bytesOf] at h
  obtain ⟨bs', h1, h2⟩ := Option.map_eq_some_iff.1 h
  have ih := Kg h1
  simp only [AO, List.flatMap_cons, AV.cells, List.singleton_append] at ih ⊢
  rw [ih]
theorem RepL.at2 {G : Gh} {vs : List Value} {xs : List AV} (h : RepL G vs xs) {i : Nat} {v : Value} (hv : vs[i]? = some v) : ∃ x, xs[i]? = some x ∧ Rep G v x := by
 have hl := (List.getElem?_eq_some_iff.1 hv).1
 rw [h.len] at hl
 have hx : xs[i]? = some xs[i] := List.getElem?_eq_getElem hl
 obtain ⟨u, hu, hr⟩ := h.at hx
 rw [hv] at hu; injection hu with hu; subst hu
 exact ⟨_, hx, hr⟩
theorem V4 {o : Oper} {e t ty2 : TypeId} {vx vn : Value} {x n : AV} {v : AV} (hr : RelS P w0 nt G s a w) (ht : P.underlying t = some (.pointer e)) (hc1 : P.cellsOf e = 1) (hx : Rep G vx x) (hn : Rep G vn n) (h : EF e x n = some v) (hown : ∀ g e c, G.cap g = some (e, c) → w0.heap.size ≤ g) :
  ∃ v' w', (Builtin.unsafeString_ #[t, ty2] o.type #[vx, vn]).run P w = .ok v' w' ∧ Rep G v' v ∧ Rel0 P w0 G s.n s.H w' := by
 unfold EF at h
 split at h
 ·rename_i e' l nn
  split at h
  ·rename_i hcond
   obtain ⟨rfl, rfl, hlen, hok⟩ := hcond
   obtain ⟨bs, hb1, hb2⟩ := Option.map_eq_some_iff.1 h
   subst hb2
   cases hn
   have hneg : ¬ ((l.length : Int) < 0) := by omega
   have hmx : ¬ ((l.length : Int) > IntKind.i64.max) := by simp [IntKind.max, IntKind.bits, IntKind.signed]; unfold PN at hlen; omega
   by_cases hl : l = []
   ·subst hl
    simp [bytesOf] at hb1; subst hb1
    have hp : ∃ A, vx = .pointer A := by cases hx <;> exact ⟨_, rfl⟩
    obtain ⟨A, rfl⟩ := hp
    refine ⟨.string .empty, w, ?_, .str rfl, hr.r0⟩
    exact Lib.run_unsafeString_none w _ _ _ A
   ·cases hx with
    | dat0 => exact absurd rfl hl
    | @dat g vs _ _ c hrl hs hcap =>
     obtain ⟨ns, e1, e2⟩ := HH hb1 hrl
     have hvl : vs.length = l.length := by rw [hrl.len, F3 (Fb hb1), Nat.mul_one]
     obtain ⟨cur, fz, hcur, hcsz⟩ := hr.r0.caps g _ c hcap
     have hpos : 0 < l.length := List.length_pos_iff.2 hl
     have hin : l.length ≤ cur.size := by
      obtain ⟨u, hu⟩ : ∃ u, vs[l.length - 1]? = some u := ⟨_, List.getElem?_eq_getElem (by omega)⟩
      have h1 := hr.r0.seal_ _ _ _ (hs _ u hu)
      rw [Nat.zero_add, cell_of_row w g _ cur _ fz hcur] at h1
      have := (Array.getElem?_eq_some_iff.1 h1).1
      omega
     have hnl : ns.length = l.length := by rw [← hvl, e1]; simp
     have hbl : bs.length = l.length := by rw [e2, List.length_map, hnl]
     have hfl : AO l = l := Kg hb1
     have hus := Lib.run_unsafeString_row w t ty2 o.type e' ht hc1 g cur.size (by simp [World.shape?, hcur]) bs (by intro h0; rw [h0] at hbl; simp at hbl; omega) (by omega) (by unfold PN at hlen; omega) (fun j x hx => by
      rw [addr_add]
      rw [e2, List.getElem?_map, Option.map_eq_some_iff] at hx
      obtain ⟨n, hn1, rfl⟩ := hx
      have hv : vs[j]? = some (.int .u8 n) := by rw [e1]; simp [hn1]
      obtain ⟨y, hy1, hy2⟩ := hrl.at2 hv
      rw [hfl] at hy1
      have hyo := List.all_eq_true.1 hok y (List.mem_of_getElem? hy1)
      cases hy2 with
      | any => simp [RJ] at hyo
      | int => rw [← Xd hyo]; exact hr.r0.seal_ _ _ _ (hs j _ hv))
     rw [hbl] at hus
     have hne : ¬ ((l.length : Int) = 0) := by omega
     have hne' : ¬ l.length = 0 := by omega
     obtain ⟨f1, f2, f3⟩ := Sa (w := w) g l.length hne'
     refine ⟨.string ⟨bs.toArray⟩, w.freeze ⟨g, 0, none⟩ l.length, ?_, .str (by simp), ?_⟩
     ·exact hus
     ·have hcell : ∀ b oo, (w.freeze ⟨g, 0, none⟩ l.length).cell? ⟨b, oo, none⟩ = w.cell? ⟨b, oo, none⟩ := by
       intro b oo
       by_cases hb : b = g
       ·subst hb
        obtain ⟨fz', h1, _⟩ := f3 cur _ fz hcur
        rw [cell_of_row _ _ oo cur _ fz' h1, cell_of_row w _ oo cur _ fz hcur]
       ·exact World.cell?_of_block (f1 b hb)
      have hI : ∀ o, l.length ≤ o + 1 → o < l.length → ∃ v, G.I g o = some v := fun o _ ho => by
       obtain ⟨u, hu⟩ : ∃ u, vs[o]? = some u := ⟨_, List.getElem?_eq_getElem (by omega)⟩
       exact ⟨u, by have := hs o u hu; rwa [Nat.zero_add] at this⟩
      obtain ⟨v1, hv1⟩ := hI (l.length - 1) (by omega) (by omega)
      have hgw0 : w0.heap.size ≤ g := hown g e' c hcap
      refine ⟨Lib.below_freeze hr.r0.ext hgw0 _, hr.r0.lo, by rw [f2]; exact hr.r0.hi, fun b oo v hv => by rw [hcell]; exact hr.r0.seal_ b oo v hv, fun k e2 c2 hc2 => ?_, hr.r0.capLo, fun k ob hob => ?_⟩
      ·by_cases hk : k = g
       ·subst hk
        obtain ⟨cur2, fz2, h1, h2⟩ := hr.r0.caps k e2 c2 hc2
        obtain ⟨fz', h3, _⟩ := f3 cur2 e2 fz2 h1
        exact ⟨cur2, fz', h3, h2⟩
       ·exact CD (f1 k hk) (hr.r0.caps k e2 c2 hc2)
      ·obtain ⟨j1, j2, j3⟩ := hr.r0.objs k ob hob
       by_cases hk : k = g
       ·subst hk
        refine ⟨j1, j2, ?_⟩
        cases ob with
        | cells e2 cs => have := j3.1 (l.length - 1); rw [this] at hv1; cases hv1
        | row e2 m =>
         obtain ⟨cur2, c2, fz2, q1, q2, q3, q4, q5, q6, q7⟩ := j3
         obtain ⟨fz', h3, h4⟩ := f3 cur2 e2 fz2 q2
         refine ⟨cur2, c2, fz', q1, h3, ?_, q4, q5, q6, q7⟩
         have hlt : l.length - 1 < m * Bn P e2 := by
          rcases Nat.lt_or_ge (l.length - 1) (m * Bn P e2) with h | h
          ·exact h
          ·rw [q7 _ h] at hv1; cases hv1
         omega
        | map kk es => obtain ⟨es', clock, m1, _⟩ := j3; rw [hcur] at m1; cases m1
        | iter m len left cur => obtain ⟨_, _, _, _, m1, _⟩ := j3; rw [hcur] at m1; cases m1
        | grow e2 cs => have := j3.1 (l.length - 1); rw [this] at hv1; cases hv1
       ·exact ⟨j1, j2, j3.keep (f1 k hk) (fun _ => rfl) rfl (Gh.Le.rfl_ G) (MapsKeep.ne (fun m hm => f1 m hm) fun es c e => by rw [hcur] at e; cases e)⟩
  ·cases h
 ·cases h
theorem Rm {o : Oper} {t : TypeId} {kk : Option IntKind} {K : AS → Prop} {Q : Exit → Act → World → Prop} (hr : RelS P w0 nt G s a w) (hd : ∀ t, o.dst = some t → t < nt) (hop : o.op = .makeMap t none)
  (hk : ∀ g, s.n ≤ g → K ⟨AN s.e o.dst (.mp g), g + 1, upd s.H g (some (.map kk []))⟩) : o.wp P a w (After P w0 nt G K) Q := by
 have hrun : (execOp a.eval o).run P w = .ok (.value (.map (some w.heap.size))) (w.alloc (.map #[] 0)) := by
  simp [execOp, hop, Instr.makeMap]
 exact C0 hrun ⟨G, _, hk w.heap.size hr.r0.hi, Gh.Le.rfl_ G, hr.put hd (Gh.Le.rfl_ G) (hr.r0.newMap kk) .mp⟩
theorem LO {kk : Option IntKind} {k v : AV} (hk : C6 kk k = true) : ∀ {es : List (AV × AV)}, (∀ e ∈ es, C6 kk e.1 = true) → ∀ e ∈ Cu k v es, C6 kk e.1 = true
 | [], _, e, he => by simp [Cu] at he; subst he; exact hk
 | x :: es, h, e, he => by
  simp only [Cu] at he
  split at he
  ·rcases List.mem_cons.1 he with he | he
   ·subst he; exact hk
   ·exact h e (List.mem_cons_of_mem _ he)
  ·rcases List.mem_cons.1 he with he | he
   ·rw [he]; exact h x List.mem_cons_self
   ·exact LO hk (fun e he => h e (List.mem_cons_of_mem _ he)) e he
theorem LA {o : Oper} {mt kt et : TypeId} {kk : Option IntKind} {mo ko vo : Operand} {m k v : AV} {K : AS → Prop} {Q : Exit → Act → World → Prop} (hr : RelS P w0 nt G s a w) (hd : ∀ t, o.dst = some t → t < nt) (hop : o.op = .mapUpdate mt mo ko vo ∨ o.op = .insert mt mo ko vo)
  (hm : P.underlying mt = some (.map kt et)) (hkk : Lq P kt = some kk) (hmr : Rep G (a.eval mo) m) (hkr : Rep G (a.eval ko) k) (hvr : Rep G (a.eval vo) v)
  (h : El kk o.dst K s k v m) : o.wp P a w (After P w0 nt G K) Q := by
 have hku := Mv hkk
 unfold El at h
 split at h
 ·rename_i g
  split at h
  ·rename_i kk' es hH
   obtain ⟨rfl, hko, hk⟩ := h
   obtain ⟨j1, j2, es', clock, hb, hrep, hall, hbo⟩ := hr.r0.objs g _ hH
   generalize hmv : a.eval mo = mv at hmr
   cases hmr
   obtain ⟨ms, clock', w1, b1, b2, e1, e2, e3, e4, e5, e6, e7, e8⟩ := JJ (t := RN kk') hm hku hkr (HN hko) hvr hb hrep (fun e he => HN (hall e he)) hbo
   have hrun : (execOp a.eval o).run P w = .ok .skip w1 := by
    rcases hop with hop | hop <;> simp only [execOp, hop, hmv, Sem.run_bind, e1, Result.andThen_ok, Sem.run_pure]
   exact Lf hrun ⟨G, _, hk, Gh.Le.rfl_ G, hr.put hd (Gh.Le.rfl_ G) (hr.r0.setMap hH hb e2 e3 (LO hko hall) b1 b2 e4 e5 e6 e7 e8) .any⟩
  ·exact h.elim
 ·exact h.elim
theorem Va {o : Oper} {t kt et : TypeId} {xo : Operand} {x : AV} {K : AS → Prop} {Q : Exit → Act → World → Prop} (hr : RelS P w0 nt G s a w) (hd : ∀ t, o.dst = some t → t < nt) (hop : o.op = .range t xo) (hm : P.underlying t = some (.map kt et)) (hxr : Rep G (a.eval xo) x)
  (h : Ol o.dst K s x) : o.wp P a w (After P w0 nt G K) Q := by
 unfold Ol at h
 split at h
 ·rename_i m
  split at h
  ·rename_i kk es hH
   obtain ⟨j1, j2, es', clock, hb, hrep, hall, hbo⟩ := hr.r0.objs m _ hH
   generalize hxv : a.eval xo = xv at hxr
   cases hxr
   have hrun : (execOp a.eval o).run P w = .ok (.value (.pointer (some ⟨w.heap.size, 0, none⟩))) (w.alloc (.mapIter (some m) clock #[] clock)) := by
    simp only [execOp, hop, hxv, Sem.run_bind, run_range_map w t kt et m es' clock hm hb, Result.andThen_ok, Sem.run_pure]
   exact C0 hrun ⟨G, _, h w.heap.size hr.r0.hi, Gh.Le.rfl_ G, hr.put hd (Gh.Le.rfl_ G) (hr.r0.newIter hH hb) .ptr⟩
  ·exact h.elim
 ·exact h.elim
theorem VZ {o : Oper} {xo : Operand} {x : AV} {K : AS → Prop} {Q : Exit → Act → World → Prop} (hr : RelS P w0 nt G s a w) (hd : ∀ t, o.dst = some t → t < nt) (hop : o.op = .next xo false) (hxr : Rep G (a.eval xo) x)
  (h : Q0 o.dst K s x) : o.wp P a w (After P w0 nt G K) Q := by
 unfold Q0 at h
 split at h
 ·rename_i g off
  obtain ⟨rfl, h⟩ := h
  split at h
  ·rename_i m len left cur hH
   split at h
   ·rename_i kk es hM
    obtain ⟨hlen, hz, hstep⟩ := h
    obtain ⟨i1, i2, since, seen, es', clock, hg, hb, hle, hck, hnd, hlt, hiff, hcur⟩ := hr.r0.objs g _ hH
    obtain ⟨_, _, es2, c2, hb2, hrep, hall, hbo⟩ := hr.r0.objs m _ hM
    rw [hb] at hb2; injection hb2 with hb2; injection hb2 with q1 q2; subst q1; subst q2
    have hsz : es'.size = es.length := by rw [← hrep.len]; simp
    have hcs : clock = since := by omega
    have hold : ∀ x ∈ es'.toList, x.born < since := fun x hx => by rw [← hcs]; exact hbo.2 _ (List.mem_map.2 ⟨x, hx, rfl⟩)
    generalize hxv : a.eval xo = xv at hxr
    cases hxr
    rcases run_next_any (P := P) o.type hg hb hold (Nat.le_refl _) with ⟨hl0, hrun⟩ | ⟨e, he, w1, a1, a2, a3, a4, hrun⟩
    ·have hempty : left = [] := by
      rcases left with _ | ⟨j, l⟩
      ·rfl
      ·exfalso
       have hj := hlt j List.mem_cons_self
       have hjs : j < es'.size := by omega
       have hbj : (Bp es')[j]? = some es'[j].born := by simp [Bp, hjs]
       have hns := (hiff j _ hbj hj).1 List.mem_cons_self
       have hmem : es'[j] ∈ (leftOf es' seen).toList := by
        simp only [leftOf, Array.toList_filter, List.mem_filter]
        exact ⟨by simp, by simpa using hns⟩
       have : (leftOf es' seen).toList = [] := by
        have := Array.eq_empty_of_size_eq_zero hl0
        rw [this]
       rw [this] at hmem; cases hmem
     have hrun' : (execOp a.eval o).run P w = .ok (.value (.tuple #[.bool false])) w := by
      simp only [execOp, hop, hxv, Sem.run_bind, hrun, Result.andThen_ok, Sem.run_pure]
     exact C0 hrun' ⟨G, _, hz hempty, Gh.Le.rfl_ G, hr.put hd (Gh.Le.rfl_ G) hr.r0 (.tup (.cons .bool .nil))⟩
    ·obtain ⟨he1, he2⟩ := mem_left he
     obtain ⟨j, hjl, hje⟩ := List.getElem_of_mem he1
     have hje' : es'.toList[j]? = some e := by rw [List.getElem?_eq_getElem hjl, hje]
     have hjs : es'.toList.length = es'.size := by simp
     have hjlen : j < len := by omega
     have hbj : (Bp es')[j]? = some e.born := by simp only [Bp, List.getElem?_map, hje', Option.map_some]
     have hns : e.born ∉ seen := by simpa using he2
     have hjm : j ∈ left := (hiff j _ hbj hjlen).2 hns
     obtain ⟨k, v, hkv, hkr, hvr⟩ := hrep.at_ hje'
     have hK := hstep j hjm k v hkv
     have hglt : g < w.heap.size := (Array.getElem?_eq_some_iff.1 hg).1
     have hrun' : (execOp a.eval o).run P w = .ok (.value (.tuple #[.bool true, e.key, e.val])) { w1 with heap := w1.heap.setIfInBounds g (.mapIter (some m) since (seen.push e.born) clock) } := by
      simp only [execOp, hop, hxv, Sem.run_bind, hrun, Result.andThen_ok, Sem.run_pure]
     have hoth : ∀ k, k ≠ g → ({ w1 with heap := w1.heap.setIfInBounds g (.mapIter (some m) since (seen.push e.born) clock) } : World).heap[k]? = w.heap[k]? := fun k hk => by
      simp [Array.getElem?_setIfInBounds, Ne.symm hk, a1]
     have hmg : m ≠ g := fun e => by rw [e, hg] at hb; cases hb
     have hob : ObjOk P G ({ w1 with heap := w1.heap.setIfInBounds g (.mapIter (some m) since (seen.push e.born) clock) } : World) g (.iter m len (left.erase j) (some j)) := by
      refine ⟨since, seen.push e.born, es', clock, by simp [a1, hglt, hcs], by rw [hoth m hmg]; exact hb, hle, hck, hnd.erase j, fun i hi => hlt i (List.mem_of_mem_erase hi), fun i b hib hi => ?_, fun i hi => ?_⟩
      ·rw [hnd.mem_erase_iff, hiff i b hib hi]
       simp only [Array.mem_push, not_or]
       constructor
       ·rintro ⟨h1, h2⟩
        refine ⟨h2, fun h3 => h1 ?_⟩
        exact (List.getElem?_inj (List.getElem?_eq_some_iff.1 hib).1 hbo.1).1 (by rw [hib, hbj, h3])
       ·rintro ⟨h1, h2⟩
        exact ⟨fun h3 => h2 (by rw [h3, hbj] at hib; injection hib with hib; exact hib.symm), h1⟩
      ·injection hi with hi; subst hi
       exact ⟨hjlen, _, hbj, by simp⟩
     exact C0 hrun' ⟨G, _, hK, Gh.Le.rfl_ G, hr.put hd (Gh.Le.rfl_ G) (hr.r0.setIter hH hg hob hoth (by simp [a1]) (by simp [a2]) (by simp [a3]) (by simp [a4])) (.tup (.cons .bool (.cons hkr (.cons hvr .nil))))⟩
   ·exact h.elim
  ·exact h.elim
 ·exact h.elim
theorem TV {o : Oper} {t e : TypeId} {lo co : Operand} {x y z : AV} {i : TypeInfo} {K : AS → Prop} {Q : Exit → Act → World → Prop} (hr : RelS P w0 nt G s a w) (hd : ∀ t, o.dst = some t → t < nt) (hop : o.op = .makeSlice t lo co) (hu : P.underlying t = some (.slice e))
  (hz : zeroOf P e = some [z]) (hi : P.info? e = some i) (h1 : i.size = 1) (hx : Rep G (a.eval lo) x) (hy : Rep G (a.eval co) y) (h : Ki e i.bytes z o.dst K s x y) : o.wp P a w (After P w0 nt G K) Q := by
 unfold Ki at h
 split at h
 ·rename_i k n k' m
  obtain ⟨rfl, h0, hb, hm, hk⟩ := h
  obtain ⟨i', zv, hi', hzv, hrz, hone⟩ := IS (G := G) hz
  rw [hi] at hi'; injection hi' with hi'; subst hi'
  generalize hxv : a.eval lo = xv at hx
  generalize hyv : a.eval co = yv at hy
  cases hx; cases hy
  obtain ⟨c, rfl⟩ : ∃ c : Nat, n = c := ⟨n.toNat, by omega⟩
  have hmx : c ≤ maxLen := by omega
  have hrun : (execOp a.eval o).run P w = .ok (.value (.slice (some ⟨w.heap.size, 0, none⟩) c c)) (w.alloc (.cells (madeCells zv.cells (c * 1)) e)) := by
   have := run_make (P := P) w t e i zv hu hi hzv k k' (c : Int) (c : Int) (by omega) (by omega) hb (by simp only [maxLen] at hmx; omega)
   rw [h1] at this
   simp only [execOp, hop, hxv, hyv, Sem.run_bind, this, Result.andThen_ok, Sem.run_pure, Int.toNat_natCast]
  have hzl : ∃ u, zv.cells.toList = [u] ∧ Rep G u z := by
   generalize zv.cells.toList = l at hrz
   cases hrz with | cons a b => cases b; exact ⟨_, rfl, a⟩
  obtain ⟨u, hzu, hur⟩ := hzl
  have hcells : (madeCells zv.cells (c * 1)).toList = List.replicate c u := by
   have hz2 : zv.cells = #[u] := Array.toList_inj.1 (by rw [hzu])
   rw [hz2]
   unfold madeCells
   apply List.ext_getElem
   ·simp
   ·intro j h1 h2
    simp [Nat.mod_one]
  have hrep : RepL G (madeCells zv.cells (c * 1)).toList (List.replicate c z) := by
   rw [hcells]
   refine RepL.of (by simp) fun j v x hv hx => ?_
   have h1 := List.eq_of_mem_replicate (List.mem_of_getElem? hv)
   have h2 := List.eq_of_mem_replicate (List.mem_of_getElem? hx)
   rw [h1, h2]; exact hur
  have hk' := hk w.heap.size hr.r0.hi
  rw [Int.toNat_natCast] at hk'
  exact C0 hrun ⟨G, _, hk', Gh.Le.rfl_ G, hr.put hd (Gh.Le.rfl_ G) (hr.r0.new hrep (fun x hx => by rw [List.eq_of_mem_replicate hx]; exact hone z (by simp))) (.slm (Nat.le_refl _) hmx)⟩
 ·exact h.elim
theorem NS {o : Oper} {c : Call} {b : Builtin} {op : AOp} {K : AS → Prop} {Q : Exit → Act → World → Prop} (hr : RelS P w0 nt G s a w) (hd : ∀ t, o.dst = some t → t < nt) (hop : o.op = .call c) (hcal : c.callee = .builtin b) (hc : HI P b c.args.toList c.argTypes.toList = some op) (hef : ¬ op.eff = false) (h : AP P o.dst op K s) :
  o.wp P a w (After P w0 nt G K) Q := by
 have ht := hr.tm
 have hargs : c.args.map a.eval = (c.args.toList.map a.eval).toArray := by rw [← Array.toList_map]
 have htys : c.argTypes = c.argTypes.toList.toArray := by simp
 have hrun : (execOp a.eval o) = builtin b c.argTypes.toList.toArray o.type (c.args.map fun | .const _ => true | _ => false) (c.args.toList.map a.eval).toArray := by
  simp only [execOp, hop, resolve, hcal, hargs, invoke]
  rw [← htys]
  rfl
 generalize c.args.toList = al at hc hrun
 generalize c.argTypes.toList = tl at hc hrun
 unfold HI at hc
 split at hc
 ·split at hc <;> first | (injection hc with hc; subst hc; exact absurd rfl hef) | cases hc
 ·rename_i x y t u
  split at hc
  ·rename_i e x' y' hu hx hy
   split at hc
   ·rename_i i hi
    split at hc
    ·rename_i hcond
     obtain ⟨hpos, hzz⟩ := hcond
     obtain ⟨zv, hz, hzs⟩ := Option.map_eq_some_iff.1 hzz
     have hyr := AU (G := G) (a := a) (e := s.e) hy ht
     split at hc
     ·rename_i hut
      subst hut
      injection hc with hc; subst hc
      simp only [AP] at h
      unfold appKS at h
      split at h
      ·rename_i z m tk hey
       obtain ⟨hz0, m', hsm, h⟩ := h
       rw [hey] at hyr
       have hyr : Rep G (a.eval y) (.sl i.size m' .ro) := hyr.sim ⟨i.size, m', .ro, rfl, .inl rfl, hz0.imp (fun e => e.symm) (fun e => ⟨e, rfl⟩), hsm⟩
       obtain ⟨news, s1, s2, s3, s4⟩ := VM hu hr.r0 hyr
       obtain ⟨v', w1, G1, r, n1, H1, e1, e2, e3, e4, e5⟩ := N4 (ty := o.type) hu hi hz hzs hpos hr.r0 (AU hx ht) s1 s2 s3 s4 h
       refine C0 (w' := w1) (v := v') ?_ ⟨G1, _, e2, e3, hr.put hd e3 e5 e4⟩
       rw [hrun]
       simp only [builtin, List.map_cons, List.map_nil, Sem.run_bind, e1, Result.andThen_ok, Sem.run_pure]
      ·exact h.elim
     ·split at hc
      ·rename_i hcs
       obtain ⟨hstr, hs1⟩ := hcs
       injection hc with hc; subst hc
       have hus : P.underlying u = some .string := by
        unfold Zq at hstr
        split at hstr
        ·assumption
        ·cases hstr
       simp only [AP] at h
       unfold N8 at h
       split at h
       ·rename_i b hey
        rw [hey] at hyr
        obtain ⟨b, rfl, hyv⟩ : ∃ b' : ByteArray, b = b'.data.toList ∧ a.eval y = .string b' := by
         generalize a.eval y = v at hyr; cases hyr with | str h => exact ⟨_, h.symm, rfl⟩
        obtain ⟨news, s1, s2, s3, s4⟩ := Tu (P := P) (w := w) (G := G) (s := b) hus
        rw [← hs1] at s1 s3 h
        obtain ⟨v', w1, G1, r, n1, H1, e1, e2, e3, e4, e5⟩ := N4 (ty := o.type) hu hi hz hzs hpos hr.r0 (AU hx ht) s1 s2 s3 s4 h
        refine C0 (w' := w1) (v := v') ?_ ⟨G1, _, e2, e3, hr.put hd e3 e5 e4⟩
        rw [hrun]
        simp only [builtin, List.map_cons, List.map_nil, Sem.run_bind, hyv, e1, Result.andThen_ok, Sem.run_pure]
       ·exact h.elim
      ·cases hc
    ·cases hc
   ·cases hc
  ·cases hc
 ·split at hc <;> first | (injection hc with hc; subst hc; exact absurd rfl hef) | cases hc
 ·rename_i x n t u
  split at hc
  ·rename_i el x' n' hu hx hn
   split at hc
   ·rename_i hcond
    injection hc with hc; subst hc
    simp only [AP, K1_iff] at h
    obtain ⟨v, hv, hk⟩ := h
    obtain ⟨v', w1, e1, e2, e3⟩ := V4 (o := o) (ty2 := u) hr hu hcond.1 (AU hx ht) (AU hn ht) hv hr.r0.capLo
    refine C0 (w' := w1) (v := v') ?_ ⟨G, _, hk, Gh.Le.rfl_ G, hr.put hd (Gh.Le.rfl_ G) e3 e2⟩
    rw [hrun]
    simp only [builtin, List.map_cons, List.map_nil, Sem.run_bind, e1, Result.andThen_ok, Sem.run_pure]
   ·cases hc
  ·cases hc
 ·split at hc <;> first | (injection hc with hc; subst hc; exact absurd rfl hef) | cases hc
 ·split at hc <;> first | (injection hc with hc; subst hc; exact absurd rfl hef) | cases hc
 ·cases hc
theorem SM {o : Oper} {op : AOp} {ef : List Nat} {K : AS → Prop} {Q : Exit → Act → World → Prop} (hc : cOp P ef o.op = some op) (hd : ∀ t, o.dst = some t → t < nt) (hr : RelS P w0 nt G s a w) (h : AP P o.dst op K s) :
  o.wp P a w (After P w0 nt G K) Q := by
 by_cases hef : op.eff = false
 ·rw [ET hef] at h
  unfold K1 at h
  split at h
  ·rename_i v hv
   obtain ⟨v', h1, h2⟩ := WO hc hv hr
   exact C0 h1 ⟨G, _, h, Gh.Le.rfl_ G, hr.put hd (Gh.Le.rfl_ G) hr.r0 h2⟩
  ·exact h.elim
 ·have ht := hr.tm
  have hc0 := hc
  unfold cOp at hc
  split at hc
  case h_4 => -- alloc
   rename_i e hop
   split at hc
   ·rename_i z hz
    injection hc with hc; subst hc
    obtain ⟨i, zv, hi, hzv, hrz, h1⟩ := IS (G := G) hz
    obtain ⟨ho, hk⟩ := h
    exact Ml hr hd rfl hrz h1 (by simp [execOp, hop, Instr.alloc, zeroValue, typeInfo, hi, hzv, newVar, Go.newRow]) hk
   ·cases hc
  case h_5 => -- box
   rename_i e x hop
   split at hc
   ·rename_i sh x' hsh hx
    injection hc with hc; subst hc
    obtain ⟨hf, ho, hk⟩ := h
    have hxr := AU (G := G) (a := a) (e := s.e) hx ht
    exact Ml hr hd rfl (hxr.cells ho) ho (by simp [execOp, hop, Instr.box, newVar, Go.newRow]) hk
   ·cases hc
  case h_7 => -- buildSlice
   rename_i t len ps hop
   split at hc
   ·rename_i e hu
    split at hc
    ·rename_i sh xs hsh hxs
     split at hc
     ·rename_i hcond
      injection hc with hc; subst hc
      obtain ⟨h1, hk⟩ := h
      rcases hk with hk | hk
      ·exact W3 hr hd hop hu hsh hxs hcond.1 hcond.2.1 hcond.2.2 h1 hk
      ·exact T9 hr hd hop hu hsh hxs hcond.1 hcond.2.1 hcond.2.2 h1 hk
     ·cases hc
    ·cases hc
   ·cases hc
  case h_9 => -- store
   rename_i t xo vo hop
   split at hc
   ·rename_i sh x' v' hsh hx hv
    injection hc with hc; subst hc
    exact Ra hr hd hop hsh (AU hx ht) (AU hv ht) h
   ·cases hc
  case h_14 => -- convert
   rename_i src dst x hop
   split at hc
   ·injection hc with hc; subst hc; exact absurd rfl hef
   ·injection hc with hc; subst hc; exact absurd rfl hef
   ·split at hc
    ·injection hc with hc; subst hc; exact absurd rfl hef
    ·cases hc
   ·split at hc
    ·injection hc with hc; subst hc; exact absurd rfl hef
    ·cases hc
   ·rename_i x' u hx hs hdu
    split at hc
    ·rename_i hinf
     injection hc with hc; subst hc
     simp only [AP, K1_iff] at h
     obtain ⟨v, hv, hk⟩ := h
     obtain ⟨v', h1, h2⟩ := NP hr.r0 hs hdu hinf.1 hinf.2 (AU hx ht) hv
     exact C0 (v := v') (by simp only [execOp, hop, Sem.run_bind, h1, Result.andThen_ok, Sem.run_pure]) ⟨G, _, hk, Gh.Le.rfl_ G, hr.put hd (Gh.Le.rfl_ G) hr.r0 h2⟩
    ·cases hc
   ·rename_i x' e hx hs hdu
    split at hc
    ·rename_i he
     injection hc with hc; subst hc
     simp only [AP] at h
     have hxr := AU (G := G) (a := a) (e := s.e) hx ht
     split at h
     ·rename_i b hb
      rw [hb] at hxr
      have hb' : b = (⟨b.toArray⟩ : ByteArray).data.toList := by simp
      rw [hb'] at hxr
      exact Vz hr hd hop hs hdu he hxr h.1 (fun n' hn => by simpa using h.2 n' hn)
     ·exact h.elim
    ·cases hc
   ·rename_i x' e _ hx hs hdu
    split at hc
    ·rename_i he
     split at hc
     ·rename_i hsd
      injection hc with hc; subst hc
      simp only [AP] at h
      have hxr := AU (G := G) (a := a) (e := s.e) hx ht
      split at h
      ·rename_i sz l g hb
       rw [hb] at hxr
       exact WE hr hd hop hs hdu he hsd hxr h.1 h.2
      ·exact h.elim
     ·cases hc
    ·cases hc
   ·cases hc
  case h_15 => -- makeMap
   rename_i t hop
   split at hc
   ·obtain ⟨kk, _, rfl⟩ := Option.map_eq_some_iff.1 hc
    exact Rm hr hd hop h
   ·cases hc
  case h_17 => -- mapUpdate
   rename_i t m k x hop
   split at hc
   ·rename_i kt el m' k' x' hm hm' hk' hx'
    obtain ⟨kk, hkk, rfl⟩ := Option.map_eq_some_iff.1 hc
    exact LA hr hd (.inl hop) hm hkk (AU hm' ht) (AU hk' ht) (AU hx' ht) h
   ·cases hc
  case h_18 => -- insert
   rename_i t m k x hop
   split at hc
   ·rename_i kt el m' k' x' hm hm' hk' hx'
    obtain ⟨kk, hkk, rfl⟩ := Option.map_eq_some_iff.1 hc
    exact LA hr hd (.inr hop) hm hkk (AU hm' ht) (AU hk' ht) (AU hx' ht) h
   ·cases hc
  case h_26 => -- call
   rename_i c hop
   unfold Wm at hc
   split at hc
   ·rename_i f hcal
    split at hc
    ·rename_i xs hxs
     split at hc
     ·rename_i fn hfn
      split at hc
      ·rename_i hb
       injection hc with hc
       have hrep := HL (G := G) (a := a) (e := s.e) hxs ht
       have hrun : (execOp a.eval o).run P w = .ok (.enter f (c.args.toList.map a.eval).toArray) w := by
        simp only [execOp, hop, resolve, hcal, Act.eval, Deferred.ofValue, Sem.run_bind, Sem.run_pure, Result.andThen_ok, invoke]
        rw [Il hfn hb, ← Array.toList_map]
        simp only [Array.toArray_toList, Array.append_empty, Array.empty_append]
       split at hc
       ·subst hc; exact R7 hr hd hrep hrun h
       ·subst hc; exact R7 hr hd hrep hrun h.toK
      ·split at hc
       ·split at hc
        ·injection hc with hc; subst hc; exact absurd rfl hef
        ·cases hc
       ·cases hc
     ·cases hc
    ·cases hc
   ·rename_i t hcal
    split at hc
    ·rename_i xs hxs
     injection hc with hc; subst hc
     simp only [AP] at h
     split at h
     ·rename_i f fst cap hev
      have hrep := HL (G := G) (a := a) (e := s.e) hxs ht
      have hfr := ht t
      simp only [ev] at hev
      rw [hev] at hfr
      obtain ⟨hcb, h⟩ := h
      unfold Ae at hcb
      split at hcb
      ·rename_i fn hfn
       generalize hfv : a.tmps.getD t undef = fv at hfr
       cases hfr with
       | fn h1 h2 =>
        rename_i va vb
        have hrep' := (h1.append hrep).append h2
        refine R7 hr hd hrep' ?_ h
        simp only [execOp, hop, resolve, hcal, Act.eval, hfv, Deferred.ofValue, Sem.run_bind, Sem.run_pure, Result.andThen_ok, invoke]
        rw [Il hfn hcb]
        congr 2
        rw [← Array.toList_map]
        simp
      ·cases hcb
     ·exact h.elim
    ·cases hc
   ·rename_i b hcal
    exact NS hr hd hop hcal hc hef h
   ·cases hc
  case h_27 => -- range
   rename_i t x hop
   split at hc
   ·rename_i hm hx
    injection hc with hc; subst hc
    exact Va hr hd hop hm (AU hx ht) h
   ·cases hc
  case h_28 => -- next
   rename_i x hop
   obtain ⟨x', hx, rfl⟩ := QH hc
   exact VZ hr hd hop (AU hx ht) h
  case h_30 => -- makeSlice
   rename_i t l c hop
   split at hc
   ·rename_i e x' y' hu hx hy
    split at hc
    ·rename_i z i hz hi
     split at hc
     ·rename_i h1
      injection hc with hc; subst hc
      exact TV hr hd hop hu hz hi h1 (AU hx ht) (AU hy ht) h
     ·cases hc
    ·cases hc
   ·cases hc
  all_goals (repeat' (first | (injection hc with hc; subst hc; exact absurd rfl hef) | (obtain ⟨_, _, rfl⟩ := Option.map_eq_some_iff.1 hc; exact absurd rfl hef) | (cases hc; done) | split at hc | (unfold Th at hc; split at hc)))
end
open Go.RowKit
section
variable {P : Program} {e e' : AT} {n : Nat} {H : A3}
theorem AK {x : Opd} {l : List Nat} (hx : ∀ t ∈ x.use, t ∈ l) (h : ∀ t ∈ l, get e t = get e' t) : ev e x = ev e' x := by
 cases x with
 | t i => exact h i (hx i (by simp [Opd.use]))
 | c v => rfl
theorem DN {xs : List Opd} {l : List Nat} (hx : ∀ t ∈ Py xs, t ∈ l) (h : ∀ t ∈ l, get e t = get e' t) : xs.map (ev e) = xs.map (ev e') := by
 induction xs with
 | nil => rfl
 | cons x xs ih =>
  simp only [Py, List.mem_append] at hx
  rw [List.map_cons, List.map_cons, AK (fun t ht => hx t (.inl ht)) h, ih fun t ht => hx t (.inr ht)]
theorem Hk {x : Option Opd} {l : List Nat} (hx : ∀ t ∈ A05 x, t ∈ l) (h : ∀ t ∈ l, get e t = get e' t) : x.map (ev e) = x.map (ev e') := by
 cases x with
 | none => rfl
 | some x => simp only [Option.map_some]; rw [AK (x := x) hx h]
theorem VS {ps : List (Nat × BV × Opd)} {l : List Nat} (hx : ∀ t ∈ ZN ps, t ∈ l) (h : ∀ t ∈ l, get e t = get e' t) : ps.map (fun x => (x.1, x.2.1, ev e x.2.2)) = ps.map (fun x => (x.1, x.2.1, ev e' x.2.2)) ∧ ps.map (fun x => (x.1, ev e x.2.2)) = ps.map (fun x => (x.1, ev e' x.2.2)) := by
 induction ps with
 | nil => exact ⟨rfl, rfl⟩
 | cons x xs ih =>
  simp only [ZN, List.mem_append] at hx
  obtain ⟨i1, i2⟩ := ih fun t ht => hx t (.inr ht)
  have h1 : ev e x.2.2 = ev e' x.2.2 := AK (fun t ht => hx t (.inl ht)) h
  constructor
  ·rw [List.map_cons, List.map_cons, h1, i1]
  ·rw [List.map_cons, List.map_cons, h1, i2]
theorem Fl {op : AOp} (h : ∀ t ∈ op.uses, get e t = get e' t) : pe op e H = pe op e' H := by
 cases op <;> simp only [pe] <;> simp only [AOp.uses] at h
 case mv x => rw [AK (fun _ ht => ht) h]
 case pick c x y => rw [AK (x := c) (by simp +contextual) h, AK (x := x) (by simp +contextual) h, AK (x := y) (by simp +contextual) h]
 case bin o x y => rw [AK (x := x) (by simp +contextual) h, AK (x := y) (by simp +contextual) h]
 case eqs k g x y => rw [AK (x := x) (by simp +contextual) h, AK (x := y) (by simp +contextual) h]
 case eqb g x y => rw [AK (x := x) (by simp +contextual) h, AK (x := y) (by simp +contextual) h]
 case eqn g x => rw [AK (fun _ ht => ht) h]
 case eqp g x => rw [AK (fun _ ht => ht) h]
 case eqi g x => rw [AK (fun _ ht => ht) h]
 case neg x => rw [AK (fun _ ht => ht) h]
 case not x => rw [AK (fun _ ht => ht) h]
 case cvi k x => rw [AK (fun _ ht => ht) h]
 case mkfn f a b => rw [DN (xs := a) (by simp +contextual) h, DN (xs := b) (by simp +contextual) h]
 case cut sz x lo hi => rw [AK (x := x) (by simp +contextual) h, Hk (x := lo) (by simp +contextual) h, Hk (x := hi) (by simp +contextual) h]
 case cutS x lo hi => rw [AK (x := x) (by simp +contextual) h, Hk (x := lo) (by simp +contextual) h, Hk (x := hi) (by simp +contextual) h]
 case faddr x o s => rw [AK (fun _ ht => ht) h]
 case field x o s => rw [AK (fun _ ht => ht) h]
 case iaddr z s x i => rw [AK (x := x) (by simp +contextual) h, AK (x := i) (by simp +contextual) h]
 case aaddr k z s x i => rw [AK (x := x) (by simp +contextual) h, AK (x := i) (by simp +contextual) h]
 case sidx x i => rw [AK (x := x) (by simp +contextual) h, AK (x := i) (by simp +contextual) h]
 case aidx k z s x i => rw [AK (x := x) (by simp +contextual) h, AK (x := i) (by simp +contextual) h]
 case len x => rw [AK (fun _ ht => ht) h]
 case lenS x => rw [AK (fun _ ht => ht) h]
 case extr x i => rw [AK (fun _ ht => ht) h]
 case nilck x => rw [AK (fun _ ht => ht) h]
 case load s x => rw [AK (fun _ ht => ht) h]
 case build z ps =>
  obtain ⟨h1, h2⟩ := VS (ps := ps) (fun _ ht => ht) h
  rw [h1, h2]
 case mm m x y => rw [AK (x := x) (by simp +contextual) h, AK (x := y) (by simp +contextual) h]
 case b2s x => rw [AK (fun _ ht => ht) h]
 case upc x => rw [AK (fun _ ht => ht) h]
 case usd el x => rw [AK (fun _ ht => ht) h]
 case eqpp ng x y => rw [AK (x := x) (by simp +contextual) h, AK (x := y) (by simp +contextual) h]
 case r2s x => rw [AK (fun _ ht => ht) h]
 case ent x => rw [AK (fun _ ht => ht) h]
 case mget kk z ok x y => rw [AK (x := x) (by simp +contextual) h, AK (x := y) (by simp +contextual) h]
theorem Eb {d : Option Nat} {op : AOp} {K K' : AS → Prop} (h : ∀ t ∈ op.uses, get e t = get e' t) (ha : AP P d op K ⟨e, n, H⟩) (hk : ∀ r n' H', K ⟨AN e d r, n', H'⟩ → K' ⟨AN e' d r, n', H'⟩) : AP P d op K' ⟨e', n, H⟩ := by
 by_cases hef : op.eff = false
 ·rw [ET hef] at ha ⊢
  rw [← Fl (H := H) h]
  exact K1.mono ha fun v hv => hk v n H hv
 ·cases op <;> first | exact absurd rfl hef | skip
  case alloc t z => exact ⟨ha.1, fun g hg => hk _ _ _ (ha.2 g hg)⟩
  case box t s x =>
   have hx := AK (x := x) (fun _ ht => ht) h
   simp only [AP] at ha ⊢
   rw [← hx]
   exact ⟨ha.1, ha.2.1, fun g hg => hk _ _ _ (ha.2.2 g hg)⟩
  case store s x v =>
   have hx := AK (x := x) (by simp +contextual [AOp.uses]) h
   have hv := AK (x := v) (by simp +contextual [AOp.uses]) h
   simp only [AP] at ha ⊢
   rw [← hx, ← hv]
   unfold Cc at ha ⊢
   split at ha
   ·split at ha
    ·rename_i e0 cs hg
     simp only at hg ⊢
     rw [hg]
     exact ⟨ha.1, ha.2.1, ha.2.2.1, hk _ _ _ ha.2.2.2⟩
    ·rename_i e0 cs hg
     simp only at hg ⊢
     rw [hg]
     exact ⟨ha.1, ha.2.1, ha.2.2.1, hk _ _ _ ha.2.2.2⟩
    ·exact ha.elim
   ·exact ha
  case bsl t s xs =>
   have hx := DN (xs := xs) (fun _ ht => ht) h
   simp only [AP] at ha ⊢
   rw [← hx]
   refine ⟨fun x hx' => ?_, ha.2.imp (fun ha g hg => hk _ _ _ (ha g hg)) (fun ha g hg => hk _ _ _ (ha g hg))⟩
   rw [← AK (x := x) (e := e) (e' := e') (l := Py xs) ?_ h]
   ·exact ha.1 x hx'
   ·clear ha h hx hef
    induction xs with
    | nil => simp at hx'
    | cons y ys ih =>
     intro t ht
     simp only [Py, List.mem_append]
     rcases List.mem_cons.1 hx' with rfl | hx'
     ·exact .inl ht
     ·exact .inr (ih hx' t ht)
  case app t z b x y =>
   have hx := AK (x := x) (by simp +contextual [AOp.uses]) h
   have hy := AK (x := y) (by simp +contextual [AOp.uses]) h
   simp only [AP] at ha ⊢
   rw [← hx, ← hy]
   unfold appKS at ha ⊢
   split at ha
   ·obtain ⟨h1, m', h2, h3⟩ := ha
    exact ⟨h1, m', h2, K4 h3 hk⟩
   ·exact ha
  case appB t b x y =>
   have hx := AK (x := x) (by simp +contextual [AOp.uses]) h
   have hy := AK (x := y) (by simp +contextual [AOp.uses]) h
   simp only [AP] at ha ⊢
   rw [← hx, ← hy]
   unfold N8 at ha ⊢
   split at ha
   ·exact K4 ha hk
   ·exact ha
  case s2b t x =>
   have hx := AK (x := x) (fun _ ht => ht) h
   simp only [AP] at ha ⊢
   rw [← hx]
   split at ha
   ·exact ⟨ha.1, fun n' hn => hk _ _ _ (ha.2 n' hn)⟩
   ·exact ha
  case s2s x =>
   have hx := AK (x := x) (fun _ ht => ht) h
   simp only [AP] at ha ⊢
   rw [← hx]
   split at ha
   ·exact ⟨ha.1, hk _ _ _ ha.2⟩
   ·exact ha
  case mkmap kk => exact fun g hg => hk _ _ _ (ha g hg)
  case mset kk m k v =>
   have hm := AK (x := m) (by simp +contextual [AOp.uses]) h
   have hk' := AK (x := k) (by simp +contextual [AOp.uses]) h
   have hv := AK (x := v) (by simp +contextual [AOp.uses]) h
   simp only [AP] at ha ⊢
   rw [← hm, ← hk', ← hv]
   unfold El at ha ⊢
   split at ha
   ·split at ha
    ·rename_i kk' es hg
     simp only at hg ⊢
     rw [hg]
     exact ⟨ha.1, ha.2.1, hk _ _ _ ha.2.2⟩
    ·exact ha.elim
   ·exact ha
  case mksl el b z x y =>
   have hx := AK (x := x) (by simp +contextual [AOp.uses]) h
   have hy := AK (x := y) (by simp +contextual [AOp.uses]) h
   simp only [AP] at ha ⊢
   rw [← hx, ← hy]
   unfold Ki at ha ⊢
   split at ha
   ·exact ⟨ha.1, ha.2.1, ha.2.2.1, ha.2.2.2.1, fun g hg => hk _ _ _ (ha.2.2.2.2 g hg)⟩
   ·exact ha
  case rng x =>
   have hx := AK (x := x) (fun _ ht => ht) h
   simp only [AP] at ha ⊢
   rw [← hx]
   unfold Ol at ha ⊢
   split at ha
   ·split at ha
    ·rename_i kk es hg
     simp only at hg ⊢
     rw [hg]
     exact fun g hg' => hk _ _ _ (ha g hg')
    ·exact ha.elim
   ·exact ha
  case nxt x =>
   have hx := AK (x := x) (fun _ ht => ht) h
   simp only [AP] at ha ⊢
   rw [← hx]
   unfold Q0 at ha ⊢
   split at ha
   ·refine ⟨ha.1, ?_⟩
    have ha := ha.2
    split at ha
    ·rename_i hg
     split at ha
     ·rename_i hg2
      simp only at hg hg2 ⊢
      rw [hg]
      simp only
      rw [hg2]
      exact ⟨ha.1, fun h0 => hk _ _ _ (ha.2.1 h0), fun j hj k v hv => hk _ _ _ (ha.2.2 j hj k v hv)⟩
     ·exact ha.elim
    ·exact ha.elim
   ·exact ha
  case updn u x =>
   have hx := AK (x := x) (fun _ ht => ht) h
   simp only [AP] at ha ⊢
   rw [← hx]
   exact K1.mono ha fun v hv => hk _ _ _ hv
  case ust t x k =>
   have hx := AK (x := x) (by simp +contextual [AOp.uses]) h
   have hy := AK (x := k) (by simp +contextual [AOp.uses]) h
   simp only [AP] at ha ⊢
   rw [← hx, ← hy]
   exact K1.mono ha fun v hv => hk _ _ _ hv
  case call f xs =>
   have hx := DN (xs := xs) (fun _ ht => ht) h
   simp only [AP] at ha ⊢
   rw [← hx]
   obtain ⟨R, h1, h2⟩ := ha
   exact ⟨R, h1, fun r n' H' a b c => hk _ _ _ (h2 r n' H' a b c)⟩
  case callp f xs =>
   have hx := DN (xs := xs) (fun _ ht => ht) h
   simp only [AP] at ha ⊢
   rw [← hx]
   obtain ⟨args', v, h1, hs, h2⟩ := ha
   exact ⟨args', v, h1, hs, hk _ _ _ h2⟩
  case callv x xs =>
   have hx := AK (x := x) (by simp +contextual [AOp.uses]) h
   have hxs := DN (xs := xs) (by simp +contextual [AOp.uses]) h
   simp only [AP] at ha ⊢
   rw [← hx, ← hxs]
   split at ha
   ·obtain ⟨hc, R, h1, h2⟩ := ha
    exact ⟨hc, R, h1, fun r n' H' a b c => hk _ _ _ (h2 r n' H' a b c)⟩
   ·exact ha
theorem Iq {o : AOper} {K K' : AS → Prop} (h : ∀ t ∈ o.uses, get e t = get e' t) (ha : awO P o K ⟨e, n, H⟩) (hk : ∀ r n' H', K ⟨AN e o.dst r, n', H'⟩ → K' ⟨AN e' o.dst r, n', H'⟩) : awO P o K' ⟨e', n, H⟩ := by
 have hop : ∀ t ∈ o.op.uses, get e t = get e' t := fun t ht => h t (List.mem_append_left _ ht)
 unfold awO at ha ⊢
 split at ha
 ·exact Eb hop ha hk
 ·rename_i t want hg
  have ht : get e t = get e' t := h t (List.mem_append_right _ (by rw [hg]; simp))
  simp only at ha ⊢
  rw [← ht]
  split at ha
  ·exact ⟨fun hb => Eb hop (ha.1 hb) hk, fun hb => hk _ _ _ (ha.2 hb)⟩
  ·exact hk _ _ _ ha
  ·exact ha
/-! ### what has one outcome -/
def DV (P : Program) (op : AOp) (e : AT) (H : A3) (v : AV) : Prop :=
 match op with
 | .callp f xs => ∃ args', APure P f args' v ∧ AQ (xs.map (ev e)) args'
 | .updn u x => DC P H u (ev e x) = some v
 | .ust t x k => EF t (ev e x) (ev e k) = some v
 | op => pe op e H = some v
def DVo (P : Program) (o : AOper) (e : AT) (H : A3) (v : AV) : Prop :=
 match o.guard with
 | none => DV P o.op e H v
 | some (t, want) => (∃ b, get e t = .bool b ∧ (b = want → DV P o.op e H v) ∧ (b ≠ want → v = .und)) ∨ (get e t = .und ∧ v = .und)
theorem TN {d : Option Nat} {op : AOp} {K : AS → Prop} (hc : op.cls ≠ .eff) : AP P d op K ⟨e, n, H⟩ ↔ ∃ v, DV P op e H v ∧ K ⟨AN e d v, n, H⟩ := by
 by_cases hef : op.eff = false
 ·rw [ET hef, K1_iff]
  have : ∀ v, DV P op e H v ↔ pe op e H = some v := fun v => by cases op <;> first | rfl | (exact absurd hef (by simp [AOp.eff]))
  simp only [this]
 ·cases op <;> first | exact absurd rfl hef | exact absurd rfl hc | rfl | (simp only [AP, K1_iff, DV]; done) | (simp only [AP, DV]; exact ⟨fun ⟨a, v, h1, h2, h3⟩ => ⟨v, ⟨a, h1, h2⟩, h3⟩, fun ⟨v, ⟨a, h1, h2⟩, h3⟩ => ⟨a, v, h1, h2, h3⟩⟩)
theorem FQ {o : AOper} {K : AS → Prop} (hc : o.op.cls ≠ .eff) : awO P o K ⟨e, n, H⟩ ↔ ∃ v, DVo P o e H v ∧ K ⟨AN e o.dst v, n, H⟩ := by
 unfold awO DVo
 cases hg : o.guard with
 | none => exact TN hc
 | some p =>
  obtain ⟨t, want⟩ := p
  simp only
  constructor
  ·intro h
   split at h
   ·rename_i b hb
    by_cases hw : b = want
    ·obtain ⟨v, h1, h2⟩ := (TN hc).1 (h.1 hw)
     exact ⟨v, .inl ⟨b, hb, fun _ => h1, fun h => absurd hw h⟩, h2⟩
    ·exact ⟨.und, .inl ⟨b, hb, fun h => absurd h hw, fun _ => rfl⟩, h.2 hw⟩
   ·rename_i hb
    exact ⟨.und, .inr ⟨hb, rfl⟩, h⟩
   ·exact h.elim
  ·rintro ⟨v, ⟨b, hb, h1, h2⟩ | ⟨hb, h1⟩, hk⟩
   ·rw [hb]
    simp only
    refine ⟨fun hw => (TN hc).2 ⟨v, h1 hw, hk⟩, fun hw => ?_⟩
    rw [h2 hw] at hk; exact hk
   ·rw [hb]
    simp only
    rw [h1] at hk; exact hk
theorem Rf {op : AOp} {H' : A3} {v : AV} (h : ∀ t ∈ op.uses, get e t = get e' t) (hH : op.cls = .pure ∨ H = H') (hd : DV P op e H v) : DV P op e' H' v := by
 have key : op.eff = false → op.cls = .pure ∨ op.cls = .rd → pe op e H = some v → pe op e' H' = some v := by
  intro _ hcl hp
  rcases hH with hH | hH
  ·have : pe op e' H' = pe op e' H := by cases op <;> first | rfl | cases hH
   rw [this, ← Fl (H := H) h]; exact hp
  ·subst hH; rw [← Fl (H := H) h]; exact hp
 cases op <;> first | exact key rfl (by simp [AOp.cls]) hd | (simp only [DV, pe] at hd; cases hd; done) | skip
 case updn u x =>
  rcases hH with hH | hH
  ·cases hH
  ·subst hH
   simp only [DV] at hd ⊢
   rw [← AK (x := x) (fun _ ht => ht) h]; exact hd
 case ust t x k =>
  simp only [DV] at hd ⊢
  rw [← AK (x := x) (by simp +contextual [AOp.uses]) h, ← AK (x := k) (by simp +contextual [AOp.uses]) h]; exact hd
 case callp f xs =>
  simp only [DV] at hd ⊢
  rw [← DN (xs := xs) (fun _ ht => ht) h]; exact hd
theorem Ez {o : AOper} {H' : A3} {v : AV} (h : ∀ t ∈ o.uses, get e t = get e' t) (hH : o.op.cls = .pure ∨ H = H') (hd : DVo P o e H v) : DVo P o e' H' v := by
 have hop : ∀ t ∈ o.op.uses, get e t = get e' t := fun t ht => h t (List.mem_append_left _ ht)
 unfold DVo at hd ⊢
 cases hg : o.guard with
 | none => rw [hg] at hd; exact Rf hop hH hd
 | some p =>
  obtain ⟨t, want⟩ := p
  rw [hg] at hd
  have ht : get e t = get e' t := h t (List.mem_append_right _ (by rw [hg]; simp))
  rcases hd with ⟨b, hb, h1, h2⟩ | ⟨hb, h1⟩
  ·exact .inl ⟨b, by rw [← ht]; exact hb, fun hw => Rf hop hH (h1 hw), h2⟩
  ·exact .inr ⟨by rw [← ht]; exact hb, h1⟩
def EInv (K : AS → Prop) : Prop := ∀ e e' n H, (∀ t, get e t = get e' t) → K ⟨e, n, H⟩ → K ⟨e', n, H⟩
theorem Af (e : AT) (d : Option Nat) (v : AV) (k : Nat) : get (AN e d v) k = if d = some k then v else get e k := by
 cases d with
 | none => simp [AN]
 | some t =>
  simp only [AN, get_put, Option.some.injEq]
  by_cases hk : k = t
  ·subst hk; simp
  ·have : ¬ t = k := fun e => hk e.symm
   simp [hk, this]
theorem EInv.awO {o : AOper} {K : AS → Prop} (hK : EInv K) : EInv (awO P o K) := fun e e' n H h ha =>
 Iq (fun t _ => h t) ha fun r n' H' hk => hK _ _ _ _ (fun t => by simp only [Af, h]) hk
theorem EInv.awOps {os : List AOper} {K : AS → Prop} (hK : EInv K) : EInv (awOps P os K) := by
 induction os with
 | nil => exact hK
 | cons o os ih => exact EInv.awO ih
theorem X6 {x y : AOper} {K : AS → Prop} {s : AS} (hK : EInv K) (hap : Dg x y = true) (hcm : x.op.cls.comm y.op.cls = true) (h : awO P x (awO P y K) s) : awO P y (awO P x K) s := by
 obtain ⟨e, n, H⟩ := s
 have hx : x.op.cls ≠ .eff := by intro hc; rw [hc] at hcm; cases hy : y.op.cls <;> rw [hy] at hcm <;> cases hcm
 obtain ⟨v, hv, hy⟩ := (FQ hx).1 h
 simp only [Dg, Bool.and_eq_true] at hap
 obtain ⟨hap1, hap2⟩ := hap
 have u1 : ∀ t ∈ y.uses, ¬ x.dst = some t := by
  intro t ht hd
  rw [hd] at hap1
  simp only [Bool.and_eq_true, Bool.not_eq_true', List.contains_eq_mem, decide_eq_false_iff_not] at hap1
  exact hap1.1 ht
 have u2 : ∀ t ∈ x.uses, ¬ y.dst = some t := by
  intro t ht hd
  rw [hd] at hap2
  simp only [Bool.not_eq_true', List.contains_eq_mem, decide_eq_false_iff_not] at hap2
  exact hap2 ht
 have u3 : ∀ t, x.dst = some t → ¬ y.dst = some t := by
  intro t hd hd'
  rw [hd, hd'] at hap1
  simp at hap1
 have perm : ∀ r t, get (AN (AN e x.dst v) y.dst r) t = get (AN (AN e y.dst r) x.dst v) t := by
  intro r t
  simp only [Af]
  by_cases h1 : x.dst = some t
  ·simp [h1, u3 t h1]
  ·simp [h1]
 have agreeX : ∀ r, ∀ t ∈ x.uses, get e t = get (AN e y.dst r) t := fun r t ht => by rw [Af, if_neg (u2 t ht)]
 by_cases hyd : y.op.cls = .eff
 ·have hxp : x.op.cls = .pure := by cases hxc : x.op.cls <;> rw [hxc, hyd] at hcm <;> first | rfl | cases hcm
  refine Iq (e := AN e x.dst v) (fun t ht => by rw [Af, if_neg (u1 t ht)]) hy fun r n' H' hk => ?_
  exact (FQ hx).2 ⟨v, Ez (agreeX r) (.inl hxp) hv, hK _ _ _ _ (perm r) hk⟩
 ·obtain ⟨r, hr, hk⟩ := (FQ hyd).1 hy
  refine (FQ hyd).2 ⟨r, Ez (fun t ht => by rw [Af, if_neg (u1 t ht)]) (.inr rfl) hr, ?_⟩
  exact (FQ hx).2 ⟨v, Ez (agreeX r) (.inr rfl) hv, hK _ _ _ _ (perm r) hk⟩
theorem Ls {gs : List Nat} {g : Nat} (h : g ∈ gs) (H : A3) : BQ gs H g = none := by
 induction gs with
 | nil => cases h
 | cons a gs ih =>
  simp only [BQ]
  split
  ·rfl
  ·rename_i hne
   rcases List.mem_cons.1 h with h | h
   ·exact absurd h hne
   ·exact ih h
theorem JR {gs : List Nat} {H : A3} {k : Nat} {ob : AObj} (h : BQ gs H k = some ob) : H k = some ob := by
 induction gs with
 | nil => exact h
 | cons a gs ih =>
  simp only [BQ] at h
  split at h
  ·cases h
  ·exact ih h
theorem Kr {gs : List Nat} {H H' : A3} {k : Nat} (h : H k = H' k) : BQ gs H k = BQ gs H' k := by
 induction gs with
 | nil => exact h
 | cons a gs ih => simp only [BQ, ih]
theorem Mo {gs : List Nat} {g : Nat} (h : g ∈ gs) (H : A3) (o : Option AObj) : BQ gs (upd H g o) = BQ gs H := by
 funext k
 by_cases hk : k ∈ gs
 ·rw [Ls hk, Ls hk]
 ·have hne : k ≠ g := fun e => hk (e ▸ h)
  exact Kr (by simp [upd, hne])
theorem Id {sh : BV} {x : Opd} {e : AT} {H H' : A3} {v : AV} (hH : ∀ k ob, ob.seen = true → H k = some ob → H' k = some ob) (h : pe (.load sh x) e H = some v) : pe (.load sh x) e H' = some v := by
 simp only [pe] at h ⊢
 generalize ev e x = p at h ⊢
 cases p <;> simp only [BS] at h ⊢ <;> first | exact h | skip
 rename_i g o
 cases hg : H g with
 | none => rw [hg] at h; simp at h
 | some ob => rw [hg] at h; cases ob <;> first | (rw [hH g _ rfl hg]; exact h) | (simp at h; done)
theorem LC {kk : Option IntKind} {z : AV} {ok : Bool} {m k : Opd} {e : AT} {H H' : A3} {v : AV} (hH : ∀ k ob, ob.seen = true → H k = some ob → H' k = some ob) (h : pe (.mget kk z ok m k) e H = some v) : pe (.mget kk z ok m k) e H' = some v := by
 simp only [pe] at h ⊢
 generalize ev e m = p at h ⊢
 unfold EL at h ⊢
 cases p <;> simp only at h ⊢ <;> first | exact h | skip
 rename_i g
 cases hg : H g with
 | none => rw [hg] at h; simp at h
 | some ob => rw [hg] at h; cases ob <;> first | (rw [hH g _ rfl hg]; exact h) | (simp at h; done)
theorem A0f {gs gs' : List Nat} {sh : BV} {x : Opd} {g : Option (Nat × Bool)} {e : AT} {H H' : A3} {v : AV} (hH : ∀ k ob, ob.seen = true → BQ gs H k = some ob → BQ gs' H' k = some ob) (h : Uh gs sh x g e H = some v) : Uh gs' sh x g e H' = some v := by
 unfold Uh at h ⊢
 split at h
 ·exact Id hH h
 ·split at h
  ·split at h
   ·rename_i hb; simp only [hb, if_true]; exact Id hH h
   ·rename_i hb; simp only [hb, if_false]; exact h
  ·exact h
  ·cases h
theorem Yl {P : Program} {gs : List Nat} {sh : BV} {x : Opd} {g : Option (Nat × Bool)} {d : Option Nat} {e : AT} {n : Nat} {H : A3} {v : AV} {K : AS → Prop} (h : Uh gs sh x g e H = some v) (hk : K ⟨AN e d v, n, H⟩) : awO P ⟨d, .load sh x, g⟩ K ⟨e, n, H⟩ := by
 have hl : pe (.load sh x) e (BQ gs H) = some v → AP P d (.load sh x) K ⟨e, n, H⟩ := fun hv => by
  rw [ET rfl, Id (fun k ob _ => JR) hv]; exact hk
 unfold Uh at h
 unfold awO
 split at h
 ·exact hl h
 ·simp only
  split at h
  ·split at h
   ·rename_i hb; exact ⟨fun _ => hl h, fun hne => absurd hb hne⟩
   ·rename_i hb; injection h with h; subst h; exact ⟨fun he => absurd he hb, fun _ => hk⟩
  ·injection h with h; subst h; exact hk
  ·cases h
theorem KeepM.rfl_ (gs : List Nat) (H : A3) : KeepM gs H H := fun _ _ _ h => h
theorem KeepM.upd {gs : List Nat} {H : A3} {g : Nat} {x : Option AObj} (h : ∀ ob, ob.seen = true → BQ gs H g ≠ some ob) : KeepM gs H (upd H g x) := fun k ob hs hk => by
 have hkg : k ≠ g := fun e => by subst e; exact h ob hs hk
 rw [← hk]
 exact Kr (by simp only [Go.Proofs.YtjdccdelcnmocaaGreatDoor.upd, hkg, if_false])
theorem KeepM.new {gs : List Nat} {H : A3} {g : Nat} {x : Option AObj} (h : H g = none) : KeepM gs H (Go.Proofs.YtjdccdelcnmocaaGreatDoor.upd H g x) := KeepM.upd fun ob _ he => by have := JR he; rw [h] at this; cases this
theorem KeepM.tr {gs : List Nat} {H H' H'' : A3} (h : KeepM gs H H') (k : KeepM gs H' H'') : KeepM gs H H'' := fun i ob hs hi => k i ob hs (h i ob hs hi)
theorem KeepM.two {gs : List Nat} {H : A3} {g0 g : Nat} {x : AObj} (h0 : ∀ ob, ob.seen = true → BQ gs H g0 ≠ some ob) (h : g = g0 ∨ H g = none) : KeepM gs H (Go.Proofs.YtjdccdelcnmocaaGreatDoor.upd (Go.Proofs.YtjdccdelcnmocaaGreatDoor.upd H g0 none) g (some x)) := by
 rcases h with rfl | h
 ·rw [J4]; exact KeepM.upd h0
 ·refine (KeepM.upd (x := none) h0).tr (KeepM.new ?_)
  simp only [Go.Proofs.YtjdccdelcnmocaaGreatDoor.upd]; split
  ·rfl
  ·exact h
theorem Wj {gs : List Nat} {d : Option Nat} {t sz b : Nat} {x y : Opd} {K : AS → Prop} {s : AS} (hs : ∀ k, s.n ≤ k → s.H k = none) (hg : SO gs (ev s.e x)) (h : AP P d (.app t sz b x y) (KM gs s.H K) s) : AP P d (.app t sz b x y) K s := by
 simp only [AP] at h ⊢
 generalize ev s.e x = vx at h hg ⊢
 generalize ev s.e y = vy at h ⊢
 unfold appKS at h ⊢
 split at h
 ·obtain ⟨h1, m', h2, h3⟩ := h
  refine ⟨h1, m', h2, ?_⟩
  unfold M0 at h3 ⊢
  split at h3
  ·refine ⟨h3.1, h3.2.1, ?_⟩
   have h4 := h3.2.2
   split at h4
   ·exact ⟨fun hm => h4.1 hm (KeepM.rfl_ _ _), fun hm => (h4.2 hm).imp (fun h g hg => h g hg (KeepM.new (hs g hg))) (fun h g hg => h g hg (KeepM.new (hs g hg)))⟩
   ·refine ⟨h4.1, h4.2.1, fun g n' e1 e2 e3 => h4.2.2 g n' e1 e2 e3 (KeepM.two (fun ob hse he => ?_) (e1.imp id fun h => hs g h))⟩
    have := JR he
    rw [h4.2.1] at this; injection this with this; subst this; cases hse
   ·exact h4
  ·refine ⟨h3.1, h3.2.1, h3.2.2.1, ?_⟩
   have h4 := h3.2.2.2
   unfold NA at h4 ⊢
   split at h4
   ·refine ⟨h4.1, h4.2.1, fun g n' e1 e2 e3 => h4.2.2 g n' e1 e2 e3 (KeepM.two (fun ob hse he => ?_) (e1.imp id fun h => hs g h))⟩
    rw [Ls hg] at he; cases he
   ·exact h4
  ·exact h3
 ·exact h
theorem newK.at_ {m : Mode} {lo : Nat} {s : AS} {K : Nat → Nat → Prop} (h : newK m lo s K) {g : Nat} (hg : s.n ≤ g) (hn : s.H g = none) : K g (g + 1) := by
 unfold newK at h
 split at h
 ·exact h.2.2 g (g + 1) (by omega) hn (by omega) (by omega)
 ·exact h g hg hn
theorem Vk {md : Mode} {lo : Nat} {gs : List Nat} {o : AOper} {K : AS → Prop} {s : AS} (hs : ∀ k, s.n ≤ k → s.H k = none) (h : awOM P md lo gs o K s) : awO P o K s := by
 unfold awOM at h
 split at h
 ·rename_i d sh x g
  unfold K1 at h
  split at h
  ·rename_i v hv
   exact Yl hv h
  ·exact h.elim
 ·exact ⟨h.1, fun g hg => h.2.at_ hg (hs g hg)⟩
 ·exact h.2
 ·exact ⟨h.1, .inl fun g hg => h.2.at_ hg (hs g hg)⟩
 ·unfold K1 at h
  split at h
  ·rename_i v hv
   simp only [awO]
   rw [ET rfl, LC (fun k ob _ => JR) hv]; exact h
  ·exact h.elim
 ·exact Wj hs h.1 h.2
 ·exact DT h fun s' h' => h'.2
 ·exact h
def AOper.sp (o : AOper) : Bool := match o with
 | ⟨_, .load _ _, _⟩ | ⟨_, .alloc _ _, none⟩ | ⟨_, .store _ _ _, none⟩ | ⟨_, .bsl _ _ _, none⟩ | ⟨_, .mget _ _ _ _ _, none⟩ | ⟨_, .app _ _ _ _ _, none⟩ | ⟨_, .call _ _, none⟩ => true
 | _ => false
theorem Mx {gs : List Nat} {sh : BV} {x : Opd} {g : Option (Nat × Bool)} {d : Option Nat} {e e' : AT} {H : A3} (h : ∀ t ∈ (⟨d, .load sh x, g⟩ : AOper).uses, get e t = get e' t) : Uh gs sh x g e H = Uh gs sh x g e' H := by
 have hop : ∀ t ∈ (AOp.load sh x).uses, get e t = get e' t := fun t ht => h t (List.mem_append_left _ ht)
 have hp : pe (.load sh x) e (BQ gs H) = pe (.load sh x) e' (BQ gs H) := Fl hop
 unfold Uh
 split
 ·exact hp
 ·rename_i t want
  have ht : get e t = get e' t := h t (List.mem_append_right _ (by simp))
  rw [ht, hp]
theorem EU {md : Mode} {lo : Nat} {gs : List Nat} {o : AOper} {K : AS → Prop} {s : AS} (h : o.sp = false) : awOM P md lo gs o K s = awO P o K s := by
 unfold awOM
 split
 ·cases h
 ·cases h
 ·cases h
 ·cases h
 ·cases h
 ·cases h
 ·cases h
 ·rfl
theorem HZ {md : Mode} {lo : Nat} {gs : List Nat} {o : AOper} {K K' : AS → Prop} (h : ∀ t ∈ o.uses, get e t = get e' t) (ha : awOM P md lo gs o K ⟨e, n, H⟩) (hk : ∀ r n' H', K ⟨AN e o.dst r, n', H'⟩ → K' ⟨AN e' o.dst r, n', H'⟩) : awOM P md lo gs o K' ⟨e', n, H⟩ := by
 have hop : ∀ t ∈ o.op.uses, get e t = get e' t := fun t ht => h t (List.mem_append_left _ ht)
 unfold awOM at ha ⊢
 split at ha
 ·simp only at ha ⊢
  rw [← Mx h]
  exact K1.mono ha fun v hv => hk _ _ _ hv
 ·exact ⟨ha.1, ha.2.mono fun g n' _ h => hk _ _ _ h⟩
 ·rename_i d sh x v
  simp only at ha ⊢
  rw [← AK (x := x) (e := e) (e' := e') (l := (AOp.store sh x v).uses) (by simp +contextual [AOp.uses]) hop]
  exact ⟨ha.1, Eb hop ha.2 hk⟩
 ·rename_i d t sh xs
  have hb : AP P d (.bsl t sh xs) (fun _ => True) ⟨e, n, H⟩ := ⟨ha.1, .inl fun _ _ => trivial⟩
  have := Eb (K' := fun _ => True) hop hb (fun _ _ _ _ => trivial)
  have hx := DN (xs := xs) (fun _ ht => ht) hop
  refine ⟨this.1, ha.2.mono fun g n' _ h => ?_⟩
  simp only
  rw [← hx]
  exact hk _ _ _ h
 ·rename_i d kk z ok m k
  simp only at ha ⊢
  have hp : pe (.mget kk z ok m k) e (BQ gs H) = pe (.mget kk z ok m k) e' (BQ gs H) := Fl hop
  rw [← hp]
  exact K1.mono ha fun v hv => hk _ _ _ hv
 ·rename_i d t sz b x y
  simp only at ha ⊢
  rw [← AK (x := x) (e := e) (e' := e') (l := (AOp.app t sz b x y).uses) (by simp +contextual [AOp.uses]) hop]
  exact ⟨ha.1, Eb hop ha.2 fun r n' H' h' hm => hk _ _ _ (h' hm)⟩
 ·exact Eb hop ha fun r n' H' h' => ⟨h'.1, hk _ _ _ h'.2⟩
 ·exact Iq h ha hk
theorem EInv.awOM {md : Mode} {lo : Nat} {gs : List Nat} {o : AOper} {K : AS → Prop} (hK : EInv K) : EInv (awOM P md lo gs o K) := fun e e' n H h ha =>
 HZ (fun t _ => h t) ha fun r n' H' hk => hK _ _ _ _ (fun t => by simp only [Af, h]) hk
theorem TT {gs : List Nat} {d : Option Nat} {sh : BV} {x v : Opd} {K : AS → Prop} {s : AS} (hb : UF gs (ev s.e x)) (h : AP P d (.store sh x v) K s) : AP P d (.store sh x v) (fun s' => K s' ∧ BQ gs s'.H = BQ gs s.H) s := by
 simp only [AP] at h ⊢
 generalize ev s.e x = p at h hb ⊢
 unfold Cc at h ⊢
 cases p <;> simp only at h ⊢ <;> first | exact h.elim | skip
 rename_i g o
 split at h
 ·exact ⟨h.1, h.2.1, h.2.2.1, h.2.2.2, Mo hb _ _⟩
 ·exact ⟨h.1, h.2.1, h.2.2.1, h.2.2.2, Mo hb _ _⟩
 ·exact h.elim
structure Drw (P : Program) (W : AOper → (AS → Prop) → AS → Prop) (C : AOper → AOper → Bool) : Prop where
 mono : ∀ {o : AOper} {K K' : AS → Prop} {s : AS}, W o K s → (∀ s, K s → K' s) → W o K' s
 einv : ∀ {o : AOper} {K : AS → Prop}, EInv K → EInv (W o K)
 swap : ∀ {x y : AOper} {K : AS → Prop} {s : AS}, EInv K → Dg x y = true → C x y = true → W x (W y K) s → W y (W x K) s
 down : ∀ {o : AOper} {K : AS → Prop} {s : AS}, (∀ k, s.n ≤ k → s.H k = none) → W o K s → awO P o K s
theorem Vv : Drw P (awO P) fun x y => x.op.cls.comm y.op.cls :=
 ⟨fun h hk => HK h hk, fun hK => EInv.awO hK, fun hK ha hc h => X6 hK ha hc h, fun _ h => h⟩
theorem Jn {x y : AOper} (h : Dg x y = true) : (∀ t ∈ y.uses, ¬ x.dst = some t) ∧ (∀ t ∈ x.uses, ¬ y.dst = some t) ∧ ∀ (e : AT) v r t, get (AN (AN e x.dst v) y.dst r) t = get (AN (AN e y.dst r) x.dst v) t := by
 simp only [Dg, Bool.and_eq_true] at h
 obtain ⟨hap1, hap2⟩ := h
 refine ⟨fun t ht hd => ?_, fun t ht hd => ?_, fun e v r t => ?_⟩
 ·rw [hd] at hap1
  simp only [Bool.and_eq_true, Bool.not_eq_true', List.contains_eq_mem, decide_eq_false_iff_not] at hap1
  exact hap1.1 ht
 ·rw [hd] at hap2
  simp only [Bool.not_eq_true', List.contains_eq_mem, decide_eq_false_iff_not] at hap2
  exact hap2 ht
 ·have u3 : ∀ t, x.dst = some t → ¬ y.dst = some t := by
   intro t hd hd'
   rw [hd, hd'] at hap1
   simp at hap1
  simp only [Af]
  by_cases h1 : x.dst = some t
  ·simp [h1, u3 t h1]
  ·simp [h1]
theorem Vh {md : Mode} {lo : Nat} {gs : List Nat} {x y : AOper} {K : AS → Prop} {s : AS} (hK : EInv K) (hap : Dg x y = true) (hxp : x.op.cls = .pure) (h : awOM P md lo gs x (awOM P md lo gs y K) s) : awOM P md lo gs y (awOM P md lo gs x K) s := by
 obtain ⟨e, n, H⟩ := s
 have hxs : x.sp = false := by
  obtain ⟨d, op, g⟩ := x
  cases op <;> first | rfl | cases hxp
 have hx : x.op.cls ≠ .eff := by rw [hxp]; intro hc; cases hc
 rw [EU hxs] at h
 obtain ⟨v, hv, hy⟩ := (FQ hx).1 h
 obtain ⟨u1, u2, perm⟩ := Jn hap
 refine HZ (e := AN e x.dst v) (fun t ht => by rw [Af, if_neg (u1 t ht)]) hy fun r n' H' hk => ?_
 rw [EU hxs]
 exact (FQ hx).2 ⟨v, Ez (fun t ht => by rw [Af, if_neg (u2 t ht)]) (.inl hxp) hv, hK _ _ _ _ (perm e v r) hk⟩
structure Looks (P : Program) (md : Mode) (lo : Nat) (gs : List Nat) (x : AOper) (val : AT → A3 → Option AV) : Prop where
 eq : ∀ (K : AS → Prop) (e : AT) (n : Nat) (H : A3), awOM P md lo gs x K ⟨e, n, H⟩ = K1 (val e H) fun v => K ⟨AN e x.dst v, n, H⟩
 congr : ∀ (e e' : AT) (H : A3), (∀ t ∈ x.uses, get e t = get e' t) → val e H = val e' H
 le : ∀ (e : AT) (H H' : A3) (v : AV), KeepM gs H H' → val e H = some v → val e H' = some v
theorem Ee {md : Mode} {lo : Nat} {gs : List Nat} {d : Option Nat} {sh : BV} {p : Opd} {g : Option (Nat × Bool)} : Looks P md lo gs ⟨d, .load sh p, g⟩ (Uh gs sh p g) :=
 ⟨fun _ _ _ _ => rfl, fun _ _ _ h => Mx h, fun _ _ _ _ hk h => A0f hk h⟩
theorem EX {md : Mode} {lo : Nat} {gs : List Nat} {d : Option Nat} {kk : Option IntKind} {z : AV} {ok : Bool} {m k : Opd} : Looks P md lo gs ⟨d, .mget kk z ok m k, none⟩ (fun e H => pe (.mget kk z ok m k) e (BQ gs H)) :=
 ⟨fun _ _ _ _ => rfl, fun e e' H h => Fl fun t ht => h t (List.mem_append_left _ ht), fun _ _ _ _ hk h => LC hk h⟩
theorem Ci {md : Mode} {lo : Nat} {gs : List Nat} {x y : AOper} {val : AT → A3 → Option AV} {K : AS → Prop} {s : AS} (hx : Looks P md lo gs x val) (hK : EInv K) (hap : Dg x y = true)
  (hy : ∀ {K : AS → Prop} {e : AT} {n : Nat} {H : A3}, awOM P md lo gs y K ⟨e, n, H⟩ → awOM P md lo gs y (fun s' => K s' ∧ KeepM gs H s'.H) ⟨e, n, H⟩) (h : awOM P md lo gs x (awOM P md lo gs y K) s) : awOM P md lo gs y (awOM P md lo gs x K) s := by
 obtain ⟨e, n, H⟩ := s
 obtain ⟨u1, u2, perm⟩ := Jn hap
 rw [hx.eq] at h
 unfold K1 at h
 split at h
 ·rename_i v hv
  refine HZ (e := AN e x.dst v) (fun t ht => by rw [Af, if_neg (u1 t ht)]) (hy h) fun r n' H' hk => ?_
  rw [hx.eq, ← hx.congr e _ H' (fun t ht => by rw [Af, if_neg (u2 t ht)]), hx.le e H H' v hk.2 hv]
  exact hK _ _ _ _ (perm e v r) hk.1
 ·exact h.elim
theorem Uu {md : Mode} {lo : Nat} {gs : List Nat} {y : AOper} {K : AS → Prop} {e : AT} {n : Nat} {H : A3} (hy : y.op.cls ≠ .eff) (h : awOM P md lo gs y K ⟨e, n, H⟩) : awOM P md lo gs y (fun s' => K s' ∧ s'.H = H) ⟨e, n, H⟩ := by
 unfold awOM at h ⊢
 split at h
 ·exact K1.mono h fun v hv => ⟨hv, rfl⟩
 ·exact absurd rfl hy
 ·exact absurd rfl hy
 ·exact absurd rfl hy
 ·exact K1.mono h fun v hv => ⟨hv, rfl⟩
 ·exact absurd rfl hy
 ·exact absurd rfl hy
 ·obtain ⟨v, h1, h2⟩ := (FQ hy).1 h
  exact (FQ hy).2 ⟨v, h1, h2, rfl⟩
theorem Z9 {md : Mode} {lo : Nat} {gs : List Nat} {x y : AOper} {K : AS → Prop} {s : AS} (hK : EInv K) (hap : Dg x y = true) (hxs : x.sp = false) (hx : x.op.cls ≠ .eff) (hyd : y.op.cls ≠ .eff) (h : awOM P md lo gs x (awOM P md lo gs y K) s) : awOM P md lo gs y (awOM P md lo gs x K) s := by
 obtain ⟨e, n, H⟩ := s
 rw [EU hxs] at h
 obtain ⟨v, hv, hy⟩ := (FQ hx).1 h
 obtain ⟨u1, u2, perm⟩ := Jn hap
 refine HZ (e := AN e x.dst v) (fun t ht => by rw [Af, if_neg (u1 t ht)]) (Uu hyd hy) fun r n' H' hk => ?_
 rw [EU hxs]
 have hH : H' = H := hk.2
 exact (FQ hx).2 ⟨v, Ez (fun t ht => by rw [Af, if_neg (u2 t ht)]) (.inr hH.symm) hv, hK _ _ _ _ (perm e v r) hk.1⟩
theorem Yw {md : Mode} {lo : Nat} {gs : List Nat} {y : AOper} (h : y.sp = true) (hc : y.op.cls = .rd) : ∃ val, Looks P md lo gs y val := by
 unfold AOper.sp at h
 split at h
 ·exact ⟨_, Ee⟩
 ·cases hc
 ·cases hc
 ·cases hc
 ·exact ⟨_, EX⟩
 ·cases hc
 ·cases hc
 ·cases h
theorem Ka {md : Mode} {lo : Nat} {gs : List Nat} {d : Option Nat} {t : TypeId} {z : List AV} {K : AS → Prop} {e : AT} {n : Nat} {H : A3} (h : awOM P md lo gs ⟨d, .alloc t z, none⟩ K ⟨e, n, H⟩) : awOM P md lo gs ⟨d, .alloc t z, none⟩ (fun s' => K s' ∧ KeepM gs H s'.H) ⟨e, n, H⟩ :=
 ⟨h.1, h.2.mono fun g n' hn h => ⟨h, KeepM.new hn⟩⟩
theorem Mz {md : Mode} {lo : Nat} {gs : List Nat} {d : Option Nat} {t : TypeId} {sh : BV} {xs : List Opd} {K : AS → Prop} {e : AT} {n : Nat} {H : A3} (h : awOM P md lo gs ⟨d, .bsl t sh xs, none⟩ K ⟨e, n, H⟩) : awOM P md lo gs ⟨d, .bsl t sh xs, none⟩ (fun s' => K s' ∧ KeepM gs H s'.H) ⟨e, n, H⟩ :=
 ⟨h.1, h.2.mono fun g n' hn h => ⟨h, KeepM.new hn⟩⟩
theorem KZ {lo : Nat} {gs : List Nat} {d : Option Nat} {sh : BV} {x v : Opd} {K : AS → Prop} {e : AT} {n : Nat} {H : A3} (h : awOM P .late lo gs ⟨d, .store sh x v, none⟩ K ⟨e, n, H⟩) : awOM P .late lo gs ⟨d, .store sh x v, none⟩ (fun s' => K s' ∧ KeepM gs H s'.H) ⟨e, n, H⟩ :=
 ⟨h.1, DT (TT h.1 h.2) fun s' h' => ⟨h'.1, fun k ob _ hk => by rw [h'.2]; exact hk⟩⟩
theorem Ms {md : Mode} {lo : Nat} {gs : List Nat} {d : Option Nat} {t sz b : Nat} {x y : Opd} {K : AS → Prop} {e : AT} {n : Nat} {H : A3} (h : awOM P md lo gs ⟨d, .app t sz b x y, none⟩ K ⟨e, n, H⟩) : awOM P md lo gs ⟨d, .app t sz b x y, none⟩ (fun s' => K s' ∧ KeepM gs H s'.H) ⟨e, n, H⟩ :=
 ⟨h.1, DT h.2 fun s' h' hm => ⟨h' hm, hm⟩⟩
theorem L7 {md : Mode} {lo : Nat} {gs : List Nat} {d : Option Nat} {f : Nat} {xs : List Opd} {K : AS → Prop} {e : AT} {n : Nat} {H : A3} (h : awOM P md lo gs ⟨d, .call f xs, none⟩ K ⟨e, n, H⟩) : awOM P md lo gs ⟨d, .call f xs, none⟩ (fun s' => K s' ∧ KeepM gs H s'.H) ⟨e, n, H⟩ := by
 have h1 : AP P d (.call f xs) (KC gs H K) ⟨e, n, H⟩ := h
 show AP P d (.call f xs) (KC gs H fun s' => K s' ∧ KeepM gs H s'.H) ⟨e, n, H⟩
 exact DT h1 fun s' h' => ⟨h'.1, h'.2, h'.1⟩
theorem Qu {md : Mode} {lo : Nat} {gs : List Nat} {d : Option Nat} {sh : BV} {p v : Opd} {y : AOper} {K : AS → Prop} {s : AS} (hK : EInv K) (hap : Dg ⟨d, .store sh p v, none⟩ y = true) (hyp : y.op.cls = .pure) (h : awOM P md lo gs ⟨d, .store sh p v, none⟩ (awOM P md lo gs y K) s) : awOM P md lo gs y (awOM P md lo gs ⟨d, .store sh p v, none⟩ K) s := by
 obtain ⟨e, n, H⟩ := s
 have hys : y.sp = false := by
  obtain ⟨d, op, g⟩ := y
  cases op <;> first | rfl | cases hyp
 have hy : y.op.cls ≠ .eff := by rw [hyp]; intro hc; cases hc
 obtain ⟨u1, u2, perm⟩ := Jn hap
 obtain ⟨hb, h⟩ := h
 simp only [AP] at h
 generalize hvv : ev e v = vv at h
 generalize hpp : ev e p = pp at h hb
 have key : ∀ (ob : AObj) (g : Nat), awOM P md lo gs y K ⟨AN e d .any, n, upd H g (some ob)⟩ → ∃ u, DVo P y e H u ∧ K ⟨AN (AN e y.dst u) d .any, n, upd H g (some ob)⟩ := fun ob g hk => by
  rw [EU hys] at hk
  obtain ⟨u, hu, hk⟩ := (FQ hy).1 hk
  exact ⟨u, Ez (fun t ht => by rw [Af, if_neg (u1 t ht)]) (.inl hyp) hu, hK _ _ _ _ (fun t => (perm e .any u t)) hk⟩
 have hv' : ∀ u, ev (AN e y.dst u) v = vv := fun u => by
  rw [← hvv]; exact (AK (l := (AOp.store sh p v).uses) (by simp +contextual [AOp.uses]) fun t ht => by rw [Af, if_neg (u2 t (List.mem_append_left _ ht))])
 have hp' : ∀ u, ev (AN e y.dst u) p = pp := fun u => by
  rw [← hpp]; exact (AK (l := (AOp.store sh p v).uses) (by simp +contextual [AOp.uses]) fun t ht => by rw [Af, if_neg (u2 t (List.mem_append_left _ ht))])
 rw [EU hys]
 unfold Cc at h
 split at h
 ·rename_i g o
  split at h
  ·rename_i et cs hg
   obtain ⟨u, hu, hk⟩ := key _ _ h.2.2.2
   refine (FQ hy).2 ⟨u, hu, ?_⟩
   refine ⟨by rw [hp' u]; exact hb, ?_⟩
   simp only [AP, hv' u, hp' u, Cc]
   simp only at hg
   rw [hg]
   exact ⟨h.1, h.2.1, h.2.2.1, hk⟩
  ·rename_i et cs hg
   obtain ⟨u, hu, hk⟩ := key _ _ h.2.2.2
   refine (FQ hy).2 ⟨u, hu, ?_⟩
   refine ⟨by rw [hp' u]; exact hb, ?_⟩
   simp only [AP, hv' u, hp' u, Cc]
   simp only at hg
   rw [hg]
   exact ⟨h.1, h.2.1, h.2.2.1, hk⟩
  ·exact h.elim
 ·exact h.elim
theorem RR {H : A3} {g g' : Nat} {a b : Option AObj} (h : g ≠ g') : upd (upd H g a) g' b = upd (upd H g' b) g a := by
 funext k
 simp only [upd]
 by_cases h1 : k = g
 ·subst h1; simp [h]
 ·simp [h1]
theorem M6 {sh : BV} {d : Option Nat} {K : AS → Prop} {e : AT} {n : Nat} {H : A3} {v x : AV} (h : Cc sh d K ⟨e, n, H⟩ v x) : ∃ g o ob ob', x = .ptr g o ∧ H g = some ob ∧ K ⟨AN e d .any, n, upd H g (some ob')⟩ ∧ ∀ (K' : AS → Prop) (e' : AT) (H' : A3), H' g = some ob → K' ⟨AN e' d .any, n, upd H' g (some ob')⟩ → Cc sh d K' ⟨e', n, H'⟩ v x := by
 unfold Cc at h
 split at h
 ·rename_i g o
  split at h
  ·rename_i et cs hg
   refine ⟨g, o, _, _, rfl, hg, h.2.2.2, fun K' e' H' hg' hk => ?_⟩
   simp only [Cc, hg']
   exact ⟨h.1, h.2.1, h.2.2.1, hk⟩
  ·rename_i et cs hg
   refine ⟨g, o, _, _, rfl, hg, h.2.2.2, fun K' e' H' hg' hk => ?_⟩
   simp only [Cc, hg']
   exact ⟨h.1, h.2.1, h.2.2.1, hk⟩
  ·exact h.elim
 ·exact h.elim
theorem TA {q lo : Nat} {gs : List Nat} {d d' : Option Nat} {sh sh' : BV} {i j : Nat} {v v' : Opd} {K : AS → Prop} {s : AS} (hK : EInv K) (hap : Dg ⟨d, .store sh (.t i) v, none⟩ ⟨d', .store sh' (.t j) v', none⟩ = true) (hi : i ≠ q) (hj : j = q)
  (h : awOM P (.last q) lo gs ⟨d, .store sh (.t i) v, none⟩ (awOM P (.last q) lo gs ⟨d', .store sh' (.t j) v', none⟩ K) s) : awOM P (.last q) lo gs ⟨d', .store sh' (.t j) v', none⟩ (awOM P (.last q) lo gs ⟨d, .store sh (.t i) v, none⟩ K) s := by
 obtain ⟨e, n, H⟩ := s
 obtain ⟨u1, u2, perm⟩ := Jn hap
 have c1 : ∀ (x : Opd), (∀ t ∈ x.use, t ∈ (AOp.store sh' (.t j) v').uses) → ev (AN e d .any) x = ev e x := fun x hx =>
  (AK (l := x.use) (fun _ h => h) fun t ht => by rw [Af, if_neg (u1 t (List.mem_append_left _ (hx t ht)))]).symm
 have c2 : ∀ (x : Opd), (∀ t ∈ x.use, t ∈ (AOp.store sh (.t i) v).uses) → ev (AN e d' .any) x = ev e x := fun x hx =>
  (AK (l := x.use) (fun _ h => h) fun t ht => by rw [Af, if_neg (u2 t (List.mem_append_left _ (hx t ht)))]).symm
 obtain ⟨hb, h⟩ := h
 obtain ⟨g, o, ob, ob', e1, e2, ⟨hb2, h2⟩, e3⟩ := M6 h
 have a1 : ev (AN e d .any) (.t j) = ev e (.t j) := c1 (.t j) (by simp +contextual [AOp.uses])
 have a2 : ev (AN e d .any) v' = ev e v' := c1 v' (by simp +contextual [AOp.uses])
 have b1 : ev (AN e d' .any) (.t i) = ev e (.t i) := c2 (.t i) (by simp +contextual [AOp.uses])
 have b2 : ev (AN e d' .any) v = ev e v := c2 v (by simp +contextual [AOp.uses])
 simp only [AP, a1, a2] at h2
 obtain ⟨g', o', oc, oc', f1, f2, f4, f3⟩ := M6 h2
 simp only [a1] at hb2
 have hin : g' < lo ∧ g' ∉ gs := by have := hb2.1 hj; rw [f1] at this; exact this
 have hout : lo ≤ g ∨ g ∈ gs := by have := hb.2 hi; simp only at this; rw [e1] at this; exact this
 have hne : g ≠ g' := fun e => by
  subst e
  rcases hout with h | h
  ·exact absurd hin.1 (by omega)
  ·exact hin.2 h
 simp only [upd, if_neg (Ne.symm hne)] at f2
 refine ⟨hb2, f3 _ _ _ f2 ⟨?_, ?_⟩⟩
 ·simp only [b1]; exact hb
 ·simp only [AP, b1, b2]
  refine e3 _ _ _ (by simp only [upd, if_neg hne]; exact e2) ?_
  rw [RR (Ne.symm hne)]
  exact hK _ _ _ _ (fun t => perm e .any .any t) f4
structure Makes (P : Program) (lo : Nat) (gs : List Nat) (x : AOper) (c : AT → Prop) (w : AT → Nat → AV) (ob : AObj) : Prop where
 eq : ∀ (K : AS → Prop) (e : AT) (n : Nat) (H : A3), awOM P .free lo gs x K ⟨e, n, H⟩ ↔ (c e ∧ lo ≤ n ∧ (∃ g, lo ≤ g ∧ H g = none) ∧ ∀ g n', lo ≤ g → H g = none → n ≤ n' → g < n' → K ⟨AN e x.dst (w e g), n', upd H g (some ob)⟩)
 congr : ∀ (e e' : AT), (∀ t ∈ x.uses, get e t = get e' t) → c e = c e' ∧ w e = w e'
theorem FT {lo : Nat} {gs : List Nat} {d : Option Nat} {t : TypeId} {z : List AV} : Makes P lo gs ⟨d, .alloc t z, none⟩ (fun _ => ones z) (fun _ g => .ptr g 0) (.cells t z) :=
 ⟨fun _ _ _ _ => Iff.rfl, fun _ _ _ => ⟨rfl, rfl⟩⟩
theorem Hf {lo : Nat} {gs : List Nat} {d : Option Nat} {t : TypeId} {sh : BV} {xs : List Opd} : Makes P lo gs ⟨d, .bsl t sh xs, none⟩ (fun e => ∀ x ∈ xs, (ev e x).fits sh = true ∧ ones (ev e x).cells) (fun e g => .sl (Bq sh) (xs.map (ev e)) (.own g)) (.row t xs.length) :=
 ⟨fun _ _ _ _ => Iff.rfl, fun e e' h => by
  have hop : ∀ t' ∈ (AOp.bsl t sh xs).uses, get e t' = get e' t' := fun t ht => h t (List.mem_append_left _ ht)
  have hx := DN (xs := xs) (fun _ ht => ht) hop
  refine ⟨?_, by funext g; rw [hx]⟩
  have e1 : ∀ e : AT, (∀ x ∈ xs, (ev e x).fits sh = true ∧ ones (ev e x).cells) = ∀ y ∈ xs.map (ev e), y.fits sh = true ∧ ones y.cells := fun e => by simp
  rw [e1, e1, hx]⟩
theorem JF {lo : Nat} {gs : List Nat} {x y : AOper} {cx cy : AT → Prop} {wx wy : AT → Nat → AV} {ox oy : AObj} {K : AS → Prop} {s : AS} (hx : Makes P lo gs x cx wx ox) (hy : Makes P lo gs y cy wy oy) (hK : EInv K) (hap : Dg x y = true) (h : awOM P .free lo gs x (awOM P .free lo gs y K) s) : awOM P .free lo gs y (awOM P .free lo gs x K) s := by
 obtain ⟨e, n, H⟩ := s
 obtain ⟨u1, u2, perm⟩ := Jn hap
 obtain ⟨h1, hlo, hex, h2⟩ := (hx.eq _ _ _ _).1 h
 have ay : ∀ r, cy (AN e x.dst r) = cy e ∧ wy (AN e x.dst r) = wy e := fun r => hy.congr _ _ fun t ht => by rw [Af, if_neg (u1 t ht)]
 have ax : ∀ r, cx (AN e y.dst r) = cx e ∧ wx (AN e y.dst r) = wx e := fun r => hx.congr _ _ fun t ht => by rw [Af, if_neg (u2 t ht)]
 refine (hy.eq _ _ _ _).2 ⟨?_, hlo, hex, fun g2 n2 k1 k2 k3 k4 => (hx.eq _ _ _ _).2 ⟨by rw [(ax _).1]; exact h1, by omega, ?_, fun g1 n1 j1 j2 j3 j4 => ?_⟩⟩
 ·obtain ⟨g, a1, a2⟩ := hex
  have := ((hy.eq _ _ _ _).1 (h2 g (max n (g + 1)) a1 a2 (by omega) (by omega))).1
  rw [(ay _).1] at this; exact this
 ·obtain ⟨_, _, ⟨g, a1, a2⟩, _⟩ := (hy.eq _ _ _ _).1 (h2 g2 n2 k1 k2 k3 k4)
  have hne : g ≠ g2 := fun e => by rw [e] at a2; simp [upd] at a2
  exact ⟨g, a1, by simp only [upd, if_neg hne] at a2 ⊢; exact a2⟩
 ·have hne : g1 ≠ g2 := fun e => by rw [e] at j2; simp [upd] at j2
  simp only [upd, if_neg hne] at j2
  obtain ⟨_, _, _, h3⟩ := (hy.eq _ _ _ _).1 (h2 g1 n1 j1 j2 (by omega) j4)
  have := h3 g2 n1 k1 (by simp only [upd, if_neg (Ne.symm hne)]; exact k2) (Nat.le_refl _) (by omega)
  rw [(ay _).2, RR hne] at this
  rw [(ax _).2]
  exact hK _ _ _ _ (fun t => perm e _ _ t) this
theorem Vo {op : AOp} (h : op.pureC = true) : op.cls = .pure := by
 unfold AOp.pureC at h
 split at h
 ·assumption
 ·cases h
theorem WQ (gs : List Nat) (md : Mode) (lo : Nat) : Drw P (awOM P md lo gs) fun x y => x.op.cls.comm y.op.cls || x.late md y := by
 refine ⟨fun h hk => K2 h hk, fun hK => EInv.awOM hK, fun {x y K s} hK ha hc h => ?_, fun hs h => Vk hs h⟩
 simp only [Bool.or_eq_true] at hc
 rcases hc with hc | hc
 ·cases hxc : x.op.cls with
  | pure => exact Vh hK ha hxc h
  | eff => rw [hxc] at hc; cases hyc : y.op.cls <;> rw [hyc] at hc <;> cases hc
  | rd =>
   have hyd : y.op.cls ≠ .eff := by intro hyc; rw [hxc, hyc] at hc; cases hc
   by_cases hxs : x.sp = true
   ·obtain ⟨val, hl⟩ := Yw (P := P) (md := md) (lo := lo) (gs := gs) hxs hxc
    exact Ci hl hK ha (fun h => K2 (Uu hyd h) fun s' h' => ⟨h'.1, fun k ob _ hk => by rw [h'.2]; exact hk⟩) h
   ·exact Z9 hK ha (by simpa using hxs) (by rw [hxc]; intro h; cases h) hyd h
 ·unfold AOper.late at hc
  split at hc
  ·exact Ci Ee hK ha Ka h
  ·cases md <;> first | exact Ci Ee hK ha KZ h | cases hc
  ·exact Ci Ee hK ha Mz h
  ·exact Ci Ee hK ha Ms h
  ·exact Ci Ee hK ha L7 h
  ·exact Ci EX hK ha Ka h
  ·cases md <;> first | exact Ci EX hK ha KZ h | cases hc
  ·exact Ci EX hK ha Mz h
  ·exact Ci EX hK ha Ms h
  ·exact Ci EX hK ha L7 h
  ·cases md <;> first | cases hc | skip
   simp only [Bool.and_eq_true, bne_iff_ne, ne_eq, beq_iff_eq] at hc
   exact TA hK ha hc.1 hc.2 h
  ·cases md <;> first | exact JF FT FT hK ha h | cases hc
  ·cases md <;> first | exact JF FT Hf hK ha h | cases hc
  ·cases md <;> first | exact JF Hf FT hK ha h | cases hc
  ·cases md <;> first | exact JF Hf Hf hK ha h | cases hc
  ·exact Qu hK ha (Vo hc) h
  ·cases hc
def JM (W : AOper → (AS → Prop) → AS → Prop) : List AOper → (AS → Prop) → AS → Prop
 | [], K, s => K s
 | o :: os, K, s => W o (JM W os K) s
theorem TE {os : List AOper} {K : AS → Prop} : ∀ {s : AS}, JM (awO P) os K s = awOps P os K s := by
 induction os with
 | nil => intro s; rfl
 | cons o os ih =>
  intro s
  have : JM (awO P) os K = awOps P os K := funext fun s => ih
  show awO P o (JM (awO P) os K) s = _
  rw [this]; rfl
theorem V1 {md : Mode} {lo : Nat} {gs : List Nat} {os : List AOper} {K : AS → Prop} : ∀ {s : AS}, JM (awOM P md lo gs) os K s = A9 P md lo gs os K s := by
 induction os with
 | nil => intro s; rfl
 | cons o os ih =>
  intro s
  have : JM (awOM P md lo gs) os K = A9 P md lo gs os K := funext fun s => ih
  show awOM P md lo gs o (JM (awOM P md lo gs) os K) s = _
  rw [this]; rfl
section
variable {W : AOper → (AS → Prop) → AS → Prop} {C : AOper → AOper → Bool}
theorem VY (hD : Drw P W C) {os : List AOper} {K : AS → Prop} (hK : EInv K) : EInv (JM W os K) := by
 induction os with
 | nil => exact hK
 | cons o os ih => exact hD.einv ih
theorem Sv (hD : Drw P W C) {y : AOper} {xs zs : List AOper} {K : AS → Prop} {s : AS} (hK : EInv K) (hsw : ∀ x ∈ xs, Dg x y = true ∧ C x y = true) (h : JM W (xs ++ y :: zs) K s) : W y (JM W (xs ++ zs) K) s := by
 induction xs generalizing s with
 | nil => exact h
 | cons x xs ih =>
  have h1 := hsw x List.mem_cons_self
  have h2 : W x (W y (JM W (xs ++ zs) K)) s := hD.mono h fun s' hs' => ih (fun z hz => hsw z (List.mem_cons_of_mem _ hz)) hs'
  exact hD.swap (VY hD hK) h1.1 h1.2 h2
end
end
open Go.RowKit
section
variable {P : Program} {w w' w0 : World} {G G' : Gh} {nt : Nat} {s : AS} {a : Act} {ops : Array Oper} {ef : List Nat} {Q : Exit → Act → World → Prop}
theorem After.weak {K : AS → Prop} (hl : G.Le G') (h : After P w0 nt G' K a w) : After P w0 nt G K a w := by
 obtain ⟨G1, s1, h1, h2, h3⟩ := h
 exact ⟨G1, s1, h1, hl.tr h2, h3⟩
theorem RelS.env {e e' : AT} {n : Nat} {H : A3} (h : RelS P w0 nt G ⟨e, n, H⟩ a w) (he : ∀ t, get e' t = .any ∨ get e' t = get e t) : RelS P w0 nt G ⟨e', n, H⟩ a w :=
 ⟨h.r0, h.sz, h.df, h.ld, fun t => by rcases he t with h1 | h1 <;> rw [h1]; exact .any; exact h.tm t⟩
theorem UL {o : Oper} {ao : AOper} {K : AS → Prop} {i : Nat} {K' : Act → World → Prop} (hi : ops[i]? = some o) (hc : IA P ef ops nt o = some ao) (hr : RelS P w0 nt G s a w) (h : awO P ao K s) (hk : ∀ a' w', After P w0 nt G K a' w' → K' a' w') :
  wpOp P ops Q i K' a w := by
 unfold IA at hc
 split at hc
 ·rename_i op hop
  split at hc
  ·rename_i hd
   have hd' : ∀ t, o.dst = some t → t < nt := fun t ht => by rw [ht] at hd; simpa [Zo] using hd
   unfold wpOp
   simp only [hi]
   split at hc
   ·rename_i hg
    injection hc with hc; subst hc
    have hw : Region.wanted o (yielded ops a.tmps) = true := by simp [Region.wanted, hg]
    rw [if_pos hw]
    simp only [awO] at h
    exact .inl (Oper.wp_mono (fun a w => hk a w) (SM hop hd' hr h))
   ·rename_i j want hg
    split at hc
    ·rename_i t ht
     injection hc with hc; subst hc
     simp only [awO] at h
     split at h
     ·rename_i b hb
      have hrt := hr.tm t
      rw [hb] at hrt
      have hval : a.tmps.getD t undef = .bool b := by generalize a.tmps.getD t undef = v at hrt; cases hrt; rfl
      have hy : yielded ops a.tmps j = some b := by
       simp only [yielded, ht, Option.bind_some]
       cases hx : a.tmps[t]? with
       | none => rw [Array.getD_eq_getD_getElem?, hx] at hval; cases hval
       | some v => rw [Array.getD_eq_getD_getElem?, hx] at hval; simp only [Option.getD_some] at hval; rw [hval]
      have hw : Region.wanted o (yielded ops a.tmps) = decide (b = want) := by
       simp only [Region.wanted, hg, hy]
       cases b <;> cases want <;> rfl
      by_cases hbw : b = want
      ·rw [if_pos (by rw [hw]; simpa using hbw)]
       exact .inl (Oper.wp_mono (fun a w => hk a w) (SM hop hd' hr (h.1 hbw)))
      ·rw [if_neg (by rw [hw]; simpa using hbw)]
       exact hk _ _ ⟨G, _, h.2 hbw, Gh.Le.rfl_ G, hr.put hd' (Gh.Le.rfl_ G) hr.r0 .und⟩
     ·rename_i hb
      have hrt := hr.tm t
      rw [hb] at hrt
      have hval : a.tmps.getD t undef = undef := by generalize a.tmps.getD t undef = v at hrt; cases hrt; rfl
      have hy : yielded ops a.tmps j = none := by
       simp only [yielded, ht, Option.bind_some]
       cases hx : a.tmps[t]? with
       | none => rfl
       | some v => rw [Array.getD_eq_getD_getElem?, hx] at hval; simp only [Option.getD_some] at hval; rw [hval]; rfl
      have hw : Region.wanted o (yielded ops a.tmps) = false := by
       simp only [Region.wanted, hg, hy]
       rfl
      rw [if_neg (by rw [hw]; simp)]
      exact hk _ _ ⟨G, _, h, Gh.Le.rfl_ G, hr.put hd' (Gh.Le.rfl_ G) hr.r0 .und⟩
     ·exact h.elim
    ·cases hc
  ·cases hc
 ·injection hc with hc; subst hc
  exact h.elim
theorem Hd : ∀ {os : List Oper} {aos : List AOper} {i : Nat} {o : Oper}, ED P ef ops nt os = some aos → os[i]? = some o → ∃ ao, aos[i]? = some ao ∧ IA P ef ops nt o = some ao
 | [], _, i, o, _, h => by simp at h
 | x :: os, aos, i, o, hc, h => by
  simp only [ED] at hc
  split at hc
  ·rename_i y ys h1 h2
   injection hc with hc; subst hc
   cases i with
   | zero => simp at h; subst h; exact ⟨y, rfl, h1⟩
   | succ i => obtain ⟨ao, e1, e2⟩ := Hd h2 (by simpa using h); exact ⟨ao, by simpa using e1, e2⟩
  ·cases hc
theorem II : ∀ {os : List Oper} {aos : List AOper}, ED P ef ops nt os = some aos → aos.length = os.length
 | [], _, h => by simp [ED] at h; subst h; rfl
 | x :: os, aos, hc => by
  simp only [ED] at hc
  split at hc
  ·rename_i y ys h1 h2
   injection hc with hc; subst hc
   simp [II h2]
  ·cases hc
def WL (aos : List AOper) (i : Nat) : AOper := aos.getD i ⟨none, .clen 0, none⟩
theorem I0 (aos : List AOper) : (List.range aos.length).map (WL aos) = aos := by
 apply List.ext_getElem?
 intro i
 by_cases hi : i < aos.length
 ·simp [WL, hi, List.getD]
 ·simp [hi]
theorem N1 {aos : List AOper} {K : AS → Prop} (hc : ED P ef ops nt ops.toList = some aos) : ∀ (l : List Nat) {G : Gh} {s : AS} {a : Act} {w : World}, (∀ i ∈ l, i < ops.size) → RelS P w0 nt G s a w → awOps P (l.map (WL aos)) K s → (∀ a' w', After P w0 nt G K a' w' → Q .normal a' w') → wpOps P ops Q l a w
 | [], G, s, a, w, _, hr, h, hq => hq a w ⟨G, s, h, Gh.Le.rfl_ G, hr⟩
 | i :: l, G, s, a, w, hl, hr, h, hq => by
  have hi : i < ops.size := hl i List.mem_cons_self
  obtain ⟨ao, e1, e2⟩ := Hd hc (i := i) (o := ops[i]) (by simp [hi])
  have hat : WL aos i = ao := by simp [WL, List.getD, e1]
  rw [wpOps_cons]
  simp only [List.map_cons, hat] at h
  refine UL (by simp [hi]) e2 hr h fun a' w' ⟨G1, s1, h1, h2, h3⟩ => ?_
  exact N1 hc l (fun j hj => hl j (List.mem_cons_of_mem _ hj)) h3 h1 fun a2 w2 h4 => hq a2 w2 (h4.weak h2)
end
/-! ### the order that is drawn -/
def Ku (acc : Array Nat) (o : Oper) : Array Nat := acc.push (o.after.foldl (fun s e => if Region.binds .any e then s ||| 2 ^ e.on ||| acc.getD e.on 0 else s) 0)
theorem V5 (ops : Array Oper) : Region.before ops = ops.toList.foldl Ku #[] := by
 simp only [Region.before, Array.foldl_toList]; rfl
theorem SS (acc : Array Nat) (k : Nat) : ∀ (es : List Edge) (s0 : Nat), (es.foldl (fun s e => if Region.binds .any e then s ||| 2 ^ e.on ||| acc.getD e.on 0 else s) s0).testBit k = true → s0.testBit k = true ∨ ∃ e ∈ es, Region.binds .any e = true ∧ (e.on = k ∨ (acc.getD e.on 0).testBit k = true)
 | [], s0, h => .inl h
 | e :: es, s0, h => by
  rw [List.foldl_cons] at h
  rcases SS acc k es _ h with h1 | ⟨e', he, hb, h2⟩
  ·split at h1
   ·rename_i hb
    simp only [Nat.testBit_or, Bool.or_eq_true, Nat.testBit_two_pow, decide_eq_true_eq] at h1
    rcases h1 with (h1 | h1) | h1
    ·exact .inl h1
    ·exact .inr ⟨e, List.mem_cons_self, hb, .inl h1⟩
    ·exact .inr ⟨e, List.mem_cons_self, hb, .inr h1⟩
   ·exact .inl h1
  ·exact .inr ⟨e', List.mem_cons_of_mem _ he, hb, h2⟩
theorem N6 : ∀ (l : List Oper) (acc : Array Nat), (l.foldl Ku acc).size = acc.size + l.length ∧ (∀ j, j < acc.size → (l.foldl Ku acc).getD j 0 = acc.getD j 0) ∧
  ∀ i o k, l[i]? = some o → ((l.foldl Ku acc).getD (acc.size + i) 0).testBit k = true → ∃ e ∈ o.after, Region.binds .any e = true ∧ (e.on = k ∨ ((l.foldl Ku acc).getD e.on 0).testBit k = true)
 | [], acc => ⟨by simp, fun _ _ => rfl, fun i o k h => by simp at h⟩
 | x :: l, acc => by
  obtain ⟨h1, h2, h3⟩ := N6 l (Ku acc x)
  have hs : (Ku acc x).size = acc.size + 1 := by simp [Ku]
  have hold : ∀ j, j < acc.size → (Ku acc x).getD j 0 = acc.getD j 0 := fun j hj => by
   simp [Ku, Array.getD_eq_getD_getElem?, Array.getElem?_push, Nat.ne_of_lt hj]
  refine ⟨by rw [List.foldl_cons, h1, hs]; simp; omega, fun j hj => by rw [List.foldl_cons, h2 j (by omega), hold j hj], fun i o k hi hb => ?_⟩
  rw [List.foldl_cons] at hb ⊢
  cases i with
  | zero =>
   simp at hi; subst hi
   rw [Nat.add_zero, h2 acc.size (by omega)] at hb
   have hnew : (Ku acc x).getD acc.size 0 = x.after.foldl (fun s e => if Region.binds .any e then s ||| 2 ^ e.on ||| acc.getD e.on 0 else s) 0 := by
    simp [Ku, Array.getD_eq_getD_getElem?]
   rw [hnew, ← Array.foldl_toList] at hb
   rcases SS acc k _ _ hb with h4 | ⟨e, he, hb2, h4⟩
   ·simp at h4
   ·refine ⟨e, by simpa using he, hb2, ?_⟩
    rcases h4 with h4 | h4
    ·exact .inl h4
    ·right
     have hlt : e.on < acc.size := by
      rcases Nat.lt_or_ge e.on acc.size with h5 | h5
      ·exact h5
      ·simp [Array.getD_eq_getD_getElem?, Array.getElem?_eq_none h5] at h4
     rw [h2 e.on (by omega), hold e.on hlt]; exact h4
  | succ i =>
   have := h3 i o k (by simpa using hi) (by rw [hs, show acc.size + 1 + i = acc.size + (i + 1) by omega]; exact hb)
   exact this
theorem Rg {ops : Array Oper} {j k : Nat} {o : Oper} (ho : ops[j]? = some o) (h : ((Region.before ops).getD j 0).testBit k = true) : ∃ e ∈ o.after, Region.binds .any e = true ∧ (e.on = k ∨ ((Region.before ops).getD e.on 0).testBit k = true) := by
 have h3 := (N6 ops.toList #[]).2.2 j o k (by simpa using ho)
 rw [V5] at h ⊢
 exact h3 (by simpa using h)
section
variable {P : Program} {w w' w0 : World} {nt : Nat} {ops : Array Oper} {ef : List Nat} {Q : Exit → Act → World → Prop}
structure OrdOk (P : Program) (ef : List Nat) (ops : Array Oper) (nt : Nat) (C : AOper → AOper → Bool) : Prop where
 mixed : P.follows .mixedOrders = true
 back : ∀ i o, ops[i]? = some o → ∀ e ∈ o.after, Region.binds .any e = true → e.on < i
 pairs : ∀ (i j : Nat) x y, ops[i]? = some x → ops[j]? = some y → i < j → ((Region.before ops).getD j 0).testBit i = true ∨ ∃ a c, IA P ef ops nt x = some a ∧ IA P ef ops nt y = some c ∧ Dg a c = true ∧ C a c = true
theorem DG {l : List Oper} {i : Nat} {o : Oper} (h : l[i]? = some o) : (o, i) ∈ l.zipIdx := by
 rw [List.mem_zipIdx_iff_getElem?]; exact h
theorem T7 (h : SY P ef ops nt = true) : OrdOk P ef ops nt fun x y => x.op.cls.comm y.op.cls := by
 simp only [SY, Bool.and_eq_true] at h
 obtain ⟨⟨h1, h2⟩, h3⟩ := h
 rw [List.all_eq_true] at h2 h3
 refine ⟨h1, fun i o ho e he hb => ?_, fun i j x y hx hy hij => ?_⟩
 ·have := h2 (o, i) (DG (by simpa using ho))
  simp only [Array.all_eq_true_iff_forall_mem] at this
  have := this e he
  simpa [hb] using this
 ·have := h3 (y, j) (DG (by simpa using hy))
  rw [List.all_eq_true] at this
  have := this (x, i) (DG (by simpa using hx))
  simp only [Bool.or_eq_true, decide_eq_true_eq] at this
  rcases this with (h4 | h4) | h4
  ·omega
  ·exact .inl h4
  ·right
   split at h4
   ·rename_i a c ha hc
    simp only [Bool.and_eq_true] at h4
    exact ⟨a, c, ha, hc, h4.1, h4.2⟩
   ·cases h4
theorem Sn {st : Mode} (h : GN P ef ops nt st = true) : OrdOk P ef ops nt fun x y => x.op.cls.comm y.op.cls || x.late st y := by
 simp only [GN, Bool.and_eq_true] at h
 obtain ⟨⟨h1, h2⟩, h3⟩ := h
 rw [List.all_eq_true] at h2 h3
 refine ⟨h1, fun i o ho e he hb => ?_, fun i j x y hx hy hij => ?_⟩
 ·have := h2 (o, i) (DG (by simpa using ho))
  simp only [Array.all_eq_true_iff_forall_mem] at this
  have := this e he
  simpa [hb] using this
 ·have := h3 (y, j) (DG (by simpa using hy))
  rw [List.all_eq_true] at this
  have := this (x, i) (DG (by simpa using hx))
  rw [Bool.or_eq_true, Bool.or_eq_true, decide_eq_true_eq] at this
  rcases this with (h4 | h4) | h4
  ·omega
  ·exact .inl h4
  ·right
   split at h4
   ·rename_i a c ha hc
    rw [Bool.and_eq_true] at h4
    exact ⟨a, c, ha, hc, h4.1, h4.2⟩
   ·cases h4
def left (ops : Array Oper) (listed : Array Bool) : List Nat := (List.range ops.size).filter fun i => !listed.getD i true
def Closed (ops : Array Oper) (listed : Array Bool) : Prop := ∀ i o, ops[i]? = some o → listed.getD i false = true → ∀ e ∈ o.after, Region.binds .any e = true → listed.getD e.on false = true
theorem MK {listed : Array Bool} (hc : Closed ops listed) {k : Nat} : ∀ (j : Nat) (o : Oper), ops[j]? = some o → (∀ i o', ops[i]? = some o' → ∀ e ∈ o'.after, Region.binds .any e = true → e.on < i) → (∀ e ∈ o.after, Region.binds .any e = true → listed.getD e.on false = true) → ((Region.before ops).getD j 0).testBit k = true → listed.getD k false = true := by
 intro j
 induction j using Nat.strongRecOn with
 | _ j ih =>
  intro o ho hb hl ht
  obtain ⟨e, he, hbe, h4⟩ := Rg ho ht
  rcases h4 with h4 | h4
  ·rw [← h4]; exact hl e he hbe
  ·have hlt := hb j o ho e he hbe
   have hle := hl e he hbe
   have hos : ∃ o', ops[e.on]? = some o' := ⟨_, Array.getElem?_eq_getElem (by have := (Array.getElem?_eq_some_iff.1 ho).1; omega)⟩
   obtain ⟨o', ho'⟩ := hos
   exact ih e.on hlt o' ho' hb (fun e' he' hbe' => hc e.on o' ho' hle e' he' hbe') h4
theorem Tg {listed : Array Bool} {i : Nat} (hi : i < ops.size) (hl : listed.getD i true = false) (hsz : listed.size = ops.size) : ∃ l1 l2, left ops listed = l1 ++ i :: l2 ∧ left ops (listed.setIfInBounds i true) = l1 ++ l2 ∧ ∀ k ∈ l1, k < i ∧ listed.getD k true = false := by
 have IT : ∀ k, k ≠ i → (listed.setIfInBounds i true).getD k true = listed.getD k true := fun k hk => by
  simp [Array.getD_eq_getD_getElem?, Array.getElem?_setIfInBounds_ne (fun e => hk e.symm)]
 have hseti : (listed.setIfInBounds i true).getD i true = true := by simp [Array.getD_eq_getD_getElem?, hsz, hi]
 have hr : List.range ops.size = List.range i ++ i :: (List.range' (i + 1) (ops.size - (i + 1))) := by
  have h1 : ops.size = i + (1 + (ops.size - (i + 1))) := by omega
  rw [List.range_eq_range', List.range_eq_range']
  conv => lhs; rw [h1]
  rw [← List.range'_append_1, Nat.zero_add, ← List.range'_append_1]
  simp [List.range'_one]
 refine ⟨(List.range i).filter fun k => !listed.getD k true, (List.range' (i + 1) (ops.size - (i + 1))).filter fun k => !listed.getD k true, ?_, ?_, ?_⟩
 ·simp only [left, hr, List.filter_append, List.filter_cons, hl, Bool.not_false, if_true]
 ·simp only [left, hr, List.filter_append, List.filter_cons, hseti, Bool.not_true, Bool.false_eq_true, if_false]
  congr 1
  ·apply List.filter_congr
   intro k hk
   rw [IT k (by simp at hk; omega)]
  ·apply List.filter_congr
   intro k hk
   rw [IT k (by simp [List.mem_range'_1] at hk; omega)]
 ·intro k hk
  simp only [List.mem_filter, List.mem_range, Bool.not_eq_true'] at hk
  exact hk
theorem Lo {W : AOper → (AS → Prop) → AS → Prop} {C : AOper → AOper → Bool} (hD : Drw P W C) {aos : List AOper} {K : AS → Prop} (hc : ED P ef ops nt ops.toList = some aos) (ho : OrdOk P ef ops nt C) (hK : EInv K) : ∀ (fuel : Nat) (listed : Array Bool) {G : Gh} {s : AS} {a : Act} {w : World}, listed.size = ops.size → (left ops listed).length ≤ fuel → Closed ops listed → RelS P w0 nt G s a w →
  JM W ((left ops listed).map (WL aos)) K s → (∀ a' w', After P w0 nt G K a' w' → Q .normal a' w') → wpAny P .any ops Q fuel listed a w := by
 intro fuel
 induction fuel with
 | zero =>
  intro listed G s a w hsz hlen hcl hr h hq
  have hnil : left ops listed = [] := List.length_eq_zero_iff.1 (by omega)
  refine ⟨?_, ?_⟩
  ·cases hrd : Region.ready .any ops listed with
   | nil => rfl
   | cons i is =>
    have hi : i ∈ Region.ready .any ops listed := by rw [hrd]; exact List.mem_cons_self
    simp only [Region.ready, List.mem_filter, Bool.and_eq_true, List.mem_range] at hi
    have : i ∈ left ops listed := by simp only [left, List.mem_filter, List.mem_range]; exact ⟨hi.1, hi.2.1⟩
    rw [hnil] at this; cases this
  ·rw [hnil] at h
   exact hq a w ⟨G, s, h, Gh.Le.rfl_ G, hr⟩
 | succ fuel ih =>
  intro listed G s a w hsz hlen hcl hr h hq
  refine ⟨fun hrd => ?_, fun i hi => ?_⟩
  ·have hnil : left ops listed = [] := by
    cases hl : left ops listed with
    | nil => rfl
    | cons i is =>
     exfalso
     have hmem : i ∈ left ops listed := by rw [hl]; exact List.mem_cons_self
     simp only [left, List.mem_filter, List.mem_range] at hmem
     have hmin : ∀ k, k < i → listed.getD k false = true := by
      intro k hk
      by_cases hkl : listed.getD k true = true
      ·have hks : k < listed.size := by omega
       simp only [Array.getD_eq_getD_getElem?, Array.getElem?_eq_getElem hks, Option.getD_some] at hkl ⊢
       exact hkl
      ·exfalso
       have hkm : k ∈ left ops listed := by simp only [left, List.mem_filter, List.mem_range]; exact ⟨by omega, by simpa using hkl⟩
       rw [hl] at hkm
       rcases List.mem_cons.1 hkm with e | hkm
       ·omega
       ·have hsorted : (left ops listed).Pairwise (· < ·) := List.Pairwise.filter _ List.pairwise_lt_range
        rw [hl] at hsorted
        have := (List.pairwise_cons.1 hsorted).1 k hkm
        omega
     have : i ∈ Region.ready .any ops listed := by
      simp only [Region.ready, List.mem_filter, Bool.and_eq_true, List.mem_range]
      refine ⟨hmem.1, hmem.2, ?_⟩
      rw [Array.getElem?_eq_getElem hmem.1]
      simp only [Option.map_some, Option.getD_some, Array.all_eq_true_iff_forall_mem, Bool.or_eq_true, Bool.not_eq_true']
      intro e he
      by_cases hb : Region.binds .any e = true
      ·right; exact hmin e.on (ho.back i ops[i] (Array.getElem?_eq_getElem hmem.1) e he hb)
      ·left; simpa using hb
     rw [hrd] at this; cases this
   rw [hnil] at h
   exact hq a w ⟨G, s, h, Gh.Le.rfl_ G, hr⟩
  ·simp only [Region.ready, List.mem_filter, Bool.and_eq_true, List.mem_range] at hi
   obtain ⟨his, hil, hie⟩ := hi
   have hnl : listed.getD i true = false := by simpa using hil
   have hoi : ops[i]? = some ops[i] := Array.getElem?_eq_getElem his
   rw [hoi] at hie
   simp only [Option.map_some, Option.getD_some, Array.all_eq_true_iff_forall_mem, Bool.or_eq_true, Bool.not_eq_true'] at hie
   have hedges : ∀ e ∈ ops[i].after, Region.binds .any e = true → listed.getD e.on false = true := fun e he hb => by
    rcases hie e he with h1 | h1
    ·rw [hb] at h1; cases h1
    ·exact h1
   obtain ⟨l1, l2, e1, e2, e3⟩ := Tg his hnl hsz
   obtain ⟨ao, f1, f2⟩ := Hd hc (i := i) (o := ops[i]) (by simp [his])
   have hat : WL aos i = ao := by simp [WL, List.getD, f1]
   rw [e1, List.map_append, List.map_cons, hat] at h
   have hfront := Sv hD hK (fun x hx => by
    obtain ⟨k, hk, rfl⟩ := List.mem_map.1 hx
    obtain ⟨hki, hkl⟩ := e3 k hk
    have hks : k < ops.size := by omega
    have hok : ops[k]? = some ops[k] := Array.getElem?_eq_getElem hks
    obtain ⟨ak, g1, g2⟩ := Hd hc (i := k) (o := ops[k]) (by simp [hks])
    have hak : WL aos k = ak := by simp [WL, List.getD, g1]
    rcases ho.pairs k i _ _ hok hoi hki with h1 | ⟨a1, c1, h1, h2, h3, h4⟩
    ·have := MK hcl i ops[i] hoi ho.back hedges h1
     rw [Array.getD_eq_getD_getElem?, Array.getElem?_eq_getElem (by omega : k < listed.size)] at this hkl
     simp only [Option.getD_some] at this hkl
     rw [this] at hkl; cases hkl
    ·rw [hak]
     rw [g2] at h1; injection h1 with h1; subst h1
     rw [f2] at h2; injection h2 with h2; subst h2
     exact ⟨h3, h4⟩) h
   refine UL hoi f2 hr (hD.down hr.r0.supp hfront) fun a' w' ⟨G1, s1, k1, k2, k3⟩ => ?_
   refine ih (listed.setIfInBounds i true) (by simpa using hsz) ?_ ?_ k3 ?_ fun a2 w2 h4 => hq a2 w2 (h4.weak k2)
   ·rw [e2]; rw [e1] at hlen; simp at hlen ⊢; omega
   ·intro j oj hoj hlj e he hb
    by_cases hji : j = i
    ·subst hji
     rw [hoi] at hoj; injection hoj with hoj; subst hoj
     exact getD_set_true (hedges e he hb)
    ·rw [getD_set_ne false (fun e => hji e.symm)] at hlj
     exact getD_set_true (hcl j oj hoj hlj e he hb)
   ·rw [e2, List.map_append]; exact k1
end
end Go.Proofs.YtjdccdelcnmocaaGreatDoor

/- Each operation of the program agrees with the operation on plain data; no condition. -/
import Derived.Test.YtnfjgphfaemjcaaGreatDoorMgG
import Derived.Orders
import Derived.Laws.MakeOwn
import Derived.Lib.UnsafeStr
set_option linter.all false
namespace Go.Proofs.YtnfjgphfaemjcaaGreatDoor
open Go.RowKit
theorem get_put (e : AH) (t : Nat) (v : AV) (k : Nat) : get (put e t v) k = if k = t then v else get e k := by
 simp only [put, get]
 split
 ·rename_i h; subst h; simp
 ·rename_i h; rw [if_neg (fun e => h e.symm)]
theorem QE (e : AH) (ks : List Nat) (k : Nat) : get (D9 e ks) k = .any ∨ get (D9 e ks) k = get e k := by
 induction ks with
 | nil => left; rfl
 | cons a ks ih =>
  simp only [D9, List.map_cons, get]
  split
  ·rename_i h; subst h; right; rfl
  ·exact ih
def AOp.eff : AOp → Bool
 | .alloc _ _ | .box _ _ _ | .store _ _ _ | .bsl _ _ _ | .app _ _ _ _ _ | .appB _ _ _ _ | .s2b _ _ | .s2s _ | .mkmap _ | .mset _ _ _ _ | .mksl _ _ _ _ _ | .rng _ | .nxt _ | .call _ _ | .callp _ _ | .callv _ _ | .updn _ _ | .ust _ _ _ => true
 | _ => false
section
variable {P : Program} {w w' w0 : World} {G G' : Gh} {nt : Nat} {ds : List Deferred} {s : AS} {a : Act}
theorem Ek {d : Option Nat} {op : AOp} {K : AS → Prop} (h : op.eff = false) : AF P d op K s = K1 (pe op s.e s.H) fun v => K ⟨AD s.e d v, s.n, s.H⟩ := by
 cases op <;> first | rfl | cases h
def After (P : Program) (w0 : World) (nt : Nat) (ds : List Deferred) (G : Gh) (K : AS → Prop) (a' : Act) (w' : World) : Prop := ∃ G' s', K s' ∧ G.Le G' ∧ RelS P w0 nt ds G' s' a' w'
theorem RelS.put {n : Nat} {H : A3} {d : Option Nat} {v : Value} {x : AV} (h : RelS P w0 nt ds G s a w) (hd : ∀ t, d = some t → t < nt) (hl : G.Le G') (h0 : Rel0 P w0 G' n H w') (hr : Rep G' v x) : RelS P w0 nt ds G' ⟨AD s.e d x, n, H⟩ (a.put d v) w' := by
 refine ⟨h0, ?_, ?_, h.ld, fun t => ?_⟩
 ·cases d <;> simp [Act.put, h.sz]
 ·cases d <;> simp [Act.put, h.df]
 ·cases d with
  | none => exact (h.tm t).mono hl
  | some k =>
   have hk : k < a.tmps.size := by rw [h.sz]; exact hd k rfl
   simp only [Act.put, AD, get_put]
   by_cases ht : t = k
   ·subst ht
    rw [if_pos rfl]
    have : (a.tmps.setIfInBounds t v).getD t undef = v := by simp [Array.getD_eq_getD_getElem?, hk]
    rw [this]; exact hr
   ·rw [if_neg ht]
    have : (a.tmps.setIfInBounds k v).getD t undef = a.tmps.getD t undef := by simp [Array.getD_eq_getD_getElem?, Array.getElem?_setIfInBounds_ne (fun e => ht e.symm)]
    rw [this]; exact (h.tm t).mono hl
theorem CD {o : Oper} {v : Value} {K : Act → World → Prop} {Q : Exit → Act → World → Prop} (h : (execOp a.eval o).run P w = .ok (.value v) w') (hk : K (a.put o.dst v) w') : o.wp P a w K Q := by
 unfold Oper.wp; rw [h]; exact hk
theorem P8 {o : Oper} {K : Act → World → Prop} {Q : Exit → Act → World → Prop} (h : (execOp a.eval o).run P w = .ok .skip w') (hk : K (a.put o.dst undef) w') : o.wp P a w K Q := by
 unfold Oper.wp; rw [h]; exact hk
theorem Ht {f : Nat} {fn : Func} {args : Array Value} (hf : P.funcs[f]? = some fn) (hb : (fn.body.isSome && fn.name != "runtime.NumGoroutine") = true) : (callFunc f args).run P w = .ok (.enter f args) w := by
 simp only [Bool.and_eq_true] at hb
 obtain ⟨b, hb1⟩ := Option.isSome_iff_exists.1 hb.1
 have h2 : ¬ fn.name = "runtime.NumGoroutine" := by simpa using hb.2
 simp [callFunc, hf, h2, hb1]
theorem SH {o : Oper} {f : Nat} {vs : List Value} {args : List AV} {K : AS → Prop} {Q : Exit → Act → World → Prop} (hr : RelS P w0 nt ds G s a w) (hd : ∀ t, o.dst = some t → t < nt) (hrep : RepL G vs args)
  (hrun : (execOp a.eval o).run P w = .ok (.enter f vs.toArray) w) (h : CallK P f args o.dst K s) : o.wp P a w (After P w0 nt ds G K) Q := by
 obtain ⟨R, hc, hk⟩ := h
 unfold Oper.wp
 rw [hrun]
 simp only [Oper.upon]
 refine (hc hr.r0.supp w0 G w vs hr.ld hr.r0 hrep).mono ?_
 rintro e w1 ⟨v, r, G1, n1, H1, rfl, hR, hv, hle, hn, h1⟩
 exact ⟨G1, _, hk r n1 H1 hn h1.supp hR, hle, hr.put hd hle h1 hv⟩
theorem ACalls.sim {f : Nat} {args args' : List AV} {n : Nat} {H : A3} {R : Gk} (h : ACalls P f args' n H R) (hw : A5 args args') : ACalls P f args n H R :=
 fun hs w0 G w vs hld h0 hr => h hs w0 G w vs hld h0 (hr.sim hw)
theorem CallP.toK {f : Nat} {args : List AV} {d : Option Nat} {K : AS → Prop} (h : CallP P f args d K s) : CallK P f args d K s := by
 obtain ⟨args', v, h1, hs, h2⟩ := h
 exact ⟨_, (h1 s.n s.H).sim hs, fun r n' H' _ _ ⟨e1, e2, e3⟩ => by subst e1; subst e2; subst e3; exact h2⟩
theorem Qn {d : Option Nat} {o : Oper} {e : TypeId} {v : Value} {cs : List AV} {K : AS → Prop} {Q : Exit → Act → World → Prop} (hr : RelS P w0 nt ds G s a w) (hd : ∀ t, o.dst = some t → t < nt) (hdd : d = o.dst) (hrep : RepL G v.cells.toList cs) (h1 : ones cs)
  (hrun : (execOp a.eval o).run P w = .ok (.value (.pointer (some ⟨w.heap.size, 0, none⟩))) (w.alloc (.cells v.cells e))) (hk : ∀ g, s.n ≤ g → K ⟨AD s.e d (.ptr g 0), g + 1, upd s.H g (some (.cells e cs))⟩) : o.wp P a w (After P w0 nt ds G K) Q := by
 subst hdd
 exact CD hrun ⟨G, _, hk w.heap.size hr.r0.hi, Gh.Le.rfl_ G, hr.put hd (Gh.Le.rfl_ G) (hr.r0.new hrep h1) .ptr⟩
theorem U4 {o : Oper} {t : TypeId} {xo vo : Operand} {x v : AV} {sh : Cm} {K : AS → Prop} {Q : Exit → Act → World → Prop} (hr : RelS P w0 nt ds G s a w) (hd : ∀ t, o.dst = some t → t < nt) (hop : o.op = .store t xo vo) (hs : DS P t = some sh) (hx : Rep G (a.eval xo) x) (hv : Rep G (a.eval vo) v)
  (h : Cz sh o.dst K s v x) : o.wp P a w (After P w0 nt ds G K) Q := by
 obtain ⟨k1, k2, k3, i, hi, k5⟩ := D5 hs
 unfold Cz at h
 split at h
 ·rename_i g off
  split at h
  ·rename_i e cs hg
   obtain ⟨hf, h1, hle, hk⟩ := h
   obtain ⟨j1, j2, j3, vs, hgw, hrv, ho⟩ := hr.r0.objs g _ hg
   have hcl := hv.cells h1
   have hlen : (a.eval vo).cells.size = BJ P t := by have := hcl.len; rw [Ew hf, k2] at this; simpa using this
   have hlen' : (a.eval vo).cells.toList.length = v.cells.length := hcl.len
   have hvl := hrv.len
   generalize hxv : a.eval xo = xv at hx
   cases hx
   have hst := run_storeCells_at (P := P) g off e (a.eval vo).cells.toList 0 vs w hgw (by simp at hvl hlen' ⊢; omega) (hcl.ones h1)
   simp only [Nat.add_zero] at hst
   refine P8 (w' := w.setRow g (vs.toList.take off ++ (a.eval vo).cells.toList ++ vs.toList.drop (off + (a.eval vo).cells.toList.length)).toArray) ?_ ?_
   ·simp only [execOp, hop, Sem.run_bind, Instr.storeAt, hxv, Instr.sureAddr, Sem.run_pure, Result.andThen_ok, storeVar, Bz hi, hlen, ne_eq, not_true, if_false, hst]
   ·refine ⟨G, _, hk, Gh.Le.rfl_ G, hr.put hd (Gh.Le.rfl_ G) (hr.r0.setRow hg hgw ?_ ?_ (by simp at hvl hlen' ⊢; omega)) .any⟩
    ·simp only [splice]
     rw [← hlen']
     exact ((hrv.take off).append hcl).append (hrv.drop _)
    ·intro y hy
     simp only [splice, List.mem_append] at hy
     rcases hy with (hy | hy) | hy
     ·exact ho y (List.mem_of_mem_take hy)
     ·exact h1 y hy
     ·exact ho y (List.mem_of_mem_drop hy)
  ·rename_i e cs hg
   obtain ⟨hf, h1, hle, hk⟩ := h
   obtain ⟨j1, j2, j3, vs, cp, hcp, hgw, hsz, hmx, hvl, hrv, ho⟩ := hr.r0.objs g _ hg
   have hcl := hv.cells h1
   have hlen : (a.eval vo).cells.size = BJ P t := by have := hcl.len; rw [Ew hf, k2] at this; simpa using this
   have hlen' : (a.eval vo).cells.toList.length = v.cells.length := hcl.len
   generalize hxv : a.eval xo = xv at hx
   cases hx
   have hst := run_storeCells_at (P := P) g off e (a.eval vo).cells.toList 0 vs w hgw (by simp at hvl hlen' ⊢; omega) (hcl.ones h1)
   simp only [Nat.add_zero] at hst
   refine P8 (w' := w.setRow g (vs.toList.take off ++ (a.eval vo).cells.toList ++ vs.toList.drop (off + (a.eval vo).cells.toList.length)).toArray) ?_ ?_
   ·simp only [execOp, hop, Sem.run_bind, Instr.storeAt, hxv, Instr.sureAddr, Sem.run_pure, Result.andThen_ok, storeVar, Bz hi, hlen, ne_eq, not_true, if_false, hst]
   ·refine ⟨G, _, hk, Gh.Le.rfl_ G, hr.put hd (Gh.Le.rfl_ G) (hr.r0.setGrow hg hcp hgw hmx hsz ?_ ?_ ?_ (by simp at hvl hlen' ⊢; omega)) .any⟩
    ·simp only [splice, List.length_append, List.length_take, List.length_drop, List.size_toArray] at hvl hlen' ⊢
     simp at hvl hlen' ⊢; omega
    ·have e1 : (splice cs off v.cells).length = cs.length := by simp only [splice, List.length_append, List.length_take, List.length_drop]; omega
     have e2 : (vs.toList.take off ++ (a.eval vo).cells.toList ++ vs.toList.drop (off + (a.eval vo).cells.toList.length)).take cs.length = (vs.toList.take cs.length).take off ++ (a.eval vo).cells.toList ++ (vs.toList.take cs.length).drop (off + (a.eval vo).cells.toList.length) := by
      have hvl' : cs.length ≤ vs.toList.length := by simpa using hvl
      generalize vs.toList = L at hvl' ⊢
      generalize (a.eval vo).cells.toList = M at hlen' ⊢
      apply List.ext_getElem?
      intro q
      simp only [List.getElem?_take, List.getElem?_append, List.getElem?_drop, List.length_append, List.length_take]
      grind
     rw [e1, e2]
     simp only [splice]
     rw [← hlen']
     exact ((hrv.take off).append hcl).append (hrv.drop _)
    ·intro y hy
     simp only [splice, List.mem_append] at hy
     rcases hy with (hy | hy) | hy
     ·exact ho y (List.mem_of_mem_take hy)
     ·exact h1 y hy
     ·exact ho y (List.mem_of_mem_drop hy)
  ·exact h.elim
 ·exact h.elim
theorem Q9 (size : Nat) : ∀ (vs : List Value) (k : Nat) (cells : Array Value), (∀ v ∈ vs, v.cells.size = size) → (k + vs.length) * size ≤ cells.size →
  ∃ cells', Instr.fill (fun i => some (i * size, size)) cells ((vs.zipIdx k).map fun x => (x.2, x.1)) = some cells' ∧ cells'.toList = cells.toList.take (k * size) ++ vs.flatMap (fun v => v.cells.toList) ++ cells.toList.drop ((k + vs.length) * size)
 | [], k, cells, _, _ => ⟨cells, rfl, by simp⟩
 | v :: vs, k, cells, hv, hl => by
  have h1 := hv v List.mem_cons_self
  simp only [List.length_cons] at hl
  have hk1 : k * size + size ≤ cells.size := by
   have : (k + 1) * size ≤ (k + (vs.length + 1)) * size := Nat.mul_le_mul_right _ (by omega)
   rw [Nat.add_mul, Nat.one_mul] at this; omega
  have hfold := JV (vs := v.cells) (off := k * size) (cells := cells) (by omega)
  have hsz : (v.cells.zipIdx.foldl (fun cs (x : Value × Nat) => cs.setIfInBounds (k * size + x.2) x.1) cells).size = cells.size := by
   have := congrArg List.length hfold
   simp only [List.length_append, List.length_take, List.length_drop, Array.length_toList, h1] at this
   omega
  obtain ⟨cells', e1, e2⟩ := Q9 size vs (k + 1) (v.cells.zipIdx.foldl (fun cs (x : Value × Nat) => cs.setIfInBounds (k * size + x.2) x.1) cells) (fun u hu => hv u (List.mem_cons_of_mem _ hu)) (by rw [hsz]; rw [show k + 1 + vs.length = k + (vs.length + 1) by omega]; exact hl)
  refine ⟨cells', ?_, ?_⟩
  ·simp only [List.zipIdx_cons, List.map_cons, Instr.fill, h1, ne_eq, not_true, decide_false, Bool.false_or]
   rw [if_neg (by simp; omega)]
   exact e1
  ·rw [e2, hfold, h1]
   have ht : (cells.toList.take (k * size)).length = k * size := by simp; omega
   have hvl : v.cells.toList.length = size := by simpa using h1
   rw [Nat.add_mul, Nat.one_mul]
   rw [List.take_append_of_le_length (by simp [ht, hvl]), List.take_of_length_le (by simp [ht, hvl])]
   rw [show k + 1 + vs.length = k + (vs.length + 1) by omega]
   have hge : k * size + size ≤ (k + (vs.length + 1)) * size := by
    have : (k + 1) * size ≤ (k + (vs.length + 1)) * size := Nat.mul_le_mul_right _ (by omega)
    rw [Nat.add_mul, Nat.one_mul] at this; omega
   rw [List.drop_append, List.drop_of_length_le (l := cells.toList.take (k * size) ++ v.cells.toList) (by simp only [List.length_append, ht, hvl]; omega), List.nil_append, List.drop_drop]
   simp only [List.length_append, ht, hvl, List.flatMap_cons, List.length_cons, List.append_assoc]
   congr 3
   congr 1
   omega
theorem Kr {e : AH} (ht : ∀ t, Rep G (a.tmps.getD t undef) (get e t)) : ∀ {ps : List (Nat × Operand)} {i : Nat} {xs : List Opd}, Kt i ps = some xs → ∃ vs : List Value, ps.map (fun (j, x) => (j, a.eval x)) = (vs.zipIdx i).map (fun x => (x.2, x.1)) ∧ RepL G vs (xs.map (ev e))
 | [], i, xs, h => by simp [Kt] at h; subst h; exact ⟨[], rfl, .nil⟩
 | (j, x) :: ps, i, xs, h => by
  simp only [Kt] at h
  split at h
  ·rename_i hj; subst hj
   split at h
   ·rename_i y r h1 h2
    injection h with h; subst h
    obtain ⟨vs, e1, e2⟩ := Kr ht h2
    exact ⟨a.eval x :: vs, by simp [List.zipIdx_cons, e1], .cons (AJ h1 ht) e2⟩
   ·cases h
  ·cases h
theorem RepL.flat {vs : List Value} {xs : List AV} (h : RepL G vs xs) (h1 : ∀ x ∈ xs, ∀ y ∈ x.cells, y.one = true) : RepL G (vs.flatMap fun v => v.cells.toList) (AG xs) := by
 induction xs generalizing vs with
 | nil => cases h; exact .nil
 | cons x xs ih =>
  cases h with
  | cons hv hr =>
   simp only [List.flatMap_cons, AG]
   exact (hv.cells (h1 x List.mem_cons_self)).append (ih hr fun y hy => h1 y (List.mem_cons_of_mem _ hy))
theorem X8 {o : Oper} {t e : TypeId} {len : Nat} {ps : Array (Nat × Operand)} {sh : Cm} {xs : List Opd} {K : AS → Prop} {Q : Exit → Act → World → Prop} (hr : RelS P w0 nt ds G s a w) (hd : ∀ t, o.dst = some t → t < nt) (hop : o.op = .buildSlice t len ps) (hu : P.underlying t = some (.slice e)) (hs : DS P e = some sh)
  (hps : Kt 0 ps.toList = some xs) (hlen : xs.length = len) (hsm : len * BJ P e ≤ 1000) (hz : len = 0 ∨ ((P.info? e).bind (·.zero)).isSome)
  (h1 : ∀ x ∈ xs, (ev s.e x).fits sh = true ∧ ones (ev s.e x).cells) (hk : ∀ g, s.n ≤ g → K ⟨AD s.e o.dst (.sl (B6 sh) (xs.map (ev s.e)) (.own g)), g + 1, upd s.H g (some (.row e xs.length))⟩) : o.wp P a w (After P w0 nt ds G K) Q := by
 obtain ⟨k1, k2, k3, i, hi, k5⟩ := D5 hs
 obtain ⟨vs, e1, e2⟩ := Kr (G := G) (a := a) (e := s.e) hr.tm hps
 have hvl : vs.length = len := by have := e2.len; simp at this; omega
 have hone : ∀ x ∈ xs.map (ev s.e), ones x.cells := fun x hx => by obtain ⟨y, hy, rfl⟩ := List.mem_map.1 hx; exact (h1 y hy).2
 have huni : ∀ x ∈ xs.map (ev s.e), x.cells.length = BJ P e := fun x hx => by obtain ⟨y, hy, rfl⟩ := List.mem_map.1 hx; rw [Ew (h1 y hy).1, k2]
 have hvs : ∀ v ∈ vs, v.cells.size = BJ P e := by
  intro v hv
  obtain ⟨j, hj⟩ := List.getElem?_of_mem hv
  obtain ⟨x, hx⟩ : ∃ x, (xs.map (ev s.e))[j]? = some x := ⟨_, List.getElem?_eq_getElem (by have := (List.getElem?_eq_some_iff.1 hj).1; simp; omega)⟩
  obtain ⟨v', hv', hrep⟩ := e2.at hx
  rw [hj] at hv'; injection hv' with hv'; subst hv'
  have := (hrep.cells (hone x (List.mem_of_getElem? hx))).len
  rw [huni x (List.mem_of_getElem? hx)] at this
  simpa using this
 have hrun : ∃ cells : Array Value, cells.toList = vs.flatMap (fun v => v.cells.toList) ∧ (execOp a.eval o).run P w = .ok (.value (.slice (some ⟨w.heap.size, 0, none⟩) len len)) (w.alloc (.cells cells e)) := by
  have h24 : ¬ (len * BJ P e > 2 ^ 24) := by omega
  have hpm : (ps.map fun x => (x.1, a.eval x.2)).toList = (vs.zipIdx 0).map (fun x => (x.2, x.1)) := by rw [Array.toList_map]; exact e1
  by_cases hlz : len * BJ P e = 0
  ·have hl0 : len = 0 := by rcases Nat.mul_eq_zero.1 hlz with h | h; exact h; omega
   subst hl0
   have hv0 : vs = [] := List.length_eq_zero_iff.1 hvl
   subst hv0
   refine ⟨#[], rfl, ?_⟩
   have hpm' : ps = #[] := by
    have := congrArg List.length e1
    simp at this
    exact this
   subst hpm'
   simp [execOp, hop, Instr.buildSlice, run_underlying hu, Bz hi, Instr.fill, Go.newRow]
   congr 2
   exact Array.eq_empty_of_size_eq_zero (by simp)
  ·have hzz : ((P.info? e).bind (·.zero)).isSome := hz.resolve_left (by rintro rfl; simp at hlz)
   obtain ⟨zv, hzv⟩ := Option.isSome_iff_exists.1 hzz
   rw [hi] at hzv
   have hzv' : i.zero = some zv := by simpa using hzv
   obtain ⟨cells', f1, f2⟩ := Q9 (BJ P e) vs 0 ((Array.range (len * BJ P e)).map (fun x => zv.cells[x % zv.cells.size]!)) hvs (by simp [hvl])
   refine ⟨cells', ?_, ?_⟩
   ·rw [f2]; simp [hvl]
   ·simp only [execOp, hop, Sem.run_bind, Instr.buildSlice, run_underlying hu, Result.andThen_ok, Bz hi, h24, if_false, hlz, zeroValue, typeInfo, run_program, hi, hzv', Sem.run_pure]
    simp only [hpm, f1, Go.newRow, Sem.run_bind, run_newObj, Result.andThen_ok, Sem.run_pure]
    rfl
 obtain ⟨cells, hcl, hrun⟩ := hrun
 have hflat := e2.flat hone
 rw [← hcl] at hflat
 have hfl : (AG (xs.map (ev s.e))).length = len * BJ P e := by rw [GC huni]; simp [hlen]
 have hcs : cells.size = len * BJ P e := by have := hflat.len; rw [hfl] at this; simpa using this
 have hle := hr.r0.addLe cells.toList (some (e, len))
 have hmx : len ≤ maxLen := by
  simp only [maxLen]
  have : len * 1 ≤ len * BJ P e := Nat.mul_le_mul_left _ k3
  omega
 have hrel := hr.r0.newRow (w' := w.alloc (.cells cells e)) (cur := cells) (e := e) (fz := (0, 0)) (vs := cells.toList) (c := some (e, len)) (ob := some (.row e xs.length)) rfl rfl rfl rfl (fun j u hu => by simpa using hu)
  (fun e' c' hc => by injection hc with hc; injection hc with a b; subst a; subst b; exact ⟨rfl, hcs⟩)
  (.inr ⟨xs.length, len, rfl, rfl, by simp, by omega, hmx, by simp [hcs, hlen]⟩)
 refine CD hrun ⟨_, _, hk w.heap.size hr.r0.hi, hle, hr.put hd hle hrel ?_⟩
 refine .slown (e := e) (hflat.mono hle) (Gh.add_sealed _ _ _) ⟨by simp [hlen], hmx, by rw [k2]; exact k3, fun x hx => by rw [k2]; exact huni x hx, ?_⟩ (by simp [hlen]) (by simp [Gh.add])
 intro x hx
 simp only [AG, List.mem_flatMap] at hx
 obtain ⟨y, hy, hxy⟩ := hx
 exact hone y hy x hxy
theorem VQ {o : Oper} {t e : TypeId} {len : Nat} {ps : Array (Nat × Operand)} {sh : Cm} {xs : List Opd} {K : AS → Prop} {Q : Exit → Act → World → Prop} (hr : RelS P w0 nt ds G s a w) (hd : ∀ t, o.dst = some t → t < nt) (hop : o.op = .buildSlice t len ps) (hu : P.underlying t = some (.slice e)) (hs : DS P e = some sh)
  (hps : Kt 0 ps.toList = some xs) (hlen : xs.length = len) (hsm : len * BJ P e ≤ 1000) (hz : len = 0 ∨ ((P.info? e).bind (·.zero)).isSome)
  (h1 : ∀ x ∈ xs, (ev s.e x).fits sh = true ∧ ones (ev s.e x).cells) (hk : ∀ g, s.n ≤ g → K ⟨AD s.e o.dst (.slm (B6 sh) g 0 xs.length), g + 1, upd s.H g (some (.cells e (AG (xs.map (ev s.e)))))⟩) : o.wp P a w (After P w0 nt ds G K) Q := by
 obtain ⟨k1, k2, k3, i, hi, k5⟩ := D5 hs
 obtain ⟨vs, e1, e2⟩ := Kr (G := G) (a := a) (e := s.e) hr.tm hps
 have hvl : vs.length = len := by have := e2.len; simp at this; omega
 have hone : ∀ x ∈ xs.map (ev s.e), ones x.cells := fun x hx => by obtain ⟨y, hy, rfl⟩ := List.mem_map.1 hx; exact (h1 y hy).2
 have huni : ∀ x ∈ xs.map (ev s.e), x.cells.length = BJ P e := fun x hx => by obtain ⟨y, hy, rfl⟩ := List.mem_map.1 hx; rw [Ew (h1 y hy).1, k2]
 have hvs : ∀ v ∈ vs, v.cells.size = BJ P e := by
  intro v hv
  obtain ⟨j, hj⟩ := List.getElem?_of_mem hv
  obtain ⟨x, hx⟩ : ∃ x, (xs.map (ev s.e))[j]? = some x := ⟨_, List.getElem?_eq_getElem (by have := (List.getElem?_eq_some_iff.1 hj).1; simp; omega)⟩
  obtain ⟨v', hv', hrep⟩ := e2.at hx
  rw [hj] at hv'; injection hv' with hv'; subst hv'
  have := (hrep.cells (hone x (List.mem_of_getElem? hx))).len
  rw [huni x (List.mem_of_getElem? hx)] at this
  simpa using this
 have hrun : ∃ cells : Array Value, cells.toList = vs.flatMap (fun v => v.cells.toList) ∧ (execOp a.eval o).run P w = .ok (.value (.slice (some ⟨w.heap.size, 0, none⟩) len len)) (w.alloc (.cells cells e)) := by
  have h24 : ¬ (len * BJ P e > 2 ^ 24) := by omega
  have hpm : (ps.map fun x => (x.1, a.eval x.2)).toList = (vs.zipIdx 0).map (fun x => (x.2, x.1)) := by rw [Array.toList_map]; exact e1
  by_cases hlz : len * BJ P e = 0
  ·have hl0 : len = 0 := by rcases Nat.mul_eq_zero.1 hlz with h | h; exact h; omega
   subst hl0
   have hv0 : vs = [] := List.length_eq_zero_iff.1 hvl
   subst hv0
   refine ⟨#[], rfl, ?_⟩
   have hpm' : ps = #[] := by
    have := congrArg List.length e1
    simp at this
    exact this
   subst hpm'
   simp [execOp, hop, Instr.buildSlice, run_underlying hu, Bz hi, Instr.fill, Go.newRow]
   congr 2
   exact Array.eq_empty_of_size_eq_zero (by simp)
  ·have hzz : ((P.info? e).bind (·.zero)).isSome := hz.resolve_left (by rintro rfl; simp at hlz)
   obtain ⟨zv, hzv⟩ := Option.isSome_iff_exists.1 hzz
   rw [hi] at hzv
   have hzv' : i.zero = some zv := by simpa using hzv
   obtain ⟨cells', f1, f2⟩ := Q9 (BJ P e) vs 0 ((Array.range (len * BJ P e)).map (fun x => zv.cells[x % zv.cells.size]!)) hvs (by simp [hvl])
   refine ⟨cells', ?_, ?_⟩
   ·rw [f2]; simp [hvl]
   ·simp only [execOp, hop, Sem.run_bind, Instr.buildSlice, run_underlying hu, Result.andThen_ok, Bz hi, h24, if_false, hlz, zeroValue, typeInfo, run_program, hi, hzv', Sem.run_pure]
    simp only [hpm, f1, Go.newRow, Sem.run_bind, run_newObj, Result.andThen_ok, Sem.run_pure]
    rfl
 obtain ⟨cells, hcl, hrun⟩ := hrun
 have hflat := e2.flat hone
 rw [← hcl] at hflat
 have hfl : (AG (xs.map (ev s.e))).length = len * BJ P e := by rw [GC huni]; simp [hlen]
 have hcs : cells.size = len * BJ P e := by have := hflat.len; rw [hfl] at this; simpa using this
 have hmx : len ≤ maxLen := by
  simp only [maxLen]
  have : len * 1 ≤ len * BJ P e := Nat.mul_le_mul_left _ k3
  omega
 have hof : ∀ x ∈ AG (xs.map (ev s.e)), x.one = true := by
  intro x hx
  simp only [AG, List.mem_flatMap] at hx
  obtain ⟨y, hy, hxy⟩ := hx
  exact hone y hy x hxy
 exact CD hrun ⟨_, _, hk w.heap.size hr.r0.hi, Gh.Le.rfl_ G, hr.put hd (Gh.Le.rfl_ G) (hr.r0.new hflat hof) (by rw [← hlen]; exact .slm (Nat.le_refl _) (by rw [hlen]; exact hmx))⟩
end
open Go.RowKit
section
variable {P : Program} {w w' w0 : World} {G G' : Gh} {nt : Nat} {ds : List Deferred} {s : AS} {a : Act}
theorem K1_iff {o : Option AV} {k : AV → Prop} : K1 o k ↔ ∃ v, o = some v ∧ k v := by
 cases o <;> simp [K1]
theorem WZ {o : Oper} {src dst e : TypeId} {xo : Operand} {b : ByteArray} {K : AS → Prop} {Q : Exit → Act → World → Prop} (hr : RelS P w0 nt ds G s a w) (hd : ∀ t, o.dst = some t → t < nt) (hop : o.op = .convert src dst xo) (hs : P.underlying src = some .string) (hdu : P.underlying dst = some (.slice e)) (he : P.underlying e = some (.int .u8))
  (hx : Rep G (a.eval xo) (.str b.data.toList)) (hb : b.size ≤ maxLen) (hk : ∀ n', s.n ≤ n' → K ⟨AD s.e o.dst (.sl 1 (b.data.toList.map fun u => .int .u8 u.toNat) .ro), n', s.H⟩) : o.wp P a w (After P w0 nt ds G K) Q := by
 generalize hxv : a.eval xo = xv at hx
 have hxs : xv = .string b := by
  cases hx with | str h => exact congrArg Value.string (ByteArray.ext (Array.toList_inj.1 h))
 subst hxs
 have hge := grownCap_ge w b.size 0 e
 have hcm := grownCap_le_maxLen w b.size 0 e hb
 let row : Array Value := (b.data.map fun u => Value.int .u8 u.toNat) ++ Array.replicate (grownCap w b.size 0 e - b.size) (.int .u8 0)
 have hrun : ∃ w1, (execOp a.eval o).run P w = .ok (.value (.slice (some ⟨w.heap.size, 0, none⟩) b.size (grownCap w b.size 0 e))) w1 ∧ w1.heap = w.heap.push (.cells row e (row.size, row.size + 1)) ∧ w1.os = w.os ∧ w1.tape = w.tape ∧ w1.output = w.output := by
  refine ⟨(w.drew.alloc (.cells row e)).freeze ⟨w.heap.size, row.size, none⟩ 1, ?_, ?_, rfl, rfl, rfl⟩
  ·have hsh : (w.drew.alloc (.cells row e)).shape? w.heap.size = some (e, row.size) := by
    have := heap_alloc_new w.drew (.cells row e)
    simp only [World.shape?]
    rw [show w.heap.size = w.drew.heap.size from rfl, this]
   simp only [execOp, hop, convert, Sem.run_bind, run_underlying hs, run_underlying hdu, run_underlying he, hxv, Result.andThen_ok, Conv.stringToBytes, run_choose, Question.forced, Go.newRow, run_newObj, Sem.run_pure, markStringish, run_shape, Bool.false_eq_true, if_false]
   have hcap : (Question.appendCap b.size 0 e).cut (w.tape w.drawn (.appendCap b.size 0 e)) = grownCap w b.size 0 e := rfl
   simp only [hcap]
   have hsh' : World.shape? { { w with drawn := w.drawn + 1 } with heap := ({ w with drawn := w.drawn + 1 } : World).heap.push (.cells row e) } w.heap.size = some (e, row.size) := hsh
   simp only [row] at hsh' ⊢
   rw [hsh']
   rfl
  ·have hsz : (w.drew.alloc (.cells row e)).heap = w.heap.push (.cells row e) := rfl
   simp only [World.freeze, Nat.one_ne_zero, if_false, hsz]
   apply Array.ext_getElem?
   intro j
   rw [Array.getElem?_modify, Array.getElem?_push, Array.getElem?_push]
   by_cases hj : w.heap.size = j
   ·subst hj; simp
   ·have hj2 : ¬ j = w.heap.size := fun e => hj e.symm
    simp [hj, hj2]
 obtain ⟨w1, hrun, hw1, ho1, ht1, hu1⟩ := hrun
 let vs : List Value := b.data.toList.map fun u => Value.int .u8 u.toNat
 have hvl : vs.length = b.size := by simp [vs]
 have hrel := hr.r0.newRow (w' := w1) (vs := vs) (c := none) (ob := none) hw1 ho1 ht1 hu1 (fun j u hu => by
  have hj := (List.getElem?_eq_some_iff.1 hu).1
  have hj' : j < b.data.size := by rw [hvl] at hj; exact hj
  simp only [row]
  rw [Array.getElem?_append_left (by simpa using hj')]
  simpa [vs] using hu) (fun e' c' hc => by cases hc) (.inl rfl)
 have hle := hr.r0.addLe vs none
 have hH : upd s.H w.heap.size none = s.H := by
  funext k; simp only [upd]; split
  ·rename_i hk'; subst hk'; exact (hr.r0.supp _ hr.r0.hi).symm
  ·rfl
 rw [hH] at hrel
 refine CD hrun ⟨_, _, hk (w.heap.size + 1) (by have := hr.r0.hi; omega), hle, hr.put hd hle hrel ?_⟩
 have hflat : ∀ l : List UInt8, AG (l.map fun u => AV.int .u8 u.toNat) = l.map fun u => AV.int .u8 u.toNat := fun l => by
  induction l with
  | nil => rfl
  | cons x l ih => simp only [List.map_cons, AG, List.flatMap_cons, AV.cells, List.singleton_append] at ih ⊢; rw [ih]
 refine .slro (vs := vs) ?_ (Gh.add_sealed _ _ _) ⟨?_, hcm, by omega, ?_, ?_⟩ ?_
 ·rw [hflat]
  refine RepL.of (by simp [vs]) fun i v x h1 h2 => ?_
  simp only [vs, List.getElem?_map] at h1 h2
  cases hl : b.data.toList[i]? with
  | none => rw [hl] at h1; cases h1
  | some u => rw [hl] at h1 h2; injection h1 with h1; injection h2 with h2; subst h1; subst h2; exact .int
 ·simpa using hge
 ·intro x hx; obtain ⟨u, _, rfl⟩ := List.mem_map.1 hx; rfl
 ·intro x hx; rw [hflat] at hx; obtain ⟨u, _, rfl⟩ := List.mem_map.1 hx; rfl
 ·simp
theorem TK (g k : Nat) (hk : k ≠ 0) : (∀ j, j ≠ g → (w.freeze ⟨g, 0, none⟩ k).heap[j]? = w.heap[j]?) ∧ (w.freeze ⟨g, 0, none⟩ k).heap.size = w.heap.size ∧ ∀ cur e fz, w.heap[g]? = some (.cells cur e fz) → ∃ fz' : Nat × Nat, (w.freeze ⟨g, 0, none⟩ k).heap[g]? = some (.cells cur e fz') ∧ fz'.2 ≤ max fz.2 k := by
 simp only [World.freeze, hk, if_false]
 refine ⟨fun j hj => by rw [Array.getElem?_modify, if_neg (fun e => hj e.symm)], by simp, fun cur e fz hg => ?_⟩
 obtain ⟨lo, hi⟩ := fz
 rw [Array.getElem?_modify, if_pos rfl, hg]
 refine ⟨_, rfl, ?_⟩
 simp only
 split <;> simp <;> omega
theorem WS (g off k : Nat) (hk : k ≠ 0) : (∀ j, j ≠ g → (w.freeze ⟨g, off, none⟩ k).heap[j]? = w.heap[j]?) ∧ (w.freeze ⟨g, off, none⟩ k).heap.size = w.heap.size ∧ ∀ cur e fz, w.heap[g]? = some (.cells cur e fz) → ∃ fz', (w.freeze ⟨g, off, none⟩ k).heap[g]? = some (.cells cur e fz') := by
 simp only [World.freeze, hk, if_false]
 refine ⟨fun j hj => by rw [Array.getElem?_modify, if_neg (fun e => hj e.symm)], by simp, fun cur e fz hg => ?_⟩
 obtain ⟨lo, hi⟩ := fz
 rw [Array.getElem?_modify, if_pos rfl, hg]
 exact ⟨_, rfl⟩
theorem WP {o : Oper} {src dst e e2 : TypeId} {xo : Operand} {sz g : Nat} {l : List AV} {K : AS → Prop} {Q : Exit → Act → World → Prop} (hr : RelS P w0 nt ds G s a w) (hd : ∀ t, o.dst = some t → t < nt) (hop : o.op = .convert src dst xo) (hs : P.underlying src = some (.slice e)) (hdu : P.underlying dst = some (.slice e2)) (he : P.underlying e = some (.int .u8)) (hsd : src = dst)
  (hx : Rep G (a.eval xo) (.sl sz l (.own g))) (hl : l ≠ []) (hk : K ⟨AD s.e o.dst (.sl sz l .ro), s.n, upd s.H g none⟩) : o.wp P a w (After P w0 nt ds G K) Q := by
 subst hsd
 rw [hs] at hdu
 injection hdu with hdu
 injection hdu with hdu
 subst hdu
 have hro := hx.toRo
 generalize hxv : a.eval xo = xv at hx hro
 cases hx with
 | @slown _ vs _ _ c n ee hrl hsl ho hn hcap =>
  obtain ⟨cur, fz, hcur, hcsz⟩ := hr.r0.caps g _ c hcap
  have hlo := hr.r0.capLo g _ c hcap
  have hsh : w.shape? g = some (ee, cur.size) := by simp [World.shape?, hcur]
  obtain ⟨f1, f2, f3⟩ := WS (w := w) g cur.size 1 (by simp)
  have hrun : (execOp a.eval o).run P w = .ok (.value (.slice (some ⟨g, 0, none⟩) n c)) (w.freeze ⟨g, cur.size, none⟩ 1) := by
   simp only [execOp, hop, convert, Sem.run_bind, run_underlying hs, run_underlying he, hxv, Result.andThen_ok, markStringish, run_shape, hsh, run_freeze, Sem.run_pure, beq_self_eq_true]
  have hcell : ∀ b oo, (w.freeze ⟨g, cur.size, none⟩ 1).cell? ⟨b, oo, none⟩ = w.cell? ⟨b, oo, none⟩ := by
   intro b oo
   by_cases hb : b = g
   ·subst hb
    obtain ⟨fz', h1⟩ := f3 cur _ fz hcur
    rw [cell_of_row _ _ oo cur _ fz' h1, cell_of_row w _ oo cur _ fz hcur]
   ·exact World.cell?_of_block (f1 b hb)
  have h0 : Rel0 P w0 G s.n (upd s.H g none) (w.freeze ⟨g, cur.size, none⟩ 1) := by
   refine ⟨⟨hr.r0.ext.os, hr.r0.ext.tape, hr.r0.ext.output, by rw [f2]; exact hr.r0.ext.size, fun k hk => by rw [f1 k (by omega)]; exact hr.r0.ext.block k hk⟩, hr.r0.lo, by rw [f2]; exact hr.r0.hi, fun b oo v hv => by rw [hcell]; exact hr.r0.seal_ b oo v hv, fun k e3 c3 hc3 => ?_, hr.r0.capLo, fun k ob hob => ?_⟩
   ·by_cases hk : k = g
    ·subst hk
     obtain ⟨cur2, fz2, h1, h2⟩ := hr.r0.caps k e3 c3 hc3
     obtain ⟨fz', h3⟩ := f3 cur2 e3 fz2 h1
     exact ⟨cur2, fz', h3, h2⟩
    ·exact CZ (f1 k hk) (hr.r0.caps k e3 c3 hc3)
   ·by_cases hk : k = g
    ·subst hk; rw [AN] at hob; cases hob
    ·rw [upd_ne hk] at hob
     obtain ⟨j1, j2, j3⟩ := hr.r0.objs k ob hob
     exact ⟨j1, j2, j3.keep (f1 k hk) (fun _ => rfl) rfl (Gh.Le.rfl_ G) (MapsKeep.ne (fun m hm => f1 m hm) fun es c e => by rw [hcur] at e; cases e)⟩
  exact CD hrun ⟨G, _, hk, Gh.Le.rfl_ G, hr.put hd (Gh.Le.rfl_ G) h0 hro⟩
theorem Yj (bs : List UInt8) : (bs.map fun u => AV.int .u8 u.toNat).all QX = true := by
 rw [List.all_eq_true]
 intro x hx
 obtain ⟨u, _, rfl⟩ := List.mem_map.1 hx
 have := u.toNat_lt
 simp [QX]; omega
theorem Z5 {n : Int} (h : QX (.int .u8 n) = true) : n = ((UInt8.ofNat n.toNat).toNat : Int) := by
 simp [QX] at h
 simp [UInt8.toNat_ofNat']
 omega
theorem ND : ∀ {l : List AV} {bs : List UInt8}, bytesOf l = some bs → AG l = l
 | [], _, _ => rfl
 | y :: l, bs, h => by
  cases y <;> try (simp [bytesOf] at h; done)
  rename_i k n
  cases k <;> try (simp [bytesOf] at h; done)
  simp only [bytesOf] at h
  obtain ⟨bs', h1, h2⟩ := Option.map_eq_some_iff.1 h
  have ih := ND h1
  simp only [AG, List.flatMap_cons, AV.cells, List.singleton_append] at ih ⊢
  rw [ih]
theorem RepL.at2 {G : Gh} {vs : List Value} {xs : List AV} (h : RepL G vs xs) {i : Nat} {v : Value} (hv : vs[i]? = some v) : ∃ x, xs[i]? = some x ∧ Rep G v x := by
 have hl := (List.getElem?_eq_some_iff.1 hv).1
 rw [h.len] at hl
 have hx : xs[i]? = some xs[i] := List.getElem?_eq_getElem hl
 obtain ⟨u, hu, hr⟩ := h.at hx
 rw [hv] at hu; injection hu with hu; subst hu
 exact ⟨_, hx, hr⟩
theorem Wd {o : Oper} {e t ty2 : TypeId} {vx vn : Value} {x n : AV} {v : AV} (hr : RelS P w0 nt ds G s a w) (ht : P.underlying t = some (.pointer e)) (hc1 : P.cellsOf e = 1) (hx : Rep G vx x) (hn : Rep G vn n) (h : DQ e x n = some v) (hown : ∀ g e c, G.cap g = some (e, c) → w0.heap.size ≤ g) :
  ∃ v' w', (Builtin.unsafeString_ #[t, ty2] o.type #[vx, vn]).run P w = .ok v' w' ∧ Rep G v' v ∧ Rel0 P w0 G s.n s.H w' := by
 unfold DQ at h
 split at h
 ·rename_i e' l nn
  split at h
  ·rename_i hcond
   obtain ⟨rfl, rfl, hlen, hok⟩ := hcond
   obtain ⟨bs, hb1, hb2⟩ := Option.map_eq_some_iff.1 h
   subst hb2
   cases hn
   have hneg : ¬ ((l.length : Int) < 0) := by omega
   have hmx : ¬ ((l.length : Int) > IntKind.i64.max) := by simp [IntKind.max, IntKind.bits, IntKind.signed]; unfold KA at hlen; omega
   by_cases hl : l = []
   ·subst hl
    simp [bytesOf] at hb1; subst hb1
    have hp : ∃ A, vx = .pointer A := by cases hx <;> exact ⟨_, rfl⟩
    obtain ⟨A, rfl⟩ := hp
    refine ⟨.string .empty, w, ?_, .str rfl, hr.r0⟩
    exact Lib.run_unsafeString_none w _ _ _ A
   ·cases hx with
    | dat0 => exact absurd rfl hl
    | @dat g vs _ _ c hrl hs hcap =>
     obtain ⟨ns, e1, e2⟩ := IF hb1 hrl
     have hvl : vs.length = l.length := by rw [hrl.len, GC (Gq hb1), Nat.mul_one]
     obtain ⟨cur, fz, hcur, hcsz⟩ := hr.r0.caps g _ c hcap
     have hpos : 0 < l.length := List.length_pos_iff.2 hl
     have hin : l.length ≤ cur.size := by
      obtain ⟨u, hu⟩ : ∃ u, vs[l.length - 1]? = some u := ⟨_, List.getElem?_eq_getElem (by omega)⟩
      have h1 := hr.r0.seal_ _ _ _ (hs _ u hu)
      rw [Nat.zero_add, cell_of_row w g _ cur _ fz hcur] at h1
      have := (Array.getElem?_eq_some_iff.1 h1).1
      omega
     have hnl : ns.length = l.length := by rw [← hvl, e1]; simp
     have hbl : bs.length = l.length := by rw [e2, List.length_map, hnl]
     have hfl : AG l = l := ND hb1
     have hus := Lib.run_unsafeString_row w t ty2 o.type e' ht hc1 g cur.size (by simp [World.shape?, hcur]) bs (by intro h0; rw [h0] at hbl; simp at hbl; omega) (by omega) (by unfold KA at hlen; omega) (fun j x hx => by
      rw [addr_add]
      rw [e2, List.getElem?_map, Option.map_eq_some_iff] at hx
      obtain ⟨n, hn1, rfl⟩ := hx
      have hv : vs[j]? = some (.int .u8 n) := by rw [e1]; simp [hn1]
      obtain ⟨y, hy1, hy2⟩ := hrl.at2 hv
      rw [hfl] at hy1
      have hyo := List.all_eq_true.1 hok y (List.mem_of_getElem? hy1)
      cases hy2 with
      | any => simp [QX] at hyo
      | int => rw [← Z5 hyo]; exact hr.r0.seal_ _ _ _ (hs j _ hv))
     rw [hbl] at hus
     have hne : ¬ ((l.length : Int) = 0) := by omega
     have hne' : ¬ l.length = 0 := by omega
     obtain ⟨f1, f2, f3⟩ := TK (w := w) g l.length hne'
     refine ⟨.string ⟨bs.toArray⟩, w.freeze ⟨g, 0, none⟩ l.length, ?_, .str (by simp), ?_⟩
     ·exact hus
     ·have hcell : ∀ b oo, (w.freeze ⟨g, 0, none⟩ l.length).cell? ⟨b, oo, none⟩ = w.cell? ⟨b, oo, none⟩ := by
       intro b oo
       by_cases hb : b = g
       ·subst hb
        obtain ⟨fz', h1, _⟩ := f3 cur _ fz hcur
        rw [cell_of_row _ _ oo cur _ fz' h1, cell_of_row w _ oo cur _ fz hcur]
       ·exact World.cell?_of_block (f1 b hb)
      have hI : ∀ o, l.length ≤ o + 1 → o < l.length → ∃ v, G.I g o = some v := fun o _ ho => by
       obtain ⟨u, hu⟩ : ∃ u, vs[o]? = some u := ⟨_, List.getElem?_eq_getElem (by omega)⟩
       exact ⟨u, by have := hs o u hu; rwa [Nat.zero_add] at this⟩
      obtain ⟨v1, hv1⟩ := hI (l.length - 1) (by omega) (by omega)
      have hgw0 : w0.heap.size ≤ g := hown g e' c hcap
      refine ⟨Lib.below_freeze hr.r0.ext hgw0 _, hr.r0.lo, by rw [f2]; exact hr.r0.hi, fun b oo v hv => by rw [hcell]; exact hr.r0.seal_ b oo v hv, fun k e2 c2 hc2 => ?_, hr.r0.capLo, fun k ob hob => ?_⟩
      ·by_cases hk : k = g
       ·subst hk
        obtain ⟨cur2, fz2, h1, h2⟩ := hr.r0.caps k e2 c2 hc2
        obtain ⟨fz', h3, _⟩ := f3 cur2 e2 fz2 h1
        exact ⟨cur2, fz', h3, h2⟩
       ·exact CZ (f1 k hk) (hr.r0.caps k e2 c2 hc2)
      ·obtain ⟨j1, j2, j3⟩ := hr.r0.objs k ob hob
       by_cases hk : k = g
       ·subst hk
        refine ⟨j1, j2, ?_⟩
        cases ob with
        | cells e2 cs => have := j3.1 (l.length - 1); rw [this] at hv1; cases hv1
        | row e2 m =>
         obtain ⟨cur2, c2, fz2, q1, q2, q3, q4, q5, q6, q7⟩ := j3
         obtain ⟨fz', h3, h4⟩ := f3 cur2 e2 fz2 q2
         refine ⟨cur2, c2, fz', q1, h3, ?_, q4, q5, q6, q7⟩
         have hlt : l.length - 1 < m * BJ P e2 := by
          rcases Nat.lt_or_ge (l.length - 1) (m * BJ P e2) with h | h
          ·exact h
          ·rw [q7 _ h] at hv1; cases hv1
         omega
        | map kk es => obtain ⟨es', clock, m1, _⟩ := j3; rw [hcur] at m1; cases m1
        | iter m len left cur => obtain ⟨_, _, _, _, m1, _⟩ := j3; rw [hcur] at m1; cases m1
        | grow e2 cs => have := j3.1 (l.length - 1); rw [this] at hv1; cases hv1
       ·exact ⟨j1, j2, j3.keep (f1 k hk) (fun _ => rfl) rfl (Gh.Le.rfl_ G) (MapsKeep.ne (fun m hm => f1 m hm) fun es c e => by rw [hcur] at e; cases e)⟩
  ·cases h
 ·cases h
theorem Sj {o : Oper} {t : TypeId} {kk : Option IntKind} {K : AS → Prop} {Q : Exit → Act → World → Prop} (hr : RelS P w0 nt ds G s a w) (hd : ∀ t, o.dst = some t → t < nt) (hop : o.op = .makeMap t none)
  (hk : ∀ g, s.n ≤ g → K ⟨AD s.e o.dst (.mp g), g + 1, upd s.H g (some (.map kk []))⟩) : o.wp P a w (After P w0 nt ds G K) Q := by
 have hrun : (execOp a.eval o).run P w = .ok (.value (.map (some w.heap.size))) (w.alloc (.map #[] 0)) := by
  simp [execOp, hop, Instr.makeMap]
 exact CD hrun ⟨G, _, hk w.heap.size hr.r0.hi, Gh.Le.rfl_ G, hr.put hd (Gh.Le.rfl_ G) (hr.r0.newMap kk) .mp⟩
theorem Pn {kk : Option IntKind} {k v : AV} (hk : BN kk k = true) : ∀ {es : List (AV × AV)}, (∀ e ∈ es, BN kk e.1 = true) → ∀ e ∈ C0 k v es, BN kk e.1 = true
 | [], _, e, he => by simp [C0] at he; subst he; exact hk
 | x :: es, h, e, he => by
  simp only [C0] at he
  split at he
  ·rcases List.mem_cons.1 he with he | he
   ·subst he; exact hk
   ·exact h e (List.mem_cons_of_mem _ he)
  ·rcases List.mem_cons.1 he with he | he
   ·rw [he]; exact h x List.mem_cons_self
   ·exact Pn hk (fun e he => h e (List.mem_cons_of_mem _ he)) e he
theorem QD {o : Oper} {mt kt et : TypeId} {kk : Option IntKind} {mo ko vo : Operand} {m k v : AV} {K : AS → Prop} {Q : Exit → Act → World → Prop} (hr : RelS P w0 nt ds G s a w) (hd : ∀ t, o.dst = some t → t < nt) (hop : o.op = .mapUpdate mt mo ko vo ∨ o.op = .insert mt mo ko vo)
  (hm : P.underlying mt = some (.map kt et)) (hkk : Pr P kt = some kk) (hmr : Rep G (a.eval mo) m) (hkr : Rep G (a.eval ko) k) (hvr : Rep G (a.eval vo) v)
  (h : Ds kk o.dst K s k v m) : o.wp P a w (After P w0 nt ds G K) Q := by
 have hku := Qw hkk
 unfold Ds at h
 split at h
 ·rename_i g
  split at h
  ·rename_i kk' es hH
   obtain ⟨rfl, hko, hk⟩ := h
   obtain ⟨j1, j2, es', clock, hb, hrep, hall, hbo⟩ := hr.r0.objs g _ hH
   generalize hmv : a.eval mo = mv at hmr
   cases hmr
   obtain ⟨ms, clock', w1, b1, b2, e1, e2, e3, e4, e5, e6, e7, e8⟩ := M3 (t := U9 kk') hm hku hkr (IU hko) hvr hb hrep (fun e he => IU (hall e he)) hbo
   have hrun : (execOp a.eval o).run P w = .ok .skip w1 := by
    rcases hop with hop | hop <;> simp only [execOp, hop, hmv, Sem.run_bind, e1, Result.andThen_ok, Sem.run_pure]
   exact P8 hrun ⟨G, _, hk, Gh.Le.rfl_ G, hr.put hd (Gh.Le.rfl_ G) (hr.r0.setMap hH hb e2 e3 (Pn hko hall) b1 b2 e4 e5 e6 e7 e8) .any⟩
  ·exact h.elim
 ·exact h.elim
theorem WM {o : Oper} {t kt et : TypeId} {xo : Operand} {x : AV} {K : AS → Prop} {Q : Exit → Act → World → Prop} (hr : RelS P w0 nt ds G s a w) (hd : ∀ t, o.dst = some t → t < nt) (hop : o.op = .range t xo) (hm : P.underlying t = some (.map kt et)) (hxr : Rep G (a.eval xo) x)
  (h : Ra o.dst K s x) : o.wp P a w (After P w0 nt ds G K) Q := by
 unfold Ra at h
 split at h
 ·rename_i m
  split at h
  ·rename_i kk es hH
   obtain ⟨j1, j2, es', clock, hb, hrep, hall, hbo⟩ := hr.r0.objs m _ hH
   generalize hxv : a.eval xo = xv at hxr
   cases hxr
   have hrun : (execOp a.eval o).run P w = .ok (.value (.pointer (some ⟨w.heap.size, 0, none⟩))) (w.alloc (.mapIter (some m) clock #[] clock)) := by
    simp only [execOp, hop, hxv, Sem.run_bind, run_range_map w t kt et m es' clock hm hb, Result.andThen_ok, Sem.run_pure]
   exact CD hrun ⟨G, _, h w.heap.size hr.r0.hi, Gh.Le.rfl_ G, hr.put hd (Gh.Le.rfl_ G) (hr.r0.newIter hH hb) .ptr⟩
  ·exact h.elim
 ·exact h.elim
theorem WR {o : Oper} {xo : Operand} {x : AV} {K : AS → Prop} {Q : Exit → Act → World → Prop} (hr : RelS P w0 nt ds G s a w) (hd : ∀ t, o.dst = some t → t < nt) (hop : o.op = .next xo false) (hxr : Rep G (a.eval xo) x)
  (h : Rk o.dst K s x) : o.wp P a w (After P w0 nt ds G K) Q := by
 unfold Rk at h
 split at h
 ·rename_i g off
  obtain ⟨rfl, h⟩ := h
  split at h
  ·rename_i m len left cur hH
   split at h
   ·rename_i kk es hM
    obtain ⟨hlen, hz, hstep⟩ := h
    obtain ⟨i1, i2, since, seen, es', clock, hg, hb, hle, hck, hnd, hlt, hiff, hcur⟩ := hr.r0.objs g _ hH
    obtain ⟨_, _, es2, c2, hb2, hrep, hall, hbo⟩ := hr.r0.objs m _ hM
    rw [hb] at hb2; injection hb2 with hb2; injection hb2 with q1 q2; subst q1; subst q2
    have hsz : es'.size = es.length := by rw [← hrep.len]; simp
    have hcs : clock = since := by omega
    have hold : ∀ x ∈ es'.toList, x.born < since := fun x hx => by rw [← hcs]; exact hbo.2 _ (List.mem_map.2 ⟨x, hx, rfl⟩)
    generalize hxv : a.eval xo = xv at hxr
    cases hxr
    rcases run_next_any (P := P) o.type hg hb hold (Nat.le_refl _) with ⟨hl0, hrun⟩ | ⟨e, he, w1, a1, a2, a3, a4, hrun⟩
    ·have hempty : left = [] := by
      rcases left with _ | ⟨j, l⟩
      ·rfl
      ·exfalso
       have hj := hlt j List.mem_cons_self
       have hjs : j < es'.size := by omega
       have hbj : (Bo es')[j]? = some es'[j].born := by simp [Bo, hjs]
       have hns := (hiff j _ hbj hj).1 List.mem_cons_self
       have hmem : es'[j] ∈ (leftOf es' seen).toList := by
        simp only [leftOf, Array.toList_filter, List.mem_filter]
        exact ⟨by simp, by simpa using hns⟩
       have : (leftOf es' seen).toList = [] := by
        have := Array.eq_empty_of_size_eq_zero hl0
        rw [this]
       rw [this] at hmem; cases hmem
     have hrun' : (execOp a.eval o).run P w = .ok (.value (.tuple #[.bool false])) w := by
      simp only [execOp, hop, hxv, Sem.run_bind, hrun, Result.andThen_ok, Sem.run_pure]
     exact CD hrun' ⟨G, _, hz hempty, Gh.Le.rfl_ G, hr.put hd (Gh.Le.rfl_ G) hr.r0 (.tup (.cons .bool .nil))⟩
    ·obtain ⟨he1, he2⟩ := mem_left he
     obtain ⟨j, hjl, hje⟩ := List.getElem_of_mem he1
     have hje' : es'.toList[j]? = some e := by rw [List.getElem?_eq_getElem hjl, hje]
     have hjs : es'.toList.length = es'.size := by simp
     have hjlen : j < len := by omega
     have hbj : (Bo es')[j]? = some e.born := by simp only [Bo, List.getElem?_map, hje', Option.map_some]
     have hns : e.born ∉ seen := by simpa using he2
     have hjm : j ∈ left := (hiff j _ hbj hjlen).2 hns
     obtain ⟨k, v, hkv, hkr, hvr⟩ := hrep.at_ hje'
     have hK := hstep j hjm k v hkv
     have hglt : g < w.heap.size := (Array.getElem?_eq_some_iff.1 hg).1
     have hrun' : (execOp a.eval o).run P w = .ok (.value (.tuple #[.bool true, e.key, e.val])) { w1 with heap := w1.heap.setIfInBounds g (.mapIter (some m) since (seen.push e.born) clock) } := by
      simp only [execOp, hop, hxv, Sem.run_bind, hrun, Result.andThen_ok, Sem.run_pure]
     have hoth : ∀ k, k ≠ g → ({ w1 with heap := w1.heap.setIfInBounds g (.mapIter (some m) since (seen.push e.born) clock) } : World).heap[k]? = w.heap[k]? := fun k hk => by
      simp [Array.getElem?_setIfInBounds, Ne.symm hk, a1]
     have hmg : m ≠ g := fun e => by rw [e, hg] at hb; cases hb
     have hob : ObjOk P G ({ w1 with heap := w1.heap.setIfInBounds g (.mapIter (some m) since (seen.push e.born) clock) } : World) g (.iter m len (left.erase j) (some j)) := by
      refine ⟨since, seen.push e.born, es', clock, by simp [a1, hglt, hcs], by rw [hoth m hmg]; exact hb, hle, hck, hnd.erase j, fun i hi => hlt i (List.mem_of_mem_erase hi), fun i b hib hi => ?_, fun i hi => ?_⟩
      ·rw [hnd.mem_erase_iff, hiff i b hib hi]
       simp only [Array.mem_push, not_or]
       constructor
       ·rintro ⟨h1, h2⟩
        refine ⟨h2, fun h3 => h1 ?_⟩
        exact (List.getElem?_inj (List.getElem?_eq_some_iff.1 hib).1 hbo.1).1 (by rw [hib, hbj, h3])
       ·rintro ⟨h1, h2⟩
        exact ⟨fun h3 => h2 (by rw [h3, hbj] at hib; injection hib with hib; exact hib.symm), h1⟩
      ·injection hi with hi; subst hi
       exact ⟨hjlen, _, hbj, by simp⟩
     exact CD hrun' ⟨G, _, hK, Gh.Le.rfl_ G, hr.put hd (Gh.Le.rfl_ G) (hr.r0.setIter hH hg hob hoth (by simp [a1]) (by simp [a2]) (by simp [a3]) (by simp [a4])) (.tup (.cons .bool (.cons hkr (.cons hvr .nil))))⟩
   ·exact h.elim
  ·exact h.elim
 ·exact h.elim
theorem UR {o : Oper} {t e : TypeId} {lo co : Operand} {x y z : AV} {i : TypeInfo} {K : AS → Prop} {Q : Exit → Act → World → Prop} (hr : RelS P w0 nt ds G s a w) (hd : ∀ t, o.dst = some t → t < nt) (hop : o.op = .makeSlice t lo co) (hu : P.underlying t = some (.slice e))
  (hz : zeroOf P e = some [z]) (hi : P.info? e = some i) (h1 : i.size = 1) (hx : Rep G (a.eval lo) x) (hy : Rep G (a.eval co) y) (h : N5 e i.bytes z o.dst K s x y) : o.wp P a w (After P w0 nt ds G K) Q := by
 unfold N5 at h
 split at h
 ·rename_i k n k' m
  obtain ⟨rfl, h0, hb, hm, hk⟩ := h
  obtain ⟨i', zv, hi', hzv, hrz, hone⟩ := Kc (G := G) hz
  rw [hi] at hi'; injection hi' with hi'; subst hi'
  generalize hxv : a.eval lo = xv at hx
  generalize hyv : a.eval co = yv at hy
  cases hx; cases hy
  obtain ⟨c, rfl⟩ : ∃ c : Nat, n = c := ⟨n.toNat, by omega⟩
  have hmx : c ≤ maxLen := by omega
  have hrun : (execOp a.eval o).run P w = .ok (.value (.slice (some ⟨w.heap.size, 0, none⟩) c c)) (w.alloc (.cells (madeCells zv.cells (c * 1)) e)) := by
   have := run_make (P := P) w t e i zv hu hi hzv k k' (c : Int) (c : Int) (by omega) (by omega) hb (by simp only [maxLen] at hmx; omega)
   rw [h1] at this
   simp only [execOp, hop, hxv, hyv, Sem.run_bind, this, Result.andThen_ok, Sem.run_pure, Int.toNat_natCast]
  have hzl : ∃ u, zv.cells.toList = [u] ∧ Rep G u z := by
   generalize zv.cells.toList = l at hrz
   cases hrz with | cons a b => cases b; exact ⟨_, rfl, a⟩
  obtain ⟨u, hzu, hur⟩ := hzl
  have hcells : (madeCells zv.cells (c * 1)).toList = List.replicate c u := by
   have hz2 : zv.cells = #[u] := Array.toList_inj.1 (by rw [hzu])
   rw [hz2]
   unfold madeCells
   apply List.ext_getElem
   ·simp
   ·intro j h1 h2
    simp [Nat.mod_one]
  have hrep : RepL G (madeCells zv.cells (c * 1)).toList (List.replicate c z) := by
   rw [hcells]
   refine RepL.of (by simp) fun j v x hv hx => ?_
   have h1 := List.eq_of_mem_replicate (List.mem_of_getElem? hv)
   have h2 := List.eq_of_mem_replicate (List.mem_of_getElem? hx)
   rw [h1, h2]; exact hur
  have hk' := hk w.heap.size hr.r0.hi
  rw [Int.toNat_natCast] at hk'
  exact CD hrun ⟨G, _, hk', Gh.Le.rfl_ G, hr.put hd (Gh.Le.rfl_ G) (hr.r0.new hrep (fun x hx => by rw [List.eq_of_mem_replicate hx]; exact hone z (by simp))) (.slm (Nat.le_refl _) hmx)⟩
 ·exact h.elim
theorem Sc {o : Oper} {c : Call} {b : Builtin} {op : AOp} {K : AS → Prop} {Q : Exit → Act → World → Prop} (hr : RelS P w0 nt ds G s a w) (hd : ∀ t, o.dst = some t → t < nt) (hop : o.op = .call c) (hcal : c.callee = .builtin b) (hc : Hi P b c.args.toList c.argTypes.toList = some op) (hef : ¬ op.eff = false) (h : AF P o.dst op K s) :
  o.wp P a w (After P w0 nt ds G K) Q := by
 have ht := hr.tm
 have hargs : c.args.map a.eval = (c.args.toList.map a.eval).toArray := by rw [← Array.toList_map]
 have htys : c.argTypes = c.argTypes.toList.toArray := by simp
 have hrun : (execOp a.eval o) = builtin b c.argTypes.toList.toArray o.type (c.args.map fun | .const _ => true | _ => false) (c.args.toList.map a.eval).toArray := by
  simp only [execOp, hop, resolve, hcal, hargs, invoke]
  rw [← htys]
  rfl
 generalize c.args.toList = al at hc hrun
 generalize c.argTypes.toList = tl at hc hrun
 unfold Hi at hc
 split at hc
 ·split at hc <;> first | (injection hc with hc; subst hc; exact absurd rfl hef) | cases hc
 ·rename_i x y t u
  split at hc
  ·rename_i e x' y' hu hx hy
   split at hc
   ·rename_i i hi
    split at hc
    ·rename_i hcond
     obtain ⟨hpos, hzz⟩ := hcond
     obtain ⟨zv, hz, hzs⟩ := Option.map_eq_some_iff.1 hzz
     have hyr := AJ (G := G) (a := a) (e := s.e) hy ht
     split at hc
     ·rename_i hut
      subst hut
      injection hc with hc; subst hc
      simp only [AF] at h
      unfold appKS at h
      split at h
      ·rename_i z m tk hey
       obtain ⟨hz0, m', hsm, h⟩ := h
       rw [hey] at hyr
       have hyr : Rep G (a.eval y) (.sl i.size m' .ro) := hyr.sim ⟨i.size, m', .ro, rfl, .inl rfl, hz0.imp (fun e => e.symm) (fun e => ⟨e, rfl⟩), hsm⟩
       obtain ⟨news, s1, s2, s3, s4⟩ := Wf hu hr.r0 hyr
       obtain ⟨v', w1, G1, r, n1, H1, e1, e2, e3, e4, e5⟩ := RL (ty := o.type) hu hi hz hzs hpos hr.r0 (AJ hx ht) s1 s2 s3 s4 h
       refine CD (w' := w1) (v := v') ?_ ⟨G1, _, e2, e3, hr.put hd e3 e5 e4⟩
       rw [hrun]
       simp only [builtin, List.map_cons, List.map_nil, Sem.run_bind, e1, Result.andThen_ok, Sem.run_pure]
      ·exact h.elim
     ·split at hc
      ·rename_i hcs
       obtain ⟨hstr, hs1⟩ := hcs
       injection hc with hc; subst hc
       have hus : P.underlying u = some .string := by
        unfold A1o at hstr
        split at hstr
        ·assumption
        ·cases hstr
       simp only [AF] at h
       unfold QF at h
       split at h
       ·rename_i b hey
        rw [hey] at hyr
        obtain ⟨b, rfl, hyv⟩ : ∃ b' : ByteArray, b = b'.data.toList ∧ a.eval y = .string b' := by
         generalize a.eval y = v at hyr; cases hyr with | str h => exact ⟨_, h.symm, rfl⟩
        obtain ⟨news, s1, s2, s3, s4⟩ := V1 (P := P) (w := w) (G := G) (s := b) hus
        rw [← hs1] at s1 s3 h
        obtain ⟨v', w1, G1, r, n1, H1, e1, e2, e3, e4, e5⟩ := RL (ty := o.type) hu hi hz hzs hpos hr.r0 (AJ hx ht) s1 s2 s3 s4 h
        refine CD (w' := w1) (v := v') ?_ ⟨G1, _, e2, e3, hr.put hd e3 e5 e4⟩
        rw [hrun]
        simp only [builtin, List.map_cons, List.map_nil, Sem.run_bind, hyv, e1, Result.andThen_ok, Sem.run_pure]
       ·exact h.elim
      ·cases hc
    ·cases hc
   ·cases hc
  ·cases hc
 ·split at hc <;> first | (injection hc with hc; subst hc; exact absurd rfl hef) | cases hc
 ·rename_i x n t u
  split at hc
  ·rename_i el x' n' hu hx hn
   split at hc
   ·rename_i hcond
    injection hc with hc; subst hc
    simp only [AF, K1_iff] at h
    obtain ⟨v, hv, hk⟩ := h
    obtain ⟨v', w1, e1, e2, e3⟩ := Wd (o := o) (ty2 := u) hr hu hcond.1 (AJ hx ht) (AJ hn ht) hv hr.r0.capLo
    refine CD (w' := w1) (v := v') ?_ ⟨G, _, hk, Gh.Le.rfl_ G, hr.put hd (Gh.Le.rfl_ G) e3 e2⟩
    rw [hrun]
    simp only [builtin, List.map_cons, List.map_nil, Sem.run_bind, e1, Result.andThen_ok, Sem.run_pure]
   ·cases hc
  ·cases hc
 ·split at hc <;> first | (injection hc with hc; subst hc; exact absurd rfl hef) | cases hc
 ·split at hc <;> first | (injection hc with hc; subst hc; exact absurd rfl hef) | cases hc
 ·cases hc
theorem U5 {o : Oper} {op : AOp} {ef : List Nat} {K : AS → Prop} {Q : Exit → Act → World → Prop} (hc : cOp P ef o.op = some op) (hd : ∀ t, o.dst = some t → t < nt) (hr : RelS P w0 nt ds G s a w) (h : AF P o.dst op K s) :
  o.wp P a w (After P w0 nt ds G K) Q := by
 by_cases hef : op.eff = false
 ·rw [Ek hef] at h
  unfold K1 at h
  split at h
  ·rename_i v hv
   obtain ⟨v', h1, h2⟩ := ZG hc hv hr
   exact CD h1 ⟨G, _, h, Gh.Le.rfl_ G, hr.put hd (Gh.Le.rfl_ G) hr.r0 h2⟩
  ·exact h.elim
 ·have ht := hr.tm
  have hc0 := hc
  unfold cOp at hc
  split at hc
  case h_4 => -- alloc
   rename_i e hop
   split at hc
   ·rename_i z hz
    injection hc with hc; subst hc
    obtain ⟨i, zv, hi, hzv, hrz, h1⟩ := Kc (G := G) hz
    obtain ⟨ho, hk⟩ := h
    exact Qn hr hd rfl hrz h1 (by simp [execOp, hop, Instr.alloc, zeroValue, typeInfo, hi, hzv, newVar, Go.newRow]) hk
   ·cases hc
  case h_5 => -- box
   rename_i e x hop
   split at hc
   ·rename_i sh x' hsh hx
    injection hc with hc; subst hc
    obtain ⟨hf, ho, hk⟩ := h
    have hxr := AJ (G := G) (a := a) (e := s.e) hx ht
    exact Qn hr hd rfl (hxr.cells ho) ho (by simp [execOp, hop, Instr.box, newVar, Go.newRow]) hk
   ·cases hc
  case h_7 => -- buildSlice
   rename_i t len ps hop
   split at hc
   ·rename_i e hu
    split at hc
    ·rename_i sh xs hsh hxs
     split at hc
     ·rename_i hcond
      injection hc with hc; subst hc
      obtain ⟨h1, hk⟩ := h
      rcases hk with hk | hk
      ·exact X8 hr hd hop hu hsh hxs hcond.1 hcond.2.1 hcond.2.2 h1 hk
      ·exact VQ hr hd hop hu hsh hxs hcond.1 hcond.2.1 hcond.2.2 h1 hk
     ·cases hc
    ·cases hc
   ·cases hc
  case h_9 => -- store
   rename_i t xo vo hop
   split at hc
   ·rename_i sh x' v' hsh hx hv
    injection hc with hc; subst hc
    exact U4 hr hd hop hsh (AJ hx ht) (AJ hv ht) h
   ·cases hc
  case h_14 => -- convert
   rename_i src dst x hop
   split at hc
   ·injection hc with hc; subst hc; exact absurd rfl hef
   ·injection hc with hc; subst hc; exact absurd rfl hef
   ·split at hc
    ·injection hc with hc; subst hc; exact absurd rfl hef
    ·cases hc
   ·split at hc
    ·injection hc with hc; subst hc; exact absurd rfl hef
    ·cases hc
   ·rename_i x' u hx hs hdu
    split at hc
    ·rename_i hinf
     injection hc with hc; subst hc
     simp only [AF, K1_iff] at h
     obtain ⟨v, hv, hk⟩ := h
     obtain ⟨v', h1, h2⟩ := SF hr.r0 hs hdu hinf.1 hinf.2 (AJ hx ht) hv
     exact CD (v := v') (by simp only [execOp, hop, Sem.run_bind, h1, Result.andThen_ok, Sem.run_pure]) ⟨G, _, hk, Gh.Le.rfl_ G, hr.put hd (Gh.Le.rfl_ G) hr.r0 h2⟩
    ·cases hc
   ·rename_i x' e hx hs hdu
    split at hc
    ·rename_i he
     injection hc with hc; subst hc
     simp only [AF] at h
     have hxr := AJ (G := G) (a := a) (e := s.e) hx ht
     split at h
     ·rename_i b hb
      rw [hb] at hxr
      have hb' : b = (⟨b.toArray⟩ : ByteArray).data.toList := by simp
      rw [hb'] at hxr
      exact WZ hr hd hop hs hdu he hxr h.1 (fun n' hn => by simpa using h.2 n' hn)
     ·exact h.elim
    ·cases hc
   ·rename_i x' e _ hx hs hdu
    split at hc
    ·rename_i he
     split at hc
     ·rename_i hsd
      injection hc with hc; subst hc
      simp only [AF] at h
      have hxr := AJ (G := G) (a := a) (e := s.e) hx ht
      split at h
      ·rename_i sz l g hb
       rw [hb] at hxr
       exact WP hr hd hop hs hdu he hsd hxr h.1 h.2
      ·exact h.elim
     ·cases hc
    ·cases hc
   ·cases hc
  case h_15 => -- makeMap
   rename_i t hop
   split at hc
   ·obtain ⟨kk, _, rfl⟩ := Option.map_eq_some_iff.1 hc
    exact Sj hr hd hop h
   ·cases hc
  case h_17 => -- mapUpdate
   rename_i t m k x hop
   split at hc
   ·rename_i kt el m' k' x' hm hm' hk' hx'
    obtain ⟨kk, hkk, rfl⟩ := Option.map_eq_some_iff.1 hc
    exact QD hr hd (.inl hop) hm hkk (AJ hm' ht) (AJ hk' ht) (AJ hx' ht) h
   ·cases hc
  case h_18 => -- insert
   rename_i t m k x hop
   split at hc
   ·rename_i kt el m' k' x' hm hm' hk' hx'
    obtain ⟨kk, hkk, rfl⟩ := Option.map_eq_some_iff.1 hc
    exact QD hr hd (.inr hop) hm hkk (AJ hm' ht) (AJ hk' ht) (AJ hx' ht) h
   ·cases hc
  case h_26 => -- call
   rename_i c hop
   unfold Vg at hc
   split at hc
   ·rename_i f hcal
    split at hc
    ·rename_i xs hxs
     split at hc
     ·rename_i fn hfn
      split at hc
      ·rename_i hb
       injection hc with hc
       have hrep := Hh (G := G) (a := a) (e := s.e) hxs ht
       have hrun : (execOp a.eval o).run P w = .ok (.enter f (c.args.toList.map a.eval).toArray) w := by
        simp only [execOp, hop, resolve, hcal, Act.eval, Deferred.ofValue, Sem.run_bind, Sem.run_pure, Result.andThen_ok, invoke]
        rw [Ht hfn hb, ← Array.toList_map]
        simp only [Array.toArray_toList, Array.append_empty, Array.empty_append]
       split at hc
       ·subst hc; exact SH hr hd hrep hrun h
       ·subst hc; exact SH hr hd hrep hrun h.toK
      ·split at hc
       ·split at hc
        ·injection hc with hc; subst hc; exact absurd rfl hef
        ·cases hc
       ·cases hc
     ·cases hc
    ·cases hc
   ·rename_i t hcal
    split at hc
    ·rename_i xs hxs
     injection hc with hc; subst hc
     simp only [AF] at h
     split at h
     ·rename_i f fst cap hev
      have hrep := Hh (G := G) (a := a) (e := s.e) hxs ht
      have hfr := ht t
      simp only [ev] at hev
      rw [hev] at hfr
      obtain ⟨hcb, h⟩ := h
      unfold Ec at hcb
      split at hcb
      ·rename_i fn hfn
       generalize hfv : a.tmps.getD t undef = fv at hfr
       cases hfr with
       | fn h1 h2 =>
        rename_i va vb
        have hrep' := (h1.append hrep).append h2
        refine SH hr hd hrep' ?_ h
        simp only [execOp, hop, resolve, hcal, Act.eval, hfv, Deferred.ofValue, Sem.run_bind, Sem.run_pure, Result.andThen_ok, invoke]
        rw [Ht hfn hcb]
        congr 2
        rw [← Array.toList_map]
        simp
      ·cases hcb
     ·exact h.elim
    ·cases hc
   ·rename_i b hcal
    exact Sc hr hd hop hcal hc hef h
   ·cases hc
  case h_27 => -- defer
   exfalso
   split at hc
   ·obtain ⟨xs, h1, h2⟩ := Option.map_eq_some_iff.1 hc
    subst h2; exact hef rfl
   ·cases hc
  case h_28 => -- range
   rename_i t x hop
   split at hc
   ·rename_i hm hx
    injection hc with hc; subst hc
    exact WM hr hd hop hm (AJ hx ht) h
   ·cases hc
  case h_29 => -- next
   rename_i x hop
   obtain ⟨x', hx, rfl⟩ := SZ hc
   exact WR hr hd hop (AJ hx ht) h
  case h_31 => -- makeSlice
   rename_i t l c hop
   split at hc
   ·rename_i e x' y' hu hx hy
    split at hc
    ·rename_i z i hz hi
     split at hc
     ·rename_i h1
      injection hc with hc; subst hc
      exact UR hr hd hop hu hz hi h1 (AJ hx ht) (AJ hy ht) h
     ·cases hc
    ·cases hc
   ·cases hc
  all_goals (repeat' (first | (injection hc with hc; subst hc; exact absurd rfl hef) | (obtain ⟨_, _, rfl⟩ := Option.map_eq_some_iff.1 hc; exact absurd rfl hef) | (cases hc; done) | split at hc | (unfold SS at hc; split at hc)))
end
open Go.RowKit
section
variable {P : Program} {e e' : AH} {n : Nat} {H : A3}
theorem AC {x : Opd} {l : List Nat} (hx : ∀ t ∈ x.use, t ∈ l) (h : ∀ t ∈ l, get e t = get e' t) : ev e x = ev e' x := by
 cases x with
 | t i => exact h i (hx i (by simp [Opd.use]))
 | c v => rfl
theorem CJ {xs : List Opd} {l : List Nat} (hx : ∀ t ∈ Qi xs, t ∈ l) (h : ∀ t ∈ l, get e t = get e' t) : xs.map (ev e) = xs.map (ev e') := by
 induction xs with
 | nil => rfl
 | cons x xs ih =>
  simp only [Qi, List.mem_append] at hx
  rw [List.map_cons, List.map_cons, AC (fun t ht => hx t (.inl ht)) h, ih fun t ht => hx t (.inr ht)]
theorem Ib {x : Option Opd} {l : List Nat} (hx : ∀ t ∈ A2w x, t ∈ l) (h : ∀ t ∈ l, get e t = get e' t) : x.map (ev e) = x.map (ev e') := by
 cases x with
 | none => rfl
 | some x => simp only [Option.map_some]; rw [AC (x := x) hx h]
theorem XL {ps : List (Nat × Cm × Opd)} {l : List Nat} (hx : ∀ t ∈ Zq ps, t ∈ l) (h : ∀ t ∈ l, get e t = get e' t) : ps.map (fun x => (x.1, x.2.1, ev e x.2.2)) = ps.map (fun x => (x.1, x.2.1, ev e' x.2.2)) ∧ ps.map (fun x => (x.1, ev e x.2.2)) = ps.map (fun x => (x.1, ev e' x.2.2)) := by
 induction ps with
 | nil => exact ⟨rfl, rfl⟩
 | cons x xs ih =>
  simp only [Zq, List.mem_append] at hx
  obtain ⟨i1, i2⟩ := ih fun t ht => hx t (.inr ht)
  have h1 : ev e x.2.2 = ev e' x.2.2 := AC (fun t ht => hx t (.inl ht)) h
  constructor
  ·rw [List.map_cons, List.map_cons, h1, i1]
  ·rw [List.map_cons, List.map_cons, h1, i2]
theorem Hg {op : AOp} (h : ∀ t ∈ op.uses, get e t = get e' t) : pe op e H = pe op e' H := by
 cases op <;> simp only [pe] <;> simp only [AOp.uses] at h
 case mv x => rw [AC (fun _ ht => ht) h]
 case pick c x y => rw [AC (x := c) (by simp +contextual) h, AC (x := x) (by simp +contextual) h, AC (x := y) (by simp +contextual) h]
 case bin o x y => rw [AC (x := x) (by simp +contextual) h, AC (x := y) (by simp +contextual) h]
 case eqs k g x y => rw [AC (x := x) (by simp +contextual) h, AC (x := y) (by simp +contextual) h]
 case eqb g x y => rw [AC (x := x) (by simp +contextual) h, AC (x := y) (by simp +contextual) h]
 case eqn g x => rw [AC (fun _ ht => ht) h]
 case eqp g x => rw [AC (fun _ ht => ht) h]
 case eqi g x => rw [AC (fun _ ht => ht) h]
 case neg x => rw [AC (fun _ ht => ht) h]
 case not x => rw [AC (fun _ ht => ht) h]
 case cvi k x => rw [AC (fun _ ht => ht) h]
 case mkfn f a b => rw [CJ (xs := a) (by simp +contextual) h, CJ (xs := b) (by simp +contextual) h]
 case cut sz x lo hi => rw [AC (x := x) (by simp +contextual) h, Ib (x := lo) (by simp +contextual) h, Ib (x := hi) (by simp +contextual) h]
 case cutS x lo hi => rw [AC (x := x) (by simp +contextual) h, Ib (x := lo) (by simp +contextual) h, Ib (x := hi) (by simp +contextual) h]
 case faddr x o s => rw [AC (fun _ ht => ht) h]
 case field x o s => rw [AC (fun _ ht => ht) h]
 case iaddr z s x i => rw [AC (x := x) (by simp +contextual) h, AC (x := i) (by simp +contextual) h]
 case aaddr k z s x i => rw [AC (x := x) (by simp +contextual) h, AC (x := i) (by simp +contextual) h]
 case sidx x i => rw [AC (x := x) (by simp +contextual) h, AC (x := i) (by simp +contextual) h]
 case aidx k z s x i => rw [AC (x := x) (by simp +contextual) h, AC (x := i) (by simp +contextual) h]
 case len x => rw [AC (fun _ ht => ht) h]
 case lenS x => rw [AC (fun _ ht => ht) h]
 case extr x i => rw [AC (fun _ ht => ht) h]
 case nilck x => rw [AC (fun _ ht => ht) h]
 case load s x => rw [AC (fun _ ht => ht) h]
 case build z ps =>
  obtain ⟨h1, h2⟩ := XL (ps := ps) (fun _ ht => ht) h
  rw [h1, h2]
 case mm m x y => rw [AC (x := x) (by simp +contextual) h, AC (x := y) (by simp +contextual) h]
 case b2s x => rw [AC (fun _ ht => ht) h]
 case upc x => rw [AC (fun _ ht => ht) h]
 case usd el x => rw [AC (fun _ ht => ht) h]
 case eqpp ng x y => rw [AC (x := x) (by simp +contextual) h, AC (x := y) (by simp +contextual) h]
 case r2s x => rw [AC (fun _ ht => ht) h]
 case ent x => rw [AC (fun _ ht => ht) h]
 case mget kk z ok x y => rw [AC (x := x) (by simp +contextual) h, AC (x := y) (by simp +contextual) h]
theorem Ep {d : Option Nat} {op : AOp} {K K' : AS → Prop} (h : ∀ t ∈ op.uses, get e t = get e' t) (ha : AF P d op K ⟨e, n, H⟩) (hk : ∀ r n' H', K ⟨AD e d r, n', H'⟩ → K' ⟨AD e' d r, n', H'⟩) : AF P d op K' ⟨e', n, H⟩ := by
 by_cases hef : op.eff = false
 ·rw [Ek hef] at ha ⊢
  rw [← Hg (H := H) h]
  exact K1.mono ha fun v hv => hk v n H hv
 ·cases op <;> first | exact absurd rfl hef | skip
  case alloc t z => exact ⟨ha.1, fun g hg => hk _ _ _ (ha.2 g hg)⟩
  case box t s x =>
   have hx := AC (x := x) (fun _ ht => ht) h
   simp only [AF] at ha ⊢
   rw [← hx]
   exact ⟨ha.1, ha.2.1, fun g hg => hk _ _ _ (ha.2.2 g hg)⟩
  case store s x v =>
   have hx := AC (x := x) (by simp +contextual [AOp.uses]) h
   have hv := AC (x := v) (by simp +contextual [AOp.uses]) h
   simp only [AF] at ha ⊢
   rw [← hx, ← hv]
   unfold Cz at ha ⊢
   split at ha
   ·split at ha
    ·rename_i e0 cs hg
     simp only at hg ⊢
     rw [hg]
     exact ⟨ha.1, ha.2.1, ha.2.2.1, hk _ _ _ ha.2.2.2⟩
    ·rename_i e0 cs hg
     simp only at hg ⊢
     rw [hg]
     exact ⟨ha.1, ha.2.1, ha.2.2.1, hk _ _ _ ha.2.2.2⟩
    ·exact ha.elim
   ·exact ha
  case bsl t s xs =>
   have hx := CJ (xs := xs) (fun _ ht => ht) h
   simp only [AF] at ha ⊢
   rw [← hx]
   refine ⟨fun x hx' => ?_, ha.2.imp (fun ha g hg => hk _ _ _ (ha g hg)) (fun ha g hg => hk _ _ _ (ha g hg))⟩
   rw [← AC (x := x) (e := e) (e' := e') (l := Qi xs) ?_ h]
   ·exact ha.1 x hx'
   ·clear ha h hx hef
    induction xs with
    | nil => simp at hx'
    | cons y ys ih =>
     intro t ht
     simp only [Qi, List.mem_append]
     rcases List.mem_cons.1 hx' with rfl | hx'
     ·exact .inl ht
     ·exact .inr (ih hx' t ht)
  case app t z b x y =>
   have hx := AC (x := x) (by simp +contextual [AOp.uses]) h
   have hy := AC (x := y) (by simp +contextual [AOp.uses]) h
   simp only [AF] at ha ⊢
   rw [← hx, ← hy]
   unfold appKS at ha ⊢
   split at ha
   ·obtain ⟨h1, m', h2, h3⟩ := ha
    exact ⟨h1, m', h2, MY h3 hk⟩
   ·exact ha
  case appB t b x y =>
   have hx := AC (x := x) (by simp +contextual [AOp.uses]) h
   have hy := AC (x := y) (by simp +contextual [AOp.uses]) h
   simp only [AF] at ha ⊢
   rw [← hx, ← hy]
   unfold QF at ha ⊢
   split at ha
   ·exact MY ha hk
   ·exact ha
  case s2b t x =>
   have hx := AC (x := x) (fun _ ht => ht) h
   simp only [AF] at ha ⊢
   rw [← hx]
   split at ha
   ·exact ⟨ha.1, fun n' hn => hk _ _ _ (ha.2 n' hn)⟩
   ·exact ha
  case s2s x =>
   have hx := AC (x := x) (fun _ ht => ht) h
   simp only [AF] at ha ⊢
   rw [← hx]
   split at ha
   ·exact ⟨ha.1, hk _ _ _ ha.2⟩
   ·exact ha
  case mkmap kk => exact fun g hg => hk _ _ _ (ha g hg)
  case mset kk m k v =>
   have hm := AC (x := m) (by simp +contextual [AOp.uses]) h
   have hk' := AC (x := k) (by simp +contextual [AOp.uses]) h
   have hv := AC (x := v) (by simp +contextual [AOp.uses]) h
   simp only [AF] at ha ⊢
   rw [← hm, ← hk', ← hv]
   unfold Ds at ha ⊢
   split at ha
   ·split at ha
    ·rename_i kk' es hg
     simp only at hg ⊢
     rw [hg]
     exact ⟨ha.1, ha.2.1, hk _ _ _ ha.2.2⟩
    ·exact ha.elim
   ·exact ha
  case mksl el b z x y =>
   have hx := AC (x := x) (by simp +contextual [AOp.uses]) h
   have hy := AC (x := y) (by simp +contextual [AOp.uses]) h
   simp only [AF] at ha ⊢
   rw [← hx, ← hy]
   unfold N5 at ha ⊢
   split at ha
   ·exact ⟨ha.1, ha.2.1, ha.2.2.1, ha.2.2.2.1, fun g hg => hk _ _ _ (ha.2.2.2.2 g hg)⟩
   ·exact ha
  case rng x =>
   have hx := AC (x := x) (fun _ ht => ht) h
   simp only [AF] at ha ⊢
   rw [← hx]
   unfold Ra at ha ⊢
   split at ha
   ·split at ha
    ·rename_i kk es hg
     simp only at hg ⊢
     rw [hg]
     exact fun g hg' => hk _ _ _ (ha g hg')
    ·exact ha.elim
   ·exact ha
  case nxt x =>
   have hx := AC (x := x) (fun _ ht => ht) h
   simp only [AF] at ha ⊢
   rw [← hx]
   unfold Rk at ha ⊢
   split at ha
   ·refine ⟨ha.1, ?_⟩
    have ha := ha.2
    split at ha
    ·rename_i hg
     split at ha
     ·rename_i hg2
      simp only at hg hg2 ⊢
      rw [hg]
      simp only
      rw [hg2]
      exact ⟨ha.1, fun h0 => hk _ _ _ (ha.2.1 h0), fun j hj k v hv => hk _ _ _ (ha.2.2 j hj k v hv)⟩
     ·exact ha.elim
    ·exact ha.elim
   ·exact ha
  case updn u x =>
   have hx := AC (x := x) (fun _ ht => ht) h
   simp only [AF] at ha ⊢
   rw [← hx]
   exact K1.mono ha fun v hv => hk _ _ _ hv
  case ust t x k =>
   have hx := AC (x := x) (by simp +contextual [AOp.uses]) h
   have hy := AC (x := k) (by simp +contextual [AOp.uses]) h
   simp only [AF] at ha ⊢
   rw [← hx, ← hy]
   exact K1.mono ha fun v hv => hk _ _ _ hv
  case call f xs =>
   have hx := CJ (xs := xs) (fun _ ht => ht) h
   simp only [AF] at ha ⊢
   rw [← hx]
   obtain ⟨R, h1, h2⟩ := ha
   exact ⟨R, h1, fun r n' H' a b c => hk _ _ _ (h2 r n' H' a b c)⟩
  case callp f xs =>
   have hx := CJ (xs := xs) (fun _ ht => ht) h
   simp only [AF] at ha ⊢
   rw [← hx]
   obtain ⟨args', v, h1, hs, h2⟩ := ha
   exact ⟨args', v, h1, hs, hk _ _ _ h2⟩
  case callv x xs =>
   have hx := AC (x := x) (by simp +contextual [AOp.uses]) h
   have hxs := CJ (xs := xs) (by simp +contextual [AOp.uses]) h
   simp only [AF] at ha ⊢
   rw [← hx, ← hxs]
   split at ha
   ·obtain ⟨hc, R, h1, h2⟩ := ha
    exact ⟨hc, R, h1, fun r n' H' a b c => hk _ _ _ (h2 r n' H' a b c)⟩
   ·exact ha
theorem M9 {o : AOper} {K K' : AS → Prop} (h : ∀ t ∈ o.uses, get e t = get e' t) (ha : awO P o K ⟨e, n, H⟩) (hk : ∀ r n' H', K ⟨AD e o.dst r, n', H'⟩ → K' ⟨AD e' o.dst r, n', H'⟩) : awO P o K' ⟨e', n, H⟩ := by
 have hop : ∀ t ∈ o.op.uses, get e t = get e' t := fun t ht => h t (List.mem_append_left _ ht)
 unfold awO at ha ⊢
 split at ha
 ·exact Ep hop ha hk
 ·rename_i t want hg
  have ht : get e t = get e' t := h t (List.mem_append_right _ (by rw [hg]; simp))
  simp only at ha ⊢
  rw [← ht]
  split at ha
  ·exact ⟨fun hb => Ep hop (ha.1 hb) hk, fun hb => hk _ _ _ (ha.2 hb)⟩
  ·exact hk _ _ _ ha
  ·exact ha
/-! ### what has one outcome -/
def DV (P : Program) (op : AOp) (e : AH) (H : A3) (v : AV) : Prop :=
 match op with
 | .callp f xs => ∃ args', APure P f args' v ∧ A5 (xs.map (ev e)) args'
 | .updn u x => Bp P H u (ev e x) = some v
 | .ust t x k => DQ t (ev e x) (ev e k) = some v
 | op => pe op e H = some v
def Yp (P : Program) (o : AOper) (e : AH) (H : A3) (v : AV) : Prop :=
 match o.guard with
 | none => DV P o.op e H v
 | some (t, want) => (∃ b, get e t = .bool b ∧ (b = want → DV P o.op e H v) ∧ (b ≠ want → v = .und)) ∨ (get e t = .und ∧ v = .und)
theorem Ua {d : Option Nat} {op : AOp} {K : AS → Prop} (hc : op.cls ≠ .eff) : AF P d op K ⟨e, n, H⟩ ↔ ∃ v, DV P op e H v ∧ K ⟨AD e d v, n, H⟩ := by
 by_cases hef : op.eff = false
 ·rw [Ek hef, K1_iff]
  have : ∀ v, DV P op e H v ↔ pe op e H = some v := fun v => by cases op <;> first | rfl | (exact absurd hef (by simp [AOp.eff]))
  simp only [this]
 ·cases op <;> first | exact absurd rfl hef | exact absurd rfl hc | rfl | (simp only [AF, K1_iff, DV]; done) | (simp only [AF, DV]; exact ⟨fun ⟨a, v, h1, h2, h3⟩ => ⟨v, ⟨a, h1, h2⟩, h3⟩, fun ⟨v, ⟨a, h1, h2⟩, h3⟩ => ⟨a, v, h1, h2, h3⟩⟩)
theorem FC {o : AOper} {K : AS → Prop} (hc : o.op.cls ≠ .eff) : awO P o K ⟨e, n, H⟩ ↔ ∃ v, Yp P o e H v ∧ K ⟨AD e o.dst v, n, H⟩ := by
 unfold awO Yp
 cases hg : o.guard with
 | none => exact Ua hc
 | some p =>
  obtain ⟨t, want⟩ := p
  simp only
  constructor
  ·intro h
   split at h
   ·rename_i b hb
    by_cases hw : b = want
    ·obtain ⟨v, h1, h2⟩ := (Ua hc).1 (h.1 hw)
     exact ⟨v, .inl ⟨b, hb, fun _ => h1, fun h => absurd hw h⟩, h2⟩
    ·exact ⟨.und, .inl ⟨b, hb, fun h => absurd h hw, fun _ => rfl⟩, h.2 hw⟩
   ·rename_i hb
    exact ⟨.und, .inr ⟨hb, rfl⟩, h⟩
   ·exact h.elim
  ·rintro ⟨v, ⟨b, hb, h1, h2⟩ | ⟨hb, h1⟩, hk⟩
   ·rw [hb]
    simp only
    refine ⟨fun hw => (Ua hc).2 ⟨v, h1 hw, hk⟩, fun hw => ?_⟩
    rw [h2 hw] at hk; exact hk
   ·rw [hb]
    simp only
    rw [h1] at hk; exact hk
theorem T4 {op : AOp} {H' : A3} {v : AV} (h : ∀ t ∈ op.uses, get e t = get e' t) (hH : op.cls = .pure ∨ H = H') (hd : DV P op e H v) : DV P op e' H' v := by
 have key : op.eff = false → op.cls = .pure ∨ op.cls = .rd → pe op e H = some v → pe op e' H' = some v := by
  intro _ hcl hp
  rcases hH with hH | hH
  ·have : pe op e' H' = pe op e' H := by cases op <;> first | rfl | cases hH
   rw [this, ← Hg (H := H) h]; exact hp
  ·subst hH; rw [← Hg (H := H) h]; exact hp
 cases op <;> first | exact key rfl (by simp [AOp.cls]) hd | (simp only [DV, pe] at hd; cases hd; done) | skip
 case updn u x =>
  rcases hH with hH | hH
  ·cases hH
  ·subst hH
   simp only [DV] at hd ⊢
   rw [← AC (x := x) (fun _ ht => ht) h]; exact hd
 case ust t x k =>
  simp only [DV] at hd ⊢
  rw [← AC (x := x) (by simp +contextual [AOp.uses]) h, ← AC (x := k) (by simp +contextual [AOp.uses]) h]; exact hd
 case callp f xs =>
  simp only [DV] at hd ⊢
  rw [← CJ (xs := xs) (fun _ ht => ht) h]; exact hd
theorem F1 {o : AOper} {H' : A3} {v : AV} (h : ∀ t ∈ o.uses, get e t = get e' t) (hH : o.op.cls = .pure ∨ H = H') (hd : Yp P o e H v) : Yp P o e' H' v := by
 have hop : ∀ t ∈ o.op.uses, get e t = get e' t := fun t ht => h t (List.mem_append_left _ ht)
 unfold Yp at hd ⊢
 cases hg : o.guard with
 | none => rw [hg] at hd; exact T4 hop hH hd
 | some p =>
  obtain ⟨t, want⟩ := p
  rw [hg] at hd
  have ht : get e t = get e' t := h t (List.mem_append_right _ (by rw [hg]; simp))
  rcases hd with ⟨b, hb, h1, h2⟩ | ⟨hb, h1⟩
  ·exact .inl ⟨b, by rw [← ht]; exact hb, fun hw => T4 hop hH (h1 hw), h2⟩
  ·exact .inr ⟨by rw [← ht]; exact hb, h1⟩
def EInv (K : AS → Prop) : Prop := ∀ e e' n H, (∀ t, get e t = get e' t) → K ⟨e, n, H⟩ → K ⟨e', n, H⟩
theorem AL (e : AH) (d : Option Nat) (v : AV) (k : Nat) : get (AD e d v) k = if d = some k then v else get e k := by
 cases d with
 | none => simp [AD]
 | some t =>
  simp only [AD, get_put, Option.some.injEq]
  by_cases hk : k = t
  ·subst hk; simp
  ·have : ¬ t = k := fun e => hk e.symm
   simp [hk, this]
theorem EInv.awO {o : AOper} {K : AS → Prop} (hK : EInv K) : EInv (awO P o K) := fun e e' n H h ha =>
 M9 (fun t _ => h t) ha fun r n' H' hk => hK _ _ _ _ (fun t => by simp only [AL, h]) hk
theorem EInv.awOps {os : List AOper} {K : AS → Prop} (hK : EInv K) : EInv (awOps P os K) := by
 induction os with
 | nil => exact hK
 | cons o os ih => exact EInv.awO ih
theorem YJ {x y : AOper} {K : AS → Prop} {s : AS} (hK : EInv K) (hap : D7 x y = true) (hcm : x.op.cls.comm y.op.cls = true) (h : awO P x (awO P y K) s) : awO P y (awO P x K) s := by
 obtain ⟨e, n, H⟩ := s
 have hx : x.op.cls ≠ .eff := by intro hc; rw [hc] at hcm; cases hy : y.op.cls <;> rw [hy] at hcm <;> cases hcm
 obtain ⟨v, hv, hy⟩ := (FC hx).1 h
 simp only [D7, Bool.and_eq_true] at hap
 obtain ⟨hap1, hap2⟩ := hap
 have u1 : ∀ t ∈ y.uses, ¬ x.dst = some t := by
  intro t ht hd
  rw [hd] at hap1
  simp only [Bool.and_eq_true, Bool.not_eq_true', List.contains_eq_mem, decide_eq_false_iff_not] at hap1
  exact hap1.1 ht
 have u2 : ∀ t ∈ x.uses, ¬ y.dst = some t := by
  intro t ht hd
  rw [hd] at hap2
  simp only [Bool.not_eq_true', List.contains_eq_mem, decide_eq_false_iff_not] at hap2
  exact hap2 ht
 have u3 : ∀ t, x.dst = some t → ¬ y.dst = some t := by
  intro t hd hd'
  rw [hd, hd'] at hap1
  simp at hap1
 have perm : ∀ r t, get (AD (AD e x.dst v) y.dst r) t = get (AD (AD e y.dst r) x.dst v) t := by
  intro r t
  simp only [AL]
  by_cases h1 : x.dst = some t
  ·simp [h1, u3 t h1]
  ·simp [h1]
 have agreeX : ∀ r, ∀ t ∈ x.uses, get e t = get (AD e y.dst r) t := fun r t ht => by rw [AL, if_neg (u2 t ht)]
 by_cases hyd : y.op.cls = .eff
 ·have hxp : x.op.cls = .pure := by cases hxc : x.op.cls <;> rw [hxc, hyd] at hcm <;> first | rfl | cases hcm
  refine M9 (e := AD e x.dst v) (fun t ht => by rw [AL, if_neg (u1 t ht)]) hy fun r n' H' hk => ?_
  exact (FC hx).2 ⟨v, F1 (agreeX r) (.inl hxp) hv, hK _ _ _ _ (perm r) hk⟩
 ·obtain ⟨r, hr, hk⟩ := (FC hyd).1 hy
  refine (FC hyd).2 ⟨r, F1 (fun t ht => by rw [AL, if_neg (u1 t ht)]) (.inr rfl) hr, ?_⟩
  exact (FC hx).2 ⟨v, F1 (agreeX r) (.inr rfl) hv, hK _ _ _ _ (perm r) hk⟩
theorem HV {gs : List Nat} {g : Nat} (h : g ∈ gs) (H : A3) : AU gs H g = none := by
 induction gs with
 | nil => cases h
 | cons a gs ih =>
  simp only [AU]
  split
  ·rfl
  ·rename_i hne
   rcases List.mem_cons.1 h with h | h
   ·exact absurd h hne
   ·exact ih h
theorem EZ {gs : List Nat} {H : A3} {k : Nat} {ob : AObj} (h : AU gs H k = some ob) : H k = some ob := by
 induction gs with
 | nil => exact h
 | cons a gs ih =>
  simp only [AU] at h
  split at h
  ·cases h
  ·exact ih h
theorem Cq {gs : List Nat} {H H' : A3} {k : Nat} (h : H k = H' k) : AU gs H k = AU gs H' k := by
 induction gs with
 | nil => exact h
 | cons a gs ih => simp only [AU, ih]
theorem Qk {gs : List Nat} {g : Nat} (h : g ∈ gs) (H : A3) (o : Option AObj) : AU gs (upd H g o) = AU gs H := by
 funext k
 by_cases hk : k ∈ gs
 ·rw [HV hk, HV hk]
 ·have hne : k ≠ g := fun e => hk (e ▸ h)
  exact Cq (by simp [upd, hne])
theorem Lb {sh : Cm} {x : Opd} {e : AH} {H H' : A3} {v : AV} (hH : ∀ k ob, ob.seen = true → H k = some ob → H' k = some ob) (h : pe (.load sh x) e H = some v) : pe (.load sh x) e H' = some v := by
 simp only [pe] at h ⊢
 generalize ev e x = p at h ⊢
 cases p <;> simp only [Ap] at h ⊢ <;> first | exact h | skip
 rename_i g o
 cases hg : H g with
 | none => rw [hg] at h; simp at h
 | some ob => rw [hg] at h; cases ob <;> first | (rw [hH g _ rfl hg]; exact h) | (simp at h; done)
theorem QN {kk : Option IntKind} {z : AV} {ok : Bool} {m k : Opd} {e : AH} {H H' : A3} {v : AV} (hH : ∀ k ob, ob.seen = true → H k = some ob → H' k = some ob) (h : pe (.mget kk z ok m k) e H = some v) : pe (.mget kk z ok m k) e H' = some v := by
 simp only [pe] at h ⊢
 generalize ev e m = p at h ⊢
 unfold DY at h ⊢
 cases p <;> simp only at h ⊢ <;> first | exact h | skip
 rename_i g
 cases hg : H g with
 | none => rw [hg] at h; simp at h
 | some ob => rw [hg] at h; cases ob <;> first | (rw [hH g _ rfl hg]; exact h) | (simp at h; done)
theorem Y8 {gs gs' : List Nat} {sh : Cm} {x : Opd} {g : Option (Nat × Bool)} {e : AH} {H H' : A3} {v : AV} (hH : ∀ k ob, ob.seen = true → AU gs H k = some ob → AU gs' H' k = some ob) (h : Ox gs sh x g e H = some v) : Ox gs' sh x g e H' = some v := by
 unfold Ox at h ⊢
 split at h
 ·exact Lb hH h
 ·split at h
  ·split at h
   ·rename_i hb; simp only [hb, if_true]; exact Lb hH h
   ·rename_i hb; simp only [hb, if_false]; exact h
  ·exact h
  ·cases h
theorem A0g {P : Program} {gs : List Nat} {sh : Cm} {x : Opd} {g : Option (Nat × Bool)} {d : Option Nat} {e : AH} {n : Nat} {H : A3} {v : AV} {K : AS → Prop} (h : Ox gs sh x g e H = some v) (hk : K ⟨AD e d v, n, H⟩) : awO P ⟨d, .load sh x, g⟩ K ⟨e, n, H⟩ := by
 have hl : pe (.load sh x) e (AU gs H) = some v → AF P d (.load sh x) K ⟨e, n, H⟩ := fun hv => by
  rw [Ek rfl, Lb (fun k ob _ => EZ) hv]; exact hk
 unfold Ox at h
 unfold awO
 split at h
 ·exact hl h
 ·simp only
  split at h
  ·split at h
   ·rename_i hb; exact ⟨fun _ => hl h, fun hne => absurd hb hne⟩
   ·rename_i hb; injection h with h; subst h; exact ⟨fun he => absurd he hb, fun _ => hk⟩
  ·injection h with h; subst h; exact hk
  ·cases h
theorem KeepM.rfl_ (gs : List Nat) (H : A3) : KeepM gs H H := fun _ _ _ h => h
theorem KeepM.upd {gs : List Nat} {H : A3} {g : Nat} {x : Option AObj} (h : ∀ ob, ob.seen = true → AU gs H g ≠ some ob) : KeepM gs H (upd H g x) := fun k ob hs hk => by
 have hkg : k ≠ g := fun e => by subst e; exact h ob hs hk
 rw [← hk]
 exact Cq (by simp only [Go.Proofs.YtnfjgphfaemjcaaGreatDoor.upd, hkg, if_false])
theorem KeepM.new {gs : List Nat} {H : A3} {g : Nat} {x : Option AObj} (h : H g = none) : KeepM gs H (Go.Proofs.YtnfjgphfaemjcaaGreatDoor.upd H g x) := KeepM.upd fun ob _ he => by have := EZ he; rw [h] at this; cases this
theorem KeepM.tr {gs : List Nat} {H H' H'' : A3} (h : KeepM gs H H') (k : KeepM gs H' H'') : KeepM gs H H'' := fun i ob hs hi => k i ob hs (h i ob hs hi)
theorem KeepM.two {gs : List Nat} {H : A3} {g0 g : Nat} {x : AObj} (h0 : ∀ ob, ob.seen = true → AU gs H g0 ≠ some ob) (h : g = g0 ∨ H g = none) : KeepM gs H (Go.Proofs.YtnfjgphfaemjcaaGreatDoor.upd (Go.Proofs.YtnfjgphfaemjcaaGreatDoor.upd H g0 none) g (some x)) := by
 rcases h with rfl | h
 ·rw [DK]; exact KeepM.upd h0
 ·refine (KeepM.upd (x := none) h0).tr (KeepM.new ?_)
  simp only [Go.Proofs.YtnfjgphfaemjcaaGreatDoor.upd]; split
  ·rfl
  ·exact h
theorem YQ {gs : List Nat} {d : Option Nat} {t sz b : Nat} {x y : Opd} {K : AS → Prop} {s : AS} (hs : ∀ k, s.n ≤ k → s.H k = none) (hg : JW gs (ev s.e x)) (h : AF P d (.app t sz b x y) (KM gs s.H K) s) : AF P d (.app t sz b x y) K s := by
 simp only [AF] at h ⊢
 generalize ev s.e x = vx at h hg ⊢
 generalize ev s.e y = vy at h ⊢
 unfold appKS at h ⊢
 split at h
 ·obtain ⟨h1, m', h2, h3⟩ := h
  refine ⟨h1, m', h2, ?_⟩
  unfold K4 at h3 ⊢
  split at h3
  ·refine ⟨h3.1, h3.2.1, ?_⟩
   have h4 := h3.2.2
   split at h4
   ·exact ⟨fun hm => h4.1 hm (KeepM.rfl_ _ _), fun hm => (h4.2 hm).imp (fun h g hg => h g hg (KeepM.new (hs g hg))) (fun h g hg => h g hg (KeepM.new (hs g hg)))⟩
   ·refine ⟨h4.1, h4.2.1, fun g n' e1 e2 e3 => h4.2.2 g n' e1 e2 e3 (KeepM.two (fun ob hse he => ?_) (e1.imp id fun h => hs g h))⟩
    have := EZ he
    rw [h4.2.1] at this; injection this with this; subst this; cases hse
   ·exact h4
  ·refine ⟨h3.1, h3.2.1, h3.2.2.1, ?_⟩
   have h4 := h3.2.2.2
   unfold M6 at h4 ⊢
   split at h4
   ·refine ⟨h4.1, h4.2.1, fun g n' e1 e2 e3 => h4.2.2 g n' e1 e2 e3 (KeepM.two (fun ob hse he => ?_) (e1.imp id fun h => hs g h))⟩
    rw [HV hg] at he; cases he
   ·exact h4
  ·exact h3
 ·exact h
theorem newK.at_ {m : Mode} {lo : Nat} {s : AS} {K : Nat → Nat → Prop} (h : newK m lo s K) {g : Nat} (hg : s.n ≤ g) (hn : s.H g = none) : K g (g + 1) := by
 unfold newK at h
 split at h
 ·exact h.2.2 g (g + 1) (by omega) hn (by omega) (by omega)
 ·exact h.2.2 g (g + 1) (by omega) hn (by omega) (by omega)
 ·exact h.2.2 g (g + 1) (by omega) hn (by omega) (by omega)
 ·exact h g hg hn
theorem A52 {md : Mode} {gs : List Nat} {H : A3} {k : Nat} {ob : AObj} (h : AU gs (hM md H) k = some ob) : AU gs H k = some ob := by
 cases md <;> first | exact h | exact nomatch EZ h
theorem YN {lo : Nat} {d : Option Nat} {f : Nat} {args : List AV} {K : AS → Prop} {s : AS} (hs : ∀ k, s.n ≤ k → s.H k = none) (h : cpyK P lo d f args K s) : CallK P f args d K s := by
 obtain ⟨hlo, hf, sz, l, el, hc, h0, h1⟩ := h
 refine ⟨_, hc s.n s.H, fun r n' H' hn hs' hR => ?_⟩
 rcases hR with ⟨hl, rfl, rfl, rfl⟩ | ⟨g, g1, g2, rfl, rfl⟩
 ·exact h0 hl
 ·exact h1 g n' (by omega) (hs g g1) hn g2
theorem cpyK.map {lo : Nat} {d : Option Nat} {f : Nat} {args : List AV} {K K' : AS → Prop} {e e' : AH} {n : Nat} {H : A3} (h : cpyK P lo d f args K ⟨e, n, H⟩) (hk : ∀ r n' H', (H' = H ∨ ∃ g ob, H g = none ∧ H' = upd H g (some ob)) → K ⟨AD e d r, n', H'⟩ → K' ⟨AD e' d r, n', H'⟩) : cpyK P lo d f args K' ⟨e', n, H⟩ := by
 obtain ⟨hlo, hf, sz, l, el, hc, h0, h1⟩ := h
 exact ⟨hlo, hf, sz, l, el, hc, fun hl => hk _ _ _ (.inl rfl) (h0 hl), fun g n' q1 q2 q3 q4 => hk _ _ _ (.inr ⟨g, _, q2, rfl⟩) (h1 g n' q1 q2 q3 q4)⟩
theorem Wx {md : Mode} {lo : Nat} {gs : List Nat} {o : AOper} {K : AS → Prop} {s : AS} (hs : ∀ k, s.n ≤ k → s.H k = none) (h : awOM P md lo gs o K s) : awO P o K s := by
 unfold awOM at h
 split at h
 ·rename_i d sh x g
  unfold K1 at h
  split at h
  ·rename_i v hv
   exact A0g (Y8 (fun k ob _ => A52) hv) h
  ·exact h.elim
 ·exact ⟨h.1, fun g hg => h.2.at_ hg (hs g hg)⟩
 ·exact ⟨h.1, h.2.1, fun g hg => h.2.2.at_ hg (hs g hg)⟩
 ·exact h.2
 ·exact ⟨h.1, .inl fun g hg => h.2.at_ hg (hs g hg)⟩
 ·unfold K1 at h
  split at h
  ·rename_i v hv
   simp only [awO]
   rw [Ek rfl, QN (fun k ob _ => EZ) hv]; exact h
  ·exact h.elim
 ·exact YQ hs h.get.1 h.get.2
 ·rename_i d f xs
  cases md <;> first | exact YN hs h | exact DT h.2 fun s' h' => h'.2 | exact DT (show AF P d (.call f xs) (KC gs s.H K) s from h) fun s' h' => h'.2
 ·exact h
def AOper.sp (o : AOper) : Bool := match o with
 | ⟨_, .load _ _, _⟩ | ⟨_, .alloc _ _, none⟩ | ⟨_, .box _ _ _, none⟩ | ⟨_, .store _ _ _, none⟩ | ⟨_, .bsl _ _ _, none⟩ | ⟨_, .mget _ _ _ _ _, none⟩ | ⟨_, .app _ _ _ _ _, none⟩ | ⟨_, .call _ _, none⟩ => true
 | _ => false
theorem RW {gs : List Nat} {sh : Cm} {x : Opd} {g : Option (Nat × Bool)} {d : Option Nat} {e e' : AH} {H : A3} (h : ∀ t ∈ (⟨d, .load sh x, g⟩ : AOper).uses, get e t = get e' t) : Ox gs sh x g e H = Ox gs sh x g e' H := by
 have hop : ∀ t ∈ (AOp.load sh x).uses, get e t = get e' t := fun t ht => h t (List.mem_append_left _ ht)
 have hp : pe (.load sh x) e (AU gs H) = pe (.load sh x) e' (AU gs H) := Hg hop
 unfold Ox
 split
 ·exact hp
 ·rename_i t want
  have ht : get e t = get e' t := h t (List.mem_append_right _ (by simp))
  rw [ht, hp]
theorem DJ {md : Mode} {lo : Nat} {gs : List Nat} {o : AOper} {K : AS → Prop} {s : AS} (h : o.sp = false) : awOM P md lo gs o K s = awO P o K s := by
 unfold awOM
 split
 ·cases h
 ·cases h
 ·cases h
 ·cases h
 ·cases h
 ·cases h
 ·cases h
 ·cases h
 ·rfl
theorem El {md : Mode} {lo : Nat} {gs : List Nat} {o : AOper} {K K' : AS → Prop} (h : ∀ t ∈ o.uses, get e t = get e' t) (ha : awOM P md lo gs o K ⟨e, n, H⟩) (hk : ∀ r n' H', K ⟨AD e o.dst r, n', H'⟩ → K' ⟨AD e' o.dst r, n', H'⟩) : awOM P md lo gs o K' ⟨e', n, H⟩ := by
 have hop : ∀ t ∈ o.op.uses, get e t = get e' t := fun t ht => h t (List.mem_append_left _ ht)
 unfold awOM at ha ⊢
 split at ha
 ·simp only at ha ⊢
  rw [← RW h]
  exact K1.mono ha fun v hv => hk _ _ _ hv
 ·exact ⟨ha.1, ha.2.mono fun g n' _ h => hk _ _ _ h⟩
 ·rename_i d t sh x
  simp only at ha ⊢
  rw [← AC (x := x) (e := e) (e' := e') (l := (AOp.box t sh x).uses) (by simp +contextual [AOp.uses]) hop]
  exact ⟨ha.1, ha.2.1, ha.2.2.mono fun g n' _ h => hk _ _ _ h⟩
 ·rename_i d sh x v
  simp only at ha ⊢
  rw [← AC (x := x) (e := e) (e' := e') (l := (AOp.store sh x v).uses) (by simp +contextual [AOp.uses]) hop]
  exact ⟨ha.1, Ep hop ha.2 hk⟩
 ·rename_i d t sh xs
  have hb : AF P d (.bsl t sh xs) (fun _ => True) ⟨e, n, H⟩ := ⟨ha.1, .inl fun _ _ => trivial⟩
  have := Ep (K' := fun _ => True) hop hb (fun _ _ _ _ => trivial)
  have hx := CJ (xs := xs) (fun _ ht => ht) hop
  refine ⟨this.1, ha.2.mono fun g n' _ h => ?_⟩
  simp only
  rw [← hx]
  exact hk _ _ _ h
 ·rename_i d kk z ok m k
  simp only at ha ⊢
  have hp : pe (.mget kk z ok m k) e (AU gs H) = pe (.mget kk z ok m k) e' (AU gs H) := Hg hop
  rw [← hp]
  exact K1.mono ha fun v hv => hk _ _ _ hv
 ·rename_i d t sz b x y
  simp only at ha ⊢
  rw [← AC (x := x) (e := e) (e' := e') (l := (AOp.app t sz b x y).uses) (by simp +contextual [AOp.uses]) hop]
  have step : (JW gs (ev e x) ∧ AF P d (.app t sz b x y) (KM gs H K) ⟨e, n, H⟩) → JW gs (ev e x) ∧ AF P d (.app t sz b x y) (KM gs H K') ⟨e', n, H⟩ := fun ha => ⟨ha.1, Ep hop ha.2 fun r n' H' h' hm => hk _ _ _ (h' hm)⟩
  exact ha.map rfl rfl step
 ·rename_i d f xs
  have step : AF P d (.call f xs) (KC gs H K) ⟨e, n, H⟩ → AF P d (.call f xs) (KC gs H K') ⟨e', n, H⟩ := fun ha => Ep hop ha fun r n' H' h' => ⟨h'.1, hk _ _ _ h'.2⟩
  have G6 : exK gs d K ⟨e, n, H⟩ → exK gs d K' ⟨e', n, H⟩ := fun h m => by
   obtain ⟨r, n', H', h1, h2, h3⟩ := h m
   exact ⟨r, n', H', h1, h2, hk _ _ _ h3⟩
  have hx := CJ (xs := xs) (fun _ ht => ht) hop
  simp only at ha ⊢
  rw [← hx]
  exact ha.map G6 (fun h => h.map fun r n' H' _ h' => hk _ _ _ h') step
 ·exact M9 h ha hk
theorem EInv.awOM {md : Mode} {lo : Nat} {gs : List Nat} {o : AOper} {K : AS → Prop} (hK : EInv K) : EInv (awOM P md lo gs o K) := fun e e' n H h ha =>
 El (fun t _ => h t) ha fun r n' H' hk => hK _ _ _ _ (fun t => by simp only [AL, h]) hk
theorem V4 {gs : List Nat} {d : Option Nat} {sh : Cm} {x v : Opd} {K : AS → Prop} {s : AS} (hb : Vi gs (ev s.e x)) (h : AF P d (.store sh x v) K s) : AF P d (.store sh x v) (fun s' => K s' ∧ AU gs s'.H = AU gs s.H) s := by
 simp only [AF] at h ⊢
 generalize ev s.e x = p at h hb ⊢
 unfold Cz at h ⊢
 cases p <;> simp only at h ⊢ <;> first | exact h.elim | skip
 rename_i g o
 split at h
 ·exact ⟨h.1, h.2.1, h.2.2.1, h.2.2.2, Qk hb _ _⟩
 ·exact ⟨h.1, h.2.1, h.2.2.1, h.2.2.2, Qk hb _ _⟩
 ·exact h.elim
structure Drw (P : Program) (W : AOper → (AS → Prop) → AS → Prop) (C : AOper → AOper → Bool) : Prop where
 mono : ∀ {o : AOper} {K K' : AS → Prop} {s : AS}, W o K s → (∀ s, K s → K' s) → W o K' s
 einv : ∀ {o : AOper} {K : AS → Prop}, EInv K → EInv (W o K)
 swap : ∀ {x y : AOper} {K : AS → Prop} {s : AS}, EInv K → D7 x y = true → C x y = true → W x (W y K) s → W y (W x K) s
 down : ∀ {o : AOper} {K : AS → Prop} {s : AS}, (∀ k, s.n ≤ k → s.H k = none) → W o K s → awO P o K s
theorem WL : Drw P (awO P) fun x y => x.op.cls.comm y.op.cls :=
 ⟨fun h hk => IJ h hk, fun hK => EInv.awO hK, fun hK ha hc h => YJ hK ha hc h, fun _ h => h⟩
theorem GU {x y : AOper} (h : D7 x y = true) : (∀ t ∈ y.uses, ¬ x.dst = some t) ∧ (∀ t ∈ x.uses, ¬ y.dst = some t) ∧ ∀ (e : AH) v r t, get (AD (AD e x.dst v) y.dst r) t = get (AD (AD e y.dst r) x.dst v) t := by
 simp only [D7, Bool.and_eq_true] at h
 obtain ⟨hap1, hap2⟩ := h
 refine ⟨fun t ht hd => ?_, fun t ht hd => ?_, fun e v r t => ?_⟩
 ·rw [hd] at hap1
  simp only [Bool.and_eq_true, Bool.not_eq_true', List.contains_eq_mem, decide_eq_false_iff_not] at hap1
  exact hap1.1 ht
 ·rw [hd] at hap2
  simp only [Bool.not_eq_true', List.contains_eq_mem, decide_eq_false_iff_not] at hap2
  exact hap2 ht
 ·have u3 : ∀ t, x.dst = some t → ¬ y.dst = some t := by
   intro t hd hd'
   rw [hd, hd'] at hap1
   simp at hap1
  simp only [AL]
  by_cases h1 : x.dst = some t
  ·simp [h1, u3 t h1]
  ·simp [h1]
theorem X1 {md : Mode} {lo : Nat} {gs : List Nat} {x y : AOper} {K : AS → Prop} {s : AS} (hK : EInv K) (hap : D7 x y = true) (hxp : x.op.cls = .pure) (h : awOM P md lo gs x (awOM P md lo gs y K) s) : awOM P md lo gs y (awOM P md lo gs x K) s := by
 obtain ⟨e, n, H⟩ := s
 have hxs : x.sp = false := by
  obtain ⟨d, op, g⟩ := x
  cases op <;> first | rfl | cases hxp
 have hx : x.op.cls ≠ .eff := by rw [hxp]; intro hc; cases hc
 rw [DJ hxs] at h
 obtain ⟨v, hv, hy⟩ := (FC hx).1 h
 obtain ⟨u1, u2, perm⟩ := GU hap
 refine El (e := AD e x.dst v) (fun t ht => by rw [AL, if_neg (u1 t ht)]) hy fun r n' H' hk => ?_
 rw [DJ hxs]
 exact (FC hx).2 ⟨v, F1 (fun t ht => by rw [AL, if_neg (u2 t ht)]) (.inl hxp) hv, hK _ _ _ _ (perm e v r) hk⟩
structure Looks (P : Program) (md : Mode) (lo : Nat) (gs : List Nat) (x : AOper) (val : AH → A3 → Option AV) : Prop where
 eq : ∀ (K : AS → Prop) (e : AH) (n : Nat) (H : A3), awOM P md lo gs x K ⟨e, n, H⟩ = K1 (val e H) fun v => K ⟨AD e x.dst v, n, H⟩
 congr : ∀ (e e' : AH) (H : A3), (∀ t ∈ x.uses, get e t = get e' t) → val e H = val e' H
 le : ∀ (e : AH) (H H' : A3) (v : AV), KeepM gs H H' → val e H = some v → val e H' = some v
theorem DA {md : Mode} {lo : Nat} {gs : List Nat} {d : Option Nat} {sh : Cm} {p : Opd} {g : Option (Nat × Bool)} : Looks P md lo gs ⟨d, .load sh p, g⟩ (fun e H => Ox gs sh p g e (hM md H)) :=
 ⟨fun _ _ _ _ => rfl, fun _ _ _ h => RW h, fun _ _ _ _ hk h => by cases md <;> first | exact Y8 hk h | exact h⟩
theorem Eq {md : Mode} {lo : Nat} {gs : List Nat} {d : Option Nat} {kk : Option IntKind} {z : AV} {ok : Bool} {m k : Opd} : Looks P md lo gs ⟨d, .mget kk z ok m k, none⟩ (fun e H => pe (.mget kk z ok m k) e (AU gs H)) :=
 ⟨fun _ _ _ _ => rfl, fun e e' H h => Hg fun t ht => h t (List.mem_append_left _ ht), fun _ _ _ _ hk h => QN hk h⟩
theorem Ca {md : Mode} {lo : Nat} {gs : List Nat} {x y : AOper} {val : AH → A3 → Option AV} {K : AS → Prop} {s : AS} (hx : Looks P md lo gs x val) (hK : EInv K) (hap : D7 x y = true)
  (hy : ∀ {K : AS → Prop} {e : AH} {n : Nat} {H : A3}, awOM P md lo gs y K ⟨e, n, H⟩ → awOM P md lo gs y (fun s' => K s' ∧ KeepM gs H s'.H) ⟨e, n, H⟩) (h : awOM P md lo gs x (awOM P md lo gs y K) s) : awOM P md lo gs y (awOM P md lo gs x K) s := by
 obtain ⟨e, n, H⟩ := s
 obtain ⟨u1, u2, perm⟩ := GU hap
 rw [hx.eq] at h
 unfold K1 at h
 split at h
 ·rename_i v hv
  refine El (e := AD e x.dst v) (fun t ht => by rw [AL, if_neg (u1 t ht)]) (hy h) fun r n' H' hk => ?_
  rw [hx.eq, ← hx.congr e _ H' (fun t ht => by rw [AL, if_neg (u2 t ht)]), hx.le e H H' v hk.2 hv]
  exact hK _ _ _ _ (perm e v r) hk.1
 ·exact h.elim
theorem W6 {md : Mode} {lo : Nat} {gs : List Nat} {y : AOper} {K : AS → Prop} {e : AH} {n : Nat} {H : A3} (hy : y.op.cls ≠ .eff) (h : awOM P md lo gs y K ⟨e, n, H⟩) : awOM P md lo gs y (fun s' => K s' ∧ s'.H = H) ⟨e, n, H⟩ := by
 unfold awOM at h ⊢
 split at h
 ·exact K1.mono h fun v hv => ⟨hv, rfl⟩
 ·exact absurd rfl hy
 ·exact absurd rfl hy
 ·exact absurd rfl hy
 ·exact absurd rfl hy
 ·exact K1.mono h fun v hv => ⟨hv, rfl⟩
 ·exact absurd rfl hy
 ·exact absurd rfl hy
 ·obtain ⟨v, h1, h2⟩ := (FC hy).1 h
  exact (FC hy).2 ⟨v, h1, h2, rfl⟩
theorem ZW {md : Mode} {lo : Nat} {gs : List Nat} {x y : AOper} {K : AS → Prop} {s : AS} (hK : EInv K) (hap : D7 x y = true) (hxs : x.sp = false) (hx : x.op.cls ≠ .eff) (hyd : y.op.cls ≠ .eff) (h : awOM P md lo gs x (awOM P md lo gs y K) s) : awOM P md lo gs y (awOM P md lo gs x K) s := by
 obtain ⟨e, n, H⟩ := s
 rw [DJ hxs] at h
 obtain ⟨v, hv, hy⟩ := (FC hx).1 h
 obtain ⟨u1, u2, perm⟩ := GU hap
 refine El (e := AD e x.dst v) (fun t ht => by rw [AL, if_neg (u1 t ht)]) (W6 hyd hy) fun r n' H' hk => ?_
 rw [DJ hxs]
 have hH : H' = H := hk.2
 exact (FC hx).2 ⟨v, F1 (fun t ht => by rw [AL, if_neg (u2 t ht)]) (.inr hH.symm) hv, hK _ _ _ _ (perm e v r) hk.1⟩
theorem A0e {md : Mode} {lo : Nat} {gs : List Nat} {y : AOper} (h : y.sp = true) (hc : y.op.cls = .rd) : ∃ val, Looks P md lo gs y val := by
 unfold AOper.sp at h
 split at h
 ·exact ⟨_, DA⟩
 ·cases hc
 ·cases hc
 ·cases hc
 ·cases hc
 ·exact ⟨_, Eq⟩
 ·cases hc
 ·cases hc
 ·cases h
theorem IP {md : Mode} {lo : Nat} {gs : List Nat} {d : Option Nat} {t : TypeId} {z : List AV} {K : AS → Prop} {e : AH} {n : Nat} {H : A3} (h : awOM P md lo gs ⟨d, .alloc t z, none⟩ K ⟨e, n, H⟩) : awOM P md lo gs ⟨d, .alloc t z, none⟩ (fun s' => K s' ∧ KeepM gs H s'.H) ⟨e, n, H⟩ :=
 ⟨h.1, h.2.mono fun g n' hn h => ⟨h, KeepM.new hn⟩⟩
theorem X0 {md : Mode} {lo : Nat} {gs : List Nat} {d : Option Nat} {t : TypeId} {sh : Cm} {x : Opd} {K : AS → Prop} {e : AH} {n : Nat} {H : A3} (h : awOM P md lo gs ⟨d, .box t sh x, none⟩ K ⟨e, n, H⟩) : awOM P md lo gs ⟨d, .box t sh x, none⟩ (fun s' => K s' ∧ KeepM gs H s'.H) ⟨e, n, H⟩ :=
 ⟨h.1, h.2.1, h.2.2.mono fun g n' hn h => ⟨h, KeepM.new hn⟩⟩
theorem MW {md : Mode} {lo : Nat} {gs : List Nat} {d : Option Nat} {t : TypeId} {sh : Cm} {xs : List Opd} {K : AS → Prop} {e : AH} {n : Nat} {H : A3} (h : awOM P md lo gs ⟨d, .bsl t sh xs, none⟩ K ⟨e, n, H⟩) : awOM P md lo gs ⟨d, .bsl t sh xs, none⟩ (fun s' => K s' ∧ KeepM gs H s'.H) ⟨e, n, H⟩ :=
 ⟨h.1, h.2.mono fun g n' hn h => ⟨h, KeepM.new hn⟩⟩
theorem N8 {lo : Nat} {gs : List Nat} {d : Option Nat} {sh : Cm} {x v : Opd} {K : AS → Prop} {e : AH} {n : Nat} {H : A3} (h : awOM P .late lo gs ⟨d, .store sh x v, none⟩ K ⟨e, n, H⟩) : awOM P .late lo gs ⟨d, .store sh x v, none⟩ (fun s' => K s' ∧ KeepM gs H s'.H) ⟨e, n, H⟩ :=
 ⟨h.1, DT (V4 h.1 h.2) fun s' h' => ⟨h'.1, fun k ob _ hk => by rw [h'.2]; exact hk⟩⟩
theorem MX {md : Mode} {lo : Nat} {gs : List Nat} {d : Option Nat} {t sz b : Nat} {x y : Opd} {K : AS → Prop} {e : AH} {n : Nat} {H : A3} (h : awOM P md lo gs ⟨d, .app t sz b x y, none⟩ K ⟨e, n, H⟩) : awOM P md lo gs ⟨d, .app t sz b x y, none⟩ (fun s' => K s' ∧ KeepM gs H s'.H) ⟨e, n, H⟩ :=
 freeM.map h rfl rfl fun h => ⟨h.1, DT h.2 fun s' h' hm => ⟨h' hm, hm⟩⟩
theorem I4 {md : Mode} {lo : Nat} {gs : List Nat} {d : Option Nat} {f : Nat} {xs : List Opd} {K : AS → Prop} {e : AH} {n : Nat} {H : A3} (h : awOM P md lo gs ⟨d, .call f xs, none⟩ K ⟨e, n, H⟩) : awOM P md lo gs ⟨d, .call f xs, none⟩ (fun s' => K s' ∧ KeepM gs H s'.H) ⟨e, n, H⟩ := by
 have step : AF P d (.call f xs) (KC gs H K) ⟨e, n, H⟩ → AF P d (.call f xs) (KC gs H fun s' => K s' ∧ KeepM gs H s'.H) ⟨e, n, H⟩ := fun h1 => DT h1 fun s' h' => ⟨h'.1, h'.2, h'.1⟩
 have G6 : exK gs d K ⟨e, n, H⟩ → exK gs d (fun s' => K s' ∧ KeepM gs H s'.H) ⟨e, n, H⟩ := fun h m => by
  obtain ⟨r, n', H', h1, h2, h3⟩ := h m
  exact ⟨r, n', H', h1, h2, h3, h1⟩
 exact exM.map h G6 (fun h => h.map fun r n' H' hq h' => ⟨h', by rcases hq with rfl | ⟨g, ob, hg, rfl⟩; exact KeepM.rfl_ _ _; exact KeepM.new hg⟩) step
theorem SA {md : Mode} {lo : Nat} {gs : List Nat} {d : Option Nat} {sh : Cm} {p v : Opd} {y : AOper} {K : AS → Prop} {s : AS} (hK : EInv K) (hap : D7 ⟨d, .store sh p v, none⟩ y = true) (hyp : y.op.cls = .pure) (h : awOM P md lo gs ⟨d, .store sh p v, none⟩ (awOM P md lo gs y K) s) : awOM P md lo gs y (awOM P md lo gs ⟨d, .store sh p v, none⟩ K) s := by
 obtain ⟨e, n, H⟩ := s
 have hys : y.sp = false := by
  obtain ⟨d, op, g⟩ := y
  cases op <;> first | rfl | cases hyp
 have hy : y.op.cls ≠ .eff := by rw [hyp]; intro hc; cases hc
 obtain ⟨u1, u2, perm⟩ := GU hap
 obtain ⟨hb, h⟩ := h
 simp only [AF] at h
 generalize hvv : ev e v = vv at h
 generalize hpp : ev e p = pp at h hb
 have key : ∀ (ob : AObj) (g : Nat), awOM P md lo gs y K ⟨AD e d .any, n, upd H g (some ob)⟩ → ∃ u, Yp P y e H u ∧ K ⟨AD (AD e y.dst u) d .any, n, upd H g (some ob)⟩ := fun ob g hk => by
  rw [DJ hys] at hk
  obtain ⟨u, hu, hk⟩ := (FC hy).1 hk
  exact ⟨u, F1 (fun t ht => by rw [AL, if_neg (u1 t ht)]) (.inl hyp) hu, hK _ _ _ _ (fun t => (perm e .any u t)) hk⟩
 have hv' : ∀ u, ev (AD e y.dst u) v = vv := fun u => by
  rw [← hvv]; exact (AC (l := (AOp.store sh p v).uses) (by simp +contextual [AOp.uses]) fun t ht => by rw [AL, if_neg (u2 t (List.mem_append_left _ ht))])
 have hp' : ∀ u, ev (AD e y.dst u) p = pp := fun u => by
  rw [← hpp]; exact (AC (l := (AOp.store sh p v).uses) (by simp +contextual [AOp.uses]) fun t ht => by rw [AL, if_neg (u2 t (List.mem_append_left _ ht))])
 rw [DJ hys]
 unfold Cz at h
 split at h
 ·rename_i g o
  split at h
  ·rename_i et cs hg
   obtain ⟨u, hu, hk⟩ := key _ _ h.2.2.2
   refine (FC hy).2 ⟨u, hu, ?_⟩
   refine ⟨by rw [hp' u]; exact hb, ?_⟩
   simp only [AF, hv' u, hp' u, Cz]
   simp only at hg
   rw [hg]
   exact ⟨h.1, h.2.1, h.2.2.1, hk⟩
  ·rename_i et cs hg
   obtain ⟨u, hu, hk⟩ := key _ _ h.2.2.2
   refine (FC hy).2 ⟨u, hu, ?_⟩
   refine ⟨by rw [hp' u]; exact hb, ?_⟩
   simp only [AF, hv' u, hp' u, Cz]
   simp only at hg
   rw [hg]
   exact ⟨h.1, h.2.1, h.2.2.1, hk⟩
  ·exact h.elim
 ·exact h.elim
theorem F9 {H : A3} {g g' : Nat} {a b : Option AObj} (h : g ≠ g') : upd (upd H g a) g' b = upd (upd H g' b) g a := by
 funext k
 simp only [upd]
 by_cases h1 : k = g
 ·subst h1; simp [h]
 ·simp [h1]
theorem Pb {sh : Cm} {d : Option Nat} {K : AS → Prop} {e : AH} {n : Nat} {H : A3} {v x : AV} (h : Cz sh d K ⟨e, n, H⟩ v x) : ∃ g o ob ob', x = .ptr g o ∧ H g = some ob ∧ K ⟨AD e d .any, n, upd H g (some ob')⟩ ∧ ∀ (K' : AS → Prop) (e' : AH) (H' : A3), H' g = some ob → K' ⟨AD e' d .any, n, upd H' g (some ob')⟩ → Cz sh d K' ⟨e', n, H'⟩ v x := by
 unfold Cz at h
 split at h
 ·rename_i g o
  split at h
  ·rename_i et cs hg
   refine ⟨g, o, _, _, rfl, hg, h.2.2.2, fun K' e' H' hg' hk => ?_⟩
   simp only [Cz, hg']
   exact ⟨h.1, h.2.1, h.2.2.1, hk⟩
  ·rename_i et cs hg
   refine ⟨g, o, _, _, rfl, hg, h.2.2.2, fun K' e' H' hg' hk => ?_⟩
   simp only [Cz, hg']
   exact ⟨h.1, h.2.1, h.2.2.1, hk⟩
  ·exact h.elim
 ·exact h.elim
theorem VF {q lo : Nat} {gs : List Nat} {d d' : Option Nat} {sh sh' : Cm} {i j : Nat} {v v' : Opd} {K : AS → Prop} {s : AS} (hK : EInv K) (hap : D7 ⟨d, .store sh (.t i) v, none⟩ ⟨d', .store sh' (.t j) v', none⟩ = true) (hi : i ≠ q) (hj : j = q)
  (h : awOM P (.last q) lo gs ⟨d, .store sh (.t i) v, none⟩ (awOM P (.last q) lo gs ⟨d', .store sh' (.t j) v', none⟩ K) s) : awOM P (.last q) lo gs ⟨d', .store sh' (.t j) v', none⟩ (awOM P (.last q) lo gs ⟨d, .store sh (.t i) v, none⟩ K) s := by
 obtain ⟨e, n, H⟩ := s
 obtain ⟨u1, u2, perm⟩ := GU hap
 have c1 : ∀ (x : Opd), (∀ t ∈ x.use, t ∈ (AOp.store sh' (.t j) v').uses) → ev (AD e d .any) x = ev e x := fun x hx =>
  (AC (l := x.use) (fun _ h => h) fun t ht => by rw [AL, if_neg (u1 t (List.mem_append_left _ (hx t ht)))]).symm
 have c2 : ∀ (x : Opd), (∀ t ∈ x.use, t ∈ (AOp.store sh (.t i) v).uses) → ev (AD e d' .any) x = ev e x := fun x hx =>
  (AC (l := x.use) (fun _ h => h) fun t ht => by rw [AL, if_neg (u2 t (List.mem_append_left _ (hx t ht)))]).symm
 obtain ⟨hb, h⟩ := h
 obtain ⟨g, o, ob, ob', e1, e2, ⟨hb2, h2⟩, e3⟩ := Pb h
 have a1 : ev (AD e d .any) (.t j) = ev e (.t j) := c1 (.t j) (by simp +contextual [AOp.uses])
 have a2 : ev (AD e d .any) v' = ev e v' := c1 v' (by simp +contextual [AOp.uses])
 have b1 : ev (AD e d' .any) (.t i) = ev e (.t i) := c2 (.t i) (by simp +contextual [AOp.uses])
 have b2 : ev (AD e d' .any) v = ev e v := c2 v (by simp +contextual [AOp.uses])
 simp only [AF, a1, a2] at h2
 obtain ⟨g', o', oc, oc', f1, f2, f4, f3⟩ := Pb h2
 simp only [a1] at hb2
 have hin : g' < lo ∧ g' ∉ gs := by have := hb2.1 hj; rw [f1] at this; exact this
 have hout : lo ≤ g ∨ g ∈ gs := by have := hb.2 hi; simp only at this; rw [e1] at this; exact this
 have hne : g ≠ g' := fun e => by
  subst e
  rcases hout with h | h
  ·exact absurd hin.1 (by omega)
  ·exact hin.2 h
 simp only [upd, if_neg (Ne.symm hne)] at f2
 refine ⟨hb2, f3 _ _ _ f2 ⟨?_, ?_⟩⟩
 ·simp only [b1]; exact hb
 ·simp only [AF, b1, b2]
  refine e3 _ _ _ (by simp only [upd, if_neg hne]; exact e2) ?_
  rw [F9 (Ne.symm hne)]
  exact hK _ _ _ _ (fun t => perm e .any .any t) f4
structure Makes (P : Program) (md : Mode) (lo : Nat) (gs : List Nat) (x : AOper) (c : AH → Prop) (w : AH → Nat → AV) (ob : AObj) : Prop where
 eq : ∀ (K : AS → Prop) (e : AH) (n : Nat) (H : A3), awOM P md lo gs x K ⟨e, n, H⟩ ↔ (c e ∧ lo ≤ n ∧ FreeH H ∧ ∀ g n', lo ≤ g → H g = none → n ≤ n' → g < n' → K ⟨AD e x.dst (w e g), n', upd H g (some ob)⟩)
 congr : ∀ (e e' : AH), (∀ t ∈ x.uses, get e t = get e' t) → c e = c e' ∧ w e = w e'
theorem Bm {md : Mode} (hm : md = .free ∨ md = .refs) {lo : Nat} {gs : List Nat} {d : Option Nat} {t : TypeId} {z : List AV} : Makes P md lo gs ⟨d, .alloc t z, none⟩ (fun _ => ones z) (fun _ g => .ptr g 0) (.cells t z) :=
 ⟨fun _ _ _ _ => by rcases hm with rfl | rfl <;> exact Iff.rfl, fun _ _ _ => ⟨rfl, rfl⟩⟩
theorem D2 {md : Mode} (hm : md = .free ∨ md = .refs) {lo : Nat} {gs : List Nat} {d : Option Nat} {t : TypeId} {sh : Cm} {xs : List Opd} : Makes P md lo gs ⟨d, .bsl t sh xs, none⟩ (fun e => ∀ x ∈ xs, (ev e x).fits sh = true ∧ ones (ev e x).cells) (fun e g => .sl (B6 sh) (xs.map (ev e)) (.own g)) (.row t xs.length) :=
 ⟨fun _ _ _ _ => by rcases hm with rfl | rfl <;> exact Iff.rfl, fun e e' h => by
  have hop : ∀ t' ∈ (AOp.bsl t sh xs).uses, get e t' = get e' t' := fun t ht => h t (List.mem_append_left _ ht)
  have hx := CJ (xs := xs) (fun _ ht => ht) hop
  refine ⟨?_, by funext g; rw [hx]⟩
  have e1 : ∀ e : AH, (∀ x ∈ xs, (ev e x).fits sh = true ∧ ones (ev e x).cells) = ∀ y ∈ xs.map (ev e), y.fits sh = true ∧ ones y.cells := fun e => by simp
  rw [e1, e1, hx]⟩
theorem Us {lo : Nat} {gs : List Nat} {d : Option Nat} {t : TypeId} {sh : Cm} {xs : List Opd} : Makes P .copy lo gs ⟨d, .bsl t sh xs, none⟩ (fun e => ∀ x ∈ xs, (ev e x).fits sh = true ∧ ones (ev e x).cells) (fun e g => .sl (B6 sh) (xs.map (ev e)) (.own g)) (.row t xs.length) :=
 ⟨fun _ _ _ _ => Iff.rfl, fun e e' h => by
  have hop : ∀ t' ∈ (AOp.bsl t sh xs).uses, get e t' = get e' t' := fun t ht => h t (List.mem_append_left _ ht)
  have hx := CJ (xs := xs) (fun _ ht => ht) hop
  refine ⟨?_, by funext g; rw [hx]⟩
  have e1 : ∀ e : AH, (∀ x ∈ xs, (ev e x).fits sh = true ∧ ones (ev e x).cells) = ∀ y ∈ xs.map (ev e), y.fits sh = true ∧ ones y.cells := fun e => by simp
  rw [e1, e1, hx]⟩
theorem FD {md : Mode} {lo : Nat} {gs : List Nat} {x y : AOper} {cx cy : AH → Prop} {wx wy : AH → Nat → AV} {ox oy : AObj} {K : AS → Prop} {s : AS} (hx : Makes P md lo gs x cx wx ox) (hy : Makes P md lo gs y cy wy oy) (hK : EInv K) (hap : D7 x y = true) (h : awOM P md lo gs x (awOM P md lo gs y K) s) : awOM P md lo gs y (awOM P md lo gs x K) s := by
 obtain ⟨e, n, H⟩ := s
 obtain ⟨u1, u2, perm⟩ := GU hap
 obtain ⟨h1, hlo, hex, h2⟩ := (hx.eq _ _ _ _).1 h
 have ay : ∀ r, cy (AD e x.dst r) = cy e ∧ wy (AD e x.dst r) = wy e := fun r => hy.congr _ _ fun t ht => by rw [AL, if_neg (u1 t ht)]
 have ax : ∀ r, cx (AD e y.dst r) = cx e ∧ wx (AD e y.dst r) = wx e := fun r => hx.congr _ _ fun t ht => by rw [AL, if_neg (u2 t ht)]
 refine (hy.eq _ _ _ _).2 ⟨?_, hlo, hex, fun g2 n2 k1 k2 k3 k4 => (hx.eq _ _ _ _).2 ⟨by rw [(ax _).1]; exact h1, by omega, ?_, fun g1 n1 j1 j2 j3 j4 => ?_⟩⟩
 ·obtain ⟨g, a1, a2⟩ := hex lo
  have := ((hy.eq _ _ _ _).1 (h2 g (max n (g + 1)) a1 a2 (by omega) (by omega))).1
  rw [(ay _).1] at this; exact this
 ·exact hex.upd _ _
 ·have hne : g1 ≠ g2 := fun e => by rw [e] at j2; simp [upd] at j2
  simp only [upd, if_neg hne] at j2
  obtain ⟨_, _, _, h3⟩ := (hy.eq _ _ _ _).1 (h2 g1 n1 j1 j2 (by omega) j4)
  have := h3 g2 n1 k1 (by simp only [upd, if_neg (Ne.symm hne)]; exact k2) (Nat.le_refl _) (by omega)
  rw [(ay _).2, F9 hne] at this
  rw [(ax _).2]
  exact hK _ _ _ _ (fun t => perm e _ _ t) this
theorem Xk {gs : List Nat} {sh : Cm} {x : Opd} {gd : Option (Nat × Bool)} {e : AH} : ∃ b : Nat, ∀ (H H' : A3) (v : AV), (∀ k ob, k < b → ob.seen = true → AU gs H' k = some ob → AU gs H k = some ob) → Ox gs sh x gd e H' = some v → Ox gs sh x gd e H = some v := by
 have key : ∃ b : Nat, ∀ (H H' : A3) (v : AV), (∀ k ob, k < b → ob.seen = true → AU gs H' k = some ob → AU gs H k = some ob) → pe (.load sh x) e (AU gs H') = some v → pe (.load sh x) e (AU gs H) = some v := by
  cases hv : ev e x with
  | ptr b o =>
   refine ⟨b + 1, fun H H' v hk h => ?_⟩
   simp only [pe, hv, Ap] at h ⊢
   cases hm : AU gs H' b with
   | none => rw [hm] at h; cases h
   | some ob =>
    rw [hm] at h
    cases ob <;> first | (rw [hk b _ (by omega) rfl hm]; exact h) | cases h
  | _ => exact ⟨0, fun H H' v _ h => by simp only [pe, hv, Ap] at h ⊢; exact h⟩
 obtain ⟨b, hb⟩ := key
 refine ⟨b, fun H H' v hk h => ?_⟩
 unfold Ox at h ⊢
 split at h
 ·exact hb _ _ _ hk h
 ·split at h
  ·split at h
   ·rename_i hw; simp only [hw, if_true]; exact hb _ _ _ hk h
   ·rename_i hw; simp only [hw, if_false]; exact h
  ·exact h
  ·cases h
theorem Y0 {op : AOp} {v v' : AV} (hc : op.calcC = true) (h : DV P op e H v) (h' : DV P op e H v') : v = v' := by
 cases op <;> first | (cases hc; done) | (simp only [DV] at h h'; rw [h] at h'; exact Option.some.inj h')
theorem A0k {o : AOper} {v v' : AV} (hc : o.op.calcC = true) (h : Yp P o e H v) (h' : Yp P o e H v') : v = v' := by
 unfold Yp at h h'
 cases hg : o.guard with
 | none => rw [hg] at h h'; exact Y0 hc h h'
 | some p =>
  obtain ⟨t, want⟩ := p
  rw [hg] at h h'
  rcases h with ⟨b, hb, h1, h2⟩ | ⟨hb, h1⟩ <;> rcases h' with ⟨b', hb', h1', h2'⟩ | ⟨hb', h1'⟩
  ·rw [hb] at hb'; injection hb' with hb'; subst hb'
   by_cases hw : b = want
   ·exact Y0 hc (h1 hw) (h1' hw)
   ·rw [h2 hw, h2' hw]
  ·rw [hb] at hb'; cases hb'
  ·rw [hb] at hb'; cases hb'
  ·rw [h1, h1']
theorem WT {op : AOp} (h : op.calcC = true) : op.cls = .pure := by
 cases op <;> first | rfl | cases h
theorem Ea {md : Mode} {lo : Nat} {gs : List Nat} {x y : AOper} {K : AS → Prop} {s : AS} (hex : ∀ {K : AS → Prop} {s : AS}, awOM P md lo gs x K s → exK gs x.dst K s) (hK : EInv K) (hap : D7 x y = true) (hyc : y.op.calcC = true)
  (h : awOM P md lo gs x (awOM P md lo gs y K) s) : awOM P md lo gs y (awOM P md lo gs x K) s := by
 obtain ⟨e, n, H⟩ := s
 obtain ⟨u1, u2, perm⟩ := GU hap
 have hyp : y.op.cls = .pure := WT hyc
 have hys : y.sp = false := by obtain ⟨d, op, g⟩ := y; cases op <;> first | rfl | cases hyp
 have hy : y.op.cls ≠ .eff := by rw [hyp]; intro hc; cases hc
 obtain ⟨r0, n0, H0, _, _, k3⟩ := hex h 0
 rw [DJ hys] at k3
 obtain ⟨v, hv, _⟩ := (FC hy).1 k3
 have back : ∀ {r H1 v}, Yp P y (AD e x.dst r) H1 v → Yp P y e H v := fun hv => F1 (fun t ht => by rw [AL, if_neg (u1 t ht)]) (.inl hyp) hv
 rw [DJ hys]
 refine (FC hy).2 ⟨v, back hv, El (e := e) (fun t ht => by rw [AL, if_neg (u2 t ht)]) h fun r n' H' hk => ?_⟩
 rw [DJ hys] at hk
 obtain ⟨v2, hv2, hk⟩ := (FC hy).1 hk
 have : v2 = v := A0k hyc (back hv2) (back hv)
 subst this
 exact hK _ _ _ _ (fun t => perm e r v2 t) hk
theorem EX {md : Mode} {lo : Nat} {gs : List Nat} {x : AOper} {d : Option Nat} {sh : Cm} {p : Opd} {gd : Option (Nat × Bool)} {K : AS → Prop} {s : AS} (hex : ∀ {K : AS → Prop} {s : AS}, awOM P md lo gs x K s → exK gs x.dst K s)
  (hkeep : ∀ {K : AS → Prop} {e : AH} {n : Nat} {H : A3}, awOM P md lo gs x K ⟨e, n, H⟩ → awOM P md lo gs x (fun s' => K s' ∧ KeepM gs H s'.H) ⟨e, n, H⟩) (hK : EInv K) (hap : D7 x ⟨d, .load sh p, gd⟩ = true)
  (h : awOM P md lo gs x (awOM P md lo gs ⟨d, .load sh p, gd⟩ K) s) : awOM P md lo gs ⟨d, .load sh p, gd⟩ (awOM P md lo gs x K) s := by
 obtain ⟨e, n, H⟩ := s
 obtain ⟨u1, u2, perm⟩ := GU hap
 have hl := DA (P := P) (md := md) (lo := lo) (gs := gs) (d := d) (sh := sh) (p := p) (g := gd)
 have hval : ∀ r H', Ox gs sh p gd (AD e x.dst r) (hM md H') = Ox gs sh p gd e (hM md H') := fun r H' => (hl.congr _ _ H' fun t ht => by rw [AL, if_neg (u1 t ht)])
 obtain ⟨b, hb⟩ := Xk (gs := gs) (sh := sh) (x := p) (gd := gd) (e := e)
 have hb' : ∀ (H H' : A3) (v : AV), (∀ k ob, k < b → ob.seen = true → AU gs H' k = some ob → AU gs H k = some ob) → Ox gs sh p gd e (hM md H') = some v → Ox gs sh p gd e (hM md H) = some v := fun H H' v hk h => by
  cases md <;> first | exact hb _ _ _ hk h | exact h
 obtain ⟨r0, n0, H0, _, k2, k3⟩ := hex h b
 rw [hl.eq] at k3
 simp only [hval] at k3
 unfold K1 at k3
 split at k3
 ·rename_i v hv
  have hu := hb' _ _ _ k2 hv
  rw [hl.eq]
  simp only [hu]
  show awOM P md lo gs x K _
  refine El (e := e) (fun t ht => by rw [AL, if_neg (u2 t ht)]) (hkeep h) fun r n' H' hk => ?_
  have h4 := hk.1
  have h5 : Ox gs sh p gd e (hM md H') = some v := hl.le e _ _ _ hk.2 hu
  rw [hl.eq] at h4
  simp only [hval, h5] at h4
  exact hK _ _ _ _ (fun t => perm e r v t) h4
 ·exact k3.elim
theorem Rq {md : Mode} {lo : Nat} {gs : List Nat} {x : AOper} {cx : AH → Prop} {wx : AH → Nat → AV} {ox : AObj} {K : AS → Prop} {s : AS} (hx : Makes P md lo gs x cx wx ox) (h : awOM P md lo gs x K s) : exK gs x.dst K s := fun m => by
 obtain ⟨e, n, H⟩ := s
 obtain ⟨_, hlo, hex, h2⟩ := (hx.eq _ _ _ _).1 h
 obtain ⟨g, a1, a2⟩ := hex (max lo m)
 refine ⟨wx e g, max n (g + 1), _, KeepM.new a2, fun k ob hk _ h3 => ?_, h2 g _ (by omega) a2 (by omega) (by omega)⟩
 rw [← h3]; exact Cq (by simp only [upd]; rw [if_neg (by omega)])
theorem Vm {lo : Nat} {gs : List Nat} {d : Option Nat} {f : Nat} {xs : List Opd} {K : AS → Prop} {s : AS} (h : awOM P .copy lo gs ⟨d, .call f xs, none⟩ K s) : exK gs d K s := fun m => by
 obtain ⟨e, n, H⟩ := s
 obtain ⟨hlo, hf, sz, l, el, hc, h0, h1⟩ := h
 simp only at hlo hf h0 h1
 obtain ⟨g, a1, a2⟩ := hf (max lo m)
 refine ⟨_, max n (g + 1), _, KeepM.new a2, fun k ob hk _ h3 => ?_, h1 g _ (by omega) a2 (by omega) (by omega)⟩
 rw [← h3]; exact Cq (by simp only [upd]; rw [if_neg (by omega)])
theorem QY {lo : Nat} {gs : List Nat} {d d' : Option Nat} {f : Nat} {xs ys : List Opd} {t : TypeId} {sh : Cm} {K : AS → Prop} {s : AS} (hK : EInv K) (hap : D7 ⟨d, .call f xs, none⟩ ⟨d', .bsl t sh ys, none⟩ = true) (h : awOM P .copy lo gs ⟨d, .call f xs, none⟩ (awOM P .copy lo gs ⟨d', .bsl t sh ys, none⟩ K) s) : awOM P .copy lo gs ⟨d', .bsl t sh ys, none⟩ (awOM P .copy lo gs ⟨d, .call f xs, none⟩ K) s := by
 obtain ⟨e, n, H⟩ := s
 obtain ⟨u1, u2, perm⟩ := GU hap
 have hy := Us (P := P) (lo := lo) (gs := gs) (d := d') (t := t) (sh := sh) (xs := ys)
 obtain ⟨hlo, hf, sz, l, el, hc, h0, h1⟩ := h
 simp only at hlo hf h0 h1
 have ay : ∀ r, (∀ x ∈ ys, (ev (AD e d r) x).fits sh = true ∧ ones (ev (AD e d r) x).cells) = (∀ x ∈ ys, (ev e x).fits sh = true ∧ ones (ev e x).cells) ∧ (fun g => AV.sl (B6 sh) (ys.map (ev (AD e d r))) (.own g)) = fun g => AV.sl (B6 sh) (ys.map (ev e)) (.own g) := fun r => hy.congr _ _ fun t ht => by rw [AL, if_neg (u1 t ht)]
 have ax : ∀ r, xs.map (ev (AD e d' r)) = xs.map (ev e) := fun r => CJ (xs := xs) (l := (AOp.call f xs).uses) (fun _ ht => ht) fun t ht => by rw [AL, if_neg (u2 t (List.mem_append_left _ ht))]
 refine (hy.eq _ _ _ _).2 ⟨?_, hlo, hf, fun g2 n2 k1 k2 k3 k4 => ?_⟩
 ·obtain ⟨g, a1, a2⟩ := hf lo
  have := ((hy.eq _ _ _ _).1 (h1 g (max n (g + 1)) a1 a2 (by omega) (by omega))).1
  rw [(ay _).1] at this; exact this
 ·show cpyK P lo d f _ K _
  simp only
  rw [ax]
  refine ⟨by simp only; omega, hf.upd _ _, sz, l, el, hc, fun hl => ?_, fun g1 n1 j1 j2 j3 j4 => ?_⟩
  ·obtain ⟨_, _, _, h3⟩ := (hy.eq _ _ _ _).1 (h0 hl)
   have := h3 g2 n2 k1 k2 k3 k4
   have e2 := congrFun (ay (.sl 0 [] .nil)).2 g2
   rw [e2] at this
   exact hK _ _ _ _ (fun t => perm e _ _ t) this
  ·simp only at j2 j3
   have hne : g1 ≠ g2 := fun e => by rw [e] at j2; simp [upd] at j2
   simp only [upd, if_neg hne] at j2
   obtain ⟨_, _, _, h3⟩ := (hy.eq _ _ _ _).1 (h1 g1 n1 j1 j2 (by omega) j4)
   have := h3 g2 n1 k1 (by simp only [upd, if_neg (Ne.symm hne)]; exact k2) (Nat.le_refl _) (by omega)
   have e2 := congrFun (ay (.sl sz l (.own g1))).2 g2
   rw [e2, F9 hne] at this
   exact hK _ _ _ _ (fun t => perm e _ _ t) this
theorem Uk {lo : Nat} {gs : List Nat} {d : Option Nat} {t sz b : Nat} {x y : Opd} {K : AS → Prop} {s : AS} (h : awOM P .free lo gs ⟨d, .app t sz b x y, none⟩ K s) : exK gs d K s := fun m => by
 obtain ⟨e, n, H⟩ := s
 obtain ⟨⟨_, hf⟩, hg, h⟩ := h
 have two : ∀ {g0 : Nat} {ob : AObj}, (∀ o, o.seen = true → AU gs (upd (upd H g0 none) g0 (some ob)) g0 ≠ some o) → ∀ k o, k < m → o.seen = true → AU gs (upd (upd H g0 none) g0 (some ob)) k = some o → AU gs H k = some o := fun {g0 ob} h0 k o _ hse hk => by
  by_cases hkg : k = g0
  ·subst hkg; exact absurd hk (h0 o hse)
  ·rw [← hk]; exact Cq (by simp only [upd, if_neg hkg])
 simp only [AF] at h
 simp only at hg hf
 generalize ev e x = vx at h hg
 generalize ev e y = vy at h
 unfold appKS at h
 split at h
 ·obtain ⟨_, m', _, h⟩ := h
  unfold K4 at h
  split at h
  ·have h4 := h.2.2
   split at h4
   ·by_cases hm : m' = []
    ·exact ⟨_, _, _, KeepM.rfl_ _ _, fun _ _ _ _ h => h, h4.1 hm (KeepM.rfl_ _ _)⟩
    ·obtain ⟨g, q1, q2⟩ := hf (max n m)
     have loc : ∀ (ob : AObj) k o, k < m → o.seen = true → AU gs (upd H g (some ob)) k = some o → AU gs H k = some o := fun ob k o hk _ h3 => by
      rw [← h3]; exact Cq (by simp only [upd]; rw [if_neg (by omega)])
     rcases h4.2 hm with h5 | h5
     ·exact ⟨_, _, _, KeepM.new q2, loc _, h5 g (by simp only; omega) (KeepM.new q2)⟩
     ·exact ⟨_, _, _, KeepM.new q2, loc _, h5 g (by simp only; omega) (KeepM.new q2)⟩
   ·rename_i g0
    obtain ⟨a1, a2, a3⟩ := h4
    simp only at a2
    refine ⟨_, max n (g0 + 1), _, KeepM.two (fun ob hse he => ?_) (.inl rfl), two (fun o hse he => ?_), a3 g0 _ (.inl rfl) (by simp only; omega) (by omega) (KeepM.two (fun ob hse he => ?_) (.inl rfl))⟩
    ·have h9 : H g0 = some ob := EZ he; rw [a2] at h9; injection h9 with h9; subst h9; cases hse
    ·have := EZ he; simp only [upd, if_true] at this; injection this with this; subst this; cases hse
    ·have h9 : H g0 = some ob := EZ he; rw [a2] at h9; injection h9 with h9; subst h9; cases hse
   ·exact h4.elim
  ·rename_i z g0 k0
   have h4 := h.2.2.2
   have hin : g0 ∈ gs := hg
   unfold M6 at h4
   split at h4
   ·refine ⟨_, max n (g0 + 1), _, KeepM.two (fun ob hse he => ?_) (.inl rfl), two (fun o hse he => ?_), h4.2.2 g0 _ (.inl rfl) (by simp only; omega) (by omega) (KeepM.two (fun ob hse he => ?_) (.inl rfl))⟩
    ·rw [HV hin] at he; cases he
    ·rw [HV hin] at he; cases he
    ·rw [HV hin] at he; cases he
   ·exact h4.elim
  ·exact h.elim
 ·exact h.elim
theorem Um {el sz by_ : Nat} {d : Option Nat} {K K' : AS → Prop} {e e' : AH} {n n2 : Nat} {H : A3} {x : AV} {m : List AV} {g2 : Nat} {ob : AObj} (h : K4 el sz by_ d K ⟨e, n, H⟩ x m) (hn : n ≤ n2) (hg : H g2 = none) (hl : g2 < n2)
  (hk : ∀ r n1 n' H', n1 ≤ n' → g2 < n' → H' g2 = none → K ⟨AD e d r, n1, H'⟩ → K' ⟨AD e' d r, n', upd H' g2 (some ob)⟩) : K4 el sz by_ d K' ⟨e', n2, upd H g2 (some ob)⟩ x m := by
 have ne : ∀ {g0 o}, H g0 = some o → g0 ≠ g2 := fun h e => by subst e; rw [hg] at h; cases h
 have un : ∀ {g0 : Nat} {o}, g0 ≠ g2 → upd H g2 o g0 = H g0 := fun h => by simp only [upd, if_neg h]
 have free2 : ∀ {g0 g : Nat} {o o' : Option AObj}, g0 ≠ g2 → g ≠ g2 → upd (upd H g0 o) g o' g2 = none := fun h1 h2 => by
  simp only [upd, if_neg (Ne.symm h1), if_neg (Ne.symm h2)]; exact hg
 unfold K4 at h ⊢
 split at h
 ·rename_i z l t
  refine ⟨h.1, h.2.1, ?_⟩
  have h4 := h.2.2
  cases t with
  | nil =>
   have hn1 : ∀ {g : Nat}, n2 ≤ g → g2 ≠ g := fun h => by omega
   refine ⟨fun hm => hk _ _ _ _ hn hl hg (h4.1 hm), fun hm => (h4.2 hm).imp (fun h g hg' => ?_) (fun h g hg' => ?_)⟩
   all_goals
    simp only at hg'
    rw [F9 (hn1 hg')]
    exact hk _ _ _ _ (Nat.le_refl _) (by omega) (by simp only [upd]; rw [if_neg (hn1 hg')]; exact hg) (h g (by simp only; omega))
  | own g0 =>
   obtain ⟨a1, a2, a3⟩ := h4
   simp only at a2 a3
   refine ⟨a1, by simp only; rw [un (ne a2)]; exact a2, fun g n' k1 k2 k3 => ?_⟩
   simp only at k1 k2
   have hne : g ≠ g2 := by
    rcases k1 with rfl | k1
    ·exact ne a2
    ·omega
   simp only
   rw [F9 (Ne.symm (ne a2)), F9 (Ne.symm hne)]
   exact hk _ n' n' _ (Nat.le_refl _) (by omega) (free2 (ne a2) hne) (a3 g n' (k1.imp id (by omega)) (by omega) k3)
  | ro => exact h4
 ·rename_i z g0 k0
  refine ⟨h.1, h.2.1, h.2.2.1, ?_⟩
  have h4 := h.2.2.2
  show M6 el sz by_ d K' ⟨e', n2, upd H g2 (some ob)⟩ g0 k0 m (upd H g2 (some ob) g0)
  change M6 el sz by_ d K ⟨e, n, H⟩ g0 k0 m (H g0) at h4
  cases hg0 : H g0 with
  | none => rw [hg0] at h4; exact h4.elim
  | some o =>
   rw [hg0] at h4
   rw [un (ne hg0), hg0]
   cases o <;> first | exact h4.elim | skip
   obtain ⟨b1, b2, b3⟩ := h4
   simp only at b3
   refine ⟨b1, b2, fun g n' k1 k2 k3 => ?_⟩
   simp only at k1 k2
   have hne : g ≠ g2 := by
    rcases k1 with rfl | k1
    ·exact ne hg0
    ·omega
   simp only
   rw [F9 (Ne.symm (ne hg0)), F9 (Ne.symm hne)]
   exact hk _ n' n' _ (Nat.le_refl _) (by omega) (free2 (ne hg0) hne) (b3 g n' (k1.imp id (by omega)) (by omega) k3)
 ·exact h.elim
theorem Lq {lo : Nat} {gs : List Nat} {d : Option Nat} {t sz b : Nat} {px py : Opd} {y : AOper} {cy : AH → Prop} {wy : AH → Nat → AV} {oy : AObj} {K : AS → Prop} {s : AS} (hy : Makes P .free lo gs y cy wy oy) (hK : EInv K) (hap : D7 ⟨d, .app t sz b px py, none⟩ y = true)
  (h : awOM P .free lo gs ⟨d, .app t sz b px py, none⟩ (awOM P .free lo gs y K) s) : awOM P .free lo gs y (awOM P .free lo gs ⟨d, .app t sz b px py, none⟩ K) s := by
 obtain ⟨e, n, H⟩ := s
 obtain ⟨u1, u2, perm⟩ := GU hap
 obtain ⟨r0, n0, H0, _, _, k3⟩ := Uk h 0
 obtain ⟨⟨hlo, hfr⟩, hsl, ha⟩ := h
 have ay : ∀ r, cy (AD e d r) = cy e ∧ wy (AD e d r) = wy e := fun r => hy.congr _ _ fun t ht => by rw [AL, if_neg (u1 t ht)]
 have hc : cy e := by have := ((hy.eq _ _ _ _).1 k3).1; rw [(ay r0).1] at this; exact this
 have ex : ∀ v, ev (AD e y.dst v) px = ev e px := fun v => (AC (l := (AOp.app t sz b px py).uses) (by simp +contextual [AOp.uses]) fun t ht => by rw [AL, if_neg (u2 t (List.mem_append_left _ ht))]).symm
 have ey : ∀ v, ev (AD e y.dst v) py = ev e py := fun v => (AC (l := (AOp.app t sz b px py).uses) (by simp +contextual [AOp.uses]) fun t ht => by rw [AL, if_neg (u2 t (List.mem_append_left _ ht))]).symm
 refine (hy.eq _ _ _ _).2 ⟨hc, hlo, hfr, fun g2 n2 k1 k2 k3 k4 => ⟨⟨by simp only at hlo ⊢; omega, hfr.upd _ _⟩, by simp only [ex]; exact hsl, ?_⟩⟩
 simp only [AF, ex, ey] at ha ⊢
 unfold appKS at ha ⊢
 split at ha
 ·obtain ⟨h1, m', h2, h3⟩ := ha
  refine ⟨h1, m', h2, Um h3 k3 k2 k4 fun r n1 n' H' q1 q2 q3 hk hm => ?_⟩
  have hkm : KeepM gs H H' := fun k ob hs hk2 => by
   have hne : k ≠ g2 := by rintro rfl; have := EZ hk2; rw [k2] at this; cases this
   have := hm k ob hs (by rw [← hk2]; exact Cq (by simp only [upd, if_neg hne]))
   rw [← this]; exact Cq (by simp only [upd, if_neg hne])
  obtain ⟨_, _, _, h6⟩ := (hy.eq _ _ _ _).1 (hk hkm)
  have := h6 g2 n' k1 q3 q1 q2
  rw [(ay r).2] at this
  exact hK _ _ _ _ (fun t => perm e r (wy e g2) t) this
 ·exact ha.elim
theorem Wg {lo : Nat} {gs : List Nat} {d d' : Option Nat} {sh sh' : Cm} {p x v : Opd} {gd : Option (Nat × Bool)} {K : AS → Prop} {s : AS} (hK : EInv K) (hap : D7 ⟨d, .load sh p, gd⟩ ⟨d', .store sh' x v, none⟩ = true)
  (h : awOM P .refs lo gs ⟨d, .load sh p, gd⟩ (awOM P .refs lo gs ⟨d', .store sh' x v, none⟩ K) s) : awOM P .refs lo gs ⟨d', .store sh' x v, none⟩ (awOM P .refs lo gs ⟨d, .load sh p, gd⟩ K) s := by
 obtain ⟨e, n, H⟩ := s
 obtain ⟨u1, u2, perm⟩ := GU hap
 have hl := DA (P := P) (md := .refs) (lo := lo) (gs := gs) (d := d) (sh := sh) (p := p) (g := gd)
 rw [hl.eq] at h
 unfold K1 at h
 split at h
 ·rename_i u hu
  refine El (e := AD e d u) (fun t ht => by rw [AL, if_neg (u1 t ht)]) h fun r n' H' hk => ?_
  rw [hl.eq]
  have h5 : Ox gs sh p gd (AD e d' r) (hM .refs H') = some u := by
   rw [← hu]; exact (hl.congr e _ H' fun t ht => by rw [AL, if_neg (u2 t ht)]).symm
  simp only [h5]
  exact hK _ _ _ _ (perm e u r) hk
 ·exact h.elim
theorem Wz {op : AOp} (h : op.pureC = true) : op.cls = .pure := by
 unfold AOp.pureC at h
 split at h
 ·assumption
 ·cases h
theorem YX (gs : List Nat) (md : Mode) (lo : Nat) : Drw P (awOM P md lo gs) fun x y => x.op.cls.comm y.op.cls || x.late md y := by
 refine ⟨fun h hk => Mo h hk, fun hK => EInv.awOM hK, fun {x y K s} hK ha hc h => ?_, fun hs h => Wx hs h⟩
 simp only [Bool.or_eq_true] at hc
 rcases hc with hc | hc
 ·cases hxc : x.op.cls with
  | pure => exact X1 hK ha hxc h
  | eff => rw [hxc] at hc; cases hyc : y.op.cls <;> rw [hyc] at hc <;> cases hc
  | rd =>
   have hyd : y.op.cls ≠ .eff := by intro hyc; rw [hxc, hyc] at hc; cases hc
   by_cases hxs : x.sp = true
   ·obtain ⟨val, hl⟩ := A0e (P := P) (md := md) (lo := lo) (gs := gs) hxs hxc
    exact Ca hl hK ha (fun h => Mo (W6 hyd h) fun s' h' => ⟨h'.1, fun k ob _ hk => by rw [h'.2]; exact hk⟩) h
   ·exact ZW hK ha (by simpa using hxs) (by rw [hxc]; intro h; cases h) hyd h
 ·unfold AOper.late at hc
  split at hc
  ·exact Ca DA hK ha IP h
  ·exact Ca DA hK ha X0 h
  ·cases md <;> first | exact Ca DA hK ha N8 h | exact Wg hK ha h | cases hc
  ·exact Ca DA hK ha MW h
  ·exact Ca DA hK ha MX h
  ·exact Ca DA hK ha I4 h
  ·exact Ca Eq hK ha IP h
  ·cases md <;> first | exact Ca Eq hK ha N8 h | cases hc
  ·exact Ca Eq hK ha MW h
  ·exact Ca Eq hK ha MX h
  ·exact Ca Eq hK ha I4 h
  ·cases md <;> first | cases hc | skip
   simp only [Bool.and_eq_true, bne_iff_ne, ne_eq, beq_iff_eq] at hc
   exact VF hK ha hc.1 hc.2 h
  ·cases md <;> first | exact FD (Bm (.inl rfl)) (Bm (.inl rfl)) hK ha h | exact FD (Bm (.inr rfl)) (Bm (.inr rfl)) hK ha h | cases hc
  ·cases md <;> first | exact FD (Bm (.inl rfl)) (D2 (.inl rfl)) hK ha h | exact FD (Bm (.inr rfl)) (D2 (.inr rfl)) hK ha h | cases hc
  ·cases md <;> first | exact FD (D2 (.inl rfl)) (Bm (.inl rfl)) hK ha h | exact FD (D2 (.inr rfl)) (Bm (.inr rfl)) hK ha h | cases hc
  ·cases md <;> first | exact FD (D2 (.inl rfl)) (D2 (.inl rfl)) hK ha h | exact FD (D2 (.inr rfl)) (D2 (.inr rfl)) hK ha h | cases hc
  ·cases md <;> first | exact EX (Rq (Bm (.inl rfl))) IP hK ha h | cases hc
  ·cases md <;> first | exact EX (Rq (D2 (.inl rfl))) MW hK ha h | cases hc
  ·exact SA hK ha (Wz hc) h
  ·cases md <;> first | exact EX (fun h => Vm h) I4 hK ha h | exact EX (fun h => h.1) I4 hK ha h | cases hc
  ·cases md <;> first | exact QY hK ha h | cases hc
  ·simp only [Bool.and_eq_true] at hc
   cases md <;> first | exact Ea (fun h => Vm h) hK ha hc.1 h | exact Ea (fun h => h.1) hK ha hc.1 h | exact absurd (show false = true from hc.2) Bool.false_ne_true
  ·cases md <;> first | exact EX Uk MX hK ha h | cases hc
  ·cases md <;> first | exact Lq (Bm (.inl rfl)) hK ha h | cases hc
  ·cases md <;> first | exact Lq (D2 (.inl rfl)) hK ha h | cases hc
  ·simp only [Bool.and_eq_true] at hc
   cases md <;> first | exact Ea Uk hK ha hc.1 h | exact absurd (show false = true from hc.2) Bool.false_ne_true
  ·simp only [Bool.and_eq_true] at hc
   cases md <;> first | exact Ea (Rq (Bm (.inl rfl))) hK ha hc.1 h | exact absurd (show false = true from hc.2) Bool.false_ne_true
  ·simp only [Bool.and_eq_true] at hc
   cases md <;> first | exact Ea (Rq (D2 (.inl rfl))) hK ha hc.1 h | exact absurd (show false = true from hc.2) Bool.false_ne_true
  ·cases hc
def M5 (W : AOper → (AS → Prop) → AS → Prop) : List AOper → (AS → Prop) → AS → Prop
 | [], K, s => K s
 | o :: os, K, s => W o (M5 W os K) s
theorem Ui {os : List AOper} {K : AS → Prop} : ∀ {s : AS}, M5 (awO P) os K s = awOps P os K s := by
 induction os with
 | nil => intro s; rfl
 | cons o os ih =>
  intro s
  have : M5 (awO P) os K = awOps P os K := funext fun s => ih
  show awO P o (M5 (awO P) os K) s = _
  rw [this]; rfl
theorem Wj {md : Mode} {lo : Nat} {gs : List Nat} {os : List AOper} {K : AS → Prop} : ∀ {s : AS}, M5 (awOM P md lo gs) os K s = A7 P md lo gs os K s := by
 induction os with
 | nil => intro s; rfl
 | cons o os ih =>
  intro s
  have : M5 (awOM P md lo gs) os K = A7 P md lo gs os K := funext fun s => ih
  show awOM P md lo gs o (M5 (awOM P md lo gs) os K) s = _
  rw [this]; rfl
section
variable {W : AOper → (AS → Prop) → AS → Prop} {C : AOper → AOper → Bool}
theorem X2 (hD : Drw P W C) {os : List AOper} {K : AS → Prop} (hK : EInv K) : EInv (M5 W os K) := by
 induction os with
 | nil => exact hK
 | cons o os ih => exact hD.einv ih
theorem VO (hD : Drw P W C) {y : AOper} {xs zs : List AOper} {K : AS → Prop} {s : AS} (hK : EInv K) (hsw : ∀ x ∈ xs, D7 x y = true ∧ C x y = true) (h : M5 W (xs ++ y :: zs) K s) : W y (M5 W (xs ++ zs) K) s := by
 induction xs generalizing s with
 | nil => exact h
 | cons x xs ih =>
  have h1 := hsw x List.mem_cons_self
  have h2 : W x (W y (M5 W (xs ++ zs) K)) s := hD.mono h fun s' hs' => ih (fun z hz => hsw z (List.mem_cons_of_mem _ hz)) hs'
  exact hD.swap (X2 hD hK) h1.1 h1.2 h2
end
end
end Go.Proofs.YtnfjgphfaemjcaaGreatDoor

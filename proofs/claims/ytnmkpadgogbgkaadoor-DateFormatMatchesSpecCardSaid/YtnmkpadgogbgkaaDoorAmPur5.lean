/- The program's operations that only compute agree with those on plain data: all of them; no condition. -/
import Derived.Test.YtnmkpadgogbgkaaDoorAmPur4
import Derived.Laws.Externs
import Derived.KernelRfl
set_option linter.all false
set_option linter.unusedSimpArgs false
set_option linter.unusedVariables false
namespace Go.Proofs.YtnmkpadgogbgkaaDoor
open Go.RowKit

theorem find_noesc {fn : Func} (h : fn.name = noescN) : Extern.find fn = some Extern.AbiNoEscape.same := by
  have h1 : Extern.allGenericRows.lookup noescN = none := by kernel_rfl
  have h2 : Extern.allTypedRows.lookup noescN = none := by kernel_rfl
  have h3 : Extern.allRows.lookup noescN = some Extern.AbiNoEscape.same := by kernel_rfl
  simp only [Extern.find, h, h1, h2, h3]
  rfl
theorem findNext_noesc {fn : Func} (h : fn.name = noescN) (ho : fn.origin = "") : Extern.findNext fn = none := by
  have h1 : Extern.allNextRows.lookup noescN = none := by kernel_rfl
  have h2 : Extern.allNextRows.lookup "" = none := by kernel_rfl
  simp only [Extern.findNext, h, ho, h1, h2]
  rfl
theorem mapM_at {α β : Type} {f : α → Option β} : ∀ {l : List α} {r : List β} {i : Nat} {x : α}, l.mapM f = some r → l[i]? = some x → ∃ y, f x = some y ∧ r[i]? = some y
  | [], _, i, x, _, hx => by simp at hx
  | z :: l, r, i, x, h, hx => by
    simp only [List.mapM_cons, Option.bind_eq_bind, Option.pure_def] at h
    cases hz : f z with
    | none => simp [hz] at h
    | some y =>
      cases hr : l.mapM f with
      | none => simp [hz, hr] at h
      | some ys =>
        simp [hz, hr] at h
        subst h
        cases i with
        | zero => simp at hx; subst hx; exact ⟨y, hz, rfl⟩
        | succ i => obtain ⟨y', h1, h2⟩ := mapM_at hr (by simpa using hx); exact ⟨y', h1, by simpa using h2⟩

section
variable {P : Program} {w : World} {G : Gh} {a : Act} {e : AEnv}
theorem bparts_rep (ht : ∀ t, Rep G (a.tmps.getD t undef) (get e t)) {fs : Array Field} {pl : List (Nat × Nat)} (hpl : fs.toList.mapM (fun f => (P.info? f.type).map fun i => (f.offset, i.size)) = some pl) :
    ∀ {ps : List (Nat × Operand)} {qs : List (Nat × Shp × Opd)}, bparts P fs ps = some qs → Parts G (pl.toArray[·]?) (ps.map fun (i, x) => (i, a.eval x)) (qs.map fun (o, s, x) => (o, s, ev e x))
  | [], qs, h => by simp [bparts] at h; subst h; exact .nil
  | (i, x) :: ps, qs, h => by
    simp only [bparts] at h
    split at h
    · rename_i f b r h1 h2 h3
      split at h
      · rename_i s hs
        injection h with h; subst h
        obtain ⟨k1, k2, k3, inf, k4, k5⟩ := shpOk_out hs
        obtain ⟨y, hy, hpy⟩ := mapM_at hpl (i := i) (x := f) (by simpa using h1)
        rw [k4] at hy
        injection hy with hy
        refine .cons ?_ (opd_rep h2 ht) (bparts_rep ht hpl h3)
        simp only [List.getElem?_toArray, hpy, ← hy]
        rw [k2, k5]
      · cases h
    · cases h
theorem aparts_rep (ht : ∀ t, Rep G (a.tmps.getD t undef) (get e t)) {s : Shp} {size : Nat} (hs : shpSz s = size) :
    ∀ {ps : List (Nat × Operand)} {qs : List (Nat × Shp × Opd)}, aparts s size ps = some qs → Parts G (fun i => some (i * size, size)) (ps.map fun (i, x) => (i, a.eval x)) (qs.map fun (o, s, x) => (o, s, ev e x))
  | [], qs, h => by simp [aparts] at h; subst h; exact .nil
  | (i, x) :: ps, qs, h => by
    simp only [aparts] at h
    split at h
    · rename_i b r h2 h3
      injection h with h; subst h
      exact .cons (by rw [hs]) (opd_rep h2 ht) (aparts_rep ht hs h3)
    · cases h
theorem zeroOf_out {t : TypeId} {z : List AV} (h : zeroOf P t = some z) : ∃ i v, P.info? t = some i ∧ i.zero = some v ∧ RepL G v.cells.toList z ∧ ∀ x ∈ z, x.one = true := by
  unfold zeroOf at h
  split at h
  · rename_i v hv
    obtain ⟨i, hi, hz⟩ := Option.bind_eq_some_iff.1 hv
    obtain ⟨h1, h2⟩ := cvL_rep (G := G) h
    exact ⟨i, v, hi, hz, h1, h2⟩
  · cases h
theorem run_build_rep {t : TypeId} {z : List AV} {ps : Array (Nat × Value)} {qs : List (Nat × Shp × AV)} {i : TypeInfo} {zv : Value} (hi : P.info? t = some i) (hz : i.zero = some zv) (hr : RepL G zv.cells.toList z) (h1 : ∀ x ∈ z, x.one = true) (hb : xz3n z.length qs = true)
    (hp : (∃ fs pl, P.underlying t = some (.struct fs) ∧ fs.toList.mapM (fun f => (P.info? f.type).map fun i => (f.offset, i.size)) = some pl ∧ Parts G (pl.toArray[·]?) ps.toList qs) ∨
      (∃ n e ie, P.underlying t = some (.array n e) ∧ P.info? e = some ie ∧ Parts G (fun i => some (i * ie.size, ie.size)) ps.toList qs)) :
    RunsTo P w G (Instr.build t ps) (.agg (xz3o z (qs.map fun (o, _, x) => (o, x)))) := by
  rcases hp with ⟨fs, pl, hu, hpl, hq⟩ | ⟨n, e, ie, hu, hie, hq⟩
  · obtain ⟨cells, hf, hrc, h1c⟩ := fill_rep hq hr h1 hb
    refine ⟨.agg cells, run_build w t ps cells ?_, ?_⟩
    · simp only [Program.built, hi, hu, hz, hpl]; exact hf
    · have := Rep.agg hrc h1c; simpa using this
  · obtain ⟨cells, hf, hrc, h1c⟩ := fill_rep hq hr h1 hb
    refine ⟨.agg cells, run_build w t ps cells ?_, ?_⟩
    · simp only [Program.built, hi, hu, hz, hie]; exact hf
    · have := Rep.agg hrc h1c; simpa using this

theorem bytesOf_rep : ∀ {l : List AV} {bs : List UInt8} {vs : List Value}, bytesOf l = some bs → RepL G vs (flatA l) → ∃ ns : List Int, vs = ns.map (Value.int .u8) ∧ bs = ns.map fun n => UInt8.ofNat n.toNat
  | [], bs, vs, h, hr => by simp [bytesOf] at h; subst h; simp [flatA] at hr; cases hr; exact ⟨[], rfl, rfl⟩
  | x :: l, bs, vs, h, hr => by
    cases x <;> try (simp [bytesOf] at h; done)
    rename_i k n
    cases k <;> try (simp [bytesOf] at h; done)
    simp only [bytesOf] at h
    obtain ⟨bs', h1, h2⟩ := Option.map_eq_some_iff.1 h
    simp only [flatA, List.flatMap_cons, AV.cells, List.singleton_append] at hr
    cases hr with
    | cons hv hr' =>
      cases hv
      obtain ⟨ns, e1, e2⟩ := bytesOf_rep h1 hr'
      exact ⟨n :: ns, by rw [e1]; rfl, by rw [← h2, e2]; rfl⟩
theorem bytesOf_cells : ∀ {l : List AV} {bs : List UInt8}, bytesOf l = some bs → ∀ x ∈ l, x.cells.length = 1
  | [], _, _, x, hx => by simp at hx
  | y :: l, bs, h, x, hx => by
    cases y <;> try (simp [bytesOf] at h; done)
    rename_i k n
    cases k <;> try (simp [bytesOf] at h; done)
    simp only [bytesOf] at h
    obtain ⟨bs', h1, h2⟩ := Option.map_eq_some_iff.1 h
    rcases List.mem_cons.1 hx with rfl | hx
    · rfl
    · exact bytesOf_cells h1 x hx
theorem foldl_push (ns : List Int) : ∀ s : ByteArray, ns.foldl (fun r n => r.push (UInt8.ofNat n.toNat)) s = ⟨s.data ++ (ns.map fun n => UInt8.ofNat n.toNat).toArray⟩ := by
  induction ns with
  | nil => intro s; simp
  | cons n ns ih => intro s; rw [List.foldl_cons, ih]; simp [ByteArray.push]
theorem mkind_out {kt : TypeId} {kk : Option IntKind} (h : mkind P kt = some kk) : P.underlying kt = some (kdesc kk) := by
  unfold mkind at h
  split at h
  · rename_i k hu; injection h with h; subst h; exact hu
  · rename_i hu; injection h with h; subst h; exact hu
  · cases h
/-- what a map holds for a key -/
theorem run_mget_rep {w0 : World} {n : Nat} {H : AHeap} {mt kt el : TypeId} {xv kv z : Value} {x k za v : AV} {kk : Option IntKind} {ok : Bool} (h0 : Rel0 P w0 G n H w) (hm : P.underlying mt = some (.map kt el)) (hkk : mkind P kt = some kk) (hz : (P.info? el).bind (·.zero) = some z) (hza : cv z = some za)
    (hx : Rep G xv x) (hk : Rep G kv k) (h : mgetV H kk za ok x k = some v) : RunsTo P w G (Instr.lookup mt xv kv ok) v := by
  have hku := mkind_out hkk
  obtain ⟨i, hi, hzi⟩ := Option.bind_eq_some_iff.1 hz
  have hzr : (zeroValue el).run P w = .ok z w := by simp [zeroValue, typeInfo, hi, hzi]
  have hzrep : Rep G z za := cv_rep hza
  unfold mgetV at h
  split at h
  · rename_i g
    split at h
    · rename_i kk' es hH
      split at h
      · rename_i hcond
        obtain ⟨rfl, hko⟩ := hcond
        injection h with h
        cases hx
        obtain ⟨_, _, es', clock, hb, hrep, hall⟩ := h0.objs g _ hH
        obtain ⟨u, ua, h1, h2, h3⟩ := run_lookup_rep (t := kdesc kk') ok hm hku hk (keyOk_of hko) hb hrep (fun e he => keyOk_of (hall e he)) hzr hzrep
        refine ⟨_, h3, ?_⟩
        subst h
        cases ok with
        | true => rw [← h1] at h2; exact .tup (vs := [u, .bool _]) (.cons h2 (.cons .bool .nil))
        | false => rw [← h1] at h2; exact h2
      · cases h
    · cases h
  · split at h
    · rename_i hko
      injection h with h
      cases hx
      have hck := run_checkKey (w := w) true hku hk (keyOk_of hko)
      have hrun : (Instr.lookup mt (.map none) kv ok).run P w = .ok (if ok then .tuple #[z, .bool false] else z) w := by
        simp [Instr.lookup, run_underlying hm, hck, Instr.findKey, run_underlying hku, Instr.findNow, hzr]
      refine ⟨_, hrun, ?_⟩
      subst h
      cases ok with
      | true => exact .tup (vs := [z, .bool false]) (.cons hzrep (.cons .bool .nil))
      | false => exact hzrep
    · cases h
  · cases h
theorem run_b2s_rep {src dst el : TypeId} {w0 : World} {n : Nat} {H : AHeap} {v : Value} {sz : Nat} {l : List AV} {tk : Tok} {bs : List UInt8} (h0 : Rel0 P w0 G n H w) (hs : P.underlying src = some (.slice el)) (he : P.underlying el = some (.int .u8)) (hd : P.underlying dst = some .string)
    (hv : Rep G v (.sl sz l tk)) (h : bytesOf l = some bs) : RunsTo P w G (convert src dst v) (.str bs) := by
  obtain ⟨A, c, rfl, hc, hm, hA⟩ := hv.slOut
  refine ⟨.string ⟨bs.toArray⟩, ?_, .str (by simp)⟩
  rw [run_convert_bytes_string w src dst el A _ c hs he hd]
  by_cases hl : l = []
  · subst hl
    simp [bytesOf] at h; subst h
    cases A with
    | none => simp [Conv.bytesToString]; rfl
    | some ad =>
      rw [run_bytesToString w ad _ c [] (by simp [loadCells, loadCellsFrom])]
      rfl
  · obtain ⟨g, off, vs, rfl, hr, hse, ho⟩ := hA hl
    obtain ⟨ns, e1, e2⟩ := bytesOf_rep h hr
    have hlen : vs.length = l.length := by
      have hz := bytesOf_cells h
      have h1 := hr.len
      rw [flatA_len hz] at h1; omega
    have hload := run_loadCells_list (P := P) w ⟨g, off, none⟩ vs (fun j u hu => by rw [addr_add]; exact h0.seal_ _ _ _ (hse j u hu))
    rw [hlen, e1] at hload
    rw [run_bytesToString w _ _ c ns hload, foldl_push, e2]
    simp

theorem opd1 {x : Operand} {c : Opd → AOp} {op : AOp} (h : (opd x).map c = some op) : ∃ o, opd x = some o ∧ op = c o := by
  obtain ⟨o, h1, h2⟩ := Option.map_eq_some_iff.1 h
  exact ⟨o, h1, h2.symm⟩
/-- a value is handed back: the operation's own form -/
theorem exec_v {m : Sem Value} {v : AV} (h : RunsTo P w G m v) : ∃ v', (do pure (Next.value (← m)) : Sem Next).run P w = .ok (.value v') w ∧ Rep G v' v := by
  obtain ⟨v', h1, h2⟩ := h
  exact ⟨v', by simp [h1], h2⟩

theorem builtin_sound {w0 : World} {nt : Nat} {s : AS} {o : Oper} {op : AOp} {v : AV} {b : Builtin} {args : Array Operand} {tys : Array TypeId} (hc : cBuiltin P b args.toList tys.toList = some op) (hp : pe op s.e s.H = some v) (hr : RelS P w0 nt G s a w) :
    ∃ v', (∀ cs, (builtin b tys o.type cs (args.map a.eval)).run P w = .ok (.value v') w) ∧ Rep G v' v := by
  have ht := hr.tm
  have hargs : args.map a.eval = (args.toList.map a.eval).toArray := by rw [← Array.toList_map]
  have htys : tys = tys.toList.toArray := by simp
  rw [hargs, htys]
  generalize args.toList = al at hc ⊢
  generalize tys.toList = tl at hc ⊢
  unfold cBuiltin at hc
  split at hc
  · -- len
    split at hc
    · rename_i x' hu hx
      injection hc with hc; subst hc
      have hxr := opd_rep (G := G) (a := a) (e := s.e) hx ht
      simp only [pe] at hp
      split at hp
      · rename_i st he
        injection hp with hp; subst hp
        rw [he] at hxr
        simp only [List.map_cons, List.map_nil]
        generalize a.eval _ = xv at hxr ⊢
        cases hxr with | str hxr =>
        subst hxr
        exact ⟨_, fun cs => by simp [builtin, Builtin.len_, run_underlying hu]; rfl, .int⟩
      · cases hp
    · rename_i el x' hu hx
      injection hc with hc; subst hc
      have hxr := opd_rep (G := G) (a := a) (e := s.e) hx ht
      simp only [pe] at hp
      split at hp
      · rename_i z l tk he
        injection hp with hp; subst hp
        rw [he] at hxr
        obtain ⟨A, c, hv, _⟩ := hxr.slOut
        simp only [List.map_cons, List.map_nil, hv]
        exact ⟨_, fun cs => by simp [builtin, Builtin.len_, run_underlying hu]; rfl, .int⟩
      · cases hp
    · rename_i n el x' hu hx
      injection hc with hc; subst hc
      simp only [pe] at hp
      injection hp with hp; subst hp
      simp only [List.map_cons, List.map_nil]
      exact ⟨_, fun cs => by simp [builtin, Builtin.len_, run_underlying hu]; rfl, .int⟩
    · cases hc
  · split at hc
    · split at hc
      · split at hc
        · split at hc
          · injection hc with hc; subst hc; cases hp
          · split at hc
            · injection hc with hc; subst hc; cases hp
            · cases hc
        · cases hc
      · cases hc
    · cases hc
  · split at hc
    · rename_i el x' hu hx
      injection hc with hc; subst hc
      obtain ⟨v', h1, h2⟩ := run_usd_rep (ty := o.type) (tys := #[_]) hr.r0 (opd_rep hx ht) hp
      exact ⟨v', fun cs => by simp only [builtin, List.map_cons, List.map_nil, Sem.run_bind]; rw [h1]; rfl, h2⟩
    · cases hc
  · split at hc
    · split at hc
      · injection hc with hc; subst hc; cases hp
      · cases hc
    · cases hc
  · split at hc
    · rename_i x' y' hx hy
      injection hc with hc; subst hc
      have hxr := opd_rep (G := G) (a := a) (e := s.e) hx ht
      have hyr := opd_rep (G := G) (a := a) (e := s.e) hy ht
      simp only [pe] at hp
      split at hp
      · rename_i k p k' q e1 e2
        split at hp
        · rename_i hk; subst hk
          injection hp with hp; subst hp
          rw [e1] at hxr; rw [e2] at hyr
          simp only [List.map_cons, List.map_nil]
          generalize a.eval _ = xv at hxr ⊢
          generalize a.eval _ = yv at hyr ⊢
          cases hxr; cases hyr
          refine ⟨.int k (if q > p then q else p), fun cs => by simp [builtin, run_max_int2], ?_⟩
          rw [show (if q > p then q else p) = max p q by omega]
          exact .int
        · cases hp
      · cases hp
    · cases hc
  · split at hc
    · rename_i x' y' hx hy
      injection hc with hc; subst hc
      have hxr := opd_rep (G := G) (a := a) (e := s.e) hx ht
      have hyr := opd_rep (G := G) (a := a) (e := s.e) hy ht
      simp only [pe] at hp
      split at hp
      · rename_i k p k' q e1 e2
        split at hp
        · rename_i hk; subst hk
          injection hp with hp; subst hp
          rw [e1] at hxr; rw [e2] at hyr
          simp only [List.map_cons, List.map_nil]
          generalize a.eval _ = xv at hxr ⊢
          generalize a.eval _ = yv at hyr ⊢
          cases hxr; cases hyr
          refine ⟨.int k (if q < p then q else p), fun cs => by simp [builtin, run_min_int2], ?_⟩
          rw [show (if q < p then q else p) = min p q by omega]
          exact .int
        · cases hp
      · cases hp
    · cases hc
  · cases hc

theorem pe_sound {w0 : World} {nt : Nat} {s : AS} {o : Oper} {op : AOp} {ef : List Nat} {v : AV} (hc : cOp P ef o.op = some op) (hp : pe op s.e s.H = some v) (hr : RelS P w0 nt G s a w) :
    ∃ v', (execOp a.eval o).run P w = .ok (.value v') w ∧ Rep G v' v := by
  have ht := hr.tm
  unfold execOp
  unfold cOp at hc
  split at hc
  · -- move
    rename_i x hop
    obtain ⟨x', hx, rfl⟩ := opd1 hc
    simp only [pe] at hp; injection hp with hp; subst hp
    rw [hop]
    exact ⟨_, rfl, opd_rep hx ht⟩
  · rename_i x hop
    obtain ⟨x', hx, rfl⟩ := opd1 hc
    simp only [pe] at hp; injection hp with hp; subst hp
    rw [hop]
    exact ⟨_, rfl, opd_rep hx ht⟩
  · -- pick
    rename_i c x y hop
    rw [hop]
    split at hc
    · rename_i c' x' y' h1 h2 h3
      injection hc with hc; subst hc
      simp only [pe] at hp
      split at hp
      · rename_i t htc
        injection hp with hp; subst hp
        have hcr := opd_rep h1 ht
        rw [htc] at hcr
        generalize hcv : a.eval c = cv at hcr
        cases hcr
        refine ⟨if t then a.eval x else a.eval y, by simp [hcv, asBool], ?_⟩
        cases t
        · exact opd_rep h3 ht
        · exact opd_rep h2 ht
      · cases hp
    · cases hc
  · -- alloc
    split at hc
    · injection hc with hc; subst hc; cases hp
    · cases hc
  · -- box
    split at hc
    · injection hc with hc; subst hc; cases hp
    · cases hc
  · -- build
    rename_i t ps hop
    rw [hop]
    have fin : ∀ {z : List AV} {qs : List (Nat × Shp × Opd)}, zeroOf P t = some z → op = .build z qs → ((∃ fs pl, P.underlying t = some (.struct fs) ∧ fs.toList.mapM (fun f => (P.info? f.type).map fun i => (f.offset, i.size)) = some pl ∧ Parts G (pl.toArray[·]?) (ps.toList.map fun (i, x) => (i, a.eval x)) (qs.map fun (o, s', x) => (o, s', ev s.e x))) ∨
        (∃ n e ie, P.underlying t = some (.array n e) ∧ P.info? e = some ie ∧ Parts G (fun i => some (i * ie.size, ie.size)) (ps.toList.map fun (i, x) => (i, a.eval x)) (qs.map fun (o, s', x) => (o, s', ev s.e x)))) →
        RunsTo P w G (Instr.build t (ps.map fun (i, x) => (i, a.eval x))) v := by
      intro z qs hz hop' hparts
      subst hop'
      obtain ⟨i, zv, hi, hzv, hrz, h1⟩ := zeroOf_out (G := G) hz
      simp only [pe] at hp
      split at hp
      · rename_i hb
        injection hp with hp; subst hp
        have := run_build_rep (w := w) (ps := ps.map fun (i, x) => (i, a.eval x)) hi hzv hrz h1 hb (by simpa using hparts)
        simpa [Function.comp_def] using this
      · cases hp
    refine exec_v ?_
    split at hc
    · rename_i fs z hu hz
      split at hc
      · rename_i hpl
        obtain ⟨pl, hpl⟩ := Option.isSome_iff_exists.1 hpl
        obtain ⟨qs, hq, hop'⟩ := Option.map_eq_some_iff.1 hc
        exact fin hz hop'.symm (.inl ⟨fs, pl, hu, hpl, bparts_rep ht hpl hq⟩)
      · cases hc
    · rename_i n el z hu hz
      split at hc
      · rename_i sh hsh
        obtain ⟨qs, hq, hop'⟩ := Option.map_eq_some_iff.1 hc
        obtain ⟨k1, k2, k3, inf, k4, k5⟩ := shpOk_out hsh
        refine fin hz hop'.symm (.inr ⟨n, el, inf, hu, k4, ?_⟩)
        rw [k5] at hq
        exact aparts_rep ht (by rw [k2, k5]) hq
      · cases hc
    · cases hc
  · -- buildSlice
    split at hc
    · split at hc
      · split at hc
        · injection hc with hc; subst hc; cases hp
        · cases hc
      · cases hc
    · cases hc
  · -- load
    rename_i t x hop
    rw [hop]
    split at hc
    · rename_i sh x' h1 h2
      injection hc with hc; subst hc
      exact exec_v (run_load_rep hr.r0 h1 (opd_rep h2 ht) hp)
    · cases hc
  · -- store
    split at hc
    · injection hc with hc; subst hc; cases hp
    · cases hc
  · -- nilCheck
    rename_i x hop
    rw [hop]
    obtain ⟨x', hx, rfl⟩ := opd1 hc
    have hxr := opd_rep (G := G) (a := a) (e := s.e) hx ht
    simp only [pe] at hp
    generalize hxv : a.eval x = xv at hxr
    split at hp
    · rename_i g o he
      injection hp with hp; subst hp
      rw [he] at hxr; cases hxr
      exact ⟨_, by simp [hxv], .ptr⟩
    · rename_i y he
      injection hp with hp; subst hp
      rw [he] at hxr
      have h2 := hxr
      cases hxr with
      | ref _ _ _ => exact ⟨_, by simp [hxv], h2⟩
    · rename_i f b c he
      split at hp
      · injection hp with hp; subst hp
        rw [he] at hxr
        have h2 := hxr
        cases hxr with
        | fn _ _ => exact ⟨_, by simp [hxv], h2⟩
      · cases hp
    · cases hp
  · -- binOp
    rename_i bop t x y yt hop
    rw [hop]
    refine exec_v ?_
    split at hc
    · rename_i x' y' hx hy
      have hxr := opd_rep (G := G) (a := a) (e := s.e) hx ht
      have hyr := opd_rep (G := G) (a := a) (e := s.e) hy ht
      split at hc
      · injection hc with hc; subst hc
        simp only [pe] at hp
        exact run_bin_rep hxr hyr hp
      · injection hc with hc; subst hc
        simp only [pe] at hp
        exact run_bin_rep hxr hyr hp
      · rename_i hu
        have key : ∀ ng, bop = (if ng then BinOp.neq else BinOp.eql) → op = .eqb ng x' y' → RunsTo P w G (do eqGuard bop t x y (a.eval x) (a.eval y); binOp bop t (a.eval x) (a.eval y)) v := by
          rintro ng rfl rfl
          simp only [pe] at hp
          split at hp
          · rename_i p q e1 e2
            injection hp with hp; subst hp
            rw [e1] at hxr; rw [e2] at hyr
            generalize a.eval x = xv at hxr
            generalize a.eval y = yv at hyr
            cases hxr; cases hyr
            exact run_eqb_rep hu
          · cases hp
        split at hc
        · injection hc with hc; exact key false rfl hc.symm
        · injection hc with hc; exact key true rfl hc.symm
        · cases hc
      · rename_i el hu
        have key : ∀ ng, bop = (if ng then BinOp.neq else BinOp.eql) → y = .const (.slice none 0 0) → op = .eqn ng x' → RunsTo P w G (do eqGuard bop t x y (a.eval x) (a.eval y); binOp bop t (a.eval x) (a.eval y)) v := by
          rintro ng rfl rfl rfl
          simp only [pe] at hp
          obtain ⟨r, hr1, hr2⟩ := Option.map_eq_some_iff.1 hp
          subst hr2
          exact run_eqn_rep hu hxr hr1
        split at hc
        · injection hc with hc; exact key false rfl rfl hc.symm
        · injection hc with hc; exact key true rfl rfl hc.symm
        · cases hc
      · rename_i el hu
        have key : ∀ ng, bop = (if ng then BinOp.neq else BinOp.eql) → y = .const (.pointer none) → op = .eqp ng x' → RunsTo P w G (do eqGuard bop t x y (a.eval x) (a.eval y); binOp bop t (a.eval x) (a.eval y)) v := by
          rintro ng rfl rfl rfl
          simp only [pe] at hp
          obtain ⟨r, hr1, hr2⟩ := Option.map_eq_some_iff.1 hp
          subst hr2
          exact run_eqp_rep hu hxr hr1
        have key2 : ∀ ng, bop = (if ng then BinOp.neq else BinOp.eql) → ((P.info? el).isSome ∧ szP P el ≠ 0) → op = .eqpp ng x' y' → RunsTo P w G (do eqGuard bop t x y (a.eval x) (a.eval y); binOp bop t (a.eval x) (a.eval y)) v := by
          rintro ng rfl hinf rfl
          simp only [pe] at hp
          split at hp
          · rename_i g o g' o' e1 e2
            split at hp
            · rename_i hgg; subst hgg
              injection hp with hp; subst hp
              rw [e1] at hxr; rw [e2] at hyr
              generalize a.eval x = xv at hxr ⊢
              generalize a.eval y = yv at hyr ⊢
              cases hxr; cases hyr
              exact run_eqpp_rep hu hinf.1 hinf.2
            · cases hp
          · cases hp
        unfold cPtrEq at hc
        split at hc
        · injection hc with hc; exact key false rfl rfl hc.symm
        · injection hc with hc; exact key true rfl rfl hc.symm
        · split at hc
          · rename_i hinf; injection hc with hc; exact key2 false rfl hinf hc.symm
          · cases hc
        · split at hc
          · rename_i hinf; injection hc with hc; exact key2 true rfl hinf hc.symm
          · cases hc
        · cases hc
      · rename_i fs hu
        have key : ∀ ng ks, plainStruct P t fs = some ks → bop = (if ng then BinOp.neq else BinOp.eql) → op = .eqs ks ng x' y' → RunsTo P w G (do eqGuard bop t x y (a.eval x) (a.eval y); binOp bop t (a.eval x) (a.eval y)) v := by
          rintro ng ks hks rfl rfl
          simp only [pe] at hp
          split at hp
          · rename_i p q e1 e2
            obtain ⟨r, hr1, hr2⟩ := Option.map_eq_some_iff.1 hp
            subst hr2
            rw [e1] at hxr; rw [e2] at hyr
            exact run_eqs_rep hu hks hxr hyr hr1
          · cases hp
        split at hc
        · rename_i ks hks; injection hc with hc; exact key false ks hks rfl hc.symm
        · rename_i ks hks; injection hc with hc; exact key true ks hks rfl hc.symm
        · cases hc
      · cases hc
    · cases hc
  · -- neg
    rename_i t x hop
    rw [hop]
    refine exec_v ?_
    obtain ⟨x', hx, rfl⟩ := opd1 hc
    have hxr := opd_rep (G := G) (a := a) (e := s.e) hx ht
    simp only [pe] at hp
    split at hp
    · rename_i k n he
      injection hp with hp; subst hp
      rw [he] at hxr
      generalize a.eval x = xv at hxr ⊢
      cases hxr
      exact ⟨.int k (k.wrap (0 - n)), by simp [Op.unary, Op.intArith], .int⟩
    · cases hp
  · -- not
    rename_i t x hop
    rw [hop]
    refine exec_v ?_
    obtain ⟨x', hx, rfl⟩ := opd1 hc
    have hxr := opd_rep (G := G) (a := a) (e := s.e) hx ht
    simp only [pe] at hp
    split at hp
    · rename_i b he
      injection hp with hp; subst hp
      rw [he] at hxr
      generalize a.eval x = xv at hxr ⊢
      cases hxr
      exact ⟨.bool (!b), by simp [Op.unary], .bool⟩
    · cases hp
  · -- convert
    rename_i src dst x hop
    rw [hop]
    refine exec_v ?_
    split at hc
    · rename_i x' k0 k hx hs hd
      injection hc with hc; subst hc
      have hxr := opd_rep (G := G) (a := a) (e := s.e) hx ht
      simp only [pe] at hp
      split at hp
      · rename_i kk n he
        injection hp with hp; subst hp
        rw [he] at hxr
        generalize a.eval x = xv at hxr ⊢
        cases hxr
        exact ⟨_, by simp [convert, run_underlying hs, run_underlying hd, Conv.intToInt], .int⟩
      · cases hp
    · rename_i x' k0 hx hs hd
      injection hc with hc; subst hc
      have hxr := opd_rep (G := G) (a := a) (e := s.e) hx ht
      simp only [pe] at hp
      split at hp
      · rename_i kk n he
        injection hp with hp; subst hp
        rw [he] at hxr
        generalize a.eval x = xv at hxr ⊢
        cases hxr
        exact ⟨_, by simp [convert, run_underlying hs, run_underlying hd, Conv.intToString], .str rfl⟩
      · cases hp
    · rename_i x' el hx hs hd
      split at hc
      · rename_i hel
        injection hc with hc; subst hc
        have hxr := opd_rep (G := G) (a := a) (e := s.e) hx ht
        simp only [pe] at hp
        split at hp
        · rename_i z l tk he
          obtain ⟨bs, hb1, hb2⟩ := Option.map_eq_some_iff.1 hp
          subst hb2
          rw [he] at hxr
          exact run_b2s_rep hr.r0 hs hel hd hxr hb1
        · cases hp
      · cases hc
    · rename_i x' t hx hs hd
      split at hc
      · rename_i hinf
        injection hc with hc; subst hc
        exact run_upc_rep hr.r0 hs hd hinf.1 hinf.2 (opd_rep hx ht) hp
      · cases hc
    · split at hc
      · injection hc with hc; subst hc; cases hp
      · cases hc
    · split at hc
      · injection hc with hc; subst hc; cases hp
      · cases hc
    · split at hc
      · split at hc
        · injection hc with hc; subst hc; cases hp
        · cases hc
      · cases hc
    · cases hc
  · -- makeMap
    split at hc
    · obtain ⟨kk, _, rfl⟩ := Option.map_eq_some_iff.1 hc
      cases hp
    · cases hc
  · -- lookup
    rename_i t x ix ok hop
    rw [hop]
    refine exec_v ?_
    split at hc
    · rename_i kt el x' ix' hm hx hix
      split at hc
      · rename_i kk z hkk hz
        obtain ⟨za, hza, rfl⟩ := Option.map_eq_some_iff.1 hc
        have hxr := opd_rep (G := G) (a := a) (e := s.e) hx ht
        have hkr := opd_rep (G := G) (a := a) (e := s.e) hix ht
        simp only [pe] at hp
        exact run_mget_rep hr.r0 hm hkk hz hza hxr hkr hp
      · cases hc
    · cases hc
  · -- mapUpdate
    split at hc
    · obtain ⟨kk, _, rfl⟩ := Option.map_eq_some_iff.1 hc
      cases hp
    · cases hc
  · -- insert
    split at hc
    · obtain ⟨kk, _, rfl⟩ := Option.map_eq_some_iff.1 hc
      cases hp
    · cases hc
  · -- makeFunc
    rename_i f b c hop
    rw [hop]
    split at hc
    · rename_i b' c' hb hcc
      injection hc with hc; subst hc
      simp only [pe] at hp; injection hp with hp; subst hp
      refine exec_v ⟨.func (.func f) (b.map a.eval) (c.map a.eval), rfl, ?_⟩
      have := Rep.fn (f := f) (opds_rep hb ht) (opds_rep hcc ht)
      rw [← Array.toList_map, ← Array.toList_map] at this
      simpa only [Array.toArray_toList] using this
    · cases hc
  · -- slice
    rename_i t x lo hi hop
    rw [hop]
    refine exec_v ?_
    split at hc
    · rename_i x' lo' hi' hu hx hlo hhi
      injection hc with hc; subst hc
      have hxr := opd_rep (G := G) (a := a) (e := s.e) hx ht
      simp only [pe, cutSV] at hp
      split at hp
      · rename_i st he
        obtain ⟨⟨l, u⟩, hb1, hb2⟩ := Option.map_eq_some_iff.1 hp
        subst hb2
        rw [he] at hxr
        generalize a.eval x = xv at hxr ⊢
        cases hxr with | str hxr =>
        subst hxr
        exact run_cut_str hu (optOpd_rep hlo ht) (optOpd_rep hhi ht) hb1
      · cases hp
    · rename_i el x' lo' hi' hu hx hlo hhi
      split at hc
      · rename_i hinf
        obtain ⟨inf, hinf⟩ := Option.isSome_iff_exists.1 hinf
        injection hc with hc; subst hc
        have hxr := opd_rep (G := G) (a := a) (e := s.e) hx ht
        simp only [pe, cutAV] at hp
        split at hp
        · rename_i z xs tk he
          split at hp
          · rename_i hz
            obtain ⟨⟨l, u⟩, hb1, hb2⟩ := Option.map_eq_some_iff.1 hp
            subst hb2
            rw [he] at hxr
            have hxr : Rep G (a.eval x) (.sl (szP P el) xs .ro) := hxr.sim ⟨szP P el, xs, .ro, rfl, .inl rfl, hz.imp (fun e => e.symm) (fun e => ⟨e, rfl⟩), simL_refl _⟩
            exact run_cut_sl hu hinf hxr (optOpd_rep hlo ht) (optOpd_rep hhi ht) hb1
          · cases hp
        · cases hp
      · cases hc
    · cases hc
  · -- fieldAddr
    rename_i t x f hop
    rw [hop]
    refine exec_v ?_
    split at hc
    · rename_i fs x' hu hx
      split at hc
      · rename_i fd hfd
        split at hc
        · rename_i sh hsh
          injection hc with hc; subst hc
          exact run_faddr_rep hu hfd hsh (opd_rep hx ht) hp
        · cases hc
      · cases hc
    · cases hc
  · -- field
    rename_i t x f hop
    rw [hop]
    refine exec_v ?_
    split at hc
    · rename_i fs x' hu hx
      split at hc
      · rename_i fd hfd
        split at hc
        · rename_i sh hsh
          injection hc with hc; subst hc
          simp only [pe] at hp
          have hxr := opd_rep (G := G) (a := a) (e := s.e) hx ht
          split at hp
          · rename_i cs he
            rw [he] at hxr
            exact run_field_rep hu hfd hsh hxr hp
          · cases hp
        · cases hc
      · cases hc
    · cases hc
  · -- indexAddr
    rename_i t x i hop
    rw [hop]
    refine exec_v ?_
    split at hc
    · rename_i el x' i' hu hx hi
      split at hc
      · rename_i sh hsh
        injection hc with hc; subst hc
        exact run_iaddr_rep hu hsh (opd_rep hx ht) (opd_rep hi ht) hp
      · cases hc
    · rename_i n el x' i' hu hx hi
      split at hc
      · rename_i sh hsh
        injection hc with hc; subst hc
        exact run_aaddr_rep hu hsh (opd_rep hx ht) (opd_rep hi ht) hp
      · cases hc
    · cases hc
  · -- index
    rename_i t x i hop
    rw [hop]
    refine exec_v ?_
    split at hc
    · rename_i x' i' hu hx hi
      injection hc with hc; subst hc
      have hxr := opd_rep (G := G) (a := a) (e := s.e) hx ht
      have hir := opd_rep (G := G) (a := a) (e := s.e) hi ht
      simp only [pe] at hp
      split at hp
      · rename_i st k j e1 e2
        split at hp
        · rename_i hj
          obtain ⟨b, hb1, hb2⟩ := Option.map_eq_some_iff.1 hp
          subst hb2
          rw [e1] at hxr; rw [e2] at hir
          generalize a.eval x = xv at hxr ⊢
          generalize a.eval i = iv at hir ⊢
          cases hxr with | str hxr =>
          cases hir
          subst hxr
          exact run_sidx_rep hu hj hb1
        · cases hp
      · cases hp
    · rename_i n el x' i' hu hx hi
      split at hc
      · rename_i sh hsh
        injection hc with hc; subst hc
        have hxr := opd_rep (G := G) (a := a) (e := s.e) hx ht
        have hir := opd_rep (G := G) (a := a) (e := s.e) hi ht
        simp only [pe] at hp
        split at hp
        · rename_i cs k j e1 e2
          split at hp
          · rename_i hj
            rw [e1] at hxr; rw [e2] at hir
            generalize a.eval i = iv at hir ⊢
            cases hir
            exact run_aidx_rep hu hsh hxr hj hp
          · cases hp
        · cases hp
      · cases hc
    · cases hc
  · -- extract
    rename_i x i hop
    rw [hop]
    refine exec_v ?_
    obtain ⟨x', hx, rfl⟩ := opd1 hc
    have hxr := opd_rep (G := G) (a := a) (e := s.e) hx ht
    simp only [pe] at hp
    split at hp
    · rename_i vs he
      rw [he] at hxr
      generalize a.eval x = xv at hxr ⊢
      cases hxr with
      | tup hl =>
        obtain ⟨u, hu, hru⟩ := hl.at hp
        exact ⟨u, by simp [Instr.extract, hu], hru⟩
    · cases hp
  · -- call
    rename_i c hop
    rw [hop]
    unfold cCall at hc
    split at hc
    · rename_i f hcal
      split at hc
      · rename_i xs hxs
        split at hc
        · rename_i fn hfn
          split at hc
          · injection hc with hc; subst hc; split at hp <;> cases hp
          · split at hc
            · rename_i x'
              split at hc
              · rename_i hne
                injection hc with hc; subst hc
                simp only [pe] at hp; injection hp with hp; subst hp
                simp only [Bool.and_eq_true] at hne
                have hrep := opds_rep (G := G) (a := a) (e := s.e) hxs ht
                simp only [List.map_cons, List.map_nil] at hrep
                generalize hal : c.args.toList.map a.eval = al at hrep
                cases hrep with
                | cons hv hn =>
                  cases hn
                  rename_i v0
                  refine ⟨v0, ?_, hv⟩
                  have hargs : c.args.map a.eval = #[v0] := by
                    have h1 : (c.args.map a.eval).toList = [v0] := by rw [Array.toList_map]; exact hal
                    have h2 := congrArg List.toArray h1
                    rw [Array.toArray_toList] at h2
                    exact h2
                  simp only [resolve, hcal, hargs, Act.eval, Deferred.ofValue, Sem.run_bind, Sem.run_pure, Result.andThen_ok, invoke]
                  have hname : fn.name = noescN := by simpa using hne.1.2
                  have hor : fn.origin = "" := by simpa using hne.2
                  rw [run_callFunc_extern hfn (by rw [hname]; decide) hne.1.1 (findNext_noesc hname hor) (find_noesc hname)]
                  rfl
              · cases hc
            · cases hc
        · cases hc
      · cases hc
    · split at hc
      · injection hc with hc; subst hc; cases hp
      · cases hc
    · rename_i b hcal
      have hb := builtin_sound (o := o) hc hp hr
      obtain ⟨v', h1, h2⟩ := hb
      refine ⟨v', ?_, h2⟩
      simp only [resolve, hcal, Sem.run_bind, Sem.run_pure, Result.andThen_ok, invoke]
      exact h1 _
    · cases hc
  · cases hc
end
end Go.Proofs.YtnmkpadgogbgkaaDoor

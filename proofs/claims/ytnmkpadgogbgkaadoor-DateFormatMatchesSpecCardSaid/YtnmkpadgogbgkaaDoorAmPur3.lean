/- The program's operations that only compute agree with those on plain data: parts, addresses, indexes; no condition. -/
import Derived.Test.YtnmkpadgogbgkaaDoorAmPur2
set_option linter.all false
set_option linter.unusedSimpArgs false
set_option linter.unusedVariables false
namespace Go.Proofs.YtnmkpadgogbgkaaDoor
open Go.RowKit

inductive RepO (G : Gh) : Option Value → Option AV → Prop
  | none : RepO G .none .none
  | some {v x} (h : Rep G v x) : RepO G (.some v) (.some x)

section
variable {P : Program} {w : World} {G : Gh}
theorem optOpd_rep {x : Option Operand} {o : Option Opd} {a : Act} {e : AEnv} (h : optOpd x = some o) (ht : ∀ t, Rep G (a.tmps.getD t undef) (get e t)) : RepO G (x.map a.eval) (o.map (ev e)) := by
  cases x with
  | none => simp [optOpd] at h; subst h; exact .none
  | some x =>
    simp only [optOpd] at h
    cases hx : opd x with
    | none => rw [hx] at h; cases h
    | some y => rw [hx] at h; injection h with h; subst h; exact .some (opd_rep hx ht)

theorem run_bounds {isSlice : Bool} {len cap : Nat} {lo hi : Option Value} {lo' hi' : Option AV} {l u : Nat} (hc : len ≤ cap) (hlo : RepO G lo lo') (hhi : RepO G hi hi') (h : cutB lo' hi' len = some (l, u)) :
    (Instr.sliceBounds isSlice len cap lo hi none).run P w = .ok (l, u, cap) w ∧ l ≤ u ∧ u ≤ len := by
  unfold cutB at h
  split at h
  · rename_i hv lv h1 h2
    split at h
    · rename_i hb
      obtain ⟨b1, b2, b3⟩ := hb
      injection h with h; injection h with e1 e2
      subst e1; subst e2
      refine ⟨?_, by omega, by omega⟩
      cases hhi with
      | none =>
        simp only at h1
        injection h1 with h1; subst h1
        cases hlo with
        | none => simp only at h2; injection h2 with h2; subst h2; simp [Instr.sliceBounds]
        | some hr =>
          rename_i v x
          cases x <;> simp only [reduceCtorEq] at h2
          injection h2 with h2; subst h2
          cases hr
          simp only [Instr.sliceBounds, Sem.run_bind, Sem.run_pure, Result.andThen_ok, run_sliceBound_if]
          simp [b1, b2]
      | some hr =>
        rename_i v x
        cases x with
        | int kx nx =>
          simp only at h1
          injection h1 with h1; subst h1
          cases hr
          have hcap : nx ≤ (cap : Int) := by omega
          have h0 : 0 ≤ nx := by omega
          cases hlo with
          | none =>
            simp only at h2; injection h2 with h2; subst h2
            simp only [Instr.sliceBounds, Sem.run_bind, Sem.run_pure, Result.andThen_ok, run_sliceBound_if, h0, hcap, and_self, if_true]
            rfl
          | some hr =>
            rename_i v x
            cases x with
            | int ky ny =>
              simp only at h2
              injection h2 with h2; subst h2
              cases hr
              have h3 : ny ≤ (nx.toNat : Int) := by omega
              simp only [Instr.sliceBounds, Sem.run_bind, Sem.run_pure, Result.andThen_ok, run_sliceBound_if, h0, hcap, b1, h3, and_self, if_true]
            | _ => simp at h2
        | _ => simp at h1
    · cases h
  · cases h

theorem run_cut_str {t : TypeId} {s : ByteArray} {lo hi : Option Value} {lo' hi' : Option AV} {l u : Nat} (ht : P.underlying t = some .string) (hlo : RepO G lo lo') (hhi : RepO G hi hi') (h : cutB lo' hi' s.data.toList.length = some (l, u)) :
    RunsTo P w G (Instr.sliceAt t (.string s) lo hi none) (.str ((s.data.toList.take u).drop l)) := by
  have h' : cutB lo' hi' s.size = some (l, u) := h
  have hb := (run_bounds (P := P) (w := w) (isSlice := false) (Nat.le_refl s.size) hlo hhi h').1
  refine ⟨.string (s.extract l u), ?_, .str (by rw [ByteArray.data_extract, Array.toList_extract, List.extract_eq_take_drop, List.drop_take])⟩
  simp only [Instr.sliceAt, Instr.slice, Sem.run_bind, run_underlying ht, Result.andThen_ok, Option.isSome_none, Bool.false_eq_true, if_false, hb, Sem.run_pure]

theorem flatA_len {sz : Nat} {l : List AV} (h : ∀ x ∈ l, x.cells.length = sz) : (flatA l).length = l.length * sz := by
  induction l with
  | nil => simp [flatA]
  | cons x l ih =>
    have h1 := h x List.mem_cons_self
    have h2 := ih fun y hy => h y (List.mem_cons_of_mem _ hy)
    simp only [flatA, List.flatMap_cons, List.length_append] at h2 ⊢
    rw [h1, h2, List.length_cons, Nat.add_mul]; omega
theorem flatA_drop {sz : Nat} {l : List AV} (h : ∀ x ∈ l, x.cells.length = sz) (k : Nat) : flatA (l.drop k) = (flatA l).drop (k * sz) := by
  induction l generalizing k with
  | nil => simp [flatA]
  | cons x l ih =>
    cases k with
    | zero => simp
    | succ k =>
      have h1 := h x List.mem_cons_self
      have h2 := ih (fun y hy => h y (List.mem_cons_of_mem _ hy)) k
      simp only [flatA, List.flatMap_cons, List.drop_succ_cons] at h2 ⊢
      rw [h2, Nat.add_mul, Nat.one_mul, Nat.add_comm, ← List.drop_drop, List.drop_append_of_le_length (by omega), List.drop_of_length_le (l := x.cells) (by omega), List.nil_append]
theorem flatA_take {sz : Nat} {l : List AV} (h : ∀ x ∈ l, x.cells.length = sz) (k : Nat) : flatA (l.take k) = (flatA l).take (k * sz) := by
  induction l generalizing k with
  | nil => simp [flatA]
  | cons x l ih =>
    cases k with
    | zero => simp [flatA]
    | succ k =>
      have h1 := h x List.mem_cons_self
      have h2 := ih (fun y hy => h y (List.mem_cons_of_mem _ hy)) k
      simp only [flatA, List.flatMap_cons, List.take_succ_cons] at h2 ⊢
      rw [h2, Nat.add_mul, Nat.one_mul, Nat.add_comm, List.take_append, h1, List.take_of_length_le (l := x.cells) (by omega), show sz + k * sz - sz = k * sz by omega]
theorem flatA_at {sz : Nat} {l : List AV} (h : ∀ x ∈ l, x.cells.length = sz) {k : Nat} {x : AV} (hk : l[k]? = some x) : ((flatA l).drop (k * sz)).take sz = x.cells := by
  rw [← flatA_drop h]
  have hlt := (List.getElem?_eq_some_iff.1 hk).1
  have he := (List.getElem?_eq_some_iff.1 hk).2
  rw [List.drop_eq_getElem_cons hlt, he]
  simp only [flatA, List.flatMap_cons]
  rw [List.take_append_of_le_length (by have := h x (List.mem_of_getElem? hk); omega), List.take_of_length_le (by have := h x (List.mem_of_getElem? hk); omega)]
theorem Sealed.drop {g off : Nat} {vs : List Value} (h : Sealed G g off vs) (k : Nat) : Sealed G g (off + k) (vs.drop k) := fun j u hu => by
  rw [Nat.add_assoc]; exact h (k + j) u (by simpa using hu)
theorem Sealed.take {g off : Nat} {vs : List Value} (h : Sealed G g off vs) (k : Nat) : Sealed G g off (vs.take k) := fun j u hu => by
  rw [List.getElem?_take] at hu
  split at hu
  · exact h j u hu
  · cases hu
/-- what a slice is in memory -/
theorem Rep.slOut {v : Value} {sz : Nat} {l : List AV} {t : Tok} (h : Rep G v (.sl sz l t)) : ∃ A c, v = .slice A l.length c ∧ l.length ≤ c ∧ c ≤ maxLen ∧
    (l ≠ [] → ∃ g off vs, A = some ⟨g, off, none⟩ ∧ RepL G vs (flatA l) ∧ Sealed G g off vs ∧ SlOk sz l c) := by
  cases h with
  | slnil => exact ⟨none, 0, rfl, Nat.le_refl _, by simp [maxLen], fun h => absurd rfl h⟩
  | sl0 h => exact ⟨_, _, rfl, Nat.zero_le _, h, fun h => absurd rfl h⟩
  | slro h hs ho hn => subst hn; exact ⟨_, _, rfl, ho.cap, ho.max, fun _ => ⟨_, _, _, rfl, h, hs, ho⟩⟩
  | slown h hs ho hn hc => subst hn; exact ⟨_, _, rfl, ho.cap, ho.max, fun _ => ⟨_, _, _, rfl, h, hs, ho⟩⟩

theorem run_cut_sl {t e : TypeId} {i : TypeInfo} {v : Value} {xs : List AV} {tk : Tok} {lo hi : Option Value} {lo' hi' : Option AV} {l u : Nat} (ht : P.underlying t = some (.slice e)) (hi0 : P.info? e = some i) (hv : Rep G v (.sl (szP P e) xs tk))
    (hlo : RepO G lo lo') (hhi : RepO G hi hi') (h : cutB lo' hi' xs.length = some (l, u)) :
    RunsTo P w G (Instr.sliceAt t v lo hi none) (.sl (szP P e) ((xs.take u).drop l) .ro) := by
  obtain ⟨A, c, rfl, hc, hm, hA⟩ := hv.slOut
  obtain ⟨hb, hlu, hul⟩ := run_bounds (P := P) (w := w) (isSlice := true) hc hlo hhi h
  refine ⟨_, by simp only [Instr.sliceAt, Instr.slice, Sem.run_bind, run_underlying ht, Result.andThen_ok, hb, run_szP hi0, Sem.run_pure]; rfl, ?_⟩
  by_cases hz : u = l
  · subst hz
    have h1 : (xs.take u).drop u = [] := by simp
    rw [h1, Nat.sub_self]
    exact .sl0 (by omega)
  · have hne : xs ≠ [] := by intro e; subst e; simp at hul; omega
    obtain ⟨g, off, vs, rfl, hr, hs, ho⟩ := hA hne
    rw [if_neg (by omega)]
    simp only [Option.map_some, addr_add]
    have hut : ∀ x ∈ xs.take u, x.cells.length = szP P e := fun x hx => ho.uni x (List.mem_of_mem_take hx)
    refine Rep.slro (vs := (vs.take (u * szP P e)).drop (l * szP P e)) ?_ ((hs.take _).drop _) ⟨?_, by omega, ho.pos, fun x hx => ho.uni x (List.mem_of_mem_take (List.mem_of_mem_drop hx)), ?_⟩ ?_
    · rw [flatA_drop hut, flatA_take ho.uni]; exact (hr.take _).drop _
    · simp; omega
    · intro x hx
      refine ho.one x ?_
      rw [flatA_drop hut, flatA_take ho.uni] at hx
      exact List.mem_of_mem_take (List.mem_of_mem_drop hx)
    · simp; omega

theorem fits_cells {x : AV} {s : Shp} (h : x.fits s = true) : x.cells.length = shpSz s := by
  cases x <;> cases s <;> simp [AV.fits, AV.cells, shpSz] at h ⊢
  exact h
theorem part_fits {cs : List AV} {off : Nat} {s : Shp} {x : AV} (h1 : ∀ x ∈ cs, x.one = true) (h : part cs off s = some x) : x.cells = (cs.drop off).take (shpSz s) ∧ x.fits s = true ∧ ∀ y ∈ x.cells, y.one = true := by
  cases s with
  | none =>
    simp only [part] at h
    have ho := h1 x (List.mem_of_getElem? h)
    have hlt := (List.getElem?_eq_some_iff.1 h).1
    have he := (List.getElem?_eq_some_iff.1 h).2
    have hc : x.cells = [x] := by cases x <;> simp [AV.one, AV.cells] at ho ⊢
    refine ⟨?_, by cases x <;> simp [AV.one, AV.fits] at ho ⊢, by rw [hc]; simpa using ho⟩
    rw [hc, List.drop_eq_getElem_cons hlt, he]; rfl
  | some k =>
    simp only [part] at h
    split at h
    · rename_i hle
      injection h with h; subst h
      refine ⟨rfl, by simp [AV.fits]; omega, fun y hy => h1 y (List.mem_of_mem_drop (List.mem_of_mem_take hy))⟩
    · cases h

/-- where a part of a variable that only is read lies -/
theorem ref_part {g o : Nat} {cs : List AV} {off : Nat} {s : Shp} {x : AV} (hr : Rep G (.pointer (some ⟨g, o, none⟩)) (.ref (.agg cs))) (hp : part cs off s = some x) : Rep G (.pointer (some ⟨g, o + off, none⟩)) (.ref x) := by
  cases hr with
  | ref h hs h1 =>
    rename_i vs
    obtain ⟨e1, e2, e3⟩ := part_fits h1 hp
    refine Rep.ref (vs := (vs.drop off).take (shpSz s)) ?_ ((hs.drop off).take _) e3
    rw [e1]
    exact (h.drop off).take _

theorem run_faddr_rep {t : TypeId} {v : Value} {x y : AV} {fs : Array Field} {k : Nat} {fd : Field} {sh : Shp} (ht : P.underlying t = some (.struct fs)) (hf : fs[k]? = some fd) (hs : shpOk P fd.type = some sh) (hv : Rep G v x) (h : xz33 x fd.offset sh = some y) :
    RunsTo P w G (Instr.fieldAt t v k) y := by
  obtain ⟨h1, h2, h3, i, hi, hsz⟩ := shpOk_out hs
  have hne : ¬ szP P fd.type = 0 := by omega
  have hrun : ∀ g o, (Instr.fieldAt t (.pointer (some ⟨g, o, none⟩)) k).run P w = .ok (.pointer (some ⟨g, o + fd.offset, none⟩)) w := fun g o => by
    simp [Instr.fieldAt, run_underlying ht, hf, Instr.sureAddr, fieldPlace, run_szP hi, hne, addr_add]
  unfold xz33 at h
  split at h
  · injection h with h; subst h
    cases hv
    exact ⟨_, hrun _ _, .ptr⟩
  · cases hp : part _ fd.offset sh with
    | none => rw [hp] at h; cases h
    | some z =>
      rw [hp] at h; injection h with h; subst h
      have hv' := hv
      cases hv with
      | ref _ _ _ => exact ⟨_, hrun _ _, ref_part hv' hp⟩
  · cases h
theorem run_field_rep {t : TypeId} {v : Value} {cs : List AV} {y : AV} {fs : Array Field} {k : Nat} {fd : Field} {sh : Shp} (ht : P.underlying t = some (.struct fs)) (hf : fs[k]? = some fd) (hs : shpOk P fd.type = some sh) (hv : Rep G v (.agg cs)) (h : part cs fd.offset sh = some y) :
    RunsTo P w G (Instr.field t v k) y := by
  cases hv with
  | agg hr h1 =>
    obtain ⟨u, hu, hrep⟩ := run_part_rep w hs hr h1 h
    exact ⟨u, by simp [Instr.field, run_underlying ht, hf, asAgg, hu], hrep⟩

theorem run_iaddr_rep {t e : TypeId} {v iv : Value} {x ix y : AV} {sh : Shp} (ht : P.underlying t = some (.slice e)) (hs : shpOk P e = some sh) (hv : Rep G v x) (hiv : Rep G iv ix) (h : iaddrAV (szP P e) sh x ix = some y) :
    RunsTo P w G (Instr.indexAt t v iv) y := by
  obtain ⟨h1, h2, h3, i, hi, hsz⟩ := shpOk_out hs
  unfold iaddrAV at h
  split at h
  · rename_i z l tk kk j
    split at h
    · rename_i hz
      obtain ⟨rfl, hj⟩ := hz
      split at h
      · rename_i el hel
        split at h
        · rename_i hfit
          injection h with h; subst h
          obtain ⟨A, c, rfl, hc, hm, hA⟩ := hv.slOut
          have hne : l ≠ [] := by intro e; subst e; simp at hel
          have hlt := (List.getElem?_eq_some_iff.1 hel).1
          obtain ⟨g, off, vs, rfl, hr, hse, ho⟩ := hA hne
          cases hiv
          have hjl : j < (l.length : Int) := by omega
          refine ⟨.pointer (some ⟨g, off + j.toNat * szP P e, none⟩), ?_, ?_⟩
          · simp [Instr.indexAt, asIntOf, run_underlying ht, hj, hjl, run_szP hi, addr_add]
          · have hat := flatA_at ho.uni hel
            refine Rep.ref (vs := (vs.drop (j.toNat * szP P e)).take (szP P e)) ?_ ((hse.drop _).take _) ?_
            · rw [← hat]; exact (hr.drop _).take _
            · intro y hy; rw [← hat] at hy; exact ho.one y (List.mem_of_mem_drop (List.mem_of_mem_take hy))
        · cases h
      · cases h
    · cases h
  · cases h
theorem run_aaddr_rep {t e : TypeId} {n : Nat} {v iv : Value} {x ix y : AV} {sh : Shp} (ht : P.underlying t = some (.array n e)) (hs : shpOk P e = some sh) (hv : Rep G v x) (hiv : Rep G iv ix) (h : xz35 n (szP P e) sh x ix = some y) :
    RunsTo P w G (Instr.indexAt t v iv) y := by
  obtain ⟨h1, h2, h3, i, hi, hsz⟩ := shpOk_out hs
  have hrun : ∀ (g o : Nat) (k : IntKind) (j : Int), 0 ≤ j → j < (n : Int) → (Instr.indexAt t (.pointer (some ⟨g, o, none⟩)) (.int k j)).run P w = .ok (.pointer (some ⟨g, o + j.toNat * szP P e, none⟩)) w := fun g o k j a b => by
    simp [Instr.indexAt, asIntOf, run_underlying ht, Instr.sureAddr, a, b, run_szP hi, addr_add]
  unfold xz35 at h
  split at h
  · split at h
    · rename_i hj
      injection h with h; subst h
      cases hv; cases hiv
      exact ⟨_, hrun _ _ _ _ hj.1 hj.2, .ptr⟩
    · cases h
  · split at h
    · rename_i cs kk j hj
      cases hp : part cs (j.toNat * szP P e) sh with
      | none => rw [hp] at h; cases h
      | some z =>
        rw [hp] at h; injection h with h; subst h
        have hv' := hv
        cases hiv
        cases hv with
        | ref _ _ _ => exact ⟨_, hrun _ _ _ _ hj.1 hj.2, ref_part hv' hp⟩
    · cases h
  · cases h
end
end Go.Proofs.YtnmkpadgogbgkaaDoor

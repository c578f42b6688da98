/- The program's operations that only compute agree with those on plain data: indexes, lengths, loads, aggregates; no condition. -/
import Derived.Test.YtnmkpadgogbgkaaDoorAmPur3
import Derived.Laws.Tables
import Derived.Lib.UnsafeStr
set_option linter.all false
set_option linter.unusedSimpArgs false
set_option linter.unusedVariables false
namespace Go.Proofs.YtnmkpadgogbgkaaDoor
open Go.RowKit

section
variable {P : Program} {w : World} {G : Gh}
theorem run_sidx_rep {t : TypeId} {s : ByteArray} {k : IntKind} {j : Int} {b : UInt8} (ht : P.underlying t = some .string) (h0 : 0 ≤ j) (h : s.data.toList[j.toNat]? = some b) : RunsTo P w G (Instr.index t (.string s) (.int k j)) (.int .u8 b.toNat) :=
  have h' : s[j.toNat]? = some b := by
    rw [← h, getElem?_def, getElem?_def]; rfl
  ⟨.int .u8 b.toNat, by simp [Instr.index, asIntOf, run_underlying ht, h0, h'], .int⟩
theorem run_aidx_rep {t e : TypeId} {n : Nat} {v : Value} {k : IntKind} {j : Int} {cs : List AV} {y : AV} {sh : Shp} (ht : P.underlying t = some (.array n e)) (hs : shpOk P e = some sh) (hv : Rep G v (.agg cs)) (hj : 0 ≤ j ∧ j < (n : Int)) (h : part cs (j.toNat * szP P e) sh = some y) :
    RunsTo P w G (Instr.index t v (.int k j)) y := by
  obtain ⟨h1, h2, h3, i, hi, hsz⟩ := shpOk_out hs
  cases hv with
  | agg hr h1 =>
    obtain ⟨u, hu, hrep⟩ := run_part_rep w hs hr h1 h
    exact ⟨u, by simp [Instr.index, asIntOf, run_underlying ht, hj, run_szP hi, hu], hrep⟩

/-- cells that lie one behind the other -/
theorem run_loadVar_list {t : TypeId} {sh : Shp} {g o : Nat} {vs : List Value} {x : AV} (hs : shpOk P t = some sh) (hr : RepL G vs x.cells) (hf : x.fits sh = true) (h1 : ∀ y ∈ x.cells, y.one = true) (hc : ∀ j u, vs[j]? = some u → w.cell? ⟨g, o + j, none⟩ = some u) :
    RunsTo P w G (Instr.loadAt t (.pointer (some ⟨g, o, none⟩))) x := by
  obtain ⟨h2, h3, h4, i, hi, hsz⟩ := shpOk_out hs
  have hl := hr.len
  rw [fits_cells hf, h3] at hl
  cases sh with
  | none =>
    have hx : x.cells = [x] := by cases x <;> simp [AV.fits, AV.cells] at hf ⊢
    rw [hx] at hr
    cases hr with
    | cons hv hn =>
      rename_i v vs'
      cases hn
      have := hc 0 v rfl
      refine ⟨v, ?_, hv⟩
      simp only [Nat.add_zero] at this
      simp [Instr.loadAt, Instr.sureAddr, loadVar, run_isAgg_shp h2, this]
  | some k =>
    cases x <;> simp only [AV.fits, Bool.false_eq_true] at hf
    rename_i cs
    refine ⟨.agg vs.toArray, ?_, Rep.agg hr h1⟩
    have hrun := run_loadCells_list (P := P) w ⟨g, o, none⟩ vs (fun j u hu => by rw [addr_add]; exact hc j u hu)
    rw [hl] at hrun
    simp [Instr.loadAt, Instr.sureAddr, loadVar, run_isAgg_shp h2, run_szP hi, hrun]
theorem run_load_rep {w0 : World} {n : Nat} {H : AHeap} {t : TypeId} {sh : Shp} {v : Value} {x y : AV} (h0 : Rel0 P w0 G n H w) (hs : shpOk P t = some sh) (hv : Rep G v x) (h : loadAV H sh x = some y) : RunsTo P w G (Instr.loadAt t v) y := by
  unfold loadAV at h
  split at h
  · rename_i g o
    split at h
    · rename_i e cs hg
      obtain ⟨_, _, hob⟩ := h0.objs g _ hg
      obtain ⟨_, vs, hgw, hr, h1⟩ := hob
      obtain ⟨e1, e2, e3⟩ := part_fits h1 h
      cases hv
      refine run_loadVar_list (vs := (vs.toList.drop o).take (shpSz sh)) hs (by rw [e1]; exact (hr.drop o).take _) e2 e3 fun j u hu => ?_
      rw [cell_of_row w g (o + j) vs e (0, 0) hgw]
      rw [List.getElem?_take] at hu
      split at hu
      · simpa using hu
      · cases hu
    · cases h
  · split at h
    · rename_i hf
      injection h with h; subst h
      cases hv with
      | ref hr hse h1 => exact run_loadVar_list hs hr hf h1 fun j u hu => h0.seal_ _ _ _ (hse j u hu)
    · cases h
  · cases h

theorem run_upc_rep {w0 : World} {n : Nat} {H : AHeap} {src dst t : TypeId} {v : Value} {x y : AV} (h0 : Rel0 P w0 G n H w) (hs : P.underlying src = some (.pointer t)) (hd : P.underlying dst = some .unsafePointer) (hi : (P.info? t).isSome) (hz : szP P t ≠ 0) (hv : Rep G v x) (h : upcAV H x = some y) : RunsTo P w G (convert src dst v) y := by
  obtain ⟨i, hi⟩ := Option.isSome_iff_exists.1 hi
  unfold upcAV at h
  split at h
  · rename_i g o
    split at h
    · rename_i e cs hg
      split at h
      · rename_i ho
        injection h with h; subst h
        obtain ⟨_, _, _, vs, hgw, hr, _⟩ := h0.objs g _ hg
        have hl := hr.len
        cases hv
        refine ⟨_, ?_, .ptr⟩
        have hsh : w.shape? g = some (e, vs.size) := by simp [World.shape?, hgw]
        have hlt : ¬ (vs.size ≤ o) := by simp at hl; omega
        simp [convert, run_underlying hs, run_underlying hd, Conv.unsafePointer, Conv.seenAt, viewAt, cellsIn, hsh, run_szP hi, hz, hlt]
      · cases h
    · cases h
  · cases h
theorem run_updn_rep {w0 : World} {n : Nat} {H : AHeap} {src dst u : TypeId} {v : Value} {x y : AV} (h0 : Rel0 P w0 G n H w) (hs : P.underlying src = some .unsafePointer) (hd : P.underlying dst = some (.pointer u)) (hi : (P.info? u).isSome) (hz : szP P u ≠ 0) (hv : Rep G v x) (h : updnAV P H u x = some y) : RunsTo P w G (convert src dst v) y := by
  obtain ⟨i, hi⟩ := Option.isSome_iff_exists.1 hi
  unfold updnAV at h
  split at h
  · rename_i g o
    split at h
    · rename_i e cs hg
      split at h
      · rename_i ho
        injection h with h; subst h
        obtain ⟨_, _, _, vs, hgw, hr, _⟩ := h0.objs g _ hg
        have hl : vs.size = cs.length := by have := hr.len; simpa using this
        cases hv
        refine ⟨_, ?_, .ptr⟩
        have hsh : w.shape? g = some (e, vs.size) := by simp [World.shape?, hgw]
        have hva : (variablesAt ⟨g, o, none⟩ u 1).run P w = .ok true w := by simp [variablesAt, hsh, hl, ho]
        simp [convert, run_underlying hs, run_underlying hd, Conv.unsafePointer, Conv.seenAt, viewAt, hsh, run_szP hi, hz, hva]
      · cases h
    · cases h
  · cases h

theorem run_usd_rep {w0 : World} {n : Nat} {H : AHeap} {e ty : TypeId} {tys : Array TypeId} {v : Value} {x y : AV} (h0 : Rel0 P w0 G n H w) (hv : Rep G v x) (h : usdAV H e x = some y) : RunsTo P w G (Builtin.unsafeSliceData_ tys ty #[v]) y := by
  unfold usdAV at h
  split at h
  · injection h with h; subst h
    cases hv
    exact ⟨.pointer none, rfl, .dat0⟩
  · rename_i z x l g
    split at h
    · rename_i e' m hg
      split at h
      · rename_i hc
        obtain ⟨rfl, rfl⟩ := hc
        injection h with h; subst h
        cases hv with
        | @slown _ vs _ _ c n0 e2 hr hs ho hn hcap =>
          obtain ⟨_, _, cur, c', fz, e1, e2', _⟩ := h0.objs g _ hg
          rw [hcap] at e1; injection e1 with e1; injection e1 with e1 e1'; subst e1; subst e1'
          have hc0 : c ≠ 0 := by have := ho.cap; simp at this; omega
          exact ⟨.pointer (some ⟨g, 0, none⟩), Lib.run_unsafeSliceData_row w tys ty _ _ _ hc0, .dat hr hs hcap⟩
      · cases h
    · cases h
  · cases h

theorem foldl_set (off : Nat) : ∀ (vs : List Value) (k : Nat) (cells : Array Value), off + k + vs.length ≤ cells.size →
    ((vs.zipIdx k).foldl (fun cs (x : Value × Nat) => cs.setIfInBounds (off + x.2) x.1) cells).toList = cells.toList.take (off + k) ++ vs ++ cells.toList.drop (off + k + vs.length)
  | [], k, cells, _ => by simp
  | v :: vs, k, cells, h => by
    simp only [List.length_cons] at h
    rw [List.zipIdx_cons, List.foldl_cons, foldl_set off vs (k + 1) _ (by simp; omega)]
    have hlt : off + k < cells.toList.length := by simp; omega
    simp only [Array.toList_setIfInBounds]
    rw [show off + (k + 1) = off + k + 1 by omega, List.length_cons, show off + k + 1 + vs.length = off + k + (vs.length + 1) by omega]
    rw [List.take_set, List.drop_set_of_lt (by omega)]
    have hmin : min (off + k) cells.size = off + k := by simp at hlt; omega
    rw [List.take_succ_eq_append_getElem hlt, List.set_append_right _ _ (by simp; omega)]
    simp [List.length_take, hmin]
theorem foldl_set_arr {vs : Array Value} {off : Nat} {cells : Array Value} (h : off + vs.size ≤ cells.size) :
    (vs.zipIdx.foldl (fun cs (x : Value × Nat) => cs.setIfInBounds (off + x.2) x.1) cells).toList = cells.toList.take off ++ vs.toList ++ cells.toList.drop (off + vs.size) := by
  have := foldl_set off vs.toList 0 cells (by simpa using h)
  rw [← Array.foldl_toList]
  simpa using this

inductive Parts (G : Gh) (place : Nat → Option (Nat × Nat)) : List (Nat × Value) → List (Nat × Shp × AV) → Prop
  | nil : Parts G place [] []
  | cons {i v o s x ps qs} (hp : place i = some (o, shpSz s)) (hr : Rep G v x) (h : Parts G place ps qs) : Parts G place ((i, v) :: ps) ((o, s, x) :: qs)

theorem fits_one {x : AV} {v : Value} {s : Shp} (h : x.fits s = true) (hr : Rep G v x) : ∀ y ∈ x.cells, y.one = true := by
  cases hr with
  | agg hr h1 => exact h1
  | any => cases s <;> simp [AV.fits] at h
  | und => cases s <;> simp [AV.fits] at h
  | dat0 => cases s <;> simp [AV.fits] at h
  | dat => cases s <;> simp [AV.fits] at h
  | tup => cases s <;> simp [AV.fits] at h
  | _ => intro y hy; simp [AV.cells] at hy; subst hy; rfl
theorem fill_rep {place : Nat → Option (Nat × Nat)} {ps : List (Nat × Value)} {qs : List (Nat × Shp × AV)} (h : Parts G place ps qs) : ∀ {cells : Array Value} {cs : List AV}, RepL G cells.toList cs → (∀ y ∈ cs, y.one = true) → xz3n cs.length qs = true →
    ∃ cells', Instr.fill place cells ps = some cells' ∧ RepL G cells'.toList (xz3o cs (qs.map fun (o, _, x) => (o, x))) ∧ ∀ y ∈ xz3o cs (qs.map fun (o, _, x) => (o, x)), y.one = true := by
  induction h with
  | nil => intro cells cs hr h1 _; exact ⟨cells, rfl, hr, h1⟩
  | cons hp hrx h ih =>
    rename_i i v o s x ps qs
    intro cells cs hr h1 hb
    simp only [xz3n, Bool.and_eq_true, decide_eq_true_eq] at hb
    obtain ⟨⟨hf, hle⟩, hb⟩ := hb
    have hl := hr.len
    have hone := fits_one hf hrx
    have hcl := (hrx.cells hone).len
    have hsz : v.cells.size = shpSz s := by have := fits_cells hf; simp at hcl; omega
    have hcs : cells.size = cs.length := by simpa using hl
    have hlen : v.cells.size = x.cells.length := by simpa using hcl
    have hfold := foldl_set_arr (vs := v.cells) (off := o) (cells := cells) (by omega)
    simp only [Instr.fill, hp, hsz, ne_eq, not_true, decide_false, Bool.false_or]
    rw [if_neg (by simp; omega)]
    refine ih (cells := v.cells.zipIdx.foldl (fun cs (x : Value × Nat) => cs.setIfInBounds (o + x.2) x.1) cells) (cs := cs.take o ++ x.cells ++ cs.drop (o + x.cells.length)) ?_ ?_ ?_
    · rw [hfold, hlen]
      exact ((hr.take o).append (hrx.cells hone)).append (hr.drop _)
    · intro y hy
      simp only [List.mem_append] at hy
      rcases hy with (hy | hy) | hy
      · exact h1 y (List.mem_of_mem_take hy)
      · exact hone y hy
      · exact h1 y (List.mem_of_mem_drop hy)
    · rw [show (cs.take o ++ x.cells ++ cs.drop (o + x.cells.length)).length = cs.length by simp; omega]
      exact hb
end
end Go.Proofs.YtnmkpadgogbgkaaDoor

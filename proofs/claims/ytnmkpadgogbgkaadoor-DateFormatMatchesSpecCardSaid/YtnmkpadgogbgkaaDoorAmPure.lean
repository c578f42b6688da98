/- The program's operations that only compute agree with those on plain data; no condition. -/
import Derived.Test.YtnmkpadgogbgkaaDoorAmFin
import Derived.WalkKit
import Derived.Laws.StructEq
import Derived.Laws.BytesString
set_option linter.all false
set_option linter.unusedSimpArgs false
set_option linter.unusedVariables false
namespace Go.Proofs.YtnmkpadgogbgkaaDoor
open Go.RowKit

section
variable {G : Gh}
theorem cv0_rep {v : Value} {x : AV} (h : cv0 v = some x) : Rep G v x ∧ x.one = true := by
  unfold cv0 at h
  split at h <;> first | (injection h with h; subst h; exact ⟨by constructor <;> rfl, rfl⟩) | cases h
theorem cvL_rep {vs : List Value} {xs : List AV} (h : cvL vs = some xs) : RepL G vs xs ∧ ∀ x ∈ xs, x.one = true := by
  induction vs generalizing xs with
  | nil => simp [cvL] at h; subst h; exact ⟨.nil, by simp⟩
  | cons v vs ih =>
    simp only [cvL] at h
    split at h
    · rename_i x ys h1 h2
      injection h with h; subst h
      obtain ⟨a, b⟩ := ih h2
      obtain ⟨c, d⟩ := cv0_rep (G := G) h1
      exact ⟨.cons c a, fun y hy => by rcases List.mem_cons.1 hy with rfl | hy; exact d; exact b y hy⟩
    · cases h
theorem cv_rep {v : Value} {x : AV} (h : cv v = some x) : Rep G v x := by
  unfold cv at h
  split at h
  · rename_i cs
    cases hc : cvL cs.toList with
    | none => rw [hc] at h; cases h
    | some xs =>
      rw [hc] at h
      injection h with h
      subst h
      obtain ⟨a, b⟩ := cvL_rep (G := G) hc
      have := Rep.agg a b
      simpa using this
  · exact (cv0_rep h).1
theorem opd_rep {x : Operand} {o : Opd} {a : Act} {e : AEnv} (h : opd x = some o) (ht : ∀ t, Rep G (a.tmps.getD t undef) (get e t)) : Rep G (a.eval x) (ev e o) := by
  unfold opd at h
  split at h
  · injection h with h; subst h; exact ht _
  · rename_i v
    cases hc : cv v with
    | none => rw [hc] at h; cases h
    | some y => rw [hc] at h; injection h with h; subst h; exact cv_rep hc
  · injection h with h; subst h; exact Rep.fn .nil .nil
  · cases h
theorem opds_rep {xs : List Operand} {os : List Opd} {a : Act} {e : AEnv} (h : opds xs = some os) (ht : ∀ t, Rep G (a.tmps.getD t undef) (get e t)) : RepL G (xs.map a.eval) (os.map (ev e)) := by
  induction xs generalizing os with
  | nil => simp [opds] at h; subst h; exact .nil
  | cons x xs ih =>
    simp only [opds] at h
    split at h
    · rename_i y ys h1 h2
      injection h with h; subst h
      exact .cons (opd_rep h1 ht) (ih h2)
    · cases h
end

theorem shpOk_out {P : Program} {t : TypeId} {s : Shp} (h : shpOk P t = some s) : shp P t = some s ∧ shpSz s = szP P t ∧ 0 < szP P t ∧ ∃ i, P.info? t = some i ∧ szP P t = i.size := by
  unfold shpOk at h
  split at h
  · rename_i s' hs
    split at h
    · rename_i hc
      injection h with h; subst h
      obtain ⟨h1, h2, h3⟩ := hc
      obtain ⟨i, hi⟩ := Option.isSome_iff_exists.1 h3
      exact ⟨hs, h1, h2, i, hi, by simp [szP, hi]⟩
    · cases h
  · cases h
theorem run_szP {P : Program} {t : TypeId} {i : TypeInfo} (h : P.info? t = some i) (w : World) : (sizeOf t).run P w = .ok (szP P t) w := by
  simp [sizeOf, typeInfo, h, szP]
theorem run_isAgg_shp {P : Program} {t : TypeId} {s : Shp} (h : shp P t = some s) (w : World) : (isAgg t).run P w = .ok s.isSome w := by
  unfold shp at h
  split at h
  · rename_i hu; injection h with h; subst h; simp [isAgg, underlying, hu]
  · rename_i hu; injection h with h; subst h; simp [isAgg, underlying, hu]
  · rename_i d h1 h2 hu
    injection h with h; subst h
    simp only [isAgg, underlying, hu, Sem.run_bind, run_program, Result.andThen_ok, Sem.run_pure]
    rfl
  · cases h
/-- a part of a row of cells -/
theorem run_part_rep {P : Program} {G : Gh} {t : TypeId} {s : Shp} {vs : List Value} {cs : List AV} {off : Nat} {v : AV} (w : World) (h : shpOk P t = some s) (hr : RepL G vs cs) (h1 : ∀ x ∈ cs, x.one = true) (hp : part cs off s = some v) :
    ∃ v', (Go.part t vs.toArray off).run P w = .ok v' w ∧ Rep G v' v := by
  obtain ⟨h2, h3, h4, i, hi, hsz⟩ := shpOk_out h
  cases s with
  | none =>
    obtain ⟨u, hu, hrep⟩ := hr.at hp
    refine ⟨u, ?_, hrep⟩
    simp [Go.part, run_isAgg_shp h2, hu]
  | some k =>
    simp only [part] at hp
    split at hp
    · rename_i hle
      injection hp with hp; subst hp
      refine ⟨.agg (vs.toArray.extract off (off + k)), ?_, ?_⟩
      · simp [Go.part, run_isAgg_shp h2, run_szP hi]
        simp [shpSz] at h3; rw [← h3]
      · have h5 : (vs.toArray.extract off (off + k)) = ((vs.drop off).take k).toArray := by
          simp
        rw [h5]
        exact Rep.agg ((hr.drop off).take k) fun x hx => h1 x (List.mem_of_mem_drop (List.mem_of_mem_take hx))
    · cases hp
end Go.Proofs.YtnmkpadgogbgkaaDoor

/- A function's contract out of its code on plain data; no condition. -/
import Derived.Test.YtnmkpadgogbgkaaDoorAmCode
set_option linter.all false
set_option linter.unusedSimpArgs false
set_option linter.unusedVariables false
namespace Go.Proofs.YtnmkpadgogbgkaaDoor
open Go.RowKit

def resSem (tmps : Array Value) : ResultVar → Sem Value
  | .tmp t => pure (tmps.getD t undef)
  | .cell a t => do loadVar t (← asAddr (tmps.getD a undef))
theorem results_eq (fn : Func) (tmps : Array Value) : results fn tmps = (do let vs ← fn.results.mapM (resSem tmps); pure (if h : vs.size = 1 then vs[0] else .tuple vs)) := by
  unfold results
  congr 2
section
variable {P : Program} {w w' w0 : World} {G : Gh} {nt : Nat} {s : AS} {a : Act} {ef : List Nat}

theorem run_res {rv : ResultVar} {ar : ARes} {x : AV} (hr : RelS P w0 nt G s a w) (hc : cRes P [rv] = some [ar]) (h : resV s ar = some x) :
    ∃ v, (resSem a.tmps rv).run P w = .ok v w ∧ Rep G v x := by
  cases rv with
  | tmp t =>
    simp [cRes] at hc; subst hc
    simp only [resV] at h; injection h with h; subst h
    exact ⟨_, rfl, hr.tm t⟩
  | cell ad t =>
    simp only [cRes] at hc
    split at hc
    · rename_i sh r hsh h2
      injection hc with hc; injection hc with e1 e2; subst e1
      simp only [resV] at h
      have hv := hr.tm ad
      obtain ⟨v, h3, h4⟩ := run_load_rep (t := t) hr.r0 hsh hv h
      refine ⟨v, ?_, h4⟩
      simp only [resSem]
      generalize a.tmps.getD ad undef = av at h3 hv ⊢
      simp only [Instr.loadAt, Sem.run_bind] at h3 ⊢
      unfold loadAV at h
      split at h
      · rename_i g o he; rw [he] at hv; cases hv; exact h3
      · rename_i y he; rw [he] at hv; cases hv; exact h3
      · cases h
    · cases hc
theorem cRes_cons {rv : ResultVar} {rvs : List ResultVar} {ars : List ARes} (h : cRes P (rv :: rvs) = some ars) : ∃ ar ars', ars = ar :: ars' ∧ cRes P [rv] = some [ar] ∧ cRes P rvs = some ars' := by
  cases rv with
  | tmp t =>
    simp only [cRes] at h
    obtain ⟨r, h1, h2⟩ := Option.map_eq_some_iff.1 h
    exact ⟨.tmp t, r, h2.symm, by simp [cRes], h1⟩
  | cell ad t =>
    simp only [cRes] at h
    split at h
    · rename_i sh r hsh h2
      injection h with h
      exact ⟨.cell ad sh, r, h.symm, by simp [cRes, hsh], h2⟩
    · cases h
theorem run_ress : ∀ {rvs : List ResultVar} {ars : List ARes} {xs : List AV}, RelS P w0 nt G s a w → cRes P rvs = some ars → resVs s ars = some xs →
    ∃ vs, (rvs.mapM (resSem a.tmps)).run P w = .ok vs w ∧ RepL G vs xs
  | [], ars, xs, hr, hc, h => by
    simp [cRes] at hc; subst hc
    simp [resVs] at h; subst h
    exact ⟨[], by simp, .nil⟩
  | rv :: rvs, ars, xs, hr, hc, h => by
    obtain ⟨ar, ars', rfl, h1, h2⟩ := cRes_cons hc
    simp only [resVs] at h
    split at h
    · rename_i x xs' h3 h4
      injection h with h; subst h
      obtain ⟨v, e1, e2⟩ := run_res hr h1 h3
      obtain ⟨vs, e3, e4⟩ := run_ress hr h2 h4
      refine ⟨v :: vs, ?_, .cons e2 e4⟩
      simp only [List.mapM_cons, Sem.run_bind, e1, Result.andThen_ok, e3, Sem.run_pure]
    · cases h
theorem results_sound {fn : Func} {ars : List ARes} {x : AV} (hr : RelS P w0 nt G s a w) (hc : cRes P fn.results.toList = some ars) (h : resOf s ars = some x) : ∃ v, (results fn a.tmps).run P w = .ok v w ∧ Rep G v x := by
  unfold resOf at h
  have main : ∀ xs, resVs s ars = some xs → ∃ vs, (results fn a.tmps).run P w = .ok (if h : vs.length = 1 then vs[0] else .tuple vs.toArray) w ∧ RepL G vs xs := by
    intro xs hx
    obtain ⟨vs, e1, e2⟩ := run_ress hr hc hx
    refine ⟨vs, ?_, e2⟩
    rw [results_eq, Array.mapM_eq_mapM_toList]
    simp only [Sem.run_bind, Sem.run_map, e1, Result.andThen_ok, Sem.run_pure]
    simp
  split at h
  · rename_i y hx
    injection h with h; subst h
    obtain ⟨vs, e1, e2⟩ := main _ hx
    cases e2 with
    | cons hv hn =>
      cases hn
      exact ⟨_, e1, by simpa using hv⟩
  · rename_i xs hne hx
    injection h with h; subst h
    obtain ⟨vs, e1, e2⟩ := main _ hx
    have hl := e2.len
    have : ¬ vs.length = 1 := by
      intro h1
      rw [hl] at h1
      match xs, h1 with
      | [y], _ => exact hne y rfl
    rw [dif_neg this] at e1
    exact ⟨_, e1, .tup e2⟩
  · cases h

/-- what the arguments are at the start -/
def argE (args : List AV) : AEnv := args.zipIdx.map fun x => (x.2, x.1)
theorem get_argE (args : List AV) (t k : Nat) : get ((args.zipIdx k).map fun x => (x.2, x.1)) t = if k ≤ t then (args[t - k]?).getD .any else .any := by
  induction args generalizing k with
  | nil => simp [get]
  | cons x xs ih =>
    simp only [List.zipIdx_cons, List.map_cons, get, ih]
    by_cases h1 : k = t
    · subst h1; simp
    · rw [if_neg h1]
      by_cases h2 : k + 1 ≤ t
      · rw [if_pos h2, if_pos (by omega)]
        rw [show t - k = (t - (k + 1)) + 1 by omega, List.getElem?_cons_succ]
      · rw [if_neg h2, if_neg (by omega)]

theorem acalls_intro {f : Nat} {fn : Func} {c : AFun} {args : List AV} {n : Nat} {H : AHeap} {R : APost} (hf : P.funcs[f]? = some fn)
    (hc : (cFun P ef fn).map (fun x => (x.nargs, x.nt, x.res, x.code)) = some (c.nargs, c.nt, c.res, bare c.code)) (ha : args.length = c.nargs)
    (h : (∀ g, n ≤ g → H g = none) → aw P c.code (fin R n c.res) ⟨argE args, n, H⟩) : ACalls P f args n H R := by
  intro hs w0 G w vs hld h0 hrep
  have hcode := h hs
  obtain ⟨fc, hfc, hpr⟩ := Option.map_eq_some_iff.1 hc
  simp only [Prod.mk.injEq] at hpr
  obtain ⟨p1, p2, p3, p4⟩ := hpr
  unfold cFun at hfc
  split at hfc
  · rename_i code hb
    split at hfc
    · rename_i ac r hcc hcr
      split at hfc
      · rename_i hsz
        injection hfc with hfc
        subst hfc
        simp only at p1 p2 p3 p4
        have hvl : vs.length = fn.params.size + fn.nfree := by rw [hrep.len, ha, ← p1]
        have hrel : RelS P w0 fn.ntmps G ⟨argE args, n, H⟩ { tmps := vs.toArray ++ Array.replicate (fn.ntmps - vs.toArray.size) undef, defers := [] } w := by
          refine ⟨h0, by simp; omega, rfl, hld, fun t => ?_⟩
          have hget := get_argE args t 0
          simp only [Nat.zero_le, if_true, Nat.sub_zero] at hget
          show Rep G _ (get ((args.zipIdx 0).map fun x => (x.2, x.1)) t)
          rw [hget]
          cases hat : args[t]? with
          | none => exact .any
          | some x =>
            obtain ⟨v, hv, hrv⟩ := hrep.at hat
            have hlt := (List.getElem?_eq_some_iff.1 hv).1
            have : (vs.toArray ++ Array.replicate (fn.ntmps - vs.toArray.size) undef).getD t undef = v := by
              rw [Array.getD_eq_getD_getElem?, Array.getElem?_append_left (by simpa using hlt)]
              simp [hv]
            rw [this]; exact hrv
        refine calls_of_wp hf hb (code_sound c.code (by rw [← p4]; exact hcc) hrel hcode fun e s' G' a' w1 hq hle hr' => ?_)
        have fin' : (∃ r n' H', (∃ x, resOf s' c.res = some x ∧ simA x r) ∧ n ≤ n' ∧ n' ≤ s'.n ∧ (∀ k, n' ≤ k → H' k = none) ∧ SameB n' H' s'.H ∧ R r n' H') → a'.defers = [] ∧ ∃ v, (results fn a'.tmps).run P w1 = .ok v w1 ∧ ∃ (v' : Value) (r : AV) (G' : Gh) (n' : Nat) (H' : AHeap), Ending.returned v = .returned v' ∧ R r n' H' ∧ Rep G' v' r ∧ G.Le G' ∧ n ≤ n' ∧ Rel0 P w0 G' n' H' w1 := by
          rintro ⟨x, n', H', ⟨x0, h1, hx0⟩, h2, h3, h4, h5, h6⟩
          rw [← p3] at h1
          obtain ⟨v, e1, e2⟩ := results_sound hr' hcr h1
          have e2 : Rep G' v x := e2.sim hx0
          exact ⟨hr'.df, v, e1, v, x, G', n', H', rfl, h6, e2, hle, h2, hr'.r0.less (by have := h0.lo; omega) h3 h4 h5⟩
        cases e with
        | normal => exact fin' hq
        | ret => exact fin' hq
        | exit id => exact hq.elim
      · cases hfc
    · cases hfc
  · cases hfc
theorem apure_intro {f : Nat} {fn : Func} {c : AFun} {args : List AV} {v : AV} (hf : P.funcs[f]? = some fn)
    (hc : (cFun P ef fn).map (fun x => (x.nargs, x.nt, x.res, x.code)) = some (c.nargs, c.nt, c.res, bare c.code)) (ha : args.length = c.nargs)
    (h : ∀ n H, (∀ g, n ≤ g → H g = none) → aw P c.code (finP v n H c.res) ⟨argE args, n, H⟩) : APure P f args v := by
  intro n H
  refine acalls_intro hf hc ha fun hs => aw_mono (h n H hs) fun e s' hq => ?_
  cases e with
  | normal =>
    exact ⟨v, n, H, hq.1, Nat.le_refl _, hq.2.1, hs, hq.2.2, rfl, rfl, rfl⟩
  | ret =>
    exact ⟨v, n, H, hq.1, Nat.le_refl _, hq.2.1, hs, hq.2.2, rfl, rfl, rfl⟩
  | exit id => exact hq
end
end Go.Proofs.YtnmkpadgogbgkaaDoor

/- Calls that compute at the memory that there is, and turn nothing; no condition. -/
import Derived.Test.YtnmkpadgogbgkaaDoorAmOwn
set_option linter.all false
set_option linter.unusedSimpArgs false
set_option linter.unusedVariables false
namespace Go.Proofs.YtnmkpadgogbgkaaDoor

/-- the function, called at such data in such memory, hands back this, and turns nothing -/
def APureAt (P : Program) (f : Nat) (args : List AV) (n : Nat) (H : AHeap) (v : AV) : Prop := ACalls P f args n H fun r n' H' => r = v ∧ n' = n ∧ H' = H
section
variable {P : Program} {f : Nat} {n : Nat} {H : AHeap} {v : AV}
theorem APure.at_ {args : List AV} (h : APure P f args v) (n : Nat) (H : AHeap) : APureAt P f args n H v := h n H
theorem APureAt.sim {args args' : List AV} (h : APureAt P f args' n H v) (hs : simL args args') : APureAt P f args n H v := ACalls.sim h hs
theorem apureAt_intro {ef : List Nat} {fn : Func} {c : AFun} {args : List AV} (hf : P.funcs[f]? = some fn)
    (hc : (cFun P ef fn).map (fun x => (x.nargs, x.nt, x.res, x.code)) = some (c.nargs, c.nt, c.res, bare c.code)) (ha : args.length = c.nargs)
    (h : (∀ g, n ≤ g → H g = none) → aw P c.code (finP v n H c.res) ⟨argE args, n, H⟩) : APureAt P f args n H v := by
  refine acalls_intro hf hc ha fun hs => aw_mono (h hs) fun e s' hq => ?_
  cases e with
  | normal => exact ⟨v, n, H, hq.1, Nat.le_refl _, hq.2.1, hs, hq.2.2, rfl, rfl, rfl⟩
  | ret => exact ⟨v, n, H, hq.1, Nat.le_refl _, hq.2.1, hs, hq.2.2, rfl, rfl, rfl⟩
  | exit id => exact hq
theorem CallK.chk {args : List AV} {d : Option Nat} {K : AS → Prop} {s : AS} (h : CallK P f args d K s) : CallK P f args d K s := h
theorem CallK.ofAt {args args' : List AV} {d : Option Nat} {K : AS → Prop} {e : AEnv} (h : APureAt P f args' n H v) (hs : simL args args') (hk : K ⟨putO e d v, n, H⟩) : CallK P f args d K ⟨e, n, H⟩ :=
  ⟨_, h.sim hs, fun r n' H' _ _ ⟨e1, e2, e3⟩ => by subst e1; subst e2; subst e3; exact hk⟩
theorem CallK.sfAt {args args' : List AV} {d : Option Nat} {K : AS → Prop} {e : AEnv} (hs : simL args args') (h : APureAt P f args' n H v) (hk : K ⟨putO e d v, n, H⟩) : CallK P f args d K ⟨e, n, H⟩ := CallK.ofAt h hs hk
end
end Go.Proofs.YtnmkpadgogbgkaaDoor

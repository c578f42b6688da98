/- Calls that turn one block that they were handed; no condition. -/
import Derived.Test.YtnmkpadgogbgkaaDoorAmFnc
set_option linter.all false
set_option linter.unusedSimpArgs false
set_option linter.unusedVariables false
namespace Go.Proofs.YtnmkpadgogbgkaaDoor

/-- the function, called at such data in such memory, hands back this, and turns one block -/
def AUpd (P : Program) (f : Nat) (args : List AV) (n : Nat) (H : AHeap) (v : AV) (g : Nat) (ob : AObj) : Prop := ACalls P f args n H fun r n' H' => r = v ∧ n' = n ∧ H' = upd H g (some ob)
theorem upd_self {H : AHeap} {g : Nat} {a : AObj} (h : H g = some a) : upd H g (some a) = H := by
  funext k; simp only [upd]; split
  · rename_i hk; subst hk; exact h.symm
  · rfl
section
variable {P : Program} {f : Nat} {n : Nat} {H : AHeap} {v : AV}
theorem AUpd.sim {args args' : List AV} {g : Nat} {ob : AObj} (h : AUpd P f args' n H v g ob) (hs : simL args args') : AUpd P f args n H v g ob := ACalls.sim h hs
theorem aupd_intro {ef : List Nat} {fn : Func} {c : AFun} {args : List AV} {g : Nat} {ob ob0 : AObj} (hf : P.funcs[f]? = some fn)
    (hc : (cFun P ef fn).map (fun x => (x.nargs, x.nt, x.res, x.code)) = some (c.nargs, c.nt, c.res, bare c.code)) (ha : args.length = c.nargs) (hg : H g = some ob0)
    (h : (∀ g, n ≤ g → H g = none) → aw P c.code (finP v n (upd H g (some ob)) c.res) ⟨argE args, n, H⟩) : AUpd P f args n H v g ob := by
  refine acalls_intro hf hc ha fun hs => ?_
  have hgn : g < n := by
    rcases Nat.lt_or_ge g n with h1 | h1
    · exact h1
    · rw [hs g h1] at hg; cases hg
  have hs' : ∀ k, n ≤ k → upd H g (some ob) k = none := fun k hk => by rw [upd_ne (by omega)]; exact hs k hk
  refine aw_mono (h hs) fun e s' hq => ?_
  cases e with
  | normal => exact ⟨v, n, _, hq.1, Nat.le_refl _, hq.2.1, hs', hq.2.2, rfl, rfl, rfl⟩
  | ret => exact ⟨v, n, _, hq.1, Nat.le_refl _, hq.2.1, hs', hq.2.2, rfl, rfl, rfl⟩
  | exit id => exact hq
theorem CallK.ofU {args args' : List AV} {d : Option Nat} {K : AS → Prop} {e : AEnv} {g : Nat} {ob : AObj} (h : AUpd P f args' n H v g ob) (hs : simL args args') (hk : K ⟨putO e d v, n, upd H g (some ob)⟩) : CallK P f args d K ⟨e, n, H⟩ :=
  ⟨_, h.sim hs, fun r n' H' _ _ ⟨e1, e2, e3⟩ => by subst e1; subst e2; subst e3; exact hk⟩
theorem CallK.sfU {args args' : List AV} {d : Option Nat} {K : AS → Prop} {e : AEnv} {g : Nat} {ob : AObj} (hs : simL args args') (h : AUpd P f args' n H v g ob) (hk : K ⟨putO e d v, n, upd H g (some ob)⟩) : CallK P f args d K ⟨e, n, H⟩ := CallK.ofU h hs hk
/-- a block that was there has turned -/
theorem Owns.turn {n0 : Nat} {H0 : AHeap} {bs : List (Nat × AObj)} {os : List OwnR} (h : Owns n0 H0 bs os n H) {g : Nat} (hg : g < n0) (ob : AObj) : Owns n0 (upd H0 g (some ob)) bs os n (upd H g (some ob)) := by
  refine ⟨⟨h.mem.le, fun k hk => ?_, fun k hk => ?_⟩, fun b hb => ?_, fun o ho => ?_, h.apart⟩
  · have := h.mem.le; rw [upd_ne (by omega)]; exact h.mem.sup k hk
  · simp only [upd]; split
    · rfl
    · exact h.mem.same k hk
  · obtain ⟨h1, h2, h3⟩ := h.box b hb
    exact ⟨by rw [upd_ne (by omega)]; exact h1, h2, h3⟩
  · rcases h.row o ho with h1 | ⟨k, h1, h2, h3⟩
    · exact .inl h1
    · exact .inr ⟨k, h1, by rw [upd_ne (by omega)]; exact h2, h3⟩
theorem Owns.turn2 {n0 : Nat} {H0 : AHeap} {bs : List (Nat × AObj)} {os : List OwnR} {g : Nat} {a : AObj} (h : Owns n0 (upd H0 g (some a)) bs os n H) (hg : g < n0) (ob : AObj) : Owns n0 (upd H0 g (some ob)) bs os n (upd H g (some ob)) := by
  have := h.turn hg ob; rwa [upd_upd] at this
theorem Owns.at_ {n0 : Nat} {H0 : AHeap} {bs : List (Nat × AObj)} {os : List OwnR} {g : Nat} {a : AObj} (h : Owns n0 (upd H0 g (some a)) bs os n H) (hg : g < n0) : H g = some a := by
  rw [h.mem.same g hg]; exact xz3q _ _ _
end
end Go.Proofs.YtnmkpadgogbgkaaDoor

/- What a running call has made: blocks of cells, and slices that grow; no condition. -/
import Derived.Test.YtnmkpadgogbgkaaDoorAmMem
set_option linter.all false
set_option linter.unusedSimpArgs false
set_option linter.unusedVariables false
namespace Go.Proofs.YtnmkpadgogbgkaaDoor

/-- a slice that grows: the elements' type and size, the slice, what it reads -/
structure OwnR where
  el : Nat
  sz : Nat
  x : AV
  l : List AV
def rowsApart (a b : OwnR) : Prop := ∀ k, (∃ s l, a.x = .sl s l (.own k)) → notRow b.x k
structure Owns (n0 : Nat) (H0 : AHeap) (bs : List (Nat × AObj)) (os : List OwnR) (n : Nat) (H : AHeap) : Prop where
  mem : Mem n0 H0 n H
  box : ∀ b ∈ bs, H b.1 = some b.2 ∧ n0 ≤ b.1 ∧ ∀ e m, b.2 ≠ .row e m
  row : ∀ o ∈ os, OwnS n0 H o.el o.sz o.x o.l
  apart : os.Pairwise rowsApart
def BoxF0 (n : Nat) (H : AHeap) : List (Nat × AObj) → Prop
  | [] => True
  | [(g, ob)] => H g = some ob ∧ g < n
  | (g, ob) :: bs => H g = some ob ∧ g < n ∧ BoxF0 n H bs
def RowF : List OwnR → Prop
  | [] => True
  | o :: os => lenV o.x = some (.int .i64 o.l.length) ∧ (∀ s i, iaddrAV o.sz s o.x i = iaddrAV o.sz s (.sl o.sz o.l .ro) i) ∧ (∀ lo hi, cutAV o.sz o.x lo hi = cutAV o.sz (.sl o.sz o.l .ro) lo hi) ∧ RowF os
def BoxF (n : Nat) (H : AHeap) (bs : List (Nat × AObj)) (os : List OwnR) : Prop := BoxF0 n H bs ∧ RowF os
section
variable {n0 n : Nat} {H0 H : AHeap} {bs : List (Nat × AObj)} {os : List OwnR}
theorem Owns.le (h : Owns n0 H0 bs os n H) : n0 ≤ n := h.mem.le
theorem Owns.same (h : Owns n0 H0 bs os n H) : SameB n0 H0 H := h.mem.same
theorem OwnS.rowF {el sz : Nat} {x : AV} {l : List AV} (h : OwnS n0 H el sz x l) : lenV x = some (.int .i64 l.length) ∧ (∀ s i, iaddrAV sz s x i = iaddrAV sz s (.sl sz l .ro) i) ∧ (∀ lo hi, cutAV sz x lo hi = cutAV sz (.sl sz l .ro) lo hi) := by
  rcases h with ⟨rfl, z, rfl⟩ | ⟨g, rfl, _⟩
  · refine ⟨rfl, fun s i => ?_, fun lo hi => ?_⟩
    · unfold iaddrAV; cases i <;> first | rfl | (simp)
    · simp [cutAV]
  · exact ⟨rfl, fun _ i => by cases i <;> rfl, fun _ _ => rfl⟩
theorem Owns.boxF (h : Owns n0 H0 bs os n H) : BoxF n H bs os := by
  have key : ∀ bs' : List (Nat × AObj), (∀ b ∈ bs', H b.1 = some b.2 ∧ b.1 < n) → BoxF0 n H bs' := by
    intro bs'
    induction bs' with
    | nil => intro _; trivial
    | cons b bs' ih =>
      intro hh
      obtain ⟨g, ob⟩ := b
      cases bs' with
      | nil => exact hh (g, ob) List.mem_cons_self
      | cons c bs' => exact ⟨(hh (g, ob) List.mem_cons_self).1, (hh (g, ob) List.mem_cons_self).2, ih fun b hb => hh b (List.mem_cons_of_mem _ hb)⟩
  have key2 : ∀ os' : List OwnR, (∀ o ∈ os', OwnS n0 H o.el o.sz o.x o.l) → RowF os' := by
    intro os'
    induction os' with
    | nil => intro _; trivial
    | cons o os' ih =>
      intro hh
      obtain ⟨h1, h2, h3⟩ := (hh o List.mem_cons_self).rowF
      exact ⟨h1, h2, h3, ih fun b hb => hh b (List.mem_cons_of_mem _ hb)⟩
  exact ⟨key bs fun b hb => ⟨(h.box b hb).1, h.mem.lt (h.box b hb).1⟩, key2 os h.row⟩
theorem Owns.start (hs : ∀ k, n ≤ k → H k = none) : Owns n H [] [] n H := ⟨Mem.refl hs, by simp, by simp, .nil⟩
theorem Owns.alloc (h : Owns n0 H0 bs os n H) {g : Nat} (hg : n ≤ g) (ob : AObj) : Owns n0 H0 bs os (g + 1) (upd H g (some ob)) := by
  refine ⟨h.mem.alloc hg ob, fun b hb => ?_, fun o ho => ?_, h.apart⟩
  · obtain ⟨h1, h2⟩ := h.box b hb
    have := h.mem.lt h1
    exact ⟨by rw [upd_ne (by omega)]; exact h1, h2⟩
  · refine (h.row o ho).keep fun k e m hk => ?_
    have := h.mem.lt hk
    rw [upd_ne (by omega)]; exact hk
theorem Owns.addOb (h : Owns n0 H0 bs os n H) {g : Nat} (hg : n ≤ g) (ob : AObj) (hr : ∀ e m, ob ≠ .row e m) : Owns n0 H0 ((g, ob) :: bs) os (g + 1) (upd H g (some ob)) := by
  have h' := h.alloc hg ob
  refine ⟨h'.mem, fun b hb => ?_, h'.row, h'.apart⟩
  rcases List.mem_cons.1 hb with rfl | hb
  · exact ⟨xz3q _ _ _, by have := h.mem.le; simp only; omega, hr⟩
  · exact h'.box b hb
theorem Owns.addBox (h : Owns n0 H0 bs os n H) {g : Nat} (hg : n ≤ g) (e : TypeId) (cs : List AV) : Owns n0 H0 ((g, .cells e cs) :: bs) os (g + 1) (upd H g (some (.cells e cs))) :=
  h.addOb hg _ fun _ _ h => by cases h
theorem Owns.addNil (h : Owns n0 H0 bs os n H) (el sz z : Nat) : Owns n0 H0 bs (⟨el, sz, .sl z [] .nil, []⟩ :: os) n H :=
  ⟨h.mem, h.box, fun o ho => by
    rcases List.mem_cons.1 ho with rfl | ho
    · exact OwnS.nil z el sz
    · exact h.row o ho, .cons (fun b _ k ⟨s, l, hx⟩ => by injection hx with _ _ hx; cases hx) h.apart⟩
theorem Owns.dropRow {o : OwnR} (h : Owns n0 H0 bs (o :: os) n H) : Owns n0 H0 bs os n H := ⟨h.mem, h.box, fun o' ho => h.row o' (List.mem_cons_of_mem _ ho), (List.pairwise_cons.1 h.apart).2⟩
theorem Owns.dropRow1 {a o : OwnR} (h : Owns n0 H0 bs (a :: o :: os) n H) : Owns n0 H0 bs (a :: os) n H :=
  ⟨h.mem, h.box, fun o' ho => h.row o' (by rcases List.mem_cons.1 ho with rfl | ho; exact List.mem_cons_self; exact List.mem_cons_of_mem _ (List.mem_cons_of_mem _ ho)),
    List.pairwise_cons.2 ⟨fun b hb => (List.pairwise_cons.1 h.apart).1 b (List.mem_cons_of_mem _ hb), (List.pairwise_cons.1 (List.pairwise_cons.1 h.apart).2).2⟩⟩
theorem Owns.dropBox {b : Nat × AObj} (h : Owns n0 H0 (b :: bs) os n H) : Owns n0 H0 bs os n H := ⟨h.mem, fun o' ho => h.box o' (List.mem_cons_of_mem _ ho), h.row, h.apart⟩
theorem Owns.swap {a b : OwnR} (h : Owns n0 H0 bs (a :: b :: os) n H) : Owns n0 H0 bs (b :: a :: os) n H := by
  have h1 := List.pairwise_cons.1 h.apart
  have h2 := List.pairwise_cons.1 h1.2
  refine ⟨h.mem, h.box, fun o ho => h.row o ?_, List.pairwise_cons.2 ⟨fun c hc => ?_, List.pairwise_cons.2 ⟨fun c hc => h1.1 c (List.mem_cons_of_mem _ hc), h2.2⟩⟩⟩
  · rcases List.mem_cons.1 ho with rfl | ho
    · exact List.mem_cons_of_mem _ List.mem_cons_self
    · rcases List.mem_cons.1 ho with rfl | ho
      · exact List.mem_cons_self
      · exact List.mem_cons_of_mem _ (List.mem_cons_of_mem _ ho)
  · rcases List.mem_cons.1 hc with rfl | hc
    · intro k ⟨s, l, hx⟩ s' l' hx'
      exact h1.1 b List.mem_cons_self k ⟨s', l', hx'⟩ s l hx
    · exact h2.1 c hc
theorem Owns.sim0 {o : OwnR} (h : Owns n0 H0 bs (o :: os) n H) {l' : List AV} (hl : simL o.l l') : simA o.x (.sl o.sz l' .ro) := (h.row o List.mem_cons_self).sim hl
theorem Owns.sim1 {a o : OwnR} (h : Owns n0 H0 bs (a :: o :: os) n H) {l' : List AV} (hl : simL o.l l') : simA o.x (.sl o.sz l' .ro) := (h.row o (List.mem_cons_of_mem _ List.mem_cons_self)).sim hl
theorem simL_one {x y : AV} (h : simA x y) : simL [x] [y] := ⟨y, [], rfl, h, rfl⟩
theorem Owns.simL0 {el sz : Nat} {x : AV} {l : List AV} (h : Owns n0 H0 bs (⟨el, sz, x, l⟩ :: os) n H) : simL [x] [.sl sz l .ro] := simL_one (h.sim0 (simL_refl _))
theorem Owns.simL1 {a : OwnR} {el sz : Nat} {x : AV} {l : List AV} (h : Owns n0 H0 bs (a :: ⟨el, sz, x, l⟩ :: os) n H) : simL [x] [.sl sz l .ro] := simL_one (h.sim1 (simL_refl _))
theorem OwnS.fit {el sz : Nat} {x : AV} {l : List AV} (h : OwnS n0 H el sz x l) : fitOk none x := by
  rcases h with ⟨_, z, rfl⟩ | ⟨g, rfl, _⟩ <;> (rw [xz3b]; trivial)
theorem Owns.fit0 {el sz : Nat} {x : AV} {l : List AV} (h : Owns n0 H0 bs (⟨el, sz, x, l⟩ :: os) n H) : fitOk none x := (h.row _ List.mem_cons_self).fit
theorem Owns.fit1 {a : OwnR} {el sz : Nat} {x : AV} {l : List AV} (h : Owns n0 H0 bs (a :: ⟨el, sz, x, l⟩ :: os) n H) : fitOk none x := (h.row _ (List.mem_cons_of_mem _ List.mem_cons_self)).fit
theorem OwnS.lenv {el sz : Nat} {x : AV} {l : List AV} (h : OwnS n0 H el sz x l) : lenV x = some (.int .i64 l.length) := by
  rcases h with ⟨rfl, z, rfl⟩ | ⟨g, rfl, _⟩ <;> rfl
theorem Owns.lenv0 {el sz : Nat} {x : AV} {l : List AV} (h : Owns n0 H0 bs (⟨el, sz, x, l⟩ :: os) n H) : lenV x = some (.int .i64 l.length) := (h.row _ List.mem_cons_self).lenv
theorem Owns.lenv1 {a : OwnR} {el sz : Nat} {x : AV} {l : List AV} (h : Owns n0 H0 bs (a :: ⟨el, sz, x, l⟩ :: os) n H) : lenV x = some (.int .i64 l.length) := (h.row _ (List.mem_cons_of_mem _ List.mem_cons_self)).lenv
theorem Owns.simC0 {el sz : Nat} {x : AV} {l r : List AV} (h : Owns n0 H0 bs (⟨el, sz, x, l⟩ :: os) n H) : simL (x :: r) (.sl sz l .ro :: r) := ⟨_, _, rfl, h.sim0 (simL_refl _), simL_refl _⟩
theorem Owns.simC1 {a : OwnR} {el sz : Nat} {x : AV} {l r : List AV} (h : Owns n0 H0 bs (a :: ⟨el, sz, x, l⟩ :: os) n H) : simL (x :: r) (.sl sz l .ro :: r) := ⟨_, _, rfl, h.sim1 (simL_refl _), simL_refl _⟩
theorem Owns.len0 {o : OwnR} (h : Owns n0 H0 bs (o :: os) n H) : ∃ z t, o.x = .sl z o.l t ∧ (z = o.sz ∨ o.l = []) := by
  rcases h.row o List.mem_cons_self with ⟨h1, z, h2⟩ | ⟨g, h1, h2, h3⟩
  · exact ⟨z, .nil, by rw [h1]; exact h2, .inr h1⟩
  · exact ⟨_, _, h1, .inl rfl⟩
/-- the first slice grows -/
theorem Owns.app {el sz by_ : Nat} {d : Option Nat} {e : AEnv} {K : AS → Prop} {x : AV} {l m m' : List AV} {z : Nat} {t : Tok} (h : Owns n0 H0 bs (⟨el, sz, x, l⟩ :: os) n H) (hz : z = sz ∨ m = []) (hs : simL m m') (hb : (l.length + m.length) * by_ ≤ 140737488355328) (hc : l.length + m.length ≤ maxLen)
    (hk : ∀ x' n' H', n ≤ n' → Owns n0 H0 bs (⟨el, sz, x', l ++ m'⟩ :: os) n' H' → BoxF n' H' bs (⟨el, sz, x', l ++ m'⟩ :: os) → K ⟨putO e d x', n', H'⟩) : appKS el sz by_ d K ⟨e, n, H⟩ x (.sl z m t) := by
  have hap := List.pairwise_cons.1 h.apart
  refine app_any hz hs h.mem (h.row _ List.mem_cons_self) hb hc fun x' n' H' ho hm hkeep hnr hle => ?_
  have hO : Owns n0 H0 bs (⟨el, sz, x', l ++ m'⟩ :: os) n' H' := by
    refine ⟨hm, fun b hb => ?_, fun o ho' => ?_, List.pairwise_cons.2 ⟨fun b hb => ?_, hap.2⟩⟩
    · obtain ⟨h1, h2, h3⟩ := h.box b hb
      refine ⟨hkeep _ _ h1 fun s l' hx => ?_, h2, h3⟩
      rcases h.row _ List.mem_cons_self with ⟨_, z', h4⟩ | ⟨g, h4, h5, _⟩
      · simp only at h4; rw [h4] at hx; injection hx with _ _ hx; cases hx
      · simp only at h4 h5; rw [h4] at hx; injection hx with _ _ hx; injection hx with hx
        subst hx
        rw [h5] at h1; injection h1 with h1; exact h3 _ _ h1.symm
    · rcases List.mem_cons.1 ho' with rfl | ho'
      · exact ho
      · refine (h.row o (List.mem_cons_of_mem _ ho')).elim .inl fun ⟨g, h1, h2, h3⟩ => .inr ⟨g, h1, hkeep _ _ h2 fun s l' hx => ?_, h3⟩
        exact hap.1 o ho' g ⟨s, l', hx⟩ _ _ h1
    · intro k hxk s l' hbx
      obtain ⟨s1, l1, hx1⟩ := hxk
      rcases h.row b (List.mem_cons_of_mem _ hb) with ⟨_, z', h4⟩ | ⟨g, h4, h5, _⟩
      · rw [h4] at hbx; injection hbx with _ _ hbx; cases hbx
      · rw [h4] at hbx; injection hbx with _ _ hbx; injection hbx with hbx
        subst hbx
        refine hnr g (h.mem.lt h5) (fun s2 l2 hx2 => ?_) s1 l1 hx1
        exact hap.1 b hb g ⟨s2, l2, hx2⟩ _ _ h4
  exact hk x' n' H' hle hO hO.boxF
/-- the second slice grows -/
theorem Owns.app1 {el sz by_ : Nat} {d : Option Nat} {e : AEnv} {K : AS → Prop} {x : AV} {l m m' : List AV} {z : Nat} {t : Tok} {a : OwnR} (h : Owns n0 H0 bs (a :: ⟨el, sz, x, l⟩ :: os) n H) (hz : z = sz ∨ m = []) (hs : simL m m') (hb : (l.length + m.length) * by_ ≤ 140737488355328) (hc : l.length + m.length ≤ maxLen)
    (hk : ∀ x' n' H', n ≤ n' → Owns n0 H0 bs (a :: ⟨el, sz, x', l ++ m'⟩ :: os) n' H' → BoxF n' H' bs (a :: ⟨el, sz, x', l ++ m'⟩ :: os) → K ⟨putO e d x', n', H'⟩) : appKS el sz by_ d K ⟨e, n, H⟩ x (.sl z m t) :=
  h.swap.app hz hs hb hc fun x' n' H' hle hO hB => hk x' n' H' hle hO.swap hO.swap.boxF
/-- a tracked block turns -/
theorem Owns.setOb {g : Nat} {ob : AObj} (h : Owns n0 H0 ((g, ob) :: bs) os n H) (hne : ∀ b ∈ bs, b.1 ≠ g) (ob' : AObj) (hr : ∀ e m, ob' ≠ .row e m) : Owns n0 H0 ((g, ob') :: bs) os n (upd H g (some ob')) := by
  obtain ⟨h1, h2, h3⟩ := h.box (g, ob) List.mem_cons_self
  simp only at h1 h2 h3
  refine ⟨h.mem.set h1 h2 _, fun b hb => ?_, fun o ho => ?_, h.apart⟩
  · rcases List.mem_cons.1 hb with rfl | hb
    · exact ⟨xz3q _ _ _, h2, hr⟩
    · rw [upd_ne (hne b hb)]; exact h.box b (List.mem_cons_of_mem _ hb)
  · refine (h.row o ho).keep fun k e m hk => ?_
    rw [upd_ne (fun e => ?_)]
    · exact hk
    · subst e; rw [h1] at hk; injection hk with hk; exact h3 _ _ hk
theorem Owns.set0 {g : Nat} {ob : AObj} (h : Owns n0 H0 ((g, ob) :: bs) os n H) (hne : ∀ b ∈ bs, b.1 ≠ g) (e : TypeId) (cs : List AV) : Owns n0 H0 ((g, .cells e cs) :: bs) os n (upd H g (some (.cells e cs))) :=
  h.setOb hne _ fun _ _ h => by cases h
theorem appKS.chk {el sz by_ : Nat} {d : Option Nat} {K : AS → Prop} {s : AS} {x y : AV} (h : appKS el sz by_ d K s x y) : appKS el sz by_ d K s x y := h
theorem simA_nil {z z' : Nat} {t : Tok} : simA (.sl z [] t) (.sl z' [] .ro) := ⟨_, _, _, rfl, .inl rfl, .inr ⟨rfl, rfl⟩, rfl⟩
theorem simL_cons {x y : AV} {xs ys : List AV} (h : simA x y) (k : simL xs ys) : simL (x :: xs) (y :: ys) := ⟨y, ys, rfl, h, k⟩
theorem simA_tup {l m : List AV} (h : simL l m) : simA (.tup l) (.tup m) := ⟨m, rfl, h⟩
theorem simA_agg {l m : List AV} (h : simL l m) : simA (.agg l) (.agg m) := ⟨m, rfl, h⟩
theorem newP_go {ob : AObj} {d : Option Nat} {K : AS → Prop} {e : AEnv} (h : ∀ g, n ≤ g → K ⟨putO e d (.ptr g 0), g + 1, upd H g (some ob)⟩) : newP ob d K e n H := h
theorem newS_go {sz : Nat} {l : List AV} {ob : AObj} {d : Option Nat} {K : AS → Prop} {e : AEnv} (h : ∀ g, n ≤ g → K ⟨putO e d (.sl sz l (.own g)), g + 1, upd H g (some ob)⟩) : newS sz l ob d K e n H := h
theorem newM_own {kk : Option IntKind} {d : Option Nat} {K : AS → Prop} {e : AEnv} (h : Owns n0 H0 bs os n H) (hk : ∀ g, n ≤ g → Owns n0 H0 ((g, .map kk []) :: bs) os (g + 1) (upd H g (some (.map kk []))) → K ⟨putO e d (.mp g), g + 1, upd H g (some (.map kk []))⟩) : newM kk d K e n H :=
  fun g hg => hk g hg (h.addOb hg _ fun _ _ h => by cases h)
theorem newM_go {kk : Option IntKind} {d : Option Nat} {K : AS → Prop} {e : AEnv} (h : ∀ g, n ≤ g → K ⟨putO e d (.mp g), g + 1, upd H g (some (.map kk []))⟩) : newM kk d K e n H := h
theorem newP_own {t : TypeId} {cs : List AV} {d : Option Nat} {K : AS → Prop} {e : AEnv} (h : Owns n0 H0 bs os n H) (hk : ∀ g, n ≤ g → Owns n0 H0 ((g, .cells t cs) :: bs) os (g + 1) (upd H g (some (.cells t cs))) → K ⟨putO e d (.ptr g 0), g + 1, upd H g (some (.cells t cs))⟩) : newP (.cells t cs) d K e n H :=
  fun g hg => hk g hg (h.addBox hg t cs)
theorem newS_own {sz : Nat} {l : List AV} {ob : AObj} {d : Option Nat} {K : AS → Prop} {e : AEnv} (h : Owns n0 H0 bs os n H) (hk : ∀ g, n ≤ g → Owns n0 H0 bs os (g + 1) (upd H g (some ob)) → K ⟨putO e d (.sl sz l (.own g)), g + 1, upd H g (some ob)⟩) : newS sz l ob d K e n H :=
  fun g hg => hk g hg (h.alloc hg ob)
end
end Go.Proofs.YtnmkpadgogbgkaaDoor

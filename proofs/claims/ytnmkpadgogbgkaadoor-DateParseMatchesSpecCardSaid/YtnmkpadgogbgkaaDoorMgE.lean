/- Memory of a call's own while it runs: what is made, turned, appended to; no condition. -/
import Derived.Test.YtnmkpadgogbgkaaDoorMgD
set_option linter.all false
set_option linter.unusedSimpArgs false
set_option linter.unusedVariables false
namespace Go.Proofs.YtnmkpadgogbgkaaDoor
/-- nothing lies from n on -/
def Sup (n : Nat) (H : AHeap) : Prop := ∀ k, n ≤ k → H k = none
/-- the call has made memory, and has not turned what was there -/
structure Mem (n0 : Nat) (H0 : AHeap) (n : Nat) (H : AHeap) : Prop where
  le : n0 ≤ n
  sup : Sup n H
  same : SameB n0 H0 H
/-- a slice of the call's own that reads as l: nil, or with a row to which may be appended -/
def OwnS (n0 : Nat) (H : AHeap) (el sz : Nat) (x : AV) (l : List AV) : Prop :=
  (l = [] ∧ ∃ z, x = .sl z [] .nil) ∨ ∃ g, x = .sl sz l (.own g) ∧ H g = some (.row el l.length) ∧ n0 ≤ g
/-- it is not the row of that slice -/
def notRow (x : AV) (k : Nat) : Prop := ∀ sz l, x ≠ .sl sz l (.own k)
theorem Mem.refl {n : Nat} {H : AHeap} (h : ∀ k, n ≤ k → H k = none) : Mem n H n H := ⟨Nat.le_refl _, h, SameB.rfl_ _ _⟩
section
variable {n0 n : Nat} {H0 H : AHeap}
theorem Mem.lt (h : Mem n0 H0 n H) {g : Nat} {ob : AObj} (hg : H g = some ob) : g < n := by
  rcases Nat.lt_or_ge g n with h1 | h1
  · exact h1
  · rw [h.sup g h1] at hg; cases hg
theorem Sup.lt {g : Nat} {ob : AObj} (h : Sup n H) (hg : H g = some ob) : g < n := by
  rcases Nat.lt_or_ge g n with h1 | h1
  · exact h1
  · rw [h g h1] at hg; cases hg
theorem Mem.alloc (h : Mem n0 H0 n H) {g : Nat} (hg : n ≤ g) (ob : AObj) : Mem n0 H0 (g + 1) (upd H g (some ob)) := by
  have := h.le
  refine ⟨by omega, fun k hk => ?_, h.same.upd (by omega) _⟩
  rw [upd_ne (by omega)]; exact h.sup k (by omega)
theorem Mem.set (h : Mem n0 H0 n H) {g : Nat} {ob : AObj} (hg : H g = some ob) (hn : n0 ≤ g) (x : Option AObj) : Mem n0 H0 n (upd H g x) := by
  have hl := h.lt hg
  refine ⟨h.le, fun k hk => ?_, h.same.upd hn _⟩
  rw [upd_ne (by omega)]; exact h.sup k hk
theorem Mem.tr (h : Mem n0 H0 n H) {n' : Nat} {H' : AHeap} (k : Mem n H n' H') : Mem n0 H0 n' H' :=
  ⟨Nat.le_trans h.le k.le, k.sup, fun j hj => (k.same j (Nat.lt_of_lt_of_le hj h.le)).trans (h.same j hj)⟩
theorem Mem.fin {v : AV} {res : List ARes} {e : AEnv} (h : Mem n0 H0 n H) (h1 : ∃ x, resOf ⟨e, n, H⟩ res = some x ∧ simA x v) : finP v n0 H0 res .ret ⟨e, n, H⟩ := ⟨h1, h.le, h.same⟩
theorem OwnS.nil (z : Nat) (el sz : Nat) : OwnS n0 H el sz (.sl z [] .nil) [] := .inl ⟨rfl, z, rfl⟩
theorem OwnS.own {el sz g : Nat} {l : List AV} (h : H g = some (.row el l.length)) (hn : n0 ≤ g) : OwnS n0 H el sz (.sl sz l (.own g)) l := .inr ⟨g, rfl, h, hn⟩
/-- the slice stays, if its row does -/
theorem OwnS.keep {el sz : Nat} {x : AV} {l : List AV} {H' : AHeap} (h : OwnS n0 H el sz x l) (hk : ∀ g e m, H g = some (.row e m) → H' g = some (.row e m)) : OwnS n0 H' el sz x l := by
  rcases h with h | ⟨g, h1, h2, h3⟩
  · exact .inl h
  · exact .inr ⟨g, h1, hk _ _ _ h2, h3⟩
/-- a slice that grows -/
theorem app_any {el sz by_ : Nat} {d : Option Nat} {e : AEnv} {K : AS → Prop} {x : AV} {l m m' : List AV} {z : Nat} {t : Tok} (hz : z = sz ∨ m = []) (hs : simL m m') (hm : Mem n0 H0 n H) (hx : OwnS n0 H el sz x l) (hb : (l.length + m.length) * by_ ≤ 140737488355328) (hc : l.length + m.length ≤ maxLen)
    (h : ∀ x' n' H', OwnS n0 H' el sz x' (l ++ m') → Mem n0 H0 n' H' → (∀ k ob, H k = some ob → notRow x k → H' k = some ob) → (∀ k, k < n → notRow x k → notRow x' k) → n ≤ n' → K ⟨putO e d x', n', H'⟩) : appKS el sz by_ d K ⟨e, n, H⟩ x (.sl z m t) := by
  have hl := simL_len hs
  have hsup := hm.sup
  have hle := hm.le
  rcases hx with ⟨rfl, z, rfl⟩ | ⟨g, rfl, hg, hng⟩
  · by_cases hm0 : m = []
    · subst hm0
      simp only [simL] at hs; subst hs
      refine ⟨.inr rfl, [], rfl, by simp, by simp [maxLen], fun _ => ?_, fun h' => absurd rfl h'⟩
      exact h _ _ _ (.inl ⟨rfl, _, rfl⟩) hm (fun k ob hk _ => hk) (fun k hk _ s l h' => by injection h' with _ _ h'; cases h') (Nat.le_refl _)
    · refine appS_nil hz hs hm0 (by simpa using hb) (by simpa using hc) fun g hg => ?_
      refine h _ _ _ ?_ (hm.alloc hg _) (fun k ob hk _ => ?_) (fun k hk _ => ?_) (by omega)
      · simp only [List.nil_append]
        exact .inr ⟨g, rfl, by rw [xz4f], by omega⟩
      · have := hm.lt hk
        rw [upd_ne (by omega)]; exact hk
      · intro s l' h'; injection h' with _ _ h'; injection h' with h'; omega
  · have hgn := hm.lt hg
    refine appS_own hz hs hg hb hc fun g' n' hg' hn' hgn' => ?_
    refine h _ _ _ (.inr ⟨g', rfl, by rw [xz4f, List.length_append], by omega⟩) ⟨by omega, fun k hk => ?_, fun k hk => ?_⟩ (fun k ob hk hr => ?_) (fun k hk hr => ?_) hn'
    · rw [upd_ne (by omega)]
      simp only [upd]; split
      · rfl
      · exact hsup k (by omega)
    · rw [upd_ne (by omega), upd_ne (by omega)]; exact hm.same k hk
    · have hkn := hm.lt hk
      have hkg : k ≠ g := by rintro rfl; exact hr _ _ rfl
      have hkg' : k ≠ g' := by rcases hg' with rfl | hg' <;> omega
      rw [upd_ne hkg', upd_ne hkg]; exact hk
    · intro s l' h'
      injection h' with _ _ h'; injection h' with h'
      subst h'
      rcases hg' with rfl | hg'
      · exact hr _ _ rfl
      · omega
theorem OwnS.sim {el sz : Nat} {x : AV} {l l' : List AV} (h : OwnS n0 H el sz x l) (hl : simL l l') : simA x (.sl sz l' .ro) := by
  rcases h with ⟨rfl, z, rfl⟩ | ⟨g, rfl, _⟩
  · exact ⟨sz, l', .ro, rfl, .inl rfl, .inr ⟨rfl, rfl⟩, hl⟩
  · exact ⟨sz, l', .ro, rfl, .inl rfl, .inl rfl, hl⟩
end
theorem bytesOf_map (bs : List UInt8) : bytesOf (bs.map fun u => AV.int .u8 u.toNat) = some bs := by
  induction bs with
  | nil => rfl
  | cons b bs ih =>
    simp only [List.map_cons, bytesOf, ih, Option.map_some]
    congr 2
    simp
theorem u8e {a b : UInt8} : ((a.toNat : Int) = (b.toNat : Int)) ↔ a = b := by rw [← UInt8.toNat_inj]; omega
theorem u8lit {a : UInt8} {n : Nat} : ((a.toNat : Int) = (no_index (OfNat.ofNat n) : Int)) ↔ (n < 256 ∧ a = UInt8.ofNat n) := by
  constructor
  · intro h
    have h' : a.toNat = n := Int.ofNat_inj.1 h
    have := a.toNat_lt
    exact ⟨by omega, by rw [← UInt8.toNat_inj]; simp; omega⟩
  · rintro ⟨h, rfl⟩
    rw [show (UInt8.ofNat n).toNat = n from by simp; omega]; rfl
/-- memory in which one block of the call's own is known -/
structure Keeps (n0 : Nat) (H0 : AHeap) (g : Nat) (ob : AObj) (n : Nat) (H : AHeap) : Prop where
  mem : Mem n0 H0 n H
  at_ : H g = some ob
  lo : n0 ≤ g
theorem Keeps.alloc {n0 n g : Nat} {H0 H : AHeap} {ob : AObj} (h : Keeps n0 H0 g ob n H) {k : Nat} (hk : n ≤ k) (x : AObj) : Keeps n0 H0 g ob (k + 1) (upd H k (some x)) :=
  ⟨h.mem.alloc hk x, by rw [upd_ne (by have := h.mem.lt h.at_; omega)]; exact h.at_, h.lo⟩
theorem Keeps.new {n g : Nat} {H : AHeap} (hs : ∀ k, n ≤ k → H k = none) (hg : n ≤ g) (ob : AObj) : Keeps n H g ob (g + 1) (upd H g (some ob)) :=
  ⟨(Mem.refl hs).alloc hg ob, xz4f _ _ _, hg⟩
theorem xz4g (c : UInt8) : bytesOf [AV.int .u8 c.toNat] = some [c] := bytesOf_map [c]
theorem xz4h (c d : UInt8) : bytesOf [AV.int .u8 c.toNat, AV.int .u8 d.toNat] = some [c, d] := bytesOf_map [c, d]
theorem CallP.chk {P : Program} {f : Nat} {args : List AV} {d : Option Nat} {K : AS → Prop} {s : AS} (h : CallP P f args d K s) : CallP P f args d K s := h
theorem CallP.of {P : Program} {f : Nat} {args args' : List AV} {d : Option Nat} {K : AS → Prop} {e : AEnv} {n : Nat} {H : AHeap} {v : AV} (h : APure P f args' v) (hs : simL args args') (hk : K ⟨putO e d v, n, H⟩) : CallP P f args d K ⟨e, n, H⟩ := ⟨args', v, h, hs, hk⟩
theorem CallP.sf {P : Program} {f : Nat} {args args' : List AV} {d : Option Nat} {K : AS → Prop} {e : AEnv} {n : Nat} {H : AHeap} {v : AV} (hs : simL args args') (h : APure P f args' v) (hk : K ⟨putO e d v, n, H⟩) : CallP P f args d K ⟨e, n, H⟩ := ⟨args', v, h, hs, hk⟩
theorem fin_r {v : AV} {n n' : Nat} {H H' : AHeap} {res : List ARes} {e : AEnv} (h : ∃ x, resOf ⟨e, n', H'⟩ res = some x ∧ simA x v) (h1 : n ≤ n') (h2 : SameB n H H') : finP v n H res .ret ⟨e, n', H'⟩ := ⟨h, h1, h2⟩
end Go.Proofs.YtnmkpadgogbgkaaDoor
namespace Go.Proofs.YtnmkpadgogbgkaaDoor
/-- a slice that grows: the elements' type and size, the slice, what it reads -/
structure OwnR where
  el : Nat
  sz : Nat
  x : AV
  l : List AV
def rowsApart (a b : OwnR) : Prop := ∀ k, (∃ s l, a.x = .sl s l (.own k)) → notRow b.x k
structure Owns (n0 : Nat) (H0 : AHeap) (bs : List (Nat × AObj)) (os : List OwnR) (n : Nat) (H : AHeap) : Prop where
  mem : Mem n0 H0 n H
  box : ∀ b ∈ bs, H b.1 = some b.2 ∧ n0 ≤ b.1 ∧ ∀ e m, b.2 ≠ .row e m
  row : ∀ o ∈ os, OwnS n0 H o.el o.sz o.x o.l
  apart : os.Pairwise rowsApart
def BoxF0 (n : Nat) (H : AHeap) : List (Nat × AObj) → Prop
  | [] => True
  | [(g, ob)] => H g = some ob ∧ g < n
  | (g, ob) :: bs => H g = some ob ∧ g < n ∧ BoxF0 n H bs
def RowF : List OwnR → Prop
  | [] => True
  | o :: os => lenV o.x = some (.int .i64 o.l.length) ∧ (∀ s i, iaddrAV o.sz s o.x i = iaddrAV o.sz s (.sl o.sz o.l .ro) i) ∧ (∀ lo hi, cutAV o.sz o.x lo hi = cutAV o.sz (.sl o.sz o.l .ro) lo hi) ∧ RowF os
def BoxF (n : Nat) (H : AHeap) (bs : List (Nat × AObj)) (os : List OwnR) : Prop := BoxF0 n H bs ∧ RowF os
section
variable {n0 n : Nat} {H0 H : AHeap} {bs : List (Nat × AObj)} {os : List OwnR}
theorem Owns.le (h : Owns n0 H0 bs os n H) : n0 ≤ n := h.mem.le
theorem Owns.same (h : Owns n0 H0 bs os n H) : SameB n0 H0 H := h.mem.same
theorem OwnS.rowF {el sz : Nat} {x : AV} {l : List AV} (h : OwnS n0 H el sz x l) : lenV x = some (.int .i64 l.length) ∧ (∀ s i, iaddrAV sz s x i = iaddrAV sz s (.sl sz l .ro) i) ∧ (∀ lo hi, cutAV sz x lo hi = cutAV sz (.sl sz l .ro) lo hi) := by
  rcases h with ⟨rfl, z, rfl⟩ | ⟨g, rfl, _⟩
  · refine ⟨rfl, fun s i => ?_, fun lo hi => ?_⟩
    · unfold iaddrAV; cases i <;> first | rfl | (simp)
    · simp [cutAV]
  · exact ⟨rfl, fun _ i => by cases i <;> rfl, fun _ _ => rfl⟩
theorem Owns.boxF (h : Owns n0 H0 bs os n H) : BoxF n H bs os := by
  have key : ∀ bs' : List (Nat × AObj), (∀ b ∈ bs', H b.1 = some b.2 ∧ b.1 < n) → BoxF0 n H bs' := by
    intro bs'
    induction bs' with
    | nil => intro _; trivial
    | cons b bs' ih =>
      intro hh
      obtain ⟨g, ob⟩ := b
      cases bs' with
      | nil => exact hh (g, ob) List.mem_cons_self
      | cons c bs' => exact ⟨(hh (g, ob) List.mem_cons_self).1, (hh (g, ob) List.mem_cons_self).2, ih fun b hb => hh b (List.mem_cons_of_mem _ hb)⟩
  have key2 : ∀ os' : List OwnR, (∀ o ∈ os', OwnS n0 H o.el o.sz o.x o.l) → RowF os' := by
    intro os'
    induction os' with
    | nil => intro _; trivial
    | cons o os' ih =>
      intro hh
      obtain ⟨h1, h2, h3⟩ := (hh o List.mem_cons_self).rowF
      exact ⟨h1, h2, h3, ih fun b hb => hh b (List.mem_cons_of_mem _ hb)⟩
  exact ⟨key bs fun b hb => ⟨(h.box b hb).1, h.mem.lt (h.box b hb).1⟩, key2 os h.row⟩
theorem Owns.start (hs : ∀ k, n ≤ k → H k = none) : Owns n H [] [] n H := ⟨Mem.refl hs, by simp, by simp, .nil⟩
theorem Owns.alloc (h : Owns n0 H0 bs os n H) {g : Nat} (hg : n ≤ g) (ob : AObj) : Owns n0 H0 bs os (g + 1) (upd H g (some ob)) := by
  refine ⟨h.mem.alloc hg ob, fun b hb => ?_, fun o ho => ?_, h.apart⟩
  · obtain ⟨h1, h2⟩ := h.box b hb
    have := h.mem.lt h1
    exact ⟨by rw [upd_ne (by omega)]; exact h1, h2⟩
  · refine (h.row o ho).keep fun k e m hk => ?_
    have := h.mem.lt hk
    rw [upd_ne (by omega)]; exact hk
theorem Owns.addOb (h : Owns n0 H0 bs os n H) {g : Nat} (hg : n ≤ g) (ob : AObj) (hr : ∀ e m, ob ≠ .row e m) : Owns n0 H0 ((g, ob) :: bs) os (g + 1) (upd H g (some ob)) := by
  have h' := h.alloc hg ob
  refine ⟨h'.mem, fun b hb => ?_, h'.row, h'.apart⟩
  rcases List.mem_cons.1 hb with rfl | hb
  · exact ⟨xz4f _ _ _, by have := h.mem.le; simp only; omega, hr⟩
  · exact h'.box b hb
theorem Owns.addBox (h : Owns n0 H0 bs os n H) {g : Nat} (hg : n ≤ g) (e : TypeId) (cs : List AV) : Owns n0 H0 ((g, .cells e cs) :: bs) os (g + 1) (upd H g (some (.cells e cs))) :=
  h.addOb hg _ fun _ _ h => by cases h
theorem Owns.addNil (h : Owns n0 H0 bs os n H) (el sz z : Nat) : Owns n0 H0 bs (⟨el, sz, .sl z [] .nil, []⟩ :: os) n H :=
  ⟨h.mem, h.box, fun o ho => by
    rcases List.mem_cons.1 ho with rfl | ho
    · exact OwnS.nil z el sz
    · exact h.row o ho, .cons (fun b _ k ⟨s, l, hx⟩ => by injection hx with _ _ hx; cases hx) h.apart⟩
theorem Owns.dropBox {b : Nat × AObj} (h : Owns n0 H0 (b :: bs) os n H) : Owns n0 H0 bs os n H := ⟨h.mem, fun o' ho => h.box o' (List.mem_cons_of_mem _ ho), h.row, h.apart⟩
theorem Owns.swap {a b : OwnR} (h : Owns n0 H0 bs (a :: b :: os) n H) : Owns n0 H0 bs (b :: a :: os) n H := by
  have h1 := List.pairwise_cons.1 h.apart
  have h2 := List.pairwise_cons.1 h1.2
  refine ⟨h.mem, h.box, fun o ho => h.row o ?_, List.pairwise_cons.2 ⟨fun c hc => ?_, List.pairwise_cons.2 ⟨fun c hc => h1.1 c (List.mem_cons_of_mem _ hc), h2.2⟩⟩⟩
  · rcases List.mem_cons.1 ho with rfl | ho
    · exact List.mem_cons_of_mem _ List.mem_cons_self
    · rcases List.mem_cons.1 ho with rfl | ho
      · exact List.mem_cons_self
      · exact List.mem_cons_of_mem _ (List.mem_cons_of_mem _ ho)
  · rcases List.mem_cons.1 hc with rfl | hc
    · intro k ⟨s, l, hx⟩ s' l' hx'
      exact h1.1 b List.mem_cons_self k ⟨s', l', hx'⟩ s l hx
    · exact h2.1 c hc
theorem Owns.sim0 {o : OwnR} (h : Owns n0 H0 bs (o :: os) n H) {l' : List AV} (hl : simL o.l l') : simA o.x (.sl o.sz l' .ro) := (h.row o List.mem_cons_self).sim hl
theorem Owns.sim1 {a o : OwnR} (h : Owns n0 H0 bs (a :: o :: os) n H) {l' : List AV} (hl : simL o.l l') : simA o.x (.sl o.sz l' .ro) := (h.row o (List.mem_cons_of_mem _ List.mem_cons_self)).sim hl
theorem OwnS.fit {el sz : Nat} {x : AV} {l : List AV} (h : OwnS n0 H el sz x l) : fitOk none x := by
  rcases h with ⟨_, z, rfl⟩ | ⟨g, rfl, _⟩ <;> (rw [xz40]; trivial)
theorem Owns.fit0 {el sz : Nat} {x : AV} {l : List AV} (h : Owns n0 H0 bs (⟨el, sz, x, l⟩ :: os) n H) : fitOk none x := (h.row _ List.mem_cons_self).fit
theorem Owns.fit1 {a : OwnR} {el sz : Nat} {x : AV} {l : List AV} (h : Owns n0 H0 bs (a :: ⟨el, sz, x, l⟩ :: os) n H) : fitOk none x := (h.row _ (List.mem_cons_of_mem _ List.mem_cons_self)).fit
theorem Owns.simC0 {el sz : Nat} {x : AV} {l r : List AV} (h : Owns n0 H0 bs (⟨el, sz, x, l⟩ :: os) n H) : simL (x :: r) (.sl sz l .ro :: r) := ⟨_, _, rfl, h.sim0 (simL_refl _), simL_refl _⟩
theorem Owns.simC1 {a : OwnR} {el sz : Nat} {x : AV} {l r : List AV} (h : Owns n0 H0 bs (a :: ⟨el, sz, x, l⟩ :: os) n H) : simL (x :: r) (.sl sz l .ro :: r) := ⟨_, _, rfl, h.sim1 (simL_refl _), simL_refl _⟩
theorem Owns.len0 {o : OwnR} (h : Owns n0 H0 bs (o :: os) n H) : ∃ z t, o.x = .sl z o.l t ∧ (z = o.sz ∨ o.l = []) := by
  rcases h.row o List.mem_cons_self with ⟨h1, z, h2⟩ | ⟨g, h1, h2, h3⟩
  · exact ⟨z, .nil, by rw [h1]; exact h2, .inr h1⟩
  · exact ⟨_, _, h1, .inl rfl⟩
/-- the first slice grows -/
theorem Owns.app {el sz by_ : Nat} {d : Option Nat} {e : AEnv} {K : AS → Prop} {x : AV} {l m m' : List AV} {z : Nat} {t : Tok} (h : Owns n0 H0 bs (⟨el, sz, x, l⟩ :: os) n H) (hz : z = sz ∨ m = []) (hs : simL m m') (hb : (l.length + m.length) * by_ ≤ 140737488355328) (hc : l.length + m.length ≤ maxLen)
    (hk : ∀ x' n' H', n ≤ n' → Owns n0 H0 bs (⟨el, sz, x', l ++ m'⟩ :: os) n' H' → BoxF n' H' bs (⟨el, sz, x', l ++ m'⟩ :: os) → K ⟨putO e d x', n', H'⟩) : appKS el sz by_ d K ⟨e, n, H⟩ x (.sl z m t) := by
  have hap := List.pairwise_cons.1 h.apart
  refine app_any hz hs h.mem (h.row _ List.mem_cons_self) hb hc fun x' n' H' ho hm hkeep hnr hle => ?_
  have hO : Owns n0 H0 bs (⟨el, sz, x', l ++ m'⟩ :: os) n' H' := by
    refine ⟨hm, fun b hb => ?_, fun o ho' => ?_, List.pairwise_cons.2 ⟨fun b hb => ?_, hap.2⟩⟩
    · obtain ⟨h1, h2, h3⟩ := h.box b hb
      refine ⟨hkeep _ _ h1 fun s l' hx => ?_, h2, h3⟩
      rcases h.row _ List.mem_cons_self with ⟨_, z', h4⟩ | ⟨g, h4, h5, _⟩
      · simp only at h4; rw [h4] at hx; injection hx with _ _ hx; cases hx
      · simp only at h4 h5; rw [h4] at hx; injection hx with _ _ hx; injection hx with hx
        subst hx
        rw [h5] at h1; injection h1 with h1; exact h3 _ _ h1.symm
    · rcases List.mem_cons.1 ho' with rfl | ho'
      · exact ho
      · refine (h.row o (List.mem_cons_of_mem _ ho')).elim .inl fun ⟨g, h1, h2, h3⟩ => .inr ⟨g, h1, hkeep _ _ h2 fun s l' hx => ?_, h3⟩
        exact hap.1 o ho' g ⟨s, l', hx⟩ _ _ h1
    · intro k hxk s l' hbx
      obtain ⟨s1, l1, hx1⟩ := hxk
      rcases h.row b (List.mem_cons_of_mem _ hb) with ⟨_, z', h4⟩ | ⟨g, h4, h5, _⟩
      · rw [h4] at hbx; injection hbx with _ _ hbx; cases hbx
      · rw [h4] at hbx; injection hbx with _ _ hbx; injection hbx with hbx
        subst hbx
        refine hnr g (h.mem.lt h5) (fun s2 l2 hx2 => ?_) s1 l1 hx1
        exact hap.1 b hb g ⟨s2, l2, hx2⟩ _ _ h4
  exact hk x' n' H' hle hO hO.boxF
/-- a tracked block turns -/
theorem Owns.setOb {g : Nat} {ob : AObj} (h : Owns n0 H0 ((g, ob) :: bs) os n H) (hne : ∀ b ∈ bs, b.1 ≠ g) (ob' : AObj) (hr : ∀ e m, ob' ≠ .row e m) : Owns n0 H0 ((g, ob') :: bs) os n (upd H g (some ob')) := by
  obtain ⟨h1, h2, h3⟩ := h.box (g, ob) List.mem_cons_self
  simp only at h1 h2 h3
  refine ⟨h.mem.set h1 h2 _, fun b hb => ?_, fun o ho => ?_, h.apart⟩
  · rcases List.mem_cons.1 hb with rfl | hb
    · exact ⟨xz4f _ _ _, h2, hr⟩
    · rw [upd_ne (hne b hb)]; exact h.box b (List.mem_cons_of_mem _ hb)
  · refine (h.row o ho).keep fun k e m hk => ?_
    rw [upd_ne (fun e => ?_)]
    · exact hk
    · subst e; rw [h1] at hk; injection hk with hk; exact h3 _ _ hk
theorem Owns.set0 {g : Nat} {ob : AObj} (h : Owns n0 H0 ((g, ob) :: bs) os n H) (hne : ∀ b ∈ bs, b.1 ≠ g) (e : TypeId) (cs : List AV) : Owns n0 H0 ((g, .cells e cs) :: bs) os n (upd H g (some (.cells e cs))) :=
  h.setOb hne _ fun _ _ h => by cases h
theorem appKS.chk {el sz by_ : Nat} {d : Option Nat} {K : AS → Prop} {s : AS} {x y : AV} (h : appKS el sz by_ d K s x y) : appKS el sz by_ d K s x y := h
theorem newP_go {ob : AObj} {d : Option Nat} {K : AS → Prop} {e : AEnv} (h : ∀ g, n ≤ g → K ⟨putO e d (.ptr g 0), g + 1, upd H g (some ob)⟩) : newP ob d K e n H := h
theorem newS_go {sz : Nat} {l : List AV} {ob : AObj} {d : Option Nat} {K : AS → Prop} {e : AEnv} (h : ∀ g, n ≤ g → K ⟨putO e d (.sl sz l (.own g)), g + 1, upd H g (some ob)⟩) : newS sz l ob d K e n H := h
theorem newM_go {kk : Option IntKind} {d : Option Nat} {K : AS → Prop} {e : AEnv} (h : ∀ g, n ≤ g → K ⟨putO e d (.mp g), g + 1, upd H g (some (.map kk []))⟩) : newM kk d K e n H := h
theorem newP_own {t : TypeId} {cs : List AV} {d : Option Nat} {K : AS → Prop} {e : AEnv} (h : Owns n0 H0 bs os n H) (hk : ∀ g, n ≤ g → Owns n0 H0 ((g, .cells t cs) :: bs) os (g + 1) (upd H g (some (.cells t cs))) → K ⟨putO e d (.ptr g 0), g + 1, upd H g (some (.cells t cs))⟩) : newP (.cells t cs) d K e n H :=
  fun g hg => hk g hg (h.addBox hg t cs)
theorem newS_own {sz : Nat} {l : List AV} {ob : AObj} {d : Option Nat} {K : AS → Prop} {e : AEnv} (h : Owns n0 H0 bs os n H) (hk : ∀ g, n ≤ g → Owns n0 H0 bs os (g + 1) (upd H g (some ob)) → K ⟨putO e d (.sl sz l (.own g)), g + 1, upd H g (some ob)⟩) : newS sz l ob d K e n H :=
  fun g hg => hk g hg (h.alloc hg ob)
end
end Go.Proofs.YtnmkpadgogbgkaaDoor
namespace Go.Proofs.YtnmkpadgogbgkaaDoor
/-- the function, called at such data in such memory, hands back this, and turns nothing -/
def APureAt (P : Program) (f : Nat) (args : List AV) (n : Nat) (H : AHeap) (v : AV) : Prop := ACalls P f args n H fun r n' H' => r = v ∧ n' = n ∧ H' = H
section
variable {P : Program} {f : Nat} {n : Nat} {H : AHeap} {v : AV}
theorem APure.at_ {args : List AV} (h : APure P f args v) (n : Nat) (H : AHeap) : APureAt P f args n H v := h n H
theorem APureAt.sim {args args' : List AV} (h : APureAt P f args' n H v) (hs : simL args args') : APureAt P f args n H v := ACalls.sim h hs
theorem apureAt_intro {ef : List Nat} {fn : Func} {c : AFun} {args : List AV} (hf : P.funcs[f]? = some fn)
    (hc : (cFun P ef fn).map (fun x => (x.nargs, x.nt, x.res, x.code)) = some (c.nargs, c.nt, c.res, bare c.code)) (ha : args.length = c.nargs)
    (h : (∀ g, n ≤ g → H g = none) → aw P c.code (finP v n H c.res) ⟨argE args, n, H⟩) : APureAt P f args n H v := by
  refine acalls_intro hf hc ha fun hs => aw_mono (h hs) fun e s' hq => ?_
  cases e with
  | normal => exact ⟨v, n, H, hq.1, Nat.le_refl _, hq.2.1, hs, hq.2.2, rfl, rfl, rfl⟩
  | ret => exact ⟨v, n, H, hq.1, Nat.le_refl _, hq.2.1, hs, hq.2.2, rfl, rfl, rfl⟩
  | exit id => exact hq
theorem CallK.chk {args : List AV} {d : Option Nat} {K : AS → Prop} {s : AS} (h : CallK P f args d K s) : CallK P f args d K s := h
theorem CallK.ofAt {args args' : List AV} {d : Option Nat} {K : AS → Prop} {e : AEnv} (h : APureAt P f args' n H v) (hs : simL args args') (hk : K ⟨putO e d v, n, H⟩) : CallK P f args d K ⟨e, n, H⟩ :=
  ⟨_, h.sim hs, fun r n' H' _ _ ⟨e1, e2, e3⟩ => by subst e1; subst e2; subst e3; exact hk⟩
theorem CallK.sfAt {args args' : List AV} {d : Option Nat} {K : AS → Prop} {e : AEnv} (hs : simL args args') (h : APureAt P f args' n H v) (hk : K ⟨putO e d v, n, H⟩) : CallK P f args d K ⟨e, n, H⟩ := CallK.ofAt h hs hk
end
end Go.Proofs.YtnmkpadgogbgkaaDoor
namespace Go.Proofs.YtnmkpadgogbgkaaDoor
/-- the function, called at such data in such memory, hands back this, and turns one block -/
def AUpd (P : Program) (f : Nat) (args : List AV) (n : Nat) (H : AHeap) (v : AV) (g : Nat) (ob : AObj) : Prop := ACalls P f args n H fun r n' H' => r = v ∧ n' = n ∧ H' = upd H g (some ob)
theorem upd_self {H : AHeap} {g : Nat} {a : AObj} (h : H g = some a) : upd H g (some a) = H := by
  funext k; simp only [upd]; split
  · rename_i hk; subst hk; exact h.symm
  · rfl
section
variable {P : Program} {f : Nat} {n : Nat} {H : AHeap} {v : AV}
theorem AUpd.sim {args args' : List AV} {g : Nat} {ob : AObj} (h : AUpd P f args' n H v g ob) (hs : simL args args') : AUpd P f args n H v g ob := ACalls.sim h hs
theorem aupd_intro {ef : List Nat} {fn : Func} {c : AFun} {args : List AV} {g : Nat} {ob ob0 : AObj} (hf : P.funcs[f]? = some fn)
    (hc : (cFun P ef fn).map (fun x => (x.nargs, x.nt, x.res, x.code)) = some (c.nargs, c.nt, c.res, bare c.code)) (ha : args.length = c.nargs) (hg : H g = some ob0)
    (h : (∀ g, n ≤ g → H g = none) → aw P c.code (finP v n (upd H g (some ob)) c.res) ⟨argE args, n, H⟩) : AUpd P f args n H v g ob := by
  refine acalls_intro hf hc ha fun hs => ?_
  have hgn : g < n := by
    rcases Nat.lt_or_ge g n with h1 | h1
    · exact h1
    · rw [hs g h1] at hg; cases hg
  have hs' : ∀ k, n ≤ k → upd H g (some ob) k = none := fun k hk => by rw [upd_ne (by omega)]; exact hs k hk
  refine aw_mono (h hs) fun e s' hq => ?_
  cases e with
  | normal => exact ⟨v, n, _, hq.1, Nat.le_refl _, hq.2.1, hs', hq.2.2, rfl, rfl, rfl⟩
  | ret => exact ⟨v, n, _, hq.1, Nat.le_refl _, hq.2.1, hs', hq.2.2, rfl, rfl, rfl⟩
  | exit id => exact hq
theorem CallK.ofU {args args' : List AV} {d : Option Nat} {K : AS → Prop} {e : AEnv} {g : Nat} {ob : AObj} (h : AUpd P f args' n H v g ob) (hs : simL args args') (hk : K ⟨putO e d v, n, upd H g (some ob)⟩) : CallK P f args d K ⟨e, n, H⟩ :=
  ⟨_, h.sim hs, fun r n' H' _ _ ⟨e1, e2, e3⟩ => by subst e1; subst e2; subst e3; exact hk⟩
theorem CallK.sfU {args args' : List AV} {d : Option Nat} {K : AS → Prop} {e : AEnv} {g : Nat} {ob : AObj} (hs : simL args args') (h : AUpd P f args' n H v g ob) (hk : K ⟨putO e d v, n, upd H g (some ob)⟩) : CallK P f args d K ⟨e, n, H⟩ := CallK.ofU h hs hk
/-- the function, called at such data in such memory, hands back this, and leaves this memory -/
def AHp (P : Program) (f : Nat) (args : List AV) (n : Nat) (H : AHeap) (v : AV) (H2 : AHeap) : Prop := ACalls P f args n H fun r n' H' => r = v ∧ n' = n ∧ H' = H2
theorem AHp.sim {args args' : List AV} {H2 : AHeap} (h : AHp P f args' n H v H2) (hs : simL args args') : AHp P f args n H v H2 := ACalls.sim h hs
theorem ahp_intro {ef : List Nat} {fn : Func} {c : AFun} {args : List AV} {H2 : AHeap} (hf : P.funcs[f]? = some fn)
    (hc : (cFun P ef fn).map (fun x => (x.nargs, x.nt, x.res, x.code)) = some (c.nargs, c.nt, c.res, bare c.code)) (ha : args.length = c.nargs) (hs2 : (∀ g, n ≤ g → H g = none) → ∀ g, n ≤ g → H2 g = none)
    (h : (∀ g, n ≤ g → H g = none) → aw P c.code (finP v n H2 c.res) ⟨argE args, n, H⟩) : AHp P f args n H v H2 := by
  refine acalls_intro hf hc ha fun hs => ?_
  refine aw_mono (h hs) fun e s' hq => ?_
  cases e with
  | normal => exact ⟨v, n, _, hq.1, Nat.le_refl _, hq.2.1, hs2 hs, hq.2.2, rfl, rfl, rfl⟩
  | ret => exact ⟨v, n, _, hq.1, Nat.le_refl _, hq.2.1, hs2 hs, hq.2.2, rfl, rfl, rfl⟩
  | exit id => exact hq
theorem CallK.ofH {args args' : List AV} {d : Option Nat} {K : AS → Prop} {e : AEnv} {H2 : AHeap} (h : AHp P f args' n H v H2) (hs : simL args args') (hk : K ⟨putO e d v, n, H2⟩) : CallK P f args d K ⟨e, n, H⟩ :=
  ⟨_, h.sim hs, fun r n' H' _ _ ⟨e1, e2, e3⟩ => by subst e1; subst e2; subst e3; exact hk⟩
theorem CallK.sfH {args args' : List AV} {d : Option Nat} {K : AS → Prop} {e : AEnv} {H2 : AHeap} (hs : simL args args') (h : AHp P f args' n H v H2) (hk : K ⟨putO e d v, n, H2⟩) : CallK P f args d K ⟨e, n, H⟩ := CallK.ofH h hs hk
theorem Owns.at_ {n0 : Nat} {H0 : AHeap} {bs : List (Nat × AObj)} {os : List OwnR} {g : Nat} {a : AObj} (h : Owns n0 (upd H0 g (some a)) bs os n H) (hg : g < n0) : H g = some a := by
  rw [h.mem.same g hg]; exact xz4f _ _ _
end
end Go.Proofs.YtnmkpadgogbgkaaDoor

/- Operations in whatever order they are carried out; no condition. -/
import Derived.Test.YtnmkpadgogbgkaaDoorAmOp2
set_option linter.all false
set_option linter.unusedSimpArgs false
set_option linter.unusedVariables false
namespace Go.Proofs.YtnmkpadgogbgkaaDoor
open Go.RowKit

section
variable {P : Program} {e e' : AEnv} {n : Nat} {H : AHeap}

theorem ev_congr {x : Opd} {l : List Nat} (hx : ∀ t ∈ x.use, t ∈ l) (h : ∀ t ∈ l, get e t = get e' t) : ev e x = ev e' x := by
  cases x with
  | t i => exact h i (hx i (by simp [Opd.use]))
  | c v => rfl
theorem evL_congr {xs : List Opd} {l : List Nat} (hx : ∀ t ∈ useL xs, t ∈ l) (h : ∀ t ∈ l, get e t = get e' t) : xs.map (ev e) = xs.map (ev e') := by
  induction xs with
  | nil => rfl
  | cons x xs ih =>
    simp only [useL, List.mem_append] at hx
    rw [List.map_cons, List.map_cons, ev_congr (fun t ht => hx t (.inl ht)) h, ih fun t ht => hx t (.inr ht)]
theorem evO_congr {x : Option Opd} {l : List Nat} (hx : ∀ t ∈ useO x, t ∈ l) (h : ∀ t ∈ l, get e t = get e' t) : x.map (ev e) = x.map (ev e') := by
  cases x with
  | none => rfl
  | some x => simp only [Option.map_some]; rw [ev_congr (x := x) hx h]
theorem evP_congr {ps : List (Nat × Shp × Opd)} {l : List Nat} (hx : ∀ t ∈ useP ps, t ∈ l) (h : ∀ t ∈ l, get e t = get e' t) : ps.map (fun x => (x.1, x.2.1, ev e x.2.2)) = ps.map (fun x => (x.1, x.2.1, ev e' x.2.2)) ∧ ps.map (fun x => (x.1, ev e x.2.2)) = ps.map (fun x => (x.1, ev e' x.2.2)) := by
  induction ps with
  | nil => exact ⟨rfl, rfl⟩
  | cons x xs ih =>
    simp only [useP, List.mem_append] at hx
    obtain ⟨i1, i2⟩ := ih fun t ht => hx t (.inr ht)
    have h1 : ev e x.2.2 = ev e' x.2.2 := ev_congr (fun t ht => hx t (.inl ht)) h
    constructor
    · rw [List.map_cons, List.map_cons, h1, i1]
    · rw [List.map_cons, List.map_cons, h1, i2]

theorem pe_congr {op : AOp} (h : ∀ t ∈ op.uses, get e t = get e' t) : pe op e H = pe op e' H := by
  cases op <;> simp only [pe] <;> simp only [AOp.uses] at h
  case mv x => rw [ev_congr (fun _ ht => ht) h]
  case pick c x y => rw [ev_congr (x := c) (by simp +contextual) h, ev_congr (x := x) (by simp +contextual) h, ev_congr (x := y) (by simp +contextual) h]
  case bin o x y => rw [ev_congr (x := x) (by simp +contextual) h, ev_congr (x := y) (by simp +contextual) h]
  case eqs k g x y => rw [ev_congr (x := x) (by simp +contextual) h, ev_congr (x := y) (by simp +contextual) h]
  case eqb g x y => rw [ev_congr (x := x) (by simp +contextual) h, ev_congr (x := y) (by simp +contextual) h]
  case eqn g x => rw [ev_congr (fun _ ht => ht) h]
  case eqp g x => rw [ev_congr (fun _ ht => ht) h]
  case neg x => rw [ev_congr (fun _ ht => ht) h]
  case not x => rw [ev_congr (fun _ ht => ht) h]
  case cvi k x => rw [ev_congr (fun _ ht => ht) h]
  case mkfn f a b => rw [evL_congr (xs := a) (by simp +contextual) h, evL_congr (xs := b) (by simp +contextual) h]
  case cut sz x lo hi => rw [ev_congr (x := x) (by simp +contextual) h, evO_congr (x := lo) (by simp +contextual) h, evO_congr (x := hi) (by simp +contextual) h]
  case cutS x lo hi => rw [ev_congr (x := x) (by simp +contextual) h, evO_congr (x := lo) (by simp +contextual) h, evO_congr (x := hi) (by simp +contextual) h]
  case faddr x o s => rw [ev_congr (fun _ ht => ht) h]
  case field x o s => rw [ev_congr (fun _ ht => ht) h]
  case iaddr z s x i => rw [ev_congr (x := x) (by simp +contextual) h, ev_congr (x := i) (by simp +contextual) h]
  case aaddr k z s x i => rw [ev_congr (x := x) (by simp +contextual) h, ev_congr (x := i) (by simp +contextual) h]
  case sidx x i => rw [ev_congr (x := x) (by simp +contextual) h, ev_congr (x := i) (by simp +contextual) h]
  case aidx k z s x i => rw [ev_congr (x := x) (by simp +contextual) h, ev_congr (x := i) (by simp +contextual) h]
  case len x => rw [ev_congr (fun _ ht => ht) h]
  case lenS x => rw [ev_congr (fun _ ht => ht) h]
  case extr x i => rw [ev_congr (fun _ ht => ht) h]
  case nilck x => rw [ev_congr (fun _ ht => ht) h]
  case load s x => rw [ev_congr (fun _ ht => ht) h]
  case build z ps =>
    obtain ⟨h1, h2⟩ := evP_congr (ps := ps) (fun _ ht => ht) h
    rw [h1, h2]
  case mm m x y => rw [ev_congr (x := x) (by simp +contextual) h, ev_congr (x := y) (by simp +contextual) h]
  case b2s x => rw [ev_congr (fun _ ht => ht) h]
  case upc x => rw [ev_congr (fun _ ht => ht) h]
  case usd el x => rw [ev_congr (fun _ ht => ht) h]
  case eqpp ng x y => rw [ev_congr (x := x) (by simp +contextual) h, ev_congr (x := y) (by simp +contextual) h]
  case r2s x => rw [ev_congr (fun _ ht => ht) h]
  case mget kk z ok x y => rw [ev_congr (x := x) (by simp +contextual) h, ev_congr (x := y) (by simp +contextual) h]

/-- an operation, from values that agree where it looks -/
theorem awOp_move {d : Option Nat} {op : AOp} {K K' : AS → Prop} (h : ∀ t ∈ op.uses, get e t = get e' t) (ha : awOp P d op K ⟨e, n, H⟩) (hk : ∀ r n' H', K ⟨putO e d r, n', H'⟩ → K' ⟨putO e' d r, n', H'⟩) : awOp P d op K' ⟨e', n, H⟩ := by
  by_cases hef : op.eff = false
  · rw [awOp_pure hef] at ha ⊢
    rw [← pe_congr (H := H) h]
    exact K1.mono ha fun v hv => hk v n H hv
  · cases op <;> first | exact absurd rfl hef | skip
    case alloc t z => exact ⟨ha.1, fun g hg => hk _ _ _ (ha.2 g hg)⟩
    case box t s x =>
      have hx := ev_congr (x := x) (fun _ ht => ht) h
      simp only [awOp] at ha ⊢
      rw [← hx]
      exact ⟨ha.1, ha.2.1, fun g hg => hk _ _ _ (ha.2.2 g hg)⟩
    case store s x v =>
      have hx := ev_congr (x := x) (by simp +contextual [AOp.uses]) h
      have hv := ev_congr (x := v) (by simp +contextual [AOp.uses]) h
      simp only [awOp] at ha ⊢
      rw [← hx, ← hv]
      unfold storeK at ha ⊢
      split at ha
      · split at ha
        · rename_i e0 cs hg
          simp only at hg ⊢
          rw [hg]
          exact ⟨ha.1, ha.2.1, ha.2.2.1, hk _ _ _ ha.2.2.2⟩
        · exact ha.elim
      · exact ha
    case bsl t s xs =>
      have hx := evL_congr (xs := xs) (fun _ ht => ht) h
      simp only [awOp] at ha ⊢
      rw [← hx]
      refine ⟨fun x hx' => ?_, fun g hg => hk _ _ _ (ha.2 g hg)⟩
      rw [← ev_congr (x := x) (e := e) (e' := e') (l := useL xs) ?_ h]
      · exact ha.1 x hx'
      · clear ha h hx hef
        induction xs with
        | nil => simp at hx'
        | cons y ys ih =>
          intro t ht
          simp only [useL, List.mem_append]
          rcases List.mem_cons.1 hx' with rfl | hx'
          · exact .inl ht
          · exact .inr (ih hx' t ht)
    case app t z b x y =>
      have hx := ev_congr (x := x) (by simp +contextual [AOp.uses]) h
      have hy := ev_congr (x := y) (by simp +contextual [AOp.uses]) h
      simp only [awOp] at ha ⊢
      rw [← hx, ← hy]
      unfold appKS at ha ⊢
      split at ha
      · obtain ⟨h1, m', h2, h3⟩ := ha
        exact ⟨h1, m', h2, appK_move h3 hk⟩
      · exact ha
    case appB t b x y =>
      have hx := ev_congr (x := x) (by simp +contextual [AOp.uses]) h
      have hy := ev_congr (x := y) (by simp +contextual [AOp.uses]) h
      simp only [awOp] at ha ⊢
      rw [← hx, ← hy]
      unfold appKB at ha ⊢
      split at ha
      · exact appK_move ha hk
      · exact ha
    case s2b t x =>
      have hx := ev_congr (x := x) (fun _ ht => ht) h
      simp only [awOp] at ha ⊢
      rw [← hx]
      split at ha
      · exact ⟨ha.1, fun n' hn => hk _ _ _ (ha.2 n' hn)⟩
      · exact ha
    case s2s x =>
      have hx := ev_congr (x := x) (fun _ ht => ht) h
      simp only [awOp] at ha ⊢
      rw [← hx]
      split at ha
      · exact ⟨ha.1, hk _ _ _ ha.2⟩
      · exact ha
    case mkmap kk => exact fun g hg => hk _ _ _ (ha g hg)
    case mset kk m k v =>
      have hm := ev_congr (x := m) (by simp +contextual [AOp.uses]) h
      have hk' := ev_congr (x := k) (by simp +contextual [AOp.uses]) h
      have hv := ev_congr (x := v) (by simp +contextual [AOp.uses]) h
      simp only [awOp] at ha ⊢
      rw [← hm, ← hk', ← hv]
      unfold msetS at ha ⊢
      split at ha
      · split at ha
        · rename_i kk' es hg
          simp only at hg ⊢
          rw [hg]
          exact ⟨ha.1, ha.2.1, hk _ _ _ ha.2.2⟩
        · exact ha.elim
      · exact ha
    case updn u x =>
      have hx := ev_congr (x := x) (fun _ ht => ht) h
      simp only [awOp] at ha ⊢
      rw [← hx]
      exact K1.mono ha fun v hv => hk _ _ _ hv
    case ust t x k =>
      have hx := ev_congr (x := x) (by simp +contextual [AOp.uses]) h
      have hy := ev_congr (x := k) (by simp +contextual [AOp.uses]) h
      simp only [awOp] at ha ⊢
      rw [← hx, ← hy]
      exact K1.mono ha fun v hv => hk _ _ _ hv
    case call f xs =>
      have hx := evL_congr (xs := xs) (fun _ ht => ht) h
      simp only [awOp] at ha ⊢
      rw [← hx]
      obtain ⟨R, h1, h2⟩ := ha
      exact ⟨R, h1, fun r n' H' a b c => hk _ _ _ (h2 r n' H' a b c)⟩
    case callp f xs =>
      have hx := evL_congr (xs := xs) (fun _ ht => ht) h
      simp only [awOp] at ha ⊢
      rw [← hx]
      obtain ⟨args', v, h1, hs, h2⟩ := ha
      exact ⟨args', v, h1, hs, hk _ _ _ h2⟩
    case callv x xs =>
      have hx := ev_congr (x := x) (by simp +contextual [AOp.uses]) h
      have hxs := evL_congr (xs := xs) (by simp +contextual [AOp.uses]) h
      simp only [awOp] at ha ⊢
      rw [← hx, ← hxs]
      split at ha
      · obtain ⟨hc, R, h1, h2⟩ := ha
        exact ⟨hc, R, h1, fun r n' H' a b c => hk _ _ _ (h2 r n' H' a b c)⟩
      · exact ha
theorem awO_move {o : AOper} {K K' : AS → Prop} (h : ∀ t ∈ o.uses, get e t = get e' t) (ha : awO P o K ⟨e, n, H⟩) (hk : ∀ r n' H', K ⟨putO e o.dst r, n', H'⟩ → K' ⟨putO e' o.dst r, n', H'⟩) : awO P o K' ⟨e', n, H⟩ := by
  have hop : ∀ t ∈ o.op.uses, get e t = get e' t := fun t ht => h t (List.mem_append_left _ ht)
  unfold awO at ha ⊢
  split at ha
  · exact awOp_move hop ha hk
  · rename_i t want hg
    have ht : get e t = get e' t := h t (List.mem_append_right _ (by rw [hg]; simp))
    simp only at ha ⊢
    rw [← ht]
    split at ha
    · exact ⟨fun hb => awOp_move hop (ha.1 hb) hk, fun hb => hk _ _ _ (ha.2 hb)⟩
    · exact hk _ _ _ ha
    · exact ha

/-! ### what has one outcome -/
def DV (P : Program) (op : AOp) (e : AEnv) (H : AHeap) (v : AV) : Prop :=
  match op with
  | .callp f xs => ∃ args', APure P f args' v ∧ simL (xs.map (ev e)) args'
  | .updn u x => updnAV P H u (ev e x) = some v
  | .ust t x k => ustAV t (ev e x) (ev e k) = some v
  | op => pe op e H = some v
def DVo (P : Program) (o : AOper) (e : AEnv) (H : AHeap) (v : AV) : Prop :=
  match o.guard with
  | none => DV P o.op e H v
  | some (t, want) => (∃ b, get e t = .bool b ∧ (b = want → DV P o.op e H v) ∧ (b ≠ want → v = .und)) ∨ (get e t = .und ∧ v = .und)
theorem det_op {d : Option Nat} {op : AOp} {K : AS → Prop} (hc : op.cls ≠ .eff) : awOp P d op K ⟨e, n, H⟩ ↔ ∃ v, DV P op e H v ∧ K ⟨putO e d v, n, H⟩ := by
  by_cases hef : op.eff = false
  · rw [awOp_pure hef, K1_iff]
    have : ∀ v, DV P op e H v ↔ pe op e H = some v := fun v => by cases op <;> first | rfl | (exact absurd hef (by simp [AOp.eff]))
    simp only [this]
  · cases op <;> first | exact absurd rfl hef | exact absurd rfl hc | rfl | (simp only [awOp, K1_iff, DV]; done) | (simp only [awOp, DV]; exact ⟨fun ⟨a, v, h1, h2, h3⟩ => ⟨v, ⟨a, h1, h2⟩, h3⟩, fun ⟨v, ⟨a, h1, h2⟩, h3⟩ => ⟨a, v, h1, h2, h3⟩⟩)
theorem det_o {o : AOper} {K : AS → Prop} (hc : o.op.cls ≠ .eff) : awO P o K ⟨e, n, H⟩ ↔ ∃ v, DVo P o e H v ∧ K ⟨putO e o.dst v, n, H⟩ := by
  unfold awO DVo
  cases hg : o.guard with
  | none => exact det_op hc
  | some p =>
    obtain ⟨t, want⟩ := p
    simp only
    constructor
    · intro h
      split at h
      · rename_i b hb
        by_cases hw : b = want
        · obtain ⟨v, h1, h2⟩ := (det_op hc).1 (h.1 hw)
          exact ⟨v, .inl ⟨b, hb, fun _ => h1, fun h => absurd hw h⟩, h2⟩
        · exact ⟨.und, .inl ⟨b, hb, fun h => absurd h hw, fun _ => rfl⟩, h.2 hw⟩
      · rename_i hb
        exact ⟨.und, .inr ⟨hb, rfl⟩, h⟩
      · exact h.elim
    · rintro ⟨v, ⟨b, hb, h1, h2⟩ | ⟨hb, h1⟩, hk⟩
      · rw [hb]
        simp only
        refine ⟨fun hw => (det_op hc).2 ⟨v, h1 hw, hk⟩, fun hw => ?_⟩
        rw [h2 hw] at hk; exact hk
      · rw [hb]
        simp only
        rw [h1] at hk; exact hk
theorem DV_congr {op : AOp} {H' : AHeap} {v : AV} (h : ∀ t ∈ op.uses, get e t = get e' t) (hH : op.cls = .pure ∨ H = H') (hd : DV P op e H v) : DV P op e' H' v := by
  have key : op.eff = false → op.cls = .pure ∨ op.cls = .rd → pe op e H = some v → pe op e' H' = some v := by
    intro _ hcl hp
    rcases hH with hH | hH
    · have : pe op e' H' = pe op e' H := by cases op <;> first | rfl | cases hH
      rw [this, ← pe_congr (H := H) h]; exact hp
    · subst hH; rw [← pe_congr (H := H) h]; exact hp
  cases op <;> first | exact key rfl (by simp [AOp.cls]) hd | (simp only [DV, pe] at hd; cases hd; done) | skip
  case updn u x =>
    rcases hH with hH | hH
    · cases hH
    · subst hH
      simp only [DV] at hd ⊢
      rw [← ev_congr (x := x) (fun _ ht => ht) h]; exact hd
  case ust t x k =>
    simp only [DV] at hd ⊢
    rw [← ev_congr (x := x) (by simp +contextual [AOp.uses]) h, ← ev_congr (x := k) (by simp +contextual [AOp.uses]) h]; exact hd
  case callp f xs =>
    simp only [DV] at hd ⊢
    rw [← evL_congr (xs := xs) (fun _ ht => ht) h]; exact hd
theorem DVo_congr {o : AOper} {H' : AHeap} {v : AV} (h : ∀ t ∈ o.uses, get e t = get e' t) (hH : o.op.cls = .pure ∨ H = H') (hd : DVo P o e H v) : DVo P o e' H' v := by
  have hop : ∀ t ∈ o.op.uses, get e t = get e' t := fun t ht => h t (List.mem_append_left _ ht)
  unfold DVo at hd ⊢
  cases hg : o.guard with
  | none => rw [hg] at hd; exact DV_congr hop hH hd
  | some p =>
    obtain ⟨t, want⟩ := p
    rw [hg] at hd
    have ht : get e t = get e' t := h t (List.mem_append_right _ (by rw [hg]; simp))
    rcases hd with ⟨b, hb, h1, h2⟩ | ⟨hb, h1⟩
    · exact .inl ⟨b, by rw [← ht]; exact hb, fun hw => DV_congr hop hH (h1 hw), h2⟩
    · exact .inr ⟨by rw [← ht]; exact hb, h1⟩

/-- the order of the environment's entries does not matter -/
def EInv (K : AS → Prop) : Prop := ∀ e e' n H, (∀ t, get e t = get e' t) → K ⟨e, n, H⟩ → K ⟨e', n, H⟩
theorem get_putO (e : AEnv) (d : Option Nat) (v : AV) (k : Nat) : get (putO e d v) k = if d = some k then v else get e k := by
  cases d with
  | none => simp [putO]
  | some t =>
    simp only [putO, get_put, Option.some.injEq]
    by_cases hk : k = t
    · subst hk; simp
    · have : ¬ t = k := fun e => hk e.symm
      simp [hk, this]
theorem EInv.awO {o : AOper} {K : AS → Prop} (hK : EInv K) : EInv (awO P o K) := fun e e' n H h ha =>
  awO_move (fun t _ => h t) ha fun r n' H' hk => hK _ _ _ _ (fun t => by simp only [get_putO, h]) hk
theorem EInv.awOps {os : List AOper} {K : AS → Prop} (hK : EInv K) : EInv (awOps P os K) := by
  induction os with
  | nil => exact hK
  | cons o os ih => exact EInv.awO ih

/-- two operations one behind the other, exchanged -/
theorem awO_swap {x y : AOper} {K : AS → Prop} {s : AS} (hK : EInv K) (hap : aApart x y = true) (hcm : x.op.cls.comm y.op.cls = true) (h : awO P x (awO P y K) s) : awO P y (awO P x K) s := by
  obtain ⟨e, n, H⟩ := s
  have hx : x.op.cls ≠ .eff := by intro hc; rw [hc] at hcm; cases hy : y.op.cls <;> rw [hy] at hcm <;> cases hcm
  obtain ⟨v, hv, hy⟩ := (det_o hx).1 h
  simp only [aApart, Bool.and_eq_true] at hap
  obtain ⟨hap1, hap2⟩ := hap
  have u1 : ∀ t ∈ y.uses, ¬ x.dst = some t := by
    intro t ht hd
    rw [hd] at hap1
    simp only [Bool.and_eq_true, Bool.not_eq_true', List.contains_eq_mem, decide_eq_false_iff_not] at hap1
    exact hap1.1 ht
  have u2 : ∀ t ∈ x.uses, ¬ y.dst = some t := by
    intro t ht hd
    rw [hd] at hap2
    simp only [Bool.not_eq_true', List.contains_eq_mem, decide_eq_false_iff_not] at hap2
    exact hap2 ht
  have u3 : ∀ t, x.dst = some t → ¬ y.dst = some t := by
    intro t hd hd'
    rw [hd, hd'] at hap1
    simp at hap1
  have perm : ∀ r t, get (putO (putO e x.dst v) y.dst r) t = get (putO (putO e y.dst r) x.dst v) t := by
    intro r t
    simp only [get_putO]
    by_cases h1 : x.dst = some t
    · simp [h1, u3 t h1]
    · simp [h1]
  have agreeX : ∀ r, ∀ t ∈ x.uses, get e t = get (putO e y.dst r) t := fun r t ht => by rw [get_putO, if_neg (u2 t ht)]
  by_cases hyd : y.op.cls = .eff
  · have hxp : x.op.cls = .pure := by cases hxc : x.op.cls <;> rw [hxc, hyd] at hcm <;> first | rfl | cases hcm
    refine awO_move (e := putO e x.dst v) (fun t ht => by rw [get_putO, if_neg (u1 t ht)]) hy fun r n' H' hk => ?_
    exact (det_o hx).2 ⟨v, DVo_congr (agreeX r) (.inl hxp) hv, hK _ _ _ _ (perm r) hk⟩
  · obtain ⟨r, hr, hk⟩ := (det_o hyd).1 hy
    refine (det_o hyd).2 ⟨r, DVo_congr (fun t ht => by rw [get_putO, if_neg (u1 t ht)]) (.inr rfl) hr, ?_⟩
    exact (det_o hx).2 ⟨v, DVo_congr (agreeX r) (.inr rfl) hv, hK _ _ _ _ (perm r) hk⟩
theorem maskH_in {gs : List Nat} {g : Nat} (h : g ∈ gs) (H : AHeap) : maskH gs H g = none := by
  induction gs with
  | nil => cases h
  | cons a gs ih =>
    simp only [maskH]
    split
    · rfl
    · rename_i hne
      rcases List.mem_cons.1 h with h | h
      · exact absurd h hne
      · exact ih h
theorem maskH_le {gs : List Nat} {H : AHeap} {k : Nat} {ob : AObj} (h : maskH gs H k = some ob) : H k = some ob := by
  induction gs with
  | nil => exact h
  | cons a gs ih =>
    simp only [maskH] at h
    split at h
    · cases h
    · exact ih h
theorem maskH_congr {gs : List Nat} {H H' : AHeap} {k : Nat} (h : H k = H' k) : maskH gs H k = maskH gs H' k := by
  induction gs with
  | nil => exact h
  | cons a gs ih => simp only [maskH, ih]
theorem maskH_upd {gs : List Nat} {g : Nat} (h : g ∈ gs) (H : AHeap) (o : Option AObj) : maskH gs (upd H g o) = maskH gs H := by
  funext k
  by_cases hk : k ∈ gs
  · rw [maskH_in hk, maskH_in hk]
  · exact maskH_congr (by have hne : k ≠ g := fun e => hk (e ▸ h)
                          simp [upd, hne])
theorem pe_load_le {sh : Shp} {x : Opd} {e : AEnv} {H H' : AHeap} {v : AV} (hH : ∀ k ob, H k = some ob → H' k = some ob) (h : pe (.load sh x) e H = some v) : pe (.load sh x) e H' = some v := by
  simp only [pe] at h ⊢
  generalize ev e x = p at h ⊢
  cases p <;> simp only [loadAV] at h ⊢ <;> first | exact h | skip
  rename_i g o
  cases hg : H g with
  | none => rw [hg] at h; simp at h
  | some ob => rw [hg] at h; rw [hH g ob hg]; exact h
theorem awOM_down {gs : List Nat} {o : AOper} {K : AS → Prop} {s : AS} (hs : ∀ k, s.n ≤ k → s.H k = none) (h : awOM P gs o K s) : awO P o K s := by
  unfold awOM at h
  split at h
  · rename_i d sh x
    unfold K1 at h
    split at h
    · rename_i v hv
      show awOp P d (.load sh x) K s
      rw [awOp_pure rfl, pe_load_le (fun k ob => maskH_le) hv]
      exact h
    · exact h.elim
  · exact ⟨h.1, fun g hg => h.2 g hg (hs g hg)⟩
  · exact h.2
  · exact h
def AOper.sp (o : AOper) : Bool := match o with
  | ⟨_, .load _ _, none⟩ | ⟨_, .alloc _ _, none⟩ | ⟨_, .store _ _ _, none⟩ => true
  | _ => false
theorem awOM_plain {gs : List Nat} {o : AOper} {K : AS → Prop} {s : AS} (h : o.sp = false) : awOM P gs o K s = awO P o K s := by
  unfold awOM
  split
  · cases h
  · cases h
  · cases h
  · rfl
theorem awOM_move {gs : List Nat} {o : AOper} {K K' : AS → Prop} (h : ∀ t ∈ o.uses, get e t = get e' t) (ha : awOM P gs o K ⟨e, n, H⟩) (hk : ∀ r n' H', K ⟨putO e o.dst r, n', H'⟩ → K' ⟨putO e' o.dst r, n', H'⟩) : awOM P gs o K' ⟨e', n, H⟩ := by
  have hop : ∀ t ∈ o.op.uses, get e t = get e' t := fun t ht => h t (List.mem_append_left _ ht)
  unfold awOM at ha ⊢
  split at ha
  · simp only at ha ⊢
    rw [← pe_congr hop]
    exact K1.mono ha fun v hv => hk _ _ _ hv
  · exact ⟨ha.1, fun g hg hn => hk _ _ _ (ha.2 g hg hn)⟩
  · rename_i d sh x v
    simp only at ha ⊢
    rw [← ev_congr (x := x) (e := e) (e' := e') (l := (AOp.store sh x v).uses) (by simp +contextual [AOp.uses]) hop]
    exact ⟨ha.1, awOp_move hop ha.2 hk⟩
  · exact awO_move h ha hk
theorem EInv.awOM {gs : List Nat} {o : AOper} {K : AS → Prop} (hK : EInv K) : EInv (awOM P gs o K) := fun e e' n H h ha =>
  awOM_move (fun t _ => h t) ha fun r n' H' hk => hK _ _ _ _ (fun t => by simp only [get_putO, h]) hk
theorem store_mask {gs : List Nat} {d : Option Nat} {sh : Shp} {x v : Opd} {K : AS → Prop} {s : AS} (hb : blkIn gs (ev s.e x)) (h : awOp P d (.store sh x v) K s) : awOp P d (.store sh x v) (fun s' => K s' ∧ maskH gs s'.H = maskH gs s.H) s := by
  simp only [awOp] at h ⊢
  generalize ev s.e x = p at h hb ⊢
  unfold storeK at h ⊢
  cases p <;> simp only at h ⊢ <;> first | exact h.elim | skip
  rename_i g o
  split at h
  · exact ⟨h.1, h.2.1, h.2.2.1, h.2.2.2, maskH_upd hb _ _⟩
  · exact h.elim
/-- how the order of two operations may be turned -/
structure Drw (P : Program) (W : AOper → (AS → Prop) → AS → Prop) (C : AOper → AOper → Bool) : Prop where
  mono : ∀ {o : AOper} {K K' : AS → Prop} {s : AS}, W o K s → (∀ s, K s → K' s) → W o K' s
  einv : ∀ {o : AOper} {K : AS → Prop}, EInv K → EInv (W o K)
  swap : ∀ {x y : AOper} {K : AS → Prop} {s : AS}, EInv K → aApart x y = true → C x y = true → W x (W y K) s → W y (W x K) s
  down : ∀ {o : AOper} {K : AS → Prop} {s : AS}, (∀ k, s.n ≤ k → s.H k = none) → W o K s → awO P o K s
theorem drw_plain : Drw P (awO P) fun x y => x.op.cls.comm y.op.cls :=
  ⟨fun h hk => awO_mono h hk, fun hK => EInv.awO hK, fun hK ha hc h => awO_swap hK ha hc h, fun _ h => h⟩
theorem apart1 {x y : AOper} (h : aApart x y = true) : (∀ t ∈ y.uses, ¬ x.dst = some t) ∧ (∀ t ∈ x.uses, ¬ y.dst = some t) ∧ ∀ (e : AEnv) v r t, get (putO (putO e x.dst v) y.dst r) t = get (putO (putO e y.dst r) x.dst v) t := by
  simp only [aApart, Bool.and_eq_true] at h
  obtain ⟨hap1, hap2⟩ := h
  refine ⟨fun t ht hd => ?_, fun t ht hd => ?_, fun e v r t => ?_⟩
  · rw [hd] at hap1
    simp only [Bool.and_eq_true, Bool.not_eq_true', List.contains_eq_mem, decide_eq_false_iff_not] at hap1
    exact hap1.1 ht
  · rw [hd] at hap2
    simp only [Bool.not_eq_true', List.contains_eq_mem, decide_eq_false_iff_not] at hap2
    exact hap2 ht
  · have u3 : ∀ t, x.dst = some t → ¬ y.dst = some t := by
      intro t hd hd'
      rw [hd, hd'] at hap1
      simp at hap1
    simp only [get_putO]
    by_cases h1 : x.dst = some t
    · simp [h1, u3 t h1]
    · simp [h1]
theorem swap_pure {gs : List Nat} {x y : AOper} {K : AS → Prop} {s : AS} (hK : EInv K) (hap : aApart x y = true) (hxp : x.op.cls = .pure) (h : awOM P gs x (awOM P gs y K) s) : awOM P gs y (awOM P gs x K) s := by
  obtain ⟨e, n, H⟩ := s
  have hxs : x.sp = false := by
    obtain ⟨d, op, g⟩ := x
    cases op <;> first | rfl | cases hxp
  have hx : x.op.cls ≠ .eff := by rw [hxp]; intro hc; cases hc
  rw [awOM_plain hxs] at h
  obtain ⟨v, hv, hy⟩ := (det_o hx).1 h
  obtain ⟨u1, u2, perm⟩ := apart1 hap
  refine awOM_move (e := putO e x.dst v) (fun t ht => by rw [get_putO, if_neg (u1 t ht)]) hy fun r n' H' hk => ?_
  rw [awOM_plain hxs]
  exact (det_o hx).2 ⟨v, DVo_congr (fun t ht => by rw [get_putO, if_neg (u2 t ht)]) (.inl hxp) hv, hK _ _ _ _ (perm e v r) hk⟩
theorem swap_load {gs : List Nat} {d : Option Nat} {sh : Shp} {p : Opd} {y : AOper} {K : AS → Prop} {s : AS} (hK : EInv K) (hap : aApart ⟨d, .load sh p, none⟩ y = true)
    (hy : ∀ {K : AS → Prop} {e : AEnv} {n : Nat} {H : AHeap}, awOM P gs y K ⟨e, n, H⟩ → awOM P gs y (fun s' => K s' ∧ ∀ k ob, maskH gs H k = some ob → maskH gs s'.H k = some ob) ⟨e, n, H⟩) (h : awOM P gs ⟨d, .load sh p, none⟩ (awOM P gs y K) s) : awOM P gs y (awOM P gs ⟨d, .load sh p, none⟩ K) s := by
  obtain ⟨e, n, H⟩ := s
  obtain ⟨u1, u2, perm⟩ := apart1 hap
  have h : K1 (pe (.load sh p) e (maskH gs H)) fun v => awOM P gs y K ⟨putO e d v, n, H⟩ := h
  unfold K1 at h
  split at h
  · rename_i v hv
    refine awOM_move (e := putO e d v) (fun t ht => by rw [get_putO, if_neg (u1 t ht)]) (hy h) fun r n' H' hk => ?_
    show K1 (pe (.load sh p) (putO e y.dst r) (maskH gs H')) fun v => K ⟨putO (putO e y.dst r) d v, n', H'⟩
    rw [← pe_congr (op := .load sh p) (e := e) (fun t ht => by rw [get_putO, if_neg (u2 t (List.mem_append_left _ ht))]), pe_load_le hk.2 hv]
    exact hK _ _ _ _ (perm e v r) hk.1
  · exact h.elim
theorem awOM_rd {gs : List Nat} {y : AOper} {K : AS → Prop} {e : AEnv} {n : Nat} {H : AHeap} (hy : y.op.cls ≠ .eff) (h : awOM P gs y K ⟨e, n, H⟩) : awOM P gs y (fun s' => K s' ∧ s'.H = H) ⟨e, n, H⟩ := by
  unfold awOM at h ⊢
  split at h
  · exact K1.mono h fun v hv => ⟨hv, rfl⟩
  · exact absurd rfl hy
  · exact absurd rfl hy
  · obtain ⟨v, h1, h2⟩ := (det_o hy).1 h
    exact (det_o hy).2 ⟨v, h1, h2, rfl⟩
theorem swap_rd {gs : List Nat} {x y : AOper} {K : AS → Prop} {s : AS} (hK : EInv K) (hap : aApart x y = true) (hxs : x.sp = false) (hx : x.op.cls ≠ .eff) (hyd : y.op.cls ≠ .eff) (h : awOM P gs x (awOM P gs y K) s) : awOM P gs y (awOM P gs x K) s := by
  obtain ⟨e, n, H⟩ := s
  rw [awOM_plain hxs] at h
  obtain ⟨v, hv, hy⟩ := (det_o hx).1 h
  obtain ⟨u1, u2, perm⟩ := apart1 hap
  refine awOM_move (e := putO e x.dst v) (fun t ht => by rw [get_putO, if_neg (u1 t ht)]) (awOM_rd hyd hy) fun r n' H' hk => ?_
  rw [awOM_plain hxs]
  have hH : H' = H := hk.2
  exact (det_o hx).2 ⟨v, DVo_congr (fun t ht => by rw [get_putO, if_neg (u2 t ht)]) (.inr hH.symm) hv, hK _ _ _ _ (perm e v r) hk.1⟩
theorem sp_load {y : AOper} (h : y.sp = true) (hc : y.op.cls = .rd) : ∃ d sh p, y = ⟨d, .load sh p, none⟩ := by
  unfold AOper.sp at h
  split at h
  · exact ⟨_, _, _, rfl⟩
  · cases hc
  · cases hc
  · cases h
theorem drw_late (gs : List Nat) : Drw P (awOM P gs) fun x y => x.op.cls.comm y.op.cls || x.late y := by
  refine ⟨fun h hk => awOM_mono h hk, fun hK => EInv.awOM hK, fun {x y K s} hK ha hc h => ?_, fun hs h => awOM_down hs h⟩
  simp only [Bool.or_eq_true] at hc
  rcases hc with hc | hc
  · cases hxc : x.op.cls with
    | pure => exact swap_pure hK ha hxc h
    | eff => rw [hxc] at hc; cases hyc : y.op.cls <;> rw [hyc] at hc <;> cases hc
    | rd =>
      have hyd : y.op.cls ≠ .eff := by intro hyc; rw [hxc, hyc] at hc; cases hc
      by_cases hxs : x.sp = true
      · obtain ⟨d, sh, p, rfl⟩ := sp_load hxs hxc
        exact swap_load hK ha (fun h => awOM_mono (awOM_rd hyd h) fun s' h' => ⟨h'.1, fun k ob hk => by rw [h'.2]; exact hk⟩) h
      · exact swap_rd hK ha (by simpa using hxs) (by rw [hxc]; intro h; cases h) hyd h
  · unfold AOper.late at hc
    split at hc
    · refine swap_load hK ha (fun {K e n H} h => ?_) h
      refine ⟨h.1, fun g hg hn => ⟨h.2 g hg hn, fun k ob hk => ?_⟩⟩
      have hkg : k ≠ g := by
        intro e; subst e
        have := maskH_le hk
        simp only at hn
        rw [hn] at this; cases this
      rw [← hk]
      exact maskH_congr (by simp only [upd, hkg, if_false])
    · refine swap_load hK ha (fun {K e n H} h => ?_) h
      exact ⟨h.1, awOp_mono (store_mask h.1 h.2) fun s' h' => ⟨h'.1, fun k ob hk => by rw [h'.2]; exact hk⟩⟩
    · cases hc
/-- operations one behind the other -/
def WOps (W : AOper → (AS → Prop) → AS → Prop) : List AOper → (AS → Prop) → AS → Prop
  | [], K, s => K s
  | o :: os, K, s => W o (WOps W os K) s
theorem WOps_plain {os : List AOper} {K : AS → Prop} : ∀ {s : AS}, WOps (awO P) os K s = awOps P os K s := by
  induction os with
  | nil => intro s; rfl
  | cons o os ih =>
    intro s
    have : WOps (awO P) os K = awOps P os K := funext fun s => ih
    show awO P o (WOps (awO P) os K) s = _
    rw [this]; rfl
theorem WOps_late {gs : List Nat} {os : List AOper} {K : AS → Prop} : ∀ {s : AS}, WOps (awOM P gs) os K s = awOpsM P gs os K s := by
  induction os with
  | nil => intro s; rfl
  | cons o os ih =>
    intro s
    have : WOps (awOM P gs) os K = awOpsM P gs os K := funext fun s => ih
    show awOM P gs o (WOps (awOM P gs) os K) s = _
    rw [this]; rfl
section
variable {W : AOper → (AS → Prop) → AS → Prop} {C : AOper → AOper → Bool}
theorem WOps_einv (hD : Drw P W C) {os : List AOper} {K : AS → Prop} (hK : EInv K) : EInv (WOps W os K) := by
  induction os with
  | nil => exact hK
  | cons o os ih => exact hD.einv ih
theorem WOps_front (hD : Drw P W C) {y : AOper} {xs zs : List AOper} {K : AS → Prop} {s : AS} (hK : EInv K) (hsw : ∀ x ∈ xs, aApart x y = true ∧ C x y = true) (h : WOps W (xs ++ y :: zs) K s) : W y (WOps W (xs ++ zs) K) s := by
  induction xs generalizing s with
  | nil => exact h
  | cons x xs ih =>
    have h1 := hsw x List.mem_cons_self
    have h2 : W x (W y (WOps W (xs ++ zs) K)) s := hD.mono h fun s' hs' => ih (fun z hz => hsw z (List.mem_cons_of_mem _ hz)) hs'
    exact hD.swap (WOps_einv hD hK) h1.1 h1.2 h2
end
/-- an operation is drawn ahead of others -/
theorem awOps_front {y : AOper} {xs zs : List AOper} {K : AS → Prop} {s : AS} (hK : EInv K) (hsw : ∀ x ∈ xs, aApart x y = true ∧ x.op.cls.comm y.op.cls = true) (h : awOps P (xs ++ y :: zs) K s) : awO P y (awOps P (xs ++ zs) K) s := by
  induction xs generalizing s with
  | nil => exact h
  | cons x xs ih =>
    have h1 := hsw x List.mem_cons_self
    have h2 : awO P x (awO P y (awOps P (xs ++ zs) K)) s := awO_mono h fun s' hs' => ih (fun z hz => hsw z (List.mem_cons_of_mem _ hz)) hs'
    exact awO_swap (EInv.awOps hK) h1.1 h1.2 h2
end
end Go.Proofs.YtnmkpadgogbgkaaDoor

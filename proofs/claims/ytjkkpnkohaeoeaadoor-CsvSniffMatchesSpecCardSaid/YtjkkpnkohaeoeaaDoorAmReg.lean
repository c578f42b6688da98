/- Operations in whatever order they are carried out; no condition. -/
import Derived.Test.YtjkkpnkohaeoeaaDoorAmOp2
set_option linter.all false
set_option linter.unusedSimpArgs false
set_option linter.unusedVariables false
namespace Go.Proofs.YtjkkpnkohaeoeaaDoor
open Go.RowKit

section
variable {P : Program} {e e' : AEnv} {n : Nat} {H : AHeap}

theorem ev_congr {x : Opd} {l : List Nat} (hx : ∀ t ∈ x.use, t ∈ l) (h : ∀ t ∈ l, get e t = get e' t) : ev e x = ev e' x := by
  cases x with
  | t i => exact h i (hx i (by simp [Opd.use]))
  | c v => rfl
theorem evL_congr {xs : List Opd} {l : List Nat} (hx : ∀ t ∈ useL xs, t ∈ l) (h : ∀ t ∈ l, get e t = get e' t) : xs.map (ev e) = xs.map (ev e') := by
  induction xs with
  | nil => rfl
  | cons x xs ih =>
    simp only [useL, List.mem_append] at hx
    rw [List.map_cons, List.map_cons, ev_congr (fun t ht => hx t (.inl ht)) h, ih fun t ht => hx t (.inr ht)]
theorem evO_congr {x : Option Opd} {l : List Nat} (hx : ∀ t ∈ useO x, t ∈ l) (h : ∀ t ∈ l, get e t = get e' t) : x.map (ev e) = x.map (ev e') := by
  cases x with
  | none => rfl
  | some x => simp only [Option.map_some]; rw [ev_congr (x := x) hx h]
theorem evP_congr {ps : List (Nat × Shp × Opd)} {l : List Nat} (hx : ∀ t ∈ useP ps, t ∈ l) (h : ∀ t ∈ l, get e t = get e' t) : ps.map (fun x => (x.1, x.2.1, ev e x.2.2)) = ps.map (fun x => (x.1, x.2.1, ev e' x.2.2)) ∧ ps.map (fun x => (x.1, ev e x.2.2)) = ps.map (fun x => (x.1, ev e' x.2.2)) := by
  induction ps with
  | nil => exact ⟨rfl, rfl⟩
  | cons x xs ih =>
    simp only [useP, List.mem_append] at hx
    obtain ⟨i1, i2⟩ := ih fun t ht => hx t (.inr ht)
    have h1 : ev e x.2.2 = ev e' x.2.2 := ev_congr (fun t ht => hx t (.inl ht)) h
    constructor
    · rw [List.map_cons, List.map_cons, h1, i1]
    · rw [List.map_cons, List.map_cons, h1, i2]

theorem pe_congr {op : AOp} (h : ∀ t ∈ op.uses, get e t = get e' t) : pe op e H = pe op e' H := by
  cases op <;> simp only [pe] <;> simp only [AOp.uses] at h
  case mv x => rw [ev_congr (fun _ ht => ht) h]
  case pick c x y => rw [ev_congr (x := c) (by simp +contextual) h, ev_congr (x := x) (by simp +contextual) h, ev_congr (x := y) (by simp +contextual) h]
  case bin o x y => rw [ev_congr (x := x) (by simp +contextual) h, ev_congr (x := y) (by simp +contextual) h]
  case eqs k g x y => rw [ev_congr (x := x) (by simp +contextual) h, ev_congr (x := y) (by simp +contextual) h]
  case eqb g x y => rw [ev_congr (x := x) (by simp +contextual) h, ev_congr (x := y) (by simp +contextual) h]
  case eqn g x => rw [ev_congr (fun _ ht => ht) h]
  case eqp g x => rw [ev_congr (fun _ ht => ht) h]
  case neg x => rw [ev_congr (fun _ ht => ht) h]
  case not x => rw [ev_congr (fun _ ht => ht) h]
  case cvi k x => rw [ev_congr (fun _ ht => ht) h]
  case mkfn f a b => rw [evL_congr (xs := a) (by simp +contextual) h, evL_congr (xs := b) (by simp +contextual) h]
  case cut sz x lo hi => rw [ev_congr (x := x) (by simp +contextual) h, evO_congr (x := lo) (by simp +contextual) h, evO_congr (x := hi) (by simp +contextual) h]
  case cutS x lo hi => rw [ev_congr (x := x) (by simp +contextual) h, evO_congr (x := lo) (by simp +contextual) h, evO_congr (x := hi) (by simp +contextual) h]
  case faddr x o s => rw [ev_congr (fun _ ht => ht) h]
  case field x o s => rw [ev_congr (fun _ ht => ht) h]
  case iaddr z s x i => rw [ev_congr (x := x) (by simp +contextual) h, ev_congr (x := i) (by simp +contextual) h]
  case aaddr k z s x i => rw [ev_congr (x := x) (by simp +contextual) h, ev_congr (x := i) (by simp +contextual) h]
  case sidx x i => rw [ev_congr (x := x) (by simp +contextual) h, ev_congr (x := i) (by simp +contextual) h]
  case aidx k z s x i => rw [ev_congr (x := x) (by simp +contextual) h, ev_congr (x := i) (by simp +contextual) h]
  case len x => rw [ev_congr (fun _ ht => ht) h]
  case lenS x => rw [ev_congr (fun _ ht => ht) h]
  case extr x i => rw [ev_congr (fun _ ht => ht) h]
  case nilck x => rw [ev_congr (fun _ ht => ht) h]
  case load s x => rw [ev_congr (fun _ ht => ht) h]
  case build z ps =>
    obtain ⟨h1, h2⟩ := evP_congr (ps := ps) (fun _ ht => ht) h
    rw [h1, h2]
  case mm m x y => rw [ev_congr (x := x) (by simp +contextual) h, ev_congr (x := y) (by simp +contextual) h]
  case b2s x => rw [ev_congr (fun _ ht => ht) h]
  case upc x => rw [ev_congr (fun _ ht => ht) h]
  case usd el x => rw [ev_congr (fun _ ht => ht) h]
  case eqpp ng x y => rw [ev_congr (x := x) (by simp +contextual) h, ev_congr (x := y) (by simp +contextual) h]
  case r2s x => rw [ev_congr (fun _ ht => ht) h]

/-- an operation, from values that agree where it looks -/
theorem awOp_move {d : Option Nat} {op : AOp} {K K' : AS → Prop} (h : ∀ t ∈ op.uses, get e t = get e' t) (ha : awOp P d op K ⟨e, n, H⟩) (hk : ∀ r n' H', K ⟨putO e d r, n', H'⟩ → K' ⟨putO e' d r, n', H'⟩) : awOp P d op K' ⟨e', n, H⟩ := by
  by_cases hef : op.eff = false
  · rw [awOp_pure hef] at ha ⊢
    rw [← pe_congr (H := H) h]
    exact K1.mono ha fun v hv => hk v n H hv
  · cases op <;> first | exact absurd rfl hef | skip
    case alloc t z => exact ⟨ha.1, fun g hg => hk _ _ _ (ha.2 g hg)⟩
    case box t s x =>
      have hx := ev_congr (x := x) (fun _ ht => ht) h
      simp only [awOp] at ha ⊢
      rw [← hx]
      exact ⟨ha.1, ha.2.1, fun g hg => hk _ _ _ (ha.2.2 g hg)⟩
    case store s x v =>
      have hx := ev_congr (x := x) (by simp +contextual [AOp.uses]) h
      have hv := ev_congr (x := v) (by simp +contextual [AOp.uses]) h
      simp only [awOp] at ha ⊢
      rw [← hx, ← hv]
      unfold storeK at ha ⊢
      split at ha
      · split at ha
        · rename_i e0 cs hg
          simp only at hg ⊢
          rw [hg]
          exact ⟨ha.1, ha.2.1, ha.2.2.1, hk _ _ _ ha.2.2.2⟩
        · exact ha.elim
      · exact ha
    case bsl t s xs =>
      have hx := evL_congr (xs := xs) (fun _ ht => ht) h
      simp only [awOp] at ha ⊢
      rw [← hx]
      refine ⟨fun x hx' => ?_, fun g hg => hk _ _ _ (ha.2 g hg)⟩
      rw [← ev_congr (x := x) (e := e) (e' := e') (l := useL xs) ?_ h]
      · exact ha.1 x hx'
      · clear ha h hx hef
        induction xs with
        | nil => simp at hx'
        | cons y ys ih =>
          intro t ht
          simp only [useL, List.mem_append]
          rcases List.mem_cons.1 hx' with rfl | hx'
          · exact .inl ht
          · exact .inr (ih hx' t ht)
    case app t z b x y =>
      have hx := ev_congr (x := x) (by simp +contextual [AOp.uses]) h
      have hy := ev_congr (x := y) (by simp +contextual [AOp.uses]) h
      simp only [awOp] at ha ⊢
      rw [← hx, ← hy]
      unfold appKS at ha ⊢
      split at ha
      · obtain ⟨h1, m', h2, h3⟩ := ha
        exact ⟨h1, m', h2, appK_move h3 hk⟩
      · exact ha
    case appB t b x y =>
      have hx := ev_congr (x := x) (by simp +contextual [AOp.uses]) h
      have hy := ev_congr (x := y) (by simp +contextual [AOp.uses]) h
      simp only [awOp] at ha ⊢
      rw [← hx, ← hy]
      unfold appKB at ha ⊢
      split at ha
      · exact appK_move ha hk
      · exact ha
    case s2b t x =>
      have hx := ev_congr (x := x) (fun _ ht => ht) h
      simp only [awOp] at ha ⊢
      rw [← hx]
      split at ha
      · exact ⟨ha.1, fun n' hn => hk _ _ _ (ha.2 n' hn)⟩
      · exact ha
    case s2s x =>
      have hx := ev_congr (x := x) (fun _ ht => ht) h
      simp only [awOp] at ha ⊢
      rw [← hx]
      split at ha
      · exact ⟨ha.1, hk _ _ _ ha.2⟩
      · exact ha
    case updn u x =>
      have hx := ev_congr (x := x) (fun _ ht => ht) h
      simp only [awOp] at ha ⊢
      rw [← hx]
      exact K1.mono ha fun v hv => hk _ _ _ hv
    case ust t x k =>
      have hx := ev_congr (x := x) (by simp +contextual [AOp.uses]) h
      have hy := ev_congr (x := k) (by simp +contextual [AOp.uses]) h
      simp only [awOp] at ha ⊢
      rw [← hx, ← hy]
      exact K1.mono ha fun v hv => hk _ _ _ hv
    case call f xs =>
      have hx := evL_congr (xs := xs) (fun _ ht => ht) h
      simp only [awOp] at ha ⊢
      rw [← hx]
      obtain ⟨R, h1, h2⟩ := ha
      exact ⟨R, h1, fun r n' H' a b c => hk _ _ _ (h2 r n' H' a b c)⟩
    case callp f xs =>
      have hx := evL_congr (xs := xs) (fun _ ht => ht) h
      simp only [awOp] at ha ⊢
      rw [← hx]
      obtain ⟨args', v, h1, hs, h2⟩ := ha
      exact ⟨args', v, h1, hs, hk _ _ _ h2⟩
    case callv x xs =>
      have hx := ev_congr (x := x) (by simp +contextual [AOp.uses]) h
      have hxs := evL_congr (xs := xs) (by simp +contextual [AOp.uses]) h
      simp only [awOp] at ha ⊢
      rw [← hx, ← hxs]
      split at ha
      · obtain ⟨hc, R, h1, h2⟩ := ha
        exact ⟨hc, R, h1, fun r n' H' a b c => hk _ _ _ (h2 r n' H' a b c)⟩
      · exact ha
theorem awO_move {o : AOper} {K K' : AS → Prop} (h : ∀ t ∈ o.uses, get e t = get e' t) (ha : awO P o K ⟨e, n, H⟩) (hk : ∀ r n' H', K ⟨putO e o.dst r, n', H'⟩ → K' ⟨putO e' o.dst r, n', H'⟩) : awO P o K' ⟨e', n, H⟩ := by
  have hop : ∀ t ∈ o.op.uses, get e t = get e' t := fun t ht => h t (List.mem_append_left _ ht)
  unfold awO at ha ⊢
  split at ha
  · exact awOp_move hop ha hk
  · rename_i t want hg
    have ht : get e t = get e' t := h t (List.mem_append_right _ (by rw [hg]; simp))
    simp only at ha ⊢
    rw [← ht]
    split at ha
    · exact ⟨fun hb => awOp_move hop (ha.1 hb) hk, fun hb => hk _ _ _ (ha.2 hb)⟩
    · exact ha

/-! ### what has one outcome -/
def DV (P : Program) (op : AOp) (e : AEnv) (H : AHeap) (v : AV) : Prop :=
  match op with
  | .callp f xs => ∃ args', APure P f args' v ∧ simL (xs.map (ev e)) args'
  | .updn u x => updnAV P H u (ev e x) = some v
  | .ust t x k => ustAV t (ev e x) (ev e k) = some v
  | op => pe op e H = some v
def DVo (P : Program) (o : AOper) (e : AEnv) (H : AHeap) (v : AV) : Prop :=
  match o.guard with
  | none => DV P o.op e H v
  | some (t, want) => ∃ b, get e t = .bool b ∧ (b = want → DV P o.op e H v) ∧ (b ≠ want → v = .any)
theorem det_op {d : Option Nat} {op : AOp} {K : AS → Prop} (hc : op.cls ≠ .eff) : awOp P d op K ⟨e, n, H⟩ ↔ ∃ v, DV P op e H v ∧ K ⟨putO e d v, n, H⟩ := by
  by_cases hef : op.eff = false
  · rw [awOp_pure hef, K1_iff]
    have : ∀ v, DV P op e H v ↔ pe op e H = some v := fun v => by cases op <;> first | rfl | (exact absurd hef (by simp [AOp.eff]))
    simp only [this]
  · cases op <;> first | exact absurd rfl hef | exact absurd rfl hc | rfl | (simp only [awOp, K1_iff, DV]; done) | (simp only [awOp, DV]; exact ⟨fun ⟨a, v, h1, h2, h3⟩ => ⟨v, ⟨a, h1, h2⟩, h3⟩, fun ⟨v, ⟨a, h1, h2⟩, h3⟩ => ⟨a, v, h1, h2, h3⟩⟩)
theorem det_o {o : AOper} {K : AS → Prop} (hc : o.op.cls ≠ .eff) : awO P o K ⟨e, n, H⟩ ↔ ∃ v, DVo P o e H v ∧ K ⟨putO e o.dst v, n, H⟩ := by
  unfold awO DVo
  cases hg : o.guard with
  | none => exact det_op hc
  | some p =>
    obtain ⟨t, want⟩ := p
    simp only
    constructor
    · intro h
      split at h
      · rename_i b hb
        by_cases hw : b = want
        · obtain ⟨v, h1, h2⟩ := (det_op hc).1 (h.1 hw)
          exact ⟨v, ⟨b, hb, fun _ => h1, fun h => absurd hw h⟩, h2⟩
        · exact ⟨.any, ⟨b, hb, fun h => absurd h hw, fun _ => rfl⟩, h.2 hw⟩
      · exact h.elim
    · rintro ⟨v, ⟨b, hb, h1, h2⟩, hk⟩
      rw [hb]
      simp only
      refine ⟨fun hw => (det_op hc).2 ⟨v, h1 hw, hk⟩, fun hw => ?_⟩
      rw [h2 hw] at hk; exact hk
theorem DV_congr {op : AOp} {H' : AHeap} {v : AV} (h : ∀ t ∈ op.uses, get e t = get e' t) (hH : op.cls = .pure ∨ H = H') (hd : DV P op e H v) : DV P op e' H' v := by
  have key : op.eff = false → op.cls = .pure ∨ op.cls = .rd → pe op e H = some v → pe op e' H' = some v := by
    intro _ hcl hp
    rcases hH with hH | hH
    · have : pe op e' H' = pe op e' H := by cases op <;> first | rfl | cases hH
      rw [this, ← pe_congr (H := H) h]; exact hp
    · subst hH; rw [← pe_congr (H := H) h]; exact hp
  cases op <;> first | exact key rfl (by simp [AOp.cls]) hd | (simp only [DV, pe] at hd; cases hd; done) | skip
  case updn u x =>
    rcases hH with hH | hH
    · cases hH
    · subst hH
      simp only [DV] at hd ⊢
      rw [← ev_congr (x := x) (fun _ ht => ht) h]; exact hd
  case ust t x k =>
    simp only [DV] at hd ⊢
    rw [← ev_congr (x := x) (by simp +contextual [AOp.uses]) h, ← ev_congr (x := k) (by simp +contextual [AOp.uses]) h]; exact hd
  case callp f xs =>
    simp only [DV] at hd ⊢
    rw [← evL_congr (xs := xs) (fun _ ht => ht) h]; exact hd
theorem DVo_congr {o : AOper} {H' : AHeap} {v : AV} (h : ∀ t ∈ o.uses, get e t = get e' t) (hH : o.op.cls = .pure ∨ H = H') (hd : DVo P o e H v) : DVo P o e' H' v := by
  have hop : ∀ t ∈ o.op.uses, get e t = get e' t := fun t ht => h t (List.mem_append_left _ ht)
  unfold DVo at hd ⊢
  cases hg : o.guard with
  | none => rw [hg] at hd; exact DV_congr hop hH hd
  | some p =>
    obtain ⟨t, want⟩ := p
    rw [hg] at hd
    obtain ⟨b, hb, h1, h2⟩ := hd
    have ht : get e t = get e' t := h t (List.mem_append_right _ (by rw [hg]; simp))
    exact ⟨b, by rw [← ht]; exact hb, fun hw => DV_congr hop hH (h1 hw), h2⟩

/-- the order of the environment's entries does not matter -/
def EInv (K : AS → Prop) : Prop := ∀ e e' n H, (∀ t, get e t = get e' t) → K ⟨e, n, H⟩ → K ⟨e', n, H⟩
theorem get_putO (e : AEnv) (d : Option Nat) (v : AV) (k : Nat) : get (putO e d v) k = if d = some k then v else get e k := by
  cases d with
  | none => simp [putO]
  | some t =>
    simp only [putO, get_put, Option.some.injEq]
    by_cases hk : k = t
    · subst hk; simp
    · have : ¬ t = k := fun e => hk e.symm
      simp [hk, this]
theorem EInv.awO {o : AOper} {K : AS → Prop} (hK : EInv K) : EInv (awO P o K) := fun e e' n H h ha =>
  awO_move (fun t _ => h t) ha fun r n' H' hk => hK _ _ _ _ (fun t => by simp only [get_putO, h]) hk
theorem EInv.awOps {os : List AOper} {K : AS → Prop} (hK : EInv K) : EInv (awOps P os K) := by
  induction os with
  | nil => exact hK
  | cons o os ih => exact EInv.awO ih

/-- two operations one behind the other, exchanged -/
theorem awO_swap {x y : AOper} {K : AS → Prop} {s : AS} (hK : EInv K) (hap : aApart x y = true) (hcm : x.op.cls.comm y.op.cls = true) (h : awO P x (awO P y K) s) : awO P y (awO P x K) s := by
  obtain ⟨e, n, H⟩ := s
  have hx : x.op.cls ≠ .eff := by intro hc; rw [hc] at hcm; cases hy : y.op.cls <;> rw [hy] at hcm <;> cases hcm
  obtain ⟨v, hv, hy⟩ := (det_o hx).1 h
  simp only [aApart, Bool.and_eq_true] at hap
  obtain ⟨hap1, hap2⟩ := hap
  have u1 : ∀ t ∈ y.uses, ¬ x.dst = some t := by
    intro t ht hd
    rw [hd] at hap1
    simp only [Bool.and_eq_true, Bool.not_eq_true', List.contains_eq_mem, decide_eq_false_iff_not] at hap1
    exact hap1.1 ht
  have u2 : ∀ t ∈ x.uses, ¬ y.dst = some t := by
    intro t ht hd
    rw [hd] at hap2
    simp only [Bool.not_eq_true', List.contains_eq_mem, decide_eq_false_iff_not] at hap2
    exact hap2 ht
  have u3 : ∀ t, x.dst = some t → ¬ y.dst = some t := by
    intro t hd hd'
    rw [hd, hd'] at hap1
    simp at hap1
  have perm : ∀ r t, get (putO (putO e x.dst v) y.dst r) t = get (putO (putO e y.dst r) x.dst v) t := by
    intro r t
    simp only [get_putO]
    by_cases h1 : x.dst = some t
    · simp [h1, u3 t h1]
    · simp [h1]
  have agreeX : ∀ r, ∀ t ∈ x.uses, get e t = get (putO e y.dst r) t := fun r t ht => by rw [get_putO, if_neg (u2 t ht)]
  by_cases hyd : y.op.cls = .eff
  · have hxp : x.op.cls = .pure := by cases hxc : x.op.cls <;> rw [hxc, hyd] at hcm <;> first | rfl | cases hcm
    refine awO_move (e := putO e x.dst v) (fun t ht => by rw [get_putO, if_neg (u1 t ht)]) hy fun r n' H' hk => ?_
    exact (det_o hx).2 ⟨v, DVo_congr (agreeX r) (.inl hxp) hv, hK _ _ _ _ (perm r) hk⟩
  · obtain ⟨r, hr, hk⟩ := (det_o hyd).1 hy
    refine (det_o hyd).2 ⟨r, DVo_congr (fun t ht => by rw [get_putO, if_neg (u1 t ht)]) (.inr rfl) hr, ?_⟩
    exact (det_o hx).2 ⟨v, DVo_congr (agreeX r) (.inr rfl) hv, hK _ _ _ _ (perm r) hk⟩
/-- an operation is drawn ahead of others -/
theorem awOps_front {y : AOper} {xs zs : List AOper} {K : AS → Prop} {s : AS} (hK : EInv K) (hsw : ∀ x ∈ xs, aApart x y = true ∧ x.op.cls.comm y.op.cls = true) (h : awOps P (xs ++ y :: zs) K s) : awO P y (awOps P (xs ++ zs) K) s := by
  induction xs generalizing s with
  | nil => exact h
  | cons x xs ih =>
    have h1 := hsw x List.mem_cons_self
    have h2 : awO P x (awO P y (awOps P (xs ++ zs) K)) s := awO_mono h fun s' hs' => ih (fun z hz => hsw z (List.mem_cons_of_mem _ hz)) hs'
    exact awO_swap (EInv.awOps hK) h1.1 h1.2 h2
end
end Go.Proofs.YtjkkpnkohaeoeaaDoor

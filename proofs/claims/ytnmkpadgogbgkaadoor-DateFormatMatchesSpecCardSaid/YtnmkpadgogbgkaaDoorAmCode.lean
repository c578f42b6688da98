/- Whole functions agree with their code on plain data; no condition. -/
import Derived.Test.YtnmkpadgogbgkaaDoorAmReg2
set_option linter.all false
set_option linter.unusedSimpArgs false
set_option linter.unusedVariables false
namespace Go.Proofs.YtnmkpadgogbgkaaDoor
open Go.RowKit

section
variable {P : Program} {w w' w0 : World} {G : Gh} {nt : Nat} {s : AS} {a : Act} {ef : List Nat} {Q : Exit → Act → World → Prop}

theorem cReg_kind {ops : Array Oper} {draw : Bool} {ac : ACode} (h : cReg P ef nt ops draw = some ac) : (∃ os, ac = .reg os) ∨ (∃ S os, ac = .regD S os) ∨ ac = .bad := by
  unfold cReg at h
  split at h
  · split at h
    · obtain ⟨aos, h1, h2⟩ := Option.map_eq_some_iff.1 h
      exact .inr (.inl ⟨_, _, h2.symm⟩)
    · injection h with h; exact .inr (.inr h.symm)
  · obtain ⟨aos, h1, h2⟩ := Option.map_eq_some_iff.1 h
    exact .inl ⟨_, h2.symm⟩
theorem cReg_reg {ops : Array Oper} {draw : Bool} {os : List AOper} (h : cReg P ef nt ops draw = some (.reg os)) : (draw && !ordOk P ef ops nt) = false ∧ cOpers P ef ops nt ops.toList = some os := by
  unfold cReg at h
  split at h
  · split at h
    · obtain ⟨aos, h1, h2⟩ := Option.map_eq_some_iff.1 h
      cases h2
    · cases h
  · rename_i hd
    obtain ⟨aos, h1, h2⟩ := Option.map_eq_some_iff.1 h
    injection h2 with h2; subst h2
    exact ⟨by simpa using hd, h1⟩
theorem cReg_regD {ops : Array Oper} {draw : Bool} {S : List Nat} {os : List AOper} (h : cReg P ef nt ops draw = some (.regD S os)) : draw = true ∧ ordOkD P ef ops nt = true ∧ cOpers P ef ops nt ops.toList = some os := by
  unfold cReg at h
  split at h
  · rename_i hd
    split at h
    · rename_i ho
      obtain ⟨aos, h1, h2⟩ := Option.map_eq_some_iff.1 h
      injection h2 with h2 h3; subst h3
      exact ⟨by revert hd; cases draw <;> simp, ho, h1⟩
    · cases h
  · obtain ⟨aos, h1, h2⟩ := Option.map_eq_some_iff.1 h
    cases h2

theorem region_sound {id : Nat} {ops : Array Oper} {draw : Bool} {aos : List AOper} {K : AS → Prop} (hd : (draw && !ordOk P ef ops nt) = false) (hc : cOpers P ef ops nt ops.toList = some aos) (hr : RelS P w0 nt G s a w) (h : awOps P aos K s) (hq : ∀ a' w', After P w0 nt G K a' w' → Q .normal a' w') :
    (Code.region id ops draw).wp P Q a w := by
  have hlen := cOpers_len hc
  have hmap : (List.range ops.size).map (aAt aos) = aos := by
    have := range_map_aAt aos
    rw [hlen] at this
    simpa using this
  cases draw with
  | false =>
    refine wp_region (ops_sound hc (List.range ops.size) (fun i hi => by simpa using hi) hr ?_ hq)
    rw [hmap]; exact h
  | true =>
    have ho := ordOk_spec (P := P) (ef := ef) (ops := ops) (nt := nt) (by simpa using hd)
    let K' : AS → Prop := fun s => ∃ e', (∀ t, get e' t = get s.e t) ∧ K ⟨e', s.n, s.H⟩
    have hK : EInv K' := fun e e' n H he ⟨e1, h1, h2⟩ => ⟨e1, fun t => (h1 t).trans (he t), h2⟩
    have h' : WOps (awO P) aos K' s := by
      rw [WOps_plain]
      exact awOps_mono h fun s' hs' => ⟨s'.e, fun _ => rfl, hs'⟩
    have hleft : left ops (Array.replicate ops.size false) = List.range ops.size := by
      simp only [left]
      rw [List.filter_eq_self]
      intro i hi
      have hi' : i < ops.size := by simpa using hi
      simp [Array.getD_eq_getD_getElem?, hi']
    have hr' : RelS P w0 nt G s a { w with drawn := w.drawn + 1 } := ⟨hr.r0.same rfl rfl rfl rfl, hr.sz, hr.df, hr.ld, hr.tm⟩
    refine wp_region_any ho.mixed (draw_sound drw_plain hc ho hK ops.size (Array.replicate ops.size false) (by simp) (by rw [hleft]; simp) ?_ hr' (by rw [hleft, hmap]; exact h') ?_)
    · intro i o _ hl
      rw [Array.getD_eq_getD_getElem?, Array.getElem?_replicate] at hl
      split at hl <;> cases hl
    · rintro a' w1 ⟨G1, s1, ⟨e1, h1, h2⟩, h3, h4⟩
      exact hq a' w1 ⟨G1, ⟨e1, s1.n, s1.H⟩, h2, h3, h4.env fun t => .inr (h1 t)⟩

theorem region_late {id : Nat} {ops : Array Oper} {aos : List AOper} {gs : List Nat} {K : AS → Prop} (hd : ordOkD P ef ops nt = true) (hc : cOpers P ef ops nt ops.toList = some aos) (hr : RelS P w0 nt G s a w) (h : awOpsM P gs aos K s) (hq : ∀ a' w', After P w0 nt G K a' w' → Q .normal a' w') :
    (Code.region id ops true).wp P Q a w := by
  have hlen := cOpers_len hc
  have hmap : (List.range ops.size).map (aAt aos) = aos := by
    have := range_map_aAt aos
    rw [hlen] at this
    simpa using this
  have ho := ordOkD_spec (P := P) (ef := ef) (ops := ops) (nt := nt) hd
  let K' : AS → Prop := fun s => ∃ e', (∀ t, get e' t = get s.e t) ∧ K ⟨e', s.n, s.H⟩
  have hK : EInv K' := fun e e' n H he ⟨e1, h1, h2⟩ => ⟨e1, fun t => (h1 t).trans (he t), h2⟩
  have h' : WOps (awOM P gs) aos K' s := by
    rw [WOps_late]
    exact awOpsM_mono h fun s' hs' => ⟨s'.e, fun _ => rfl, hs'⟩
  have hleft : left ops (Array.replicate ops.size false) = List.range ops.size := by
    simp only [left]
    rw [List.filter_eq_self]
    intro i hi
    have hi' : i < ops.size := by simpa using hi
    simp [Array.getD_eq_getD_getElem?, hi']
  have hr' : RelS P w0 nt G s a { w with drawn := w.drawn + 1 } := ⟨hr.r0.same rfl rfl rfl rfl, hr.sz, hr.df, hr.ld, hr.tm⟩
  refine wp_region_any ho.mixed (draw_sound (drw_late gs) hc ho hK ops.size (Array.replicate ops.size false) (by simp) (by rw [hleft]; simp) ?_ hr' (by rw [hleft, hmap]; exact h') ?_)
  · intro i o _ hl
    rw [Array.getD_eq_getD_getElem?, Array.getElem?_replicate] at hl
    split at hl <;> cases hl
  · rintro a' w1 ⟨G1, s1, ⟨e1, h1, h2⟩, h3, h4⟩
    exact hq a' w1 ⟨G1, ⟨e1, s1.n, s1.H⟩, h2, h3, h4.env fun t => .inr (h1 t)⟩

def exR : AExit → Exit
  | .normal => .normal
  | .exit id => .exit id
  | .ret => .ret

theorem get_putO_ne {e : AEnv} {d : Option Nat} {t : Nat} {v : AV} (h : d ≠ some t) : get (putO e d v) t = get e t := by
  rw [get_putO, if_neg h]
theorem gd_ops {t : Nat} {want : Bool} : ∀ (ops : List AOper) {K : AS → Prop} {s : AS}, (ops.all fun o => o.guard.isNone && o.dst != some t) = true → get s.e t = .bool want → awOps P ops K s →
    awOps P (ops.map fun o => { o with guard := some (t, want) }) K s
  | [], K, s, _, _, h => h
  | o :: os, K, s, hok, hg, h => by
    simp only [List.all_cons, Bool.and_eq_true, bne_iff_ne, ne_eq] at hok
    obtain ⟨⟨h1, h2⟩, h3⟩ := hok
    simp only [awOps, awO] at h
    obtain ⟨d, op, g⟩ := o
    simp only [Option.isNone_iff_eq_none] at h1
    subst h1
    simp only [List.map_cons, awOps, awO, hg]
    obtain ⟨e, n, H⟩ := s
    refine ⟨fun _ => awOp_move (fun _ _ => rfl) h fun r n' H' h' => gd_ops os (by simpa using h3) ?_ h', fun hb => absurd rfl hb⟩
    simp only at hg h2 ⊢
    rw [get_putO_ne h2]; exact hg
theorem gd_no {t : Nat} {want b : Bool} (hb : b ≠ want) : ∀ (ops : List AOper) {K : AS → Prop} {s : AS}, (ops.all fun o => o.guard.isNone && o.dst != some t) = true → get s.e t = .bool b → K ⟨undE s.e ops, s.n, s.H⟩ →
    awOps P (ops.map fun o => { o with guard := some (t, want) }) K s
  | [], K, s, _, _, h => h
  | o :: os, K, s, hok, hg, h => by
    simp only [List.all_cons, Bool.and_eq_true, bne_iff_ne, ne_eq] at hok
    obtain ⟨⟨h1, h2⟩, h3⟩ := hok
    simp only [List.map_cons, awOps, awO, hg]
    refine ⟨fun e => absurd e hb, fun _ => gd_no hb os (by simpa using h3) ?_ h⟩
    rw [get_putO_ne h2]; exact hg
theorem gd_und {t : Nat} {want : Bool} : ∀ (ops : List AOper) {K : AS → Prop} {s : AS}, (ops.all fun o => o.guard.isNone && o.dst != some t) = true → get s.e t = .und → K ⟨undE s.e ops, s.n, s.H⟩ →
    awOps P (ops.map fun o => { o with guard := some (t, want) }) K s
  | [], K, s, _, _, h => h
  | o :: os, K, s, hok, hg, h => by
    simp only [List.all_cons, Bool.and_eq_true, bne_iff_ne, ne_eq] at hok
    obtain ⟨⟨h1, h2⟩, h3⟩ := hok
    simp only [List.map_cons, awOps, awO, hg]
    refine gd_und os (by simpa using h3) ?_ h
    rw [get_putO_ne h2]; exact hg
theorem awOps_append {xs ys : List AOper} {K : AS → Prop} {s : AS} : awOps P (xs ++ ys) K s ↔ awOps P xs (awOps P ys K) s := by
  induction xs generalizing s with
  | nil => rfl
  | cons x xs ih =>
    simp only [List.cons_append, awOps]
    exact ⟨fun h => awO_mono h fun s h => ih.1 h, fun h => awO_mono h fun s h => ih.2 h⟩
theorem eval_ops : ∀ (ops : List AOper) {e e' : AEnv} {n : Nat} {H : AHeap} {K : AS → Prop}, (ops.all fun o => o.guard.isNone) = true → evalOps ops e H = some e' → K ⟨e', n, H⟩ → awOps P ops K ⟨e, n, H⟩
  | [], e, e', n, H, K, _, h, hk => by simp only [evalOps] at h; injection h with h; subst h; exact hk
  | o :: os, e, e', n, H, K, hok, h, hk => by
    simp only [List.all_cons, Bool.and_eq_true, Option.isNone_iff_eq_none] at hok
    simp only [evalOps] at h
    split at h
    · rename_i v hv
      simp only [awOps, awO, hok.1]
      have hpe : o.op.eff = false := by
        cases hop : o.op <;> first | rfl | (rw [hop] at hv; simp [pe] at hv; done)
      rw [awOp_pure hpe, hv]
      exact eval_ops os (by simpa using hok.2) h hk
    · cases h
theorem get_anyE {t : Nat} : ∀ (ops : List AOper) {e : AEnv}, (ops.all fun o => o.dst != some t) = true → get (anyE e ops) t = get e t
  | [], e, _ => rfl
  | o :: os, e, hok => by
    simp only [List.all_cons, Bool.and_eq_true, bne_iff_ne, ne_eq] at hok
    simp only [anyE]
    rw [get_anyE os (by simpa using hok.2), get_putO_ne hok.1]
/-- it is known of the second environment no more than of the first -/
def LeE (e e' : AEnv) : Prop := ∀ t, get e' t = .any ∨ get e' t = get e t
def KW (K : AS → Prop) (s : AS) : Prop := ∃ e', LeE s.e e' ∧ K ⟨e', s.n, s.H⟩
theorem KW.of {K : AS → Prop} {s : AS} (h : K s) : KW K s := ⟨s.e, fun _ => .inr rfl, h⟩
theorem LeE.put {e e' : AEnv} (h : LeE e e') (d : Option Nat) (v : AV) : LeE (putO e d v) (putO e' d v) := fun t => by
  rw [get_putO, get_putO]; split
  · exact .inr rfl
  · exact h t
theorem LeE.tr {a b c : AEnv} (h : LeE a b) (k : LeE b c) : LeE a c := fun t => by
  rcases k t with k1 | k1
  · exact .inl k1
  · rw [k1]; exact h t
theorem ops_le {K : AS → Prop} : ∀ {os : List AOper} {e e' : AEnv} {n : Nat} {H : AHeap}, (∀ o ∈ os, ∀ t ∈ o.uses, get e' t = get e t) → LeE e e' → awOps P os (KW K) ⟨e', n, H⟩ → awOps P os (KW K) ⟨e, n, H⟩
  | [], e, e', n, H, _, hl, h => by
    obtain ⟨e2, h1, h2⟩ := h
    exact ⟨e2, hl.tr h1, h2⟩
  | o :: os, e, e', n, H, hu, hl, h => by
    refine awO_move (hu o List.mem_cons_self) h fun r n' H' h' => ops_le (fun o' ho t ht => ?_) (hl.put _ _) h'
    rw [get_putO, get_putO]; split
    · rfl
    · exact hu o' (List.mem_cons_of_mem _ ho) t ht
theorem evalOps_get {t : Nat} : ∀ (ops : List AOper) {e e' : AEnv} {H : AHeap}, evalOps ops e H = some e' → (∀ o ∈ ops, o.dst ≠ some t) → get e' t = get e t
  | [], e, e', H, h, _ => by simp only [evalOps] at h; injection h with h; rw [h]
  | o :: os, e, e', H, h, ht => by
    simp only [evalOps] at h
    split at h
    · rw [evalOps_get os h (fun o' ho => ht o' (List.mem_cons_of_mem _ ho)), get_putO_ne (ht o List.mem_cons_self)]
    · cases h
theorem get_undE {t : Nat} : ∀ (ops : List AOper) {e : AEnv}, (ops.all fun o => o.dst != some t) = true → get (undE e ops) t = get e t
  | [], e, _ => rfl
  | o :: os, e, hok => by
    simp only [List.all_cons, Bool.and_eq_true, bne_iff_ne, ne_eq] at hok
    simp only [undE]
    rw [get_undE os (by simpa using hok.2), get_putO_ne hok.1]
theorem get_anyE2 {t : Nat} : ∀ (ops : List AOper) {e : AEnv}, get (anyE e ops) t = .any ∨ (get (anyE e ops) t = get e t ∧ ∀ o ∈ ops, o.dst ≠ some t)
  | [], e => .inr ⟨rfl, by simp⟩
  | o :: os, e => by
    simp only [anyE]
    rcases get_anyE2 (t := t) os (e := putO e o.dst .any) with h | ⟨h, h2⟩
    · exact .inl h
    · rw [h, get_putO]
      split
      · exact .inl rfl
      · rename_i hd
        exact .inr ⟨rfl, fun o' ho => by
          rcases List.mem_cons.1 ho with rfl | ho
          · exact hd
          · exact h2 o' ho⟩
theorem undE_le (ops : List AOper) (e : AEnv) : LeE (undE e ops) (anyE e ops) := fun t => by
  rcases get_anyE2 (t := t) ops (e := e) with h | ⟨h, h2⟩
  · exact .inl h
  · refine .inr ?_
    rw [h, get_undE ops (by rw [List.all_eq_true]; intro o ho; simpa using h2 o ho)]
theorem segs_ops : ∀ (l : List Seg) {K : AS → Prop} {s : AS}, segsOk l = true → awSegs P l K s → awOps P (l.flatMap Seg.flat) (KW K) s
  | [], K, s, _, h => KW.of h
  | ⟨none, ops, _⟩ :: l, K, s, hok, h => by
    simp only [segsOk, Bool.and_eq_true] at hok
    simp only [List.flatMap_cons, Seg.flat]
    exact awOps_append.2 (awOps_mono h fun s' h' => segs_ops l hok.2 h')
  | ⟨some (t, want), ops, some (d, x)⟩ :: l, K, s, hok, h => by
    simp only [segsOk, Bool.and_eq_true] at hok
    obtain ⟨⟨h1, h2⟩, h3⟩ := hok
    have h1 : (ops.all fun o => o.guard.isNone && o.dst != some t) = true := h1
    simp only [awSegs] at h
    obtain ⟨v, hv, hk⟩ := K1_iff.1 h
    have hk := segs_ops l h3 hk
    have hgn : ∀ o ∈ ops, o.guard.isNone = true ∧ o.dst ≠ some t := fun o ho => by
      have := List.all_eq_true.1 h1 o ho
      simp only [Bool.and_eq_true, bne_iff_ne, ne_eq] at this
      exact this
    have huse : ∀ o ∈ l.flatMap Seg.flat, ∀ t ∈ o.uses, ∀ o' ∈ ops, o'.dst ≠ some t := by
      intro o ho t ht o' ho' hd
      have h2' : (ops.all fun o => (match o.dst with | some t => !((l.flatMap Seg.flat).flatMap AOper.uses).contains t | none => true)) = true := h2
      have := List.all_eq_true.1 h2' o' ho'
      rw [hd] at this
      simp only [Bool.not_eq_true', List.contains_eq_mem, decide_eq_false_iff_not, List.mem_flatMap, not_exists, not_and] at this
      obtain ⟨sg, hs1, hs2⟩ := List.mem_flatMap.1 ho
      exact this o ⟨sg, hs1, hs2⟩ ht
    simp only [List.flatMap_cons, Seg.flat]
    rw [List.append_assoc]
    refine awOps_append.2 ?_
    obtain ⟨e, n, H⟩ := s
    simp only at hv hk ⊢
    have pick : ∀ e2, get e2 t = get e t → (∀ b, get e t = .bool b → b = want → get e2 x = v) → (∀ b, get e t = .bool b → b ≠ want → v = .bool (!want)) → (∃ b, get e t = .bool b) → LeE e2 (anyE e ops) → (∀ t, (∀ o ∈ ops, o.dst ≠ some t) → get e2 t = get e t) →
        awOps P (⟨some d, if want then .pick (.t t) (.t x) (.c (.bool false)) else .pick (.t t) (.c (.bool true)) (.t x), none⟩ :: l.flatMap Seg.flat) (KW K) ⟨e2, n, H⟩ := by
      intro e2 g1 g2 g3 ⟨b, hb⟩ g4 g5
      have hpe : pe (if want then .pick (.t t) (.t x) (.c (.bool false)) else .pick (.t t) (.c (.bool true)) (.t x)) e2 H = some v := by
        cases want
        · simp only [Bool.false_eq_true, if_false, pe, ev, g1, hb]
          cases b
          · simp only [Bool.false_eq_true, if_false]; rw [g2 false hb rfl]
          · simp only [if_true]; rw [g3 true hb (by simp)]; rfl
        · simp only [if_true, pe, ev, g1, hb]
          cases b
          · simp only [Bool.false_eq_true, if_false]; rw [g3 false hb (by simp)]; rfl
          · simp only [if_true]; rw [g2 true hb rfl]
      have heff : (if want then AOp.pick (.t t) (.t x) (.c (.bool false)) else AOp.pick (.t t) (.c (.bool true)) (.t x)).eff = false := by cases want <;> rfl
      simp only [awOps, awO]
      rw [awOp_pure heff, hpe]
      refine ops_le (fun o ho t' ht' => ?_) (g4.put (some d) v) hk
      rw [get_putO, get_putO]
      split
      · rfl
      · have hn := huse o ho t' ht'
        rw [g5 t' hn]
        rcases get_anyE2 (t := t') ops (e := e) with hx | hx
        · rw [get_anyE ops (by rw [List.all_eq_true]; intro o' ho'; simpa using hn o' ho')]
        · exact hx.1
    unfold scV at hv
    split at hv
    · rename_i b e' hb he
      split at hv
      · rename_i b' hb'
        injection hv with hv
        by_cases hbw : b = want
        · subst hbw
          refine gd_ops ops h1 hb (eval_ops ops (List.all_eq_true.2 fun o ho => (hgn o ho).1) he ?_)
          have hnt : ∀ o ∈ ops, o.dst ≠ some t := fun o ho => by have := List.all_eq_true.1 h1 o ho; simp only [Bool.and_eq_true, bne_iff_ne, ne_eq] at this; exact this.2
          refine pick e' (evalOps_get ops he hnt) (fun b2 hb2 e3 => ?_) (fun b2 hb2 e3 => ?_) ⟨_, hb⟩ (fun t' => ?_) (fun t' ht' => evalOps_get ops he ht')
          · rw [hb', ← hv]; cases b <;> simp
          · rw [hb] at hb2; injection hb2 with hb2; exact absurd hb2.symm e3
          · rcases get_anyE2 (t := t') ops (e := e) with hx | ⟨hx, hx2⟩
            · exact .inl hx
            · exact .inr (by rw [hx, evalOps_get ops he hx2])
        · refine gd_no hbw ops h1 hb ?_
          refine pick _ (get_undE ops ?_) (fun b2 hb2 e3 => ?_) (fun b2 hb2 e3 => ?_) ⟨_, hb⟩ (undE_le ops e) (fun t' ht' => get_undE ops (by rw [List.all_eq_true]; intro o' ho'; simpa using ht' o' ho'))
          · rw [List.all_eq_true]; intro o ho; have := List.all_eq_true.1 h1 o ho; simp only [Bool.and_eq_true] at this; exact this.2
          · have hb3 : b = b2 := by have := hb.symm.trans hb2; injection this
            exact absurd (hb3.trans e3) hbw
          · have hbn : b = !want := by cases b <;> cases want <;> first | rfl | exact absurd rfl hbw
            subst hbn
            rw [← hv]; cases want <;> rfl
      · cases hv
    · rename_i b hb he
      split at hv
      · cases hv
      · rename_i hbw
        injection hv with hv
        refine gd_no hbw ops h1 hb ?_
        refine pick _ (get_undE ops ?_) (fun b2 hb2 e3 => ?_) (fun b2 hb2 e3 => hv.symm) ⟨_, hb⟩ (undE_le ops e) (fun t' ht' => get_undE ops (by rw [List.all_eq_true]; intro o' ho'; simpa using ht' o' ho'))
        · rw [List.all_eq_true]; intro o ho; have := List.all_eq_true.1 h1 o ho; simp only [Bool.and_eq_true] at this; exact this.2
        · have hb3 : b = b2 := by have := hb.symm.trans hb2; injection this
          exact absurd (hb3.trans e3) hbw
    · cases hv
  | ⟨some (t, want), ops, none⟩ :: l, K, s, hok, h => by
    simp only [segsOk, Bool.and_eq_true] at hok
    have h1 : (ops.all fun o => o.guard.isNone && o.dst != some t) = true := hok.1.1
    simp only [List.flatMap_cons, Seg.flat, List.append_nil]
    refine awOps_append.2 ?_
    simp only [awSegs] at h
    unfold guardK at h
    split at h
    · rename_i b hb
      by_cases hbw : b = want
      · subst hbw
        exact gd_ops ops h1 hb (awOps_mono (h.1 rfl) fun s' h' => segs_ops l hok.2 h')
      · exact gd_no hbw ops h1 hb (segs_ops l hok.2 (h.2 hbw))
    · rename_i hb
      exact gd_und ops h1 hb (segs_ops l hok.2 h)
    · exact h.elim

theorem code_sound : ∀ (ac : ACode) {c : Code} {Qa : AExit → AS → Prop} {Q : Exit → Act → World → Prop} {G : Gh} {s : AS} {a : Act} {w : World}, cCode P ef nt c = some (bare ac) → RelS P w0 nt G s a w → aw P ac Qa s →
    (∀ e s' G' a' w', Qa e s' → G.Le G' → RelS P w0 nt G' s' a' w' → Q (exR e) a' w') → c.wp P Q a w := by
  intro ac
  induction ac with
  | skip =>
    intro c Qa Q G s a w hc hr h hq
    cases c <;> simp only [cCode, bare] at hc <;> first | exact wp_skip (hq .normal s G a w h (Gh.Le.rfl_ G) hr) | (simp at hc; done) | (split at hc <;> simp at hc; done) | (rcases cReg_kind hc with ⟨_, hk⟩ | ⟨_, _, hk⟩ | hk <;> cases hk; done) | skip
  | reg ops =>
    intro c Qa Q G s a w hc hr h hq
    cases c <;> simp only [cCode, bare] at hc <;> first | (simp at hc; done) | skip
    case region id ops' draw =>
      obtain ⟨hd, h1⟩ := cReg_reg hc
      exact region_sound hd h1 hr h fun a' w1 ⟨G1, s1, k1, k2, k3⟩ => hq .normal s1 G1 a' w1 k1 k2 k3
    all_goals first | (split at hc <;> simp at hc; done) | (rcases cReg_kind hc with ⟨_, hk⟩ | ⟨_, _, hk⟩ | hk <;> cases hk; done)
  | regD S ops =>
    intro c Qa Q G s a w hc hr h hq
    cases c <;> simp only [cCode, bare] at hc <;> first | (simp at hc; done) | skip
    case region id ops' draw =>
      obtain ⟨hdr, hd, h1⟩ := cReg_regD hc
      subst hdr
      simp only [aw] at h
      unfold gsK at h
      split at h
      · exact region_late hd h1 hr h fun a' w1 ⟨G1, s1, k1, k2, k3⟩ => hq .normal s1 G1 a' w1 k1 k2 k3
      · exact h.elim
    all_goals first | (split at hc <;> simp at hc; done) | (rcases cReg_kind hc with ⟨_, hk⟩ | ⟨_, _, hk⟩ | hk <;> cases hk; done)
  | segs l =>
    intro c Qa Q G s a w hc hr h hq
    simp only [bare] at hc
    split at hc
    · rename_i hok
      have h : awOps P (l.flatMap Seg.flat) (KW (Qa .normal)) s := segs_ops l hok h
      cases c <;> simp only [cCode] at hc <;> first | (simp at hc; done) | skip
      case region id ops' draw =>
        obtain ⟨hd, h1⟩ := cReg_reg hc
        exact region_sound hd h1 hr h fun a' w1 ⟨G1, s1, ⟨e2, k0, k1⟩, k2, k3⟩ => hq .normal ⟨e2, s1.n, s1.H⟩ G1 a' w1 k1 k2 (k3.env k0)
      all_goals first | (split at hc <;> simp at hc; done) | (rcases cReg_kind hc with ⟨_, hk⟩ | ⟨_, _, hk⟩ | hk <;> cases hk; done)
    · cases c <;> simp only [cCode] at hc <;> first | (simp at hc; done) | (split at hc <;> simp at hc; done) | (rcases cReg_kind hc with ⟨_, hk⟩ | ⟨_, _, hk⟩ | hk <;> cases hk; done)
  | seq x y ihx ihy =>
    intro c Qa Q G s a w hc hr h hq
    cases c <;> simp only [cCode, bare] at hc <;> first | (simp at hc; done) | skip
    case seq c1 c2 =>
      split at hc
      · rename_i x' y' h1 h2
        injection hc with hc
        injection hc with e1 e2
        subst e1; subst e2
        refine wp_seq (ihx h1 hr h fun e s' G' a' w1 hqa hle hr' => ?_)
        cases e with
        | normal => exact ihy h2 hr' hqa fun e2 s2 G2 a2 w2 q2 l2 r2 => hq e2 s2 G2 a2 w2 q2 (hle.tr l2) r2
        | exit id => exact hq _ s' G' a' w1 hqa hle hr'
        | ret => exact hq _ s' G' a' w1 hqa hle hr'
      · cases hc
    all_goals first | (split at hc <;> simp at hc; done) | (rcases cReg_kind hc with ⟨_, hk⟩ | ⟨_, _, hk⟩ | hk <;> cases hk; done)
  | cond cnd x y ihx ihy =>
    intro c Qa Q G s a w hc hr h hq
    cases c <;> simp only [cCode, bare] at hc <;> first | (simp at hc; done) | skip
    case cond o c1 c2 =>
      split at hc
      · rename_i o' x' y' h0 h1 h2
        injection hc with hc
        injection hc with e0 e1 e2
        subst e0; subst e1; subst e2
        simp only [aw] at h
        unfold condK at h
        have hor := opd_rep (G := G) (a := a) (e := s.e) h0 hr.tm
        split at h
        · rename_i b hb
          rw [hb] at hor
          have hval : a.eval o = .bool b := by generalize a.eval o = v at hor; cases hor; rfl
          refine wp_cond hval ?_
          cases b with
          | true => exact ihx h1 hr (h.1 rfl) hq
          | false => exact ihy h2 hr (h.2 rfl) hq
        · exact h.elim
      · cases hc
    all_goals first | (split at hc <;> simp at hc; done) | (rcases cReg_kind hc with ⟨_, hk⟩ | ⟨_, _, hk⟩ | hk <;> cases hk; done)
  | block id x ih =>
    intro c Qa Q G s a w hc hr h hq
    cases c <;> simp only [cCode, bare] at hc <;> first | (simp at hc; done) | skip
    case block id' c1 =>
      obtain ⟨x', h1, h2⟩ := Option.map_eq_some_iff.1 hc
      injection h2 with e1 e2
      subst e1; subst e2
      refine wp_block (ih h1 hr h fun e s' G' a' w1 hqa hle hr' => ?_)
      cases e with
      | normal => exact hq .normal s' G' a' w1 hqa hle hr'
      | exit i =>
        simp only [blockA] at hqa
        simp only [exR, Exit.inBlock]
        split
        · rename_i hi; rw [if_pos hi] at hqa; exact hq .normal s' G' a' w1 hqa hle hr'
        · rename_i hi; rw [if_neg hi] at hqa; exact hq (.exit i) s' G' a' w1 hqa hle hr'
      | ret => exact hq .ret s' G' a' w1 hqa hle hr'
    all_goals first | (split at hc <;> simp at hc; done) | (rcases cReg_kind hc with ⟨_, hk⟩ | ⟨_, _, hk⟩ | hk <;> cases hk; done)
  | loop x ih =>
    intro c Qa Q G s a w hc hr h hq
    cases c <;> simp only [cCode, bare] at hc <;> first | (simp at hc; done) | skip
    case loop c1 =>
      obtain ⟨x', h1, h2⟩ := Option.map_eq_some_iff.1 hc
      injection h2 with e2
      subst e2
      have key := h (fun s => ∀ G1 a1 w1, G.Le G1 → RelS P w0 nt G1 s a1 w1 → ∀ b k cs, ∃ e a' w', Q e a' w' ∧ Arrives P (lone (b.at a1 (.code c1 :: .inLoop c1 :: k)) cs w1) b k cs e a' w') (by
        intro s1 hs1 G1 a1 w1 hle hr1 b k cs
        have hbody := ih (Q := Exit.then (fun a1 w1 => ∀ b k cs, ∃ e a' w', Q e a' w' ∧ Arrives P (lone (b.at a1 (.code c1 :: .inLoop c1 :: k)) cs w1) b k cs e a' w') Q) h1 hr1 hs1 (fun e s' G' a' w2 hqa hle2 hr' => by
          cases e with
          | normal => exact hqa G' a' w2 (hle.tr hle2) hr'
          | exit i => exact hq _ s' G' a' w2 hqa (hle.tr hle2) hr'
          | ret => exact hq _ s' G' a' w2 hqa (hle.tr hle2) hr')
        obtain ⟨e, a2, w2, hq2, harr⟩ := hbody b (.inLoop c1 :: k) cs
        cases e with
        | normal =>
          obtain ⟨e3, a3, w3, hq3, harr3⟩ := hq2 b k cs
          exact ⟨e3, a3, w3, hq3, .of_steps (Steps.trans harr (.one step_inLoop)) harr3⟩
        | exit i => exact ⟨_, a2, w2, hq2, .pass (x := .inLoop c1) rfl (fun _ _ => .inl (by simp)) harr⟩
        | goto l => exact ⟨_, a2, w2, hq2, .pass (x := .inLoop c1) rfl (fun _ _ => .inl (by simp)) harr⟩
        | ret => exact ⟨_, a2, w2, hq2, .pass (x := .inLoop c1) rfl (fun _ _ => .inl (by simp)) harr⟩
        | panic ch => exact ⟨_, a2, w2, hq2, .pass (x := .inLoop c1) rfl (fun _ _ => .inl (by simp)) harr⟩
        | outgrown => exact ⟨_, a2, w2, hq2, .pass (x := .inLoop c1) rfl (fun _ _ => .inl (by simp)) harr⟩)
      intro b k cs
      obtain ⟨e, a2, w2, hq2, harr⟩ := key G a w (Gh.Le.rfl_ G) hr b k cs
      exact ⟨e, a2, w2, hq2, .of_steps (.one step_loop) harr⟩
    all_goals first | (split at hc <;> simp at hc; done) | (rcases cReg_kind hc with ⟨_, hk⟩ | ⟨_, _, hk⟩ | hk <;> cases hk; done)
  | exit id =>
    intro c Qa Q G s a w hc hr h hq
    cases c <;> simp only [cCode, bare] at hc <;> first | (simp at hc; done) | (split at hc <;> simp at hc; done) | (rcases cReg_kind hc with ⟨_, hk⟩ | ⟨_, _, hk⟩ | hk <;> cases hk; done) | skip
    case exit id' =>
      injection hc with hc; injection hc with hc; subst hc
      exact wp_exit (hq (.exit _) s G a w h (Gh.Le.rfl_ G) hr)
  | ret =>
    intro c Qa Q G s a w hc hr h hq
    cases c <;> simp only [cCode, bare] at hc <;> first | exact wp_ret (hq .ret s G a w h (Gh.Le.rfl_ G) hr) | (simp at hc; done) | (split at hc <;> simp at hc; done) | (rcases cReg_kind hc with ⟨_, hk⟩ | ⟨_, _, hk⟩ | hk <;> cases hk; done) | skip
  | bad =>
    intro c Qa Q G s a w hc hr h hq
    exact h.elim
  | kp ks x ih =>
    intro c Qa Q G s a w hc hr h hq
    exact ih hc (hr.env (fun t => get_keep s.e ks t)) h hq
  | ke ks x ih =>
    intro c Qa Q G s a w hc hr h hq
    refine ih hc hr h fun e s' G' a' w' hqa hle hr' => ?_
    cases e with
    | normal => exact hq .normal _ G' a' w' hqa hle (hr'.env (fun t => get_keep s'.e ks t))
    | _ => exact hq _ s' G' a' w' hqa hle hr'
end
end Go.Proofs.YtnmkpadgogbgkaaDoor

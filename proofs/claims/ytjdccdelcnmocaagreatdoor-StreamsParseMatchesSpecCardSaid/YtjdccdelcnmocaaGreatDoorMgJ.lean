/- Whole functions agree with their code on plain data; no condition. -/
import Derived.Test.YtjdccdelcnmocaaGreatDoorMgI
import Derived.Test.YtjdccdelcnmocaaGreatDoorMgC
import Derived.Test.YtjdccdelcnmocaaGreatDoorRows
import Derived.ProofKit
import Derived.OpenShut
import Derived.Deep.Slices
import Derived.Deep.Fields
set_option linter.all false
set_option linter.unusedSimpArgs false
set_option linter.unusedVariables false
namespace Go.Proofs.YtjdccdelcnmocaaGreatDoor
open Go.RowKit
section
variable {P : Program} {w w' w0 : World} {G : Gh} {nt : Nat} {s : AS} {a : Act} {ef : List Nat} {Q : Exit → Act → World → Prop}
theorem C8 {ops : Array Oper} {draw : Bool} {ac : ACode} (h : Ss P ef nt ops draw = some ac) : (∃ os, ac = .reg os) ∨ (∃ m S os, ac = .regD m S os) ∨ ac = .bad := by
 unfold Ss at h
 split at h
 ·obtain ⟨aos, h1, h2⟩ := Option.map_eq_some_iff.1 h
  split at h2
  ·exact .inr (.inl ⟨_, _, _, h2.symm⟩)
  ·exact .inr (.inr h2.symm)
 ·obtain ⟨aos, h1, h2⟩ := Option.map_eq_some_iff.1 h
  exact .inl ⟨_, h2.symm⟩
theorem S0 {ops : Array Oper} {draw : Bool} {os : List AOper} (h : Ss P ef nt ops draw = some (.reg os)) : (draw && !S7 P ef ops nt) = false ∧ EH P ef ops nt ops.toList = some os := by
 unfold Ss at h
 split at h
 ·obtain ⟨aos, h1, h2⟩ := Option.map_eq_some_iff.1 h
  split at h2 <;> cases h2
 ·rename_i hd
  obtain ⟨aos, h1, h2⟩ := Option.map_eq_some_iff.1 h
  injection h2 with h2; subst h2
  exact ⟨by simpa using hd, h1⟩
theorem Tj {ops : Array Oper} {os : List AOper} {m : Mode} {S : List Nat} (h : Qc P ef nt ops os = some (m, S)) : H4 P ef ops nt m = true := by
 unfold Qc at h
 split at h
 ·rename_i ho; injection h with h; injection h with h _; subst h; exact ho
 ·split at h
  ·rename_i ho; injection h with h; injection h with h _; subst h; exact ho
  ·split at h
   ·rename_i ho; injection h with h; injection h with h _; subst h; exact ho
   ·split at h
    ·rename_i ho; injection h with h; injection h with h _; subst h; exact ho
    ·cases h
theorem VB {ops : Array Oper} {draw : Bool} {m : Mode} {S : List Nat} {os : List AOper} (h : Ss P ef nt ops draw = some (.regD m S os)) : draw = true ∧ H4 P ef ops nt m = true ∧ EH P ef ops nt ops.toList = some os := by
 unfold Ss at h
 split at h
 ·rename_i hd
  obtain ⟨aos, h1, h2⟩ := Option.map_eq_some_iff.1 h
  split at h2
  ·rename_i m' S' hm
   injection h2 with e1 e2 e3
   subst e1; subst e2; subst e3
   exact ⟨by revert hd; cases draw <;> simp, Tj hm, h1⟩
  ·cases h2
 ·obtain ⟨aos, h1, h2⟩ := Option.map_eq_some_iff.1 h
  cases h2
theorem MI {id : Nat} {ops : Array Oper} {draw : Bool} {aos : List AOper} {K : AS → Prop} (hd : (draw && !S7 P ef ops nt) = false) (hc : EH P ef ops nt ops.toList = some aos) (hr : RelS P w0 nt G s a w) (h : awOps P aos K s) (hq : ∀ a' w', After P w0 nt G K a' w' → Q .normal a' w') :
  (Code.region id ops draw).wp P Q a w := by
 have hlen := KQ hc
 have hmap : (List.range ops.size).map (Vm aos) = aos := by
  have := IY aos
  rw [hlen] at this
  simpa using this
 cases draw with
 | false =>
  refine wp_region (QT hc (List.range ops.size) (fun i hi => by simpa using hi) hr ?_ hq)
  rw [hmap]; exact h
 | true =>
  have ho := Td (P := P) (ef := ef) (ops := ops) (nt := nt) (by simpa using hd)
  let K' : AS → Prop := fun s => ∃ e', (∀ t, get e' t = get s.e t) ∧ K ⟨e', s.n, s.H⟩
  have hK : EInv K' := fun e e' n H he ⟨e1, h1, h2⟩ => ⟨e1, fun t => (h1 t).trans (he t), h2⟩
  have h' : MR (awO P) aos K' s := by
   rw [TD]
   exact Ed h fun s' hs' => ⟨s'.e, fun _ => rfl, hs'⟩
  have hleft : left ops (Array.replicate ops.size false) = List.range ops.size := by
   simp only [left]
   rw [List.filter_eq_self]
   intro i hi
   have hi' : i < ops.size := by simpa using hi
   simp [Array.getD_eq_getD_getElem?, hi']
  have hr' : RelS P w0 nt G s a { w with drawn := w.drawn + 1 } := ⟨hr.r0.same rfl rfl rfl rfl, hr.sz, hr.df, hr.ld, hr.tm⟩
  refine wp_region_any ho.mixed (OM Vi hc ho hK ops.size (Array.replicate ops.size false) (by simp) (by rw [hleft]; simp) ?_ hr' (by rw [hleft, hmap]; exact h') ?_)
  ·intro i o _ hl
   rw [Array.getD_eq_getD_getElem?, Array.getElem?_replicate] at hl
   split at hl <;> cases hl
  ·rintro a' w1 ⟨G1, s1, ⟨e1, h1, h2⟩, h3, h4⟩
   exact hq a' w1 ⟨G1, ⟨e1, s1.n, s1.H⟩, h2, h3, h4.env fun t => .inr (h1 t)⟩
theorem S4 {id : Nat} {ops : Array Oper} {aos : List AOper} {gs : List Nat} {md : Mode} {lo : Nat} {K : AS → Prop} (hd : H4 P ef ops nt md = true) (hc : EH P ef ops nt ops.toList = some aos) (hr : RelS P w0 nt G s a w) (h : AD P md lo gs aos K s) (hq : ∀ a' w', After P w0 nt G K a' w' → Q .normal a' w') :
  (Code.region id ops true).wp P Q a w := by
 have hlen := KQ hc
 have hmap : (List.range ops.size).map (Vm aos) = aos := by
  have := IY aos
  rw [hlen] at this
  simpa using this
 have ho := RP (P := P) (ef := ef) (ops := ops) (nt := nt) hd
 let K' : AS → Prop := fun s => ∃ e', (∀ t, get e' t = get s.e t) ∧ K ⟨e', s.n, s.H⟩
 have hK : EInv K' := fun e e' n H he ⟨e1, h1, h2⟩ => ⟨e1, fun t => (h1 t).trans (he t), h2⟩
 have h' : MR (awOM P md lo gs) aos K' s := by
  rw [VF]
  exact NZ h fun s' hs' => ⟨s'.e, fun _ => rfl, hs'⟩
 have hleft : left ops (Array.replicate ops.size false) = List.range ops.size := by
  simp only [left]
  rw [List.filter_eq_self]
  intro i hi
  have hi' : i < ops.size := by simpa using hi
  simp [Array.getD_eq_getD_getElem?, hi']
 have hr' : RelS P w0 nt G s a { w with drawn := w.drawn + 1 } := ⟨hr.r0.same rfl rfl rfl rfl, hr.sz, hr.df, hr.ld, hr.tm⟩
 refine wp_region_any ho.mixed (OM (WG gs md lo) hc ho hK ops.size (Array.replicate ops.size false) (by simp) (by rw [hleft]; simp) ?_ hr' (by rw [hleft, hmap]; exact h') ?_)
 ·intro i o _ hl
  rw [Array.getD_eq_getD_getElem?, Array.getElem?_replicate] at hl
  split at hl <;> cases hl
 ·rintro a' w1 ⟨G1, s1, ⟨e1, h1, h2⟩, h3, h4⟩
  exact hq a' w1 ⟨G1, ⟨e1, s1.n, s1.H⟩, h2, h3, h4.env fun t => .inr (h1 t)⟩
def exR : AExit → Exit
 | .normal => .normal
 | .exit id => .exit id
 | .ret => .ret
theorem Dz {e : AT} {d : Option Nat} {t : Nat} {v : AV} (h : d ≠ some t) : get (AP e d v) t = get e t := by
 rw [Am, if_neg h]
theorem Tf {t : Nat} {want : Bool} : ∀ (ops : List AOper) {K : AS → Prop} {s : AS}, (ops.all fun o => o.guard.isNone && o.dst != some t) = true → get s.e t = .bool want → awOps P ops K s →
  awOps P (ops.map fun o => { o with guard := some (t, want) }) K s
 | [], K, s, _, _, h => h
 | o :: os, K, s, hok, hg, h => by
  simp only [List.all_cons, Bool.and_eq_true, bne_iff_ne, ne_eq] at hok
  obtain ⟨⟨h1, h2⟩, h3⟩ := hok
  simp only [awOps, awO] at h
  obtain ⟨d, op, g⟩ := o
  simp only [Option.isNone_iff_eq_none] at h1
  subst h1
  simp only [List.map_cons, awOps, awO, hg]
  obtain ⟨e, n, H⟩ := s
  refine ⟨fun _ => Ep (fun _ _ => rfl) h fun r n' H' h' => Tf os (by simpa using h3) ?_ h', fun hb => absurd rfl hb⟩
  simp only at hg h2 ⊢
  rw [Dz h2]; exact hg
theorem U1 {t : Nat} {want b : Bool} (hb : b ≠ want) : ∀ (ops : List AOper) {K : AS → Prop} {s : AS}, (ops.all fun o => o.guard.isNone && o.dst != some t) = true → get s.e t = .bool b → K ⟨F6 s.e ops, s.n, s.H⟩ →
  awOps P (ops.map fun o => { o with guard := some (t, want) }) K s
 | [], K, s, _, _, h => h
 | o :: os, K, s, hok, hg, h => by
  simp only [List.all_cons, Bool.and_eq_true, bne_iff_ne, ne_eq] at hok
  obtain ⟨⟨h1, h2⟩, h3⟩ := hok
  simp only [List.map_cons, awOps, awO, hg]
  refine ⟨fun e => absurd e hb, fun _ => U1 hb os (by simpa using h3) ?_ h⟩
  rw [Dz h2]; exact hg
theorem W2 {t : Nat} {want : Bool} : ∀ (ops : List AOper) {K : AS → Prop} {s : AS}, (ops.all fun o => o.guard.isNone && o.dst != some t) = true → get s.e t = .und → K ⟨F6 s.e ops, s.n, s.H⟩ →
  awOps P (ops.map fun o => { o with guard := some (t, want) }) K s
 | [], K, s, _, _, h => h
 | o :: os, K, s, hok, hg, h => by
  simp only [List.all_cons, Bool.and_eq_true, bne_iff_ne, ne_eq] at hok
  obtain ⟨⟨h1, h2⟩, h3⟩ := hok
  simp only [List.map_cons, awOps, awO, hg]
  refine W2 os (by simpa using h3) ?_ h
  rw [Dz h2]; exact hg
theorem awOps_append {xs ys : List AOper} {K : AS → Prop} {s : AS} : awOps P (xs ++ ys) K s ↔ awOps P xs (awOps P ys K) s := by
 induction xs generalizing s with
 | nil => rfl
 | cons x xs ih =>
  simp only [List.cons_append, awOps]
  exact ⟨fun h => HH h fun s h => ih.1 h, fun h => HH h fun s h => ih.2 h⟩
theorem SN : ∀ (ops : List AOper) {e e' : AT} {n : Nat} {H : A4} {K : AS → Prop}, (ops.all fun o => o.guard.isNone) = true → Co ops e H = some e' → K ⟨e', n, H⟩ → awOps P ops K ⟨e, n, H⟩
 | [], e, e', n, H, K, _, h, hk => by simp only [Co] at h; injection h with h; subst h; exact hk
 | o :: os, e, e', n, H, K, hok, h, hk => by
  simp only [List.all_cons, Bool.and_eq_true, Option.isNone_iff_eq_none] at hok
  simp only [Co] at h
  split at h
  ·rename_i v hv
   simp only [awOps, awO, hok.1]
   have hpe : o.op.eff = false := by
    cases hop : o.op <;> first | rfl | (rw [hop] at hv; simp [pe] at hv; done)
   rw [EY hpe, hv]
   exact SN os (by simpa using hok.2) h hk
  ·cases h
theorem RN {t : Nat} : ∀ (ops : List AOper) {e : AT}, (ops.all fun o => o.dst != some t) = true → get (Ez e ops) t = get e t
 | [], e, _ => rfl
 | o :: os, e, hok => by
  simp only [List.all_cons, Bool.and_eq_true, bne_iff_ne, ne_eq] at hok
  simp only [Ez]
  rw [RN os (by simpa using hok.2), Dz hok.1]
def LeE (e e' : AT) : Prop := ∀ t, get e' t = .any ∨ get e' t = get e t
def KW (K : AS → Prop) (s : AS) : Prop := ∃ e', LeE s.e e' ∧ K ⟨e', s.n, s.H⟩
theorem KW.of {K : AS → Prop} {s : AS} (h : K s) : KW K s := ⟨s.e, fun _ => .inr rfl, h⟩
theorem LeE.put {e e' : AT} (h : LeE e e') (d : Option Nat) (v : AV) : LeE (AP e d v) (AP e' d v) := fun t => by
 rw [Am, Am]; split
 ·exact .inr rfl
 ·exact h t
theorem LeE.tr {a b c : AT} (h : LeE a b) (k : LeE b c) : LeE a c := fun t => by
 rcases k t with k1 | k1
 ·exact .inl k1
 ·rw [k1]; exact h t
theorem WW {K : AS → Prop} : ∀ {os : List AOper} {e e' : AT} {n : Nat} {H : A4}, (∀ o ∈ os, ∀ t ∈ o.uses, get e' t = get e t) → LeE e e' → awOps P os (KW K) ⟨e', n, H⟩ → awOps P os (KW K) ⟨e, n, H⟩
 | [], e, e', n, H, _, hl, h => by
  obtain ⟨e2, h1, h2⟩ := h
  exact ⟨e2, hl.tr h1, h2⟩
 | o :: os, e, e', n, H, hu, hl, h => by
  refine MO (hu o List.mem_cons_self) h fun r n' H' h' => WW (fun o' ho t ht => ?_) (hl.put _ _) h'
  rw [Am, Am]; split
  ·rfl
  ·exact hu o' (List.mem_cons_of_mem _ ho) t ht
theorem G0 {t : Nat} : ∀ (ops : List AOper) {e e' : AT} {H : A4}, Co ops e H = some e' → (∀ o ∈ ops, o.dst ≠ some t) → get e' t = get e t
 | [], e, e', H, h, _ => by simp only [Co] at h; injection h with h; rw [h]
 | o :: os, e, e', H, h, ht => by
  simp only [Co] at h
  split at h
  ·rw [G0 os h (fun o' ho => ht o' (List.mem_cons_of_mem _ ho)), Dz (ht o List.mem_cons_self)]
  ·cases h
theorem Gi {t : Nat} : ∀ (ops : List AOper) {e : AT}, (ops.all fun o => o.dst != some t) = true → get (F6 e ops) t = get e t
 | [], e, _ => rfl
 | o :: os, e, hok => by
  simp only [List.all_cons, Bool.and_eq_true, bne_iff_ne, ne_eq] at hok
  simp only [F6]
  rw [Gi os (by simpa using hok.2), Dz hok.1]
theorem Hn {t : Nat} : ∀ (ops : List AOper) {e : AT}, get (Ez e ops) t = .any ∨ (get (Ez e ops) t = get e t ∧ ∀ o ∈ ops, o.dst ≠ some t)
 | [], e => .inr ⟨rfl, by simp⟩
 | o :: os, e => by
  simp only [Ez]
  rcases Hn (t := t) os (e := AP e o.dst .any) with h | ⟨h, h2⟩
  ·exact .inl h
  ·rw [h, Am]
   split
   ·exact .inl rfl
   ·rename_i hd
    exact .inr ⟨rfl, fun o' ho => by
     rcases List.mem_cons.1 ho with rfl | ho
     ·exact hd
     ·exact h2 o' ho⟩
theorem To (ops : List AOper) (e : AT) : LeE (F6 e ops) (Ez e ops) := fun t => by
 rcases Hn (t := t) ops (e := e) with h | ⟨h, h2⟩
 ·exact .inl h
 ·refine .inr ?_
  rw [h, Gi ops (by rw [List.all_eq_true]; intro o ho; simpa using h2 o ho)]
theorem Ga : ∀ (l : List Seg) {K : AS → Prop} {s : AS}, Mf l = true → C0 P l K s → awOps P (l.flatMap Seg.flat) (KW K) s
 | [], K, s, _, h => KW.of h
 | ⟨none, ops, _⟩ :: l, K, s, hok, h => by
  simp only [Mf, Bool.and_eq_true] at hok
  simp only [List.flatMap_cons, Seg.flat]
  exact awOps_append.2 (Ed h fun s' h' => Ga l hok.2 h')
 | ⟨some (t, want), ops, some (d, x)⟩ :: l, K, s, hok, h => by
  simp only [Mf, Bool.and_eq_true] at hok
  obtain ⟨⟨h1, h2⟩, h3⟩ := hok
  have h1 : (ops.all fun o => o.guard.isNone && o.dst != some t) = true := h1
  simp only [C0] at h
  obtain ⟨v, hv, hk⟩ := K1_iff.1 h
  have hk := Ga l h3 hk
  have hgn : ∀ o ∈ ops, o.guard.isNone = true ∧ o.dst ≠ some t := fun o ho => by
   have := List.all_eq_true.1 h1 o ho
   simp only [Bool.and_eq_true, bne_iff_ne, ne_eq] at this
   exact this
  have huse : ∀ o ∈ l.flatMap Seg.flat, ∀ t ∈ o.uses, ∀ o' ∈ ops, o'.dst ≠ some t := by
   intro o ho t ht o' ho' hd
   have h2' : (ops.all fun o => (match o.dst with | some t => !((l.flatMap Seg.flat).flatMap AOper.uses).contains t | none => true)) = true := h2
   have := List.all_eq_true.1 h2' o' ho'
   rw [hd] at this
   simp only [Bool.not_eq_true', List.contains_eq_mem, decide_eq_false_iff_not, List.mem_flatMap, not_exists, not_and] at this
   obtain ⟨sg, hs1, hs2⟩ := List.mem_flatMap.1 ho
   exact this o ⟨sg, hs1, hs2⟩ ht
  simp only [List.flatMap_cons, Seg.flat]
  rw [List.append_assoc]
  refine awOps_append.2 ?_
  obtain ⟨e, n, H⟩ := s
  simp only at hv hk ⊢
  have pick : ∀ e2, get e2 t = get e t → (∀ b, get e t = .bool b → b = want → get e2 x = v) → (∀ b, get e t = .bool b → b ≠ want → v = .bool (!want)) → (∃ b, get e t = .bool b) → LeE e2 (Ez e ops) → (∀ t, (∀ o ∈ ops, o.dst ≠ some t) → get e2 t = get e t) →
    awOps P (⟨some d, if want then .pick (.t t) (.t x) (.c (.bool false)) else .pick (.t t) (.c (.bool true)) (.t x), none⟩ :: l.flatMap Seg.flat) (KW K) ⟨e2, n, H⟩ := by
   intro e2 g1 g2 g3 ⟨b, hb⟩ g4 g5
   have hpe : pe (if want then .pick (.t t) (.t x) (.c (.bool false)) else .pick (.t t) (.c (.bool true)) (.t x)) e2 H = some v := by
    cases want
    ·simp only [Bool.false_eq_true, if_false, pe, ev, g1, hb]
     cases b
     ·simp only [Bool.false_eq_true, if_false]; rw [g2 false hb rfl]
     ·simp only [if_true]; rw [g3 true hb (by simp)]; rfl
    ·simp only [if_true, pe, ev, g1, hb]
     cases b
     ·simp only [Bool.false_eq_true, if_false]; rw [g3 false hb (by simp)]; rfl
     ·simp only [if_true]; rw [g2 true hb rfl]
   have heff : (if want then AOp.pick (.t t) (.t x) (.c (.bool false)) else AOp.pick (.t t) (.c (.bool true)) (.t x)).eff = false := by cases want <;> rfl
   simp only [awOps, awO]
   rw [EY heff, hpe]
   refine WW (fun o ho t' ht' => ?_) (g4.put (some d) v) hk
   rw [Am, Am]
   split
   ·rfl
   ·have hn := huse o ho t' ht'
    rw [g5 t' hn]
    rcases Hn (t := t') ops (e := e) with hx | hx
    ·rw [RN ops (by rw [List.all_eq_true]; intro o' ho'; simpa using hn o' ho')]
    ·exact hx.1
  unfold RM at hv
  split at hv
  ·rename_i b e' hb he
   split at hv
   ·rename_i b' hb'
    injection hv with hv
    by_cases hbw : b = want
    ·subst hbw
     refine Tf ops h1 hb (SN ops (List.all_eq_true.2 fun o ho => (hgn o ho).1) he ?_)
     have hnt : ∀ o ∈ ops, o.dst ≠ some t := fun o ho => by have := List.all_eq_true.1 h1 o ho; simp only [Bool.and_eq_true, bne_iff_ne, ne_eq] at this; exact this.2
     refine pick e' (G0 ops he hnt) (fun b2 hb2 e3 => ?_) (fun b2 hb2 e3 => ?_) ⟨_, hb⟩ (fun t' => ?_) (fun t' ht' => G0 ops he ht')
     ·rw [hb', ← hv]; cases b <;> simp
     ·rw [hb] at hb2; injection hb2 with hb2; exact absurd hb2.symm e3
     ·rcases Hn (t := t') ops (e := e) with hx | ⟨hx, hx2⟩
      ·exact .inl hx
      ·exact .inr (by rw [hx, G0 ops he hx2])
    ·refine U1 hbw ops h1 hb ?_
     refine pick _ (Gi ops ?_) (fun b2 hb2 e3 => ?_) (fun b2 hb2 e3 => ?_) ⟨_, hb⟩ (To ops e) (fun t' ht' => Gi ops (by rw [List.all_eq_true]; intro o' ho'; simpa using ht' o' ho'))
     ·rw [List.all_eq_true]; intro o ho; have := List.all_eq_true.1 h1 o ho; simp only [Bool.and_eq_true] at this; exact this.2
     ·have hb3 : b = b2 := by have := hb.symm.trans hb2; injection this
      exact absurd (hb3.trans e3) hbw
     ·have hbn : b = !want := by cases b <;> cases want <;> first | rfl | exact absurd rfl hbw
      subst hbn
      rw [← hv]; cases want <;> rfl
   ·cases hv
  ·rename_i b hb he
   split at hv
   ·cases hv
   ·rename_i hbw
    injection hv with hv
    refine U1 hbw ops h1 hb ?_
    refine pick _ (Gi ops ?_) (fun b2 hb2 e3 => ?_) (fun b2 hb2 e3 => hv.symm) ⟨_, hb⟩ (To ops e) (fun t' ht' => Gi ops (by rw [List.all_eq_true]; intro o' ho'; simpa using ht' o' ho'))
    ·rw [List.all_eq_true]; intro o ho; have := List.all_eq_true.1 h1 o ho; simp only [Bool.and_eq_true] at this; exact this.2
    ·have hb3 : b = b2 := by have := hb.symm.trans hb2; injection this
     exact absurd (hb3.trans e3) hbw
  ·cases hv
 | ⟨some (t, want), ops, none⟩ :: l, K, s, hok, h => by
  simp only [Mf, Bool.and_eq_true] at hok
  have h1 : (ops.all fun o => o.guard.isNone && o.dst != some t) = true := hok.1.1
  simp only [List.flatMap_cons, Seg.flat, List.append_nil]
  refine awOps_append.2 ?_
  simp only [C0] at h
  unfold guardK at h
  split at h
  ·rename_i b hb
   by_cases hbw : b = want
   ·subst hbw
    exact Tf ops h1 hb (Ed (h.1 rfl) fun s' h' => Ga l hok.2 h')
   ·exact U1 hbw ops h1 hb (Ga l hok.2 (h.2 hbw))
  ·rename_i hb
   exact W2 ops h1 hb (Ga l hok.2 h)
  ·exact h.elim
theorem Sn : ∀ (ac : ACode) {c : Code} {Qa : AExit → AS → Prop} {Q : Exit → Act → World → Prop} {G : Gh} {s : AS} {a : Act} {w : World}, EJ P ef nt c = some (bare ac) → RelS P w0 nt G s a w → aw P ac Qa s →
  (∀ e s' G' a' w', Qa e s' → G.Le G' → RelS P w0 nt G' s' a' w' → Q (exR e) a' w') → c.wp P Q a w := by
 intro ac
 induction ac with
 | skip =>
  intro c Qa Q G s a w hc hr h hq
  cases c <;> simp only [EJ, bare] at hc <;> first | exact wp_skip (hq .normal s G a w h (Gh.Le.rfl_ G) hr) | (simp at hc; done) | (split at hc <;> simp at hc; done) | (rcases C8 hc with ⟨_, hk⟩ | ⟨_, _, _, hk⟩ | hk <;> cases hk; done) | skip
 | reg ops =>
  intro c Qa Q G s a w hc hr h hq
  cases c <;> simp only [EJ, bare] at hc <;> first | (simp at hc; done) | skip
  case region id ops' draw =>
   obtain ⟨hd, h1⟩ := S0 hc
   exact MI hd h1 hr h fun a' w1 ⟨G1, s1, k1, k2, k3⟩ => hq .normal s1 G1 a' w1 k1 k2 k3
  all_goals first | (split at hc <;> simp at hc; done) | (rcases C8 hc with ⟨_, hk⟩ | ⟨_, _, _, hk⟩ | hk <;> cases hk; done)
 | regD m S ops =>
  intro c Qa Q G s a w hc hr h hq
  cases c <;> simp only [EJ, bare] at hc <;> first | (simp at hc; done) | skip
  case region id ops' draw =>
   obtain ⟨hdr, hd, h1⟩ := VB hc
   subst hdr
   simp only [aw] at h
   unfold gsK at h
   split at h
   ·rename_i hgs
    obtain ⟨ms, h⟩ := h
    exact S4 hd h1 hr h fun a' w1 ⟨G1, s1, k1, k2, k3⟩ => hq .normal s1 G1 a' w1 k1 k2 k3
   ·exact h.elim
  all_goals first | (split at hc <;> simp at hc; done) | (rcases C8 hc with ⟨_, hk⟩ | ⟨_, _, _, hk⟩ | hk <;> cases hk; done)
 | segs l =>
  intro c Qa Q G s a w hc hr h hq
  simp only [bare] at hc
  split at hc
  ·rename_i hok
   have h : awOps P (l.flatMap Seg.flat) (KW (Qa .normal)) s := Ga l hok h
   cases c <;> simp only [EJ] at hc <;> first | (simp at hc; done) | skip
   case region id ops' draw =>
    obtain ⟨hd, h1⟩ := S0 hc
    exact MI hd h1 hr h fun a' w1 ⟨G1, s1, ⟨e2, k0, k1⟩, k2, k3⟩ => hq .normal ⟨e2, s1.n, s1.H⟩ G1 a' w1 k1 k2 (k3.env k0)
   all_goals first | (split at hc <;> simp at hc; done) | (rcases C8 hc with ⟨_, hk⟩ | ⟨_, _, _, hk⟩ | hk <;> cases hk; done)
  ·cases c <;> simp only [EJ] at hc <;> first | (simp at hc; done) | (split at hc <;> simp at hc; done) | (rcases C8 hc with ⟨_, hk⟩ | ⟨_, _, _, hk⟩ | hk <;> cases hk; done)
 | seq x y ihx ihy =>
  intro c Qa Q G s a w hc hr h hq
  cases c <;> simp only [EJ, bare] at hc <;> first | (simp at hc; done) | skip
  case seq c1 c2 =>
   split at hc
   ·rename_i x' y' h1 h2
    injection hc with hc
    injection hc with e1 e2
    subst e1; subst e2
    refine wp_seq (ihx h1 hr h fun e s' G' a' w1 hqa hle hr' => ?_)
    cases e with
    | normal => exact ihy h2 hr' hqa fun e2 s2 G2 a2 w2 q2 l2 r2 => hq e2 s2 G2 a2 w2 q2 (hle.tr l2) r2
    | exit id => exact hq _ s' G' a' w1 hqa hle hr'
    | ret => exact hq _ s' G' a' w1 hqa hle hr'
   ·cases hc
  all_goals first | (split at hc <;> simp at hc; done) | (rcases C8 hc with ⟨_, hk⟩ | ⟨_, _, _, hk⟩ | hk <;> cases hk; done)
 | cond cnd x y ihx ihy =>
  intro c Qa Q G s a w hc hr h hq
  cases c <;> simp only [EJ, bare] at hc <;> first | (simp at hc; done) | skip
  case cond o c1 c2 =>
   split at hc
   ·rename_i o' x' y' h0 h1 h2
    injection hc with hc
    injection hc with e0 e1 e2
    subst e0; subst e1; subst e2
    simp only [aw] at h
    unfold EF at h
    have hor := AU (G := G) (a := a) (e := s.e) h0 hr.tm
    split at h
    ·rename_i b hb
     rw [hb] at hor
     have hval : a.eval o = .bool b := by generalize a.eval o = v at hor; cases hor; rfl
     refine wp_cond hval ?_
     cases b with
     | true => exact ihx h1 hr (h.1 rfl) hq
     | false => exact ihy h2 hr (h.2 rfl) hq
    ·rename_i hb
     rw [hb] at hor
     obtain ⟨b, hval⟩ : ∃ b, a.eval o = .bool b := by generalize a.eval o = v at hor; cases hor; exact ⟨_, rfl⟩
     refine wp_cond hval ?_
     cases b with
     | true => exact ihx h1 hr h.1 hq
     | false => exact ihy h2 hr h.2 hq
    ·exact h.elim
   ·cases hc
  all_goals first | (split at hc <;> simp at hc; done) | (rcases C8 hc with ⟨_, hk⟩ | ⟨_, _, _, hk⟩ | hk <;> cases hk; done)
 | block id x ih =>
  intro c Qa Q G s a w hc hr h hq
  cases c <;> simp only [EJ, bare] at hc <;> first | (simp at hc; done) | skip
  case block id' c1 =>
   obtain ⟨x', h1, h2⟩ := Option.map_eq_some_iff.1 hc
   injection h2 with e1 e2
   subst e1; subst e2
   refine wp_block (ih h1 hr h fun e s' G' a' w1 hqa hle hr' => ?_)
   cases e with
   | normal => exact hq .normal s' G' a' w1 hqa hle hr'
   | exit i =>
    simp only [Cy] at hqa
    simp only [exR, Exit.inBlock]
    split
    ·rename_i hi; rw [if_pos hi] at hqa; exact hq .normal s' G' a' w1 hqa hle hr'
    ·rename_i hi; rw [if_neg hi] at hqa; exact hq (.exit i) s' G' a' w1 hqa hle hr'
   | ret => exact hq .ret s' G' a' w1 hqa hle hr'
  all_goals first | (split at hc <;> simp at hc; done) | (rcases C8 hc with ⟨_, hk⟩ | ⟨_, _, _, hk⟩ | hk <;> cases hk; done)
 | loop x ih =>
  intro c Qa Q G s a w hc hr h hq
  cases c <;> simp only [EJ, bare] at hc <;> first | (simp at hc; done) | skip
  case loop c1 =>
   obtain ⟨x', h1, h2⟩ := Option.map_eq_some_iff.1 hc
   injection h2 with e2
   subst e2
   have key := h (fun s => ∀ G1 a1 w1, G.Le G1 → RelS P w0 nt G1 s a1 w1 → ∀ b k cs, ∃ e a' w', Q e a' w' ∧ Arrives P (lone (b.at a1 (.code c1 :: .inLoop c1 :: k)) cs w1) b k cs e a' w') (by
    intro s1 hs1 G1 a1 w1 hle hr1 b k cs
    have hbody := ih (Q := Exit.then (fun a1 w1 => ∀ b k cs, ∃ e a' w', Q e a' w' ∧ Arrives P (lone (b.at a1 (.code c1 :: .inLoop c1 :: k)) cs w1) b k cs e a' w') Q) h1 hr1 hs1 (fun e s' G' a' w2 hqa hle2 hr' => by
     cases e with
     | normal => exact hqa G' a' w2 (hle.tr hle2) hr'
     | exit i => exact hq _ s' G' a' w2 hqa (hle.tr hle2) hr'
     | ret => exact hq _ s' G' a' w2 hqa (hle.tr hle2) hr')
    obtain ⟨e, a2, w2, hq2, harr⟩ := hbody b (.inLoop c1 :: k) cs
    cases e with
    | normal =>
     obtain ⟨e3, a3, w3, hq3, harr3⟩ := hq2 b k cs
     exact ⟨e3, a3, w3, hq3, .of_steps (Steps.trans harr (.one step_inLoop)) harr3⟩
    | exit i => exact ⟨_, a2, w2, hq2, .pass (x := .inLoop c1) rfl (fun _ _ => .inl (by simp)) harr⟩
    | goto l => exact ⟨_, a2, w2, hq2, .pass (x := .inLoop c1) rfl (fun _ _ => .inl (by simp)) harr⟩
    | ret => exact ⟨_, a2, w2, hq2, .pass (x := .inLoop c1) rfl (fun _ _ => .inl (by simp)) harr⟩
    | panic ch => exact ⟨_, a2, w2, hq2, .pass (x := .inLoop c1) rfl (fun _ _ => .inl (by simp)) harr⟩
    | outgrown => exact ⟨_, a2, w2, hq2, .pass (x := .inLoop c1) rfl (fun _ _ => .inl (by simp)) harr⟩)
   intro b k cs
   obtain ⟨e, a2, w2, hq2, harr⟩ := key G a w (Gh.Le.rfl_ G) hr b k cs
   exact ⟨e, a2, w2, hq2, .of_steps (.one step_loop) harr⟩
  all_goals first | (split at hc <;> simp at hc; done) | (rcases C8 hc with ⟨_, hk⟩ | ⟨_, _, _, hk⟩ | hk <;> cases hk; done)
 | exit id =>
  intro c Qa Q G s a w hc hr h hq
  cases c <;> simp only [EJ, bare] at hc <;> first | (simp at hc; done) | (split at hc <;> simp at hc; done) | (rcases C8 hc with ⟨_, hk⟩ | ⟨_, _, _, hk⟩ | hk <;> cases hk; done) | skip
  case exit id' =>
   injection hc with hc; injection hc with hc; subst hc
   exact wp_exit (hq (.exit _) s G a w h (Gh.Le.rfl_ G) hr)
 | ret =>
  intro c Qa Q G s a w hc hr h hq
  cases c <;> simp only [EJ, bare] at hc <;> first | exact wp_ret (hq .ret s G a w h (Gh.Le.rfl_ G) hr) | (simp at hc; done) | (split at hc <;> simp at hc; done) | (rcases C8 hc with ⟨_, hk⟩ | ⟨_, _, _, hk⟩ | hk <;> cases hk; done) | skip
 | bad =>
  intro c Qa Q G s a w hc hr h hq
  exact h.elim
 | kp ks x ih =>
  intro c Qa Q G s a w hc hr h hq
  exact ih hc (hr.env (fun t => RX s.e ks t)) h hq
 | ke ks x ih =>
  intro c Qa Q G s a w hc hr h hq
  refine ih hc hr h fun e s' G' a' w' hqa hle hr' => ?_
  cases e with
  | normal => exact hq .normal _ G' a' w' hqa hle (hr'.env (fun t => RX s'.e ks t))
  | _ => exact hq _ s' G' a' w' hqa hle hr'
end
open Go.RowKit
def RG (tmps : Array Value) : ResultVar → Sem Value
 | .tmp t => pure (tmps.getD t undef)
 | .cell a t => do loadVar t (← asAddr (tmps.getD a undef))
theorem TW (fn : Func) (tmps : Array Value) : results fn tmps = (do let vs ← fn.results.mapM (RG tmps); pure (if h : vs.size = 1 then vs[0] else .tuple vs)) := by
 unfold results
 congr 2
section
variable {P : Program} {w w' w0 : World} {G : Gh} {nt : Nat} {s : AS} {a : Act} {ef : List Nat}
theorem Yn {rv : ResultVar} {ar : ARes} {x : AV} (hr : RelS P w0 nt G s a w) (hc : IJ P [rv] = some [ar]) (h : F3 s ar = some x) :
  ∃ v, (RG a.tmps rv).run P w = .ok v w ∧ Rep G v x := by
 cases rv with
 | tmp t =>
  simp [IJ] at hc; subst hc
  simp only [F3] at h; injection h with h; subst h
  exact ⟨_, rfl, hr.tm t⟩
 | cell ad t =>
  simp only [IJ] at hc
  split at hc
  ·rename_i sh r hsh h2
   injection hc with hc; injection hc with e1 e2; subst e1
   simp only [F3] at h
   have hv := hr.tm ad
   obtain ⟨v, h3, h4⟩ := MX (t := t) hr.r0 hsh hv h
   refine ⟨v, ?_, h4⟩
   simp only [RG]
   generalize a.tmps.getD ad undef = av at h3 hv ⊢
   simp only [Instr.loadAt, Sem.run_bind] at h3 ⊢
   unfold BZ at h
   split at h
   ·rename_i g o he; rw [he] at hv; cases hv; exact h3
   ·rename_i y he; rw [he] at hv; cases hv; exact h3
   ·cases h
  ·cases hc
theorem Vj {rv : ResultVar} {rvs : List ResultVar} {ars : List ARes} (h : IJ P (rv :: rvs) = some ars) : ∃ ar ars', ars = ar :: ars' ∧ IJ P [rv] = some [ar] ∧ IJ P rvs = some ars' := by
 cases rv with
 | tmp t =>
  simp only [IJ] at h
  obtain ⟨r, h1, h2⟩ := Option.map_eq_some_iff.1 h
  exact ⟨.tmp t, r, h2.symm, by simp [IJ], h1⟩
 | cell ad t =>
  simp only [IJ] at h
  split at h
  ·rename_i sh r hsh h2
   injection h with h
   exact ⟨.cell ad sh, r, h.symm, by simp [IJ, hsh], h2⟩
  ·cases h
theorem SS : ∀ {rvs : List ResultVar} {ars : List ARes} {xs : List AV}, RelS P w0 nt G s a w → IJ P rvs = some ars → C5 s ars = some xs →
  ∃ vs, (rvs.mapM (RG a.tmps)).run P w = .ok vs w ∧ RepL G vs xs
 | [], ars, xs, hr, hc, h => by
  simp [IJ] at hc; subst hc
  simp [C5] at h; subst h
  exact ⟨[], by simp, .nil⟩
 | rv :: rvs, ars, xs, hr, hc, h => by
  obtain ⟨ar, ars', rfl, h1, h2⟩ := Vj hc
  simp only [C5] at h
  split at h
  ·rename_i x xs' h3 h4
   injection h with h; subst h
   obtain ⟨v, e1, e2⟩ := Yn hr h1 h3
   obtain ⟨vs, e3, e4⟩ := SS hr h2 h4
   refine ⟨v :: vs, ?_, .cons e2 e4⟩
   simp only [List.mapM_cons, Sem.run_bind, e1, Result.andThen_ok, e3, Sem.run_pure]
  ·cases h
theorem P6 {fn : Func} {ars : List ARes} {x : AV} (hr : RelS P w0 nt G s a w) (hc : IJ P fn.results.toList = some ars) (h : Br s ars = some x) : ∃ v, (results fn a.tmps).run P w = .ok v w ∧ Rep G v x := by
 unfold Br at h
 have main : ∀ xs, C5 s ars = some xs → ∃ vs, (results fn a.tmps).run P w = .ok (if h : vs.length = 1 then vs[0] else .tuple vs.toArray) w ∧ RepL G vs xs := by
  intro xs hx
  obtain ⟨vs, e1, e2⟩ := SS hr hc hx
  refine ⟨vs, ?_, e2⟩
  rw [TW, Array.mapM_eq_mapM_toList]
  simp only [Sem.run_bind, Sem.run_map, e1, Result.andThen_ok, Sem.run_pure]
  simp
 split at h
 ·rename_i y hx
  injection h with h; subst h
  obtain ⟨vs, e1, e2⟩ := main _ hx
  cases e2 with
  | cons hv hn =>
   cases hn
   exact ⟨_, e1, by simpa using hv⟩
 ·rename_i xs hne hx
  injection h with h; subst h
  obtain ⟨vs, e1, e2⟩ := main _ hx
  have hl := e2.len
  have : ¬ vs.length = 1 := by
   intro h1
   rw [hl] at h1
   match xs, h1 with
   | [y], _ => exact hne y rfl
  rw [dif_neg this] at e1
  exact ⟨_, e1, .tup e2⟩
 ·cases h
def Gg (args : List AV) : AT := args.zipIdx.map fun x => (x.2, x.1)
theorem WC (args : List AV) (t k : Nat) : get ((args.zipIdx k).map fun x => (x.2, x.1)) t = if k ≤ t then (args[t - k]?).getD .any else .any := by
 induction args generalizing k with
 | nil => simp [get]
 | cons x xs ih =>
  simp only [List.zipIdx_cons, List.map_cons, get, ih]
  by_cases h1 : k = t
  ·subst h1; simp
  ·rw [if_neg h1]
   by_cases h2 : k + 1 ≤ t
   ·rw [if_pos h2, if_pos (by omega)]
    rw [show t - k = (t - (k + 1)) + 1 by omega, List.getElem?_cons_succ]
   ·rw [if_neg h2, if_neg (by omega)]
theorem Ab {f : Nat} {fn : Func} {c : AFun} {args : List AV} {n : Nat} {H : A4} {R : Bi} (hf : P.funcs[f]? = some fn)
  (hc : (Aw P ef fn).map (fun x => (x.nargs, x.nt, x.res, x.code)) = some (c.nargs, c.nt, c.res, bare c.code)) (ha : args.length = c.nargs)
  (h : (∀ g, n ≤ g → H g = none) → aw P c.code (fin R n c.res) ⟨Gg args, n, H⟩) : ACalls P f args n H R := by
 intro hs w0 G w vs hld h0 hrep
 have hcode := h hs
 obtain ⟨fc, hfc, hpr⟩ := Option.map_eq_some_iff.1 hc
 simp only [Prod.mk.injEq] at hpr
 obtain ⟨p1, p2, p3, p4⟩ := hpr
 unfold Aw at hfc
 split at hfc
 ·rename_i code hb
  split at hfc
  ·rename_i ac r hcc hcr
   split at hfc
   ·rename_i hsz
    injection hfc with hfc
    subst hfc
    simp only at p1 p2 p3 p4
    have hvl : vs.length = fn.params.size + fn.nfree := by rw [hrep.len, ha, ← p1]
    have hrel : RelS P w0 fn.ntmps G ⟨Gg args, n, H⟩ { tmps := vs.toArray ++ Array.replicate (fn.ntmps - vs.toArray.size) undef, defers := [] } w := by
     refine ⟨h0, by simp; omega, rfl, hld, fun t => ?_⟩
     have hget := WC args t 0
     simp only [Nat.zero_le, if_true, Nat.sub_zero] at hget
     show Rep G _ (get ((args.zipIdx 0).map fun x => (x.2, x.1)) t)
     rw [hget]
     cases hat : args[t]? with
     | none => exact .any
     | some x =>
      obtain ⟨v, hv, hrv⟩ := hrep.at hat
      have hlt := (List.getElem?_eq_some_iff.1 hv).1
      have : (vs.toArray ++ Array.replicate (fn.ntmps - vs.toArray.size) undef).getD t undef = v := by
       rw [Array.getD_eq_getD_getElem?, Array.getElem?_append_left (by simpa using hlt)]
       simp [hv]
      rw [this]; exact hrv
    refine calls_of_wp hf hb (Sn c.code (by rw [← p4]; exact hcc) hrel hcode fun e s' G' a' w1 hq hle hr' => ?_)
    have fin' : (∃ r n' H', (∃ x, Br s' c.res = some x ∧ A8 x r) ∧ n ≤ n' ∧ n' ≤ s'.n ∧ (∀ k, n' ≤ k → H' k = none) ∧ SameB n' H' s'.H ∧ R r n' H') → a'.defers = [] ∧ ∃ v, (results fn a'.tmps).run P w1 = .ok v w1 ∧ ∃ (v' : Value) (r : AV) (G' : Gh) (n' : Nat) (H' : A4), Ending.returned v = .returned v' ∧ R r n' H' ∧ Rep G' v' r ∧ G.Le G' ∧ n ≤ n' ∧ Rel0 P w0 G' n' H' w1 := by
     rintro ⟨x, n', H', ⟨x0, h1, hx0⟩, h2, h3, h4, h5, h6⟩
     rw [← p3] at h1
     obtain ⟨v, e1, e2⟩ := P6 hr' hcr h1
     have e2 : Rep G' v x := e2.sim hx0
     exact ⟨hr'.df, v, e1, v, x, G', n', H', rfl, h6, e2, hle, h2, hr'.r0.less (by have := h0.lo; omega) h3 h4 h5⟩
    cases e with
    | normal => exact fin' hq
    | ret => exact fin' hq
    | exit id => exact hq.elim
   ·cases hfc
  ·cases hfc
 ·cases hfc
theorem A9 {f : Nat} {fn : Func} {c : AFun} {args : List AV} {v : AV} (hf : P.funcs[f]? = some fn)
  (hc : (Aw P ef fn).map (fun x => (x.nargs, x.nt, x.res, x.code)) = some (c.nargs, c.nt, c.res, bare c.code)) (ha : args.length = c.nargs)
  (h : ∀ n H, (∀ g, n ≤ g → H g = none) → aw P c.code (D1 v n H c.res) ⟨Gg args, n, H⟩) : APure P f args v := by
 intro n H
 refine Ab hf hc ha fun hs => Hf (h n H hs) fun e s' hq => ?_
 cases e with
 | normal =>
  exact ⟨v, n, H, hq.1, Nat.le_refl _, hq.2.1, hs, hq.2.2, rfl, rfl, rfl⟩
 | ret =>
  exact ⟨v, n, H, hq.1, Nat.le_refl _, hq.2.1, hs, hq.2.2, rfl, rfl, rfl⟩
 | exit id => exact hq
end
def Sup (n : Nat) (H : A4) : Prop := ∀ k, n ≤ k → H k = none
structure Mem (n0 : Nat) (H0 : A4) (n : Nat) (H : A4) : Prop where
 le : n0 ≤ n
 sup : Sup n H
 same : SameB n0 H0 H
def OwnS (n0 : Nat) (H : A4) (el sz : Nat) (x : AV) (l : List AV) : Prop :=
 (l = [] ∧ ∃ z, x = .sl z [] .nil) ∨ ∃ g, x = .sl sz l (.own g) ∧ H g = some (.row el l.length) ∧ n0 ≤ g
def Qy (x : AV) (k : Nat) : Prop := ∀ sz l, x ≠ .sl sz l (.own k)
theorem Mem.refl {n : Nat} {H : A4} (h : ∀ k, n ≤ k → H k = none) : Mem n H n H := ⟨Nat.le_refl _, h, SameB.rfl_ _ _⟩
section
variable {n0 n : Nat} {H0 H : A4}
theorem Mem.lt (h : Mem n0 H0 n H) {g : Nat} {ob : AObj} (hg : H g = some ob) : g < n := by
 rcases Nat.lt_or_ge g n with h1 | h1
 ·exact h1
 ·rw [h.sup g h1] at hg; cases hg
theorem Sup.lt {g : Nat} {ob : AObj} (h : Sup n H) (hg : H g = some ob) : g < n := by
 rcases Nat.lt_or_ge g n with h1 | h1
 ·exact h1
 ·rw [h g h1] at hg; cases hg
theorem Mem.alloc (h : Mem n0 H0 n H) {g : Nat} (hg : n ≤ g) (ob : AObj) : Mem n0 H0 (g + 1) (upd H g (some ob)) := by
 have := h.le
 refine ⟨by omega, fun k hk => ?_, h.same.upd (by omega) _⟩
 rw [upd_ne (by omega)]; exact h.sup k (by omega)
theorem Mem.set (h : Mem n0 H0 n H) {g : Nat} {ob : AObj} (hg : H g = some ob) (hn : n0 ≤ g) (x : Option AObj) : Mem n0 H0 n (upd H g x) := by
 have hl := h.lt hg
 refine ⟨h.le, fun k hk => ?_, h.same.upd hn _⟩
 rw [upd_ne (by omega)]; exact h.sup k hk
theorem Mem.tr (h : Mem n0 H0 n H) {n' : Nat} {H' : A4} (k : Mem n H n' H') : Mem n0 H0 n' H' :=
 ⟨Nat.le_trans h.le k.le, k.sup, fun j hj => (k.same j (Nat.lt_of_lt_of_le hj h.le)).trans (h.same j hj)⟩
theorem Mem.fin {v : AV} {res : List ARes} {e : AT} (h : Mem n0 H0 n H) (h1 : ∃ x, Br ⟨e, n, H⟩ res = some x ∧ A8 x v) : D1 v n0 H0 res .ret ⟨e, n, H⟩ := ⟨h1, h.le, h.same⟩
theorem OwnS.nil (z : Nat) (el sz : Nat) : OwnS n0 H el sz (.sl z [] .nil) [] := .inl ⟨rfl, z, rfl⟩
theorem OwnS.own {el sz g : Nat} {l : List AV} (h : H g = some (.row el l.length)) (hn : n0 ≤ g) : OwnS n0 H el sz (.sl sz l (.own g)) l := .inr ⟨g, rfl, h, hn⟩
theorem OwnS.keep {el sz : Nat} {x : AV} {l : List AV} {H' : A4} (h : OwnS n0 H el sz x l) (hk : ∀ g e m, H g = some (.row e m) → H' g = some (.row e m)) : OwnS n0 H' el sz x l := by
 rcases h with h | ⟨g, h1, h2, h3⟩
 ·exact .inl h
 ·exact .inr ⟨g, h1, hk _ _ _ h2, h3⟩
theorem Xy {el sz by_ : Nat} {d : Option Nat} {e : AT} {K : AS → Prop} {x : AV} {l m m' : List AV} {z : Nat} {t : Tok} (hz : z = sz ∨ m = []) (hs : AC m m') (hm : Mem n0 H0 n H) (hx : OwnS n0 H el sz x l) (hb : (l.length + m.length) * by_ ≤ 140737488355328) (hc : l.length + m.length ≤ maxLen)
  (h : ∀ x' n' H', OwnS n0 H' el sz x' (l ++ m') → Mem n0 H0 n' H' → (∀ k ob, H k = some ob → Qy x k → H' k = some ob) → (∀ k, k < n → Qy x k → Qy x' k) → n ≤ n' → K ⟨AP e d x', n', H'⟩) : appKS el sz by_ d K ⟨e, n, H⟩ x (.sl z m t) := by
 have hl := CX hs
 have hsup := hm.sup
 have hle := hm.le
 rcases hx with ⟨rfl, z, rfl⟩ | ⟨g, rfl, hg, hng⟩
 ·by_cases hm0 : m = []
  ·subst hm0
   simp only [AC] at hs; subst hs
   refine ⟨.inr rfl, [], rfl, by simp, by simp [maxLen], fun _ => ?_, fun h' => absurd rfl h'⟩
   exact h _ _ _ (.inl ⟨rfl, _, rfl⟩) hm (fun k ob hk _ => hk) (fun k hk _ s l h' => by injection h' with _ _ h'; cases h') (Nat.le_refl _)
  ·refine XA hz hs hm0 (by simpa using hb) (by simpa using hc) fun g hg => ?_
   refine h _ _ _ ?_ (hm.alloc hg _) (fun k ob hk _ => ?_) (fun k hk _ => ?_) (by omega)
   ·simp only [List.nil_append]
    exact .inr ⟨g, rfl, by rw [AX], by omega⟩
   ·have := hm.lt hk
    rw [upd_ne (by omega)]; exact hk
   ·intro s l' h'; injection h' with _ _ h'; injection h' with h'; omega
 ·have hgn := hm.lt hg
  refine WU hz hs hg hb hc fun g' n' hg' hn' hgn' => ?_
  refine h _ _ _ (.inr ⟨g', rfl, by rw [AX, List.length_append], by omega⟩) ⟨by omega, fun k hk => ?_, fun k hk => ?_⟩ (fun k ob hk hr => ?_) (fun k hk hr => ?_) hn'
  ·rw [upd_ne (by omega)]
   simp only [upd]; split
   ·rfl
   ·exact hsup k (by omega)
  ·rw [upd_ne (by omega), upd_ne (by omega)]; exact hm.same k hk
  ·have hkn := hm.lt hk
   have hkg : k ≠ g := by rintro rfl; exact hr _ _ rfl
   have hkg' : k ≠ g' := by rcases hg' with rfl | hg' <;> omega
   rw [upd_ne hkg', upd_ne hkg]; exact hk
  ·intro s l' h'
   injection h' with _ _ h'; injection h' with h'
   subst h'
   rcases hg' with rfl | hg'
   ·exact hr _ _ rfl
   ·omega
theorem OwnS.sim {el sz : Nat} {x : AV} {l l' : List AV} (h : OwnS n0 H el sz x l) (hl : AC l l') : A8 x (.sl sz l' .ro) := by
 rcases h with ⟨rfl, z, rfl⟩ | ⟨g, rfl, _⟩
 ·exact ⟨sz, l', .ro, rfl, .inl rfl, .inr ⟨rfl, rfl⟩, hl⟩
 ·exact ⟨sz, l', .ro, rfl, .inl rfl, .inl rfl, hl⟩
end
theorem bytesOf_map (bs : List UInt8) : bytesOf (bs.map fun u => AV.int .u8 u.toNat) = some bs := by
 induction bs with
 | nil => rfl
 | cons b bs ih =>
  simp only [List.map_cons, bytesOf, ih, Option.map_some]
  congr 2
  simp
theorem TO {a b : UInt8} : ((a.toNat : Int) = (b.toNat : Int)) ↔ a = b := by rw [← UInt8.toNat_inj]; omega
theorem Fc {a : UInt8} {n : Nat} : ((a.toNat : Int) = (no_index (OfNat.ofNat n) : Int)) ↔ (n < 256 ∧ a = UInt8.ofNat n) := by
 constructor
 ·intro h
  have h' : a.toNat = n := Int.ofNat_inj.1 h
  have := a.toNat_lt
  exact ⟨by omega, by rw [← UInt8.toNat_inj]; simp; omega⟩
 ·rintro ⟨h, rfl⟩
  rw [show (UInt8.ofNat n).toNat = n from by simp; omega]; rfl
structure Keeps (n0 : Nat) (H0 : A4) (g : Nat) (ob : AObj) (n : Nat) (H : A4) : Prop where
 mem : Mem n0 H0 n H
 at_ : H g = some ob
 lo : n0 ≤ g
theorem Keeps.alloc {n0 n g : Nat} {H0 H : A4} {ob : AObj} (h : Keeps n0 H0 g ob n H) {k : Nat} (hk : n ≤ k) (x : AObj) : Keeps n0 H0 g ob (k + 1) (upd H k (some x)) :=
 ⟨h.mem.alloc hk x, by rw [upd_ne (by have := h.mem.lt h.at_; omega)]; exact h.at_, h.lo⟩
theorem Keeps.new {n g : Nat} {H : A4} (hs : ∀ k, n ≤ k → H k = none) (hg : n ≤ g) (ob : AObj) : Keeps n H g ob (g + 1) (upd H g (some ob)) :=
 ⟨(Mem.refl hs).alloc hg ob, AX _ _ _, hg⟩
theorem Ko (c : UInt8) : bytesOf [AV.int .u8 c.toNat] = some [c] := bytesOf_map [c]
theorem Ie (c d : UInt8) : bytesOf [AV.int .u8 c.toNat, AV.int .u8 d.toNat] = some [c, d] := bytesOf_map [c, d]
theorem CallP.chk {P : Program} {f : Nat} {args : List AV} {d : Option Nat} {K : AS → Prop} {s : AS} (h : CallP P f args d K s) : CallP P f args d K s := h
theorem CallP.of {P : Program} {f : Nat} {args args' : List AV} {d : Option Nat} {K : AS → Prop} {e : AT} {n : Nat} {H : A4} {v : AV} (h : APure P f args' v) (hs : AC args args') (hk : K ⟨AP e d v, n, H⟩) : CallP P f args d K ⟨e, n, H⟩ := ⟨args', v, h, hs, hk⟩
theorem CallP.sf {P : Program} {f : Nat} {args args' : List AV} {d : Option Nat} {K : AS → Prop} {e : AT} {n : Nat} {H : A4} {v : AV} (hs : AC args args') (h : APure P f args' v) (hk : K ⟨AP e d v, n, H⟩) : CallP P f args d K ⟨e, n, H⟩ := ⟨args', v, h, hs, hk⟩
theorem A7 {v : AV} {n n' : Nat} {H H' : A4} {res : List ARes} {e : AT} (h : ∃ x, Br ⟨e, n', H'⟩ res = some x ∧ A8 x v) (h1 : n ≤ n') (h2 : SameB n H H') : D1 v n H res .ret ⟨e, n', H'⟩ := ⟨h, h1, h2⟩
structure OwnR where
 el : Nat
 sz : Nat
 x : AV
 l : List AV
def Uz (a b : OwnR) : Prop := ∀ k, (∃ s l, a.x = .sl s l (.own k)) → Qy b.x k
structure Owns (n0 : Nat) (H0 : A4) (bs : List (Nat × AObj)) (os : List OwnR) (n : Nat) (H : A4) : Prop where
 mem : Mem n0 H0 n H
 box : ∀ b ∈ bs, H b.1 = some b.2 ∧ n0 ≤ b.1 ∧ ∀ e m, b.2 ≠ .row e m
 row : ∀ o ∈ os, OwnS n0 H o.el o.sz o.x o.l
 apart : os.Pairwise Uz
def AI (n : Nat) (H : A4) : List (Nat × AObj) → Prop
 | [] => True
 | [(g, ob)] => H g = some ob ∧ g < n
 | (g, ob) :: bs => H g = some ob ∧ g < n ∧ AI n H bs
def AM : List OwnR → Prop
 | [] => True
 | o :: os => VA o.x = some (.int .i64 o.l.length) ∧ (∀ s i, D6 o.sz s o.x i = D6 o.sz s (.sl o.sz o.l .ro) i) ∧ (∀ lo hi, M4 o.sz o.x lo hi = M4 o.sz (.sl o.sz o.l .ro) lo hi) ∧ AM os
def AN (n : Nat) (H : A4) (bs : List (Nat × AObj)) (os : List OwnR) : Prop := AI n H bs ∧ AM os
section
variable {n0 n : Nat} {H0 H : A4} {bs : List (Nat × AObj)} {os : List OwnR}
theorem Owns.le (h : Owns n0 H0 bs os n H) : n0 ≤ n := h.mem.le
theorem Owns.same (h : Owns n0 H0 bs os n H) : SameB n0 H0 H := h.mem.same
theorem OwnS.rowF {el sz : Nat} {x : AV} {l : List AV} (h : OwnS n0 H el sz x l) : VA x = some (.int .i64 l.length) ∧ (∀ s i, D6 sz s x i = D6 sz s (.sl sz l .ro) i) ∧ (∀ lo hi, M4 sz x lo hi = M4 sz (.sl sz l .ro) lo hi) := by
 rcases h with ⟨rfl, z, rfl⟩ | ⟨g, rfl, _⟩
 ·refine ⟨rfl, fun s i => ?_, fun lo hi => ?_⟩
  ·unfold D6; cases i <;> first | rfl | (simp)
  ·simp [M4]
 ·exact ⟨rfl, fun _ i => by cases i <;> rfl, fun _ _ => rfl⟩
theorem Owns.boxF (h : Owns n0 H0 bs os n H) : AN n H bs os := by
 have key : ∀ bs' : List (Nat × AObj), (∀ b ∈ bs', H b.1 = some b.2 ∧ b.1 < n) → AI n H bs' := by
  intro bs'
  induction bs' with
  | nil => intro _; trivial
  | cons b bs' ih =>
   intro hh
   obtain ⟨g, ob⟩ := b
   cases bs' with
   | nil => exact hh (g, ob) List.mem_cons_self
   | cons c bs' => exact ⟨(hh (g, ob) List.mem_cons_self).1, (hh (g, ob) List.mem_cons_self).2, ih fun b hb => hh b (List.mem_cons_of_mem _ hb)⟩
 have key2 : ∀ os' : List OwnR, (∀ o ∈ os', OwnS n0 H o.el o.sz o.x o.l) → AM os' := by
  intro os'
  induction os' with
  | nil => intro _; trivial
  | cons o os' ih =>
   intro hh
   obtain ⟨h1, h2, h3⟩ := (hh o List.mem_cons_self).rowF
   exact ⟨h1, h2, h3, ih fun b hb => hh b (List.mem_cons_of_mem _ hb)⟩
 exact ⟨key bs fun b hb => ⟨(h.box b hb).1, h.mem.lt (h.box b hb).1⟩, key2 os h.row⟩
theorem Owns.start (hs : ∀ k, n ≤ k → H k = none) : Owns n H [] [] n H := ⟨Mem.refl hs, by simp, by simp, .nil⟩
theorem Owns.alloc (h : Owns n0 H0 bs os n H) {g : Nat} (hg : n ≤ g) (ob : AObj) : Owns n0 H0 bs os (g + 1) (upd H g (some ob)) := by
 refine ⟨h.mem.alloc hg ob, fun b hb => ?_, fun o ho => ?_, h.apart⟩
 ·obtain ⟨h1, h2⟩ := h.box b hb
  have := h.mem.lt h1
  exact ⟨by rw [upd_ne (by omega)]; exact h1, h2⟩
 ·refine (h.row o ho).keep fun k e m hk => ?_
  have := h.mem.lt hk
  rw [upd_ne (by omega)]; exact hk
theorem Owns.addOb (h : Owns n0 H0 bs os n H) {g : Nat} (hg : n ≤ g) (ob : AObj) (hr : ∀ e m, ob ≠ .row e m) : Owns n0 H0 ((g, ob) :: bs) os (g + 1) (upd H g (some ob)) := by
 have h' := h.alloc hg ob
 refine ⟨h'.mem, fun b hb => ?_, h'.row, h'.apart⟩
 rcases List.mem_cons.1 hb with rfl | hb
 ·exact ⟨AX _ _ _, by have := h.mem.le; simp only; omega, hr⟩
 ·exact h'.box b hb
theorem Owns.addBox (h : Owns n0 H0 bs os n H) {g : Nat} (hg : n ≤ g) (e : TypeId) (cs : List AV) : Owns n0 H0 ((g, .cells e cs) :: bs) os (g + 1) (upd H g (some (.cells e cs))) :=
 h.addOb hg _ fun _ _ h => by cases h
theorem Owns.addNil (h : Owns n0 H0 bs os n H) (el sz z : Nat) : Owns n0 H0 bs (⟨el, sz, .sl z [] .nil, []⟩ :: os) n H :=
 ⟨h.mem, h.box, fun o ho => by
  rcases List.mem_cons.1 ho with rfl | ho
  ·exact OwnS.nil z el sz
  ·exact h.row o ho, .cons (fun b _ k ⟨s, l, hx⟩ => by injection hx with _ _ hx; cases hx) h.apart⟩
theorem Owns.dropBox {b : Nat × AObj} (h : Owns n0 H0 (b :: bs) os n H) : Owns n0 H0 bs os n H := ⟨h.mem, fun o' ho => h.box o' (List.mem_cons_of_mem _ ho), h.row, h.apart⟩
theorem Owns.swap {a b : OwnR} (h : Owns n0 H0 bs (a :: b :: os) n H) : Owns n0 H0 bs (b :: a :: os) n H := by
 have h1 := List.pairwise_cons.1 h.apart
 have h2 := List.pairwise_cons.1 h1.2
 refine ⟨h.mem, h.box, fun o ho => h.row o ?_, List.pairwise_cons.2 ⟨fun c hc => ?_, List.pairwise_cons.2 ⟨fun c hc => h1.1 c (List.mem_cons_of_mem _ hc), h2.2⟩⟩⟩
 ·rcases List.mem_cons.1 ho with rfl | ho
  ·exact List.mem_cons_of_mem _ List.mem_cons_self
  ·rcases List.mem_cons.1 ho with rfl | ho
   ·exact List.mem_cons_self
   ·exact List.mem_cons_of_mem _ (List.mem_cons_of_mem _ ho)
 ·rcases List.mem_cons.1 hc with rfl | hc
  ·intro k ⟨s, l, hx⟩ s' l' hx'
   exact h1.1 b List.mem_cons_self k ⟨s', l', hx'⟩ s l hx
  ·exact h2.1 c hc
theorem Owns.sim0 {o : OwnR} (h : Owns n0 H0 bs (o :: os) n H) {l' : List AV} (hl : AC o.l l') : A8 o.x (.sl o.sz l' .ro) := (h.row o List.mem_cons_self).sim hl
theorem Owns.sim1 {a o : OwnR} (h : Owns n0 H0 bs (a :: o :: os) n H) {l' : List AV} (hl : AC o.l l') : A8 o.x (.sl o.sz l' .ro) := (h.row o (List.mem_cons_of_mem _ List.mem_cons_self)).sim hl
theorem Rz {x y : AV} (h : A8 x y) : AC [x] [y] := ⟨y, [], rfl, h, rfl⟩
theorem Owns.simL0 {el sz : Nat} {x : AV} {l : List AV} (h : Owns n0 H0 bs (⟨el, sz, x, l⟩ :: os) n H) : AC [x] [.sl sz l .ro] := Rz (h.sim0 (A0 _))
theorem Owns.simL1 {a : OwnR} {el sz : Nat} {x : AV} {l : List AV} (h : Owns n0 H0 bs (a :: ⟨el, sz, x, l⟩ :: os) n H) : AC [x] [.sl sz l .ro] := Rz (h.sim1 (A0 _))
theorem OwnS.fit {el sz : Nat} {x : AV} {l : List AV} (h : OwnS n0 H el sz x l) : Az none x := by
 rcases h with ⟨_, z, rfl⟩ | ⟨g, rfl, _⟩ <;> (rw [IF]; trivial)
theorem Owns.fit0 {el sz : Nat} {x : AV} {l : List AV} (h : Owns n0 H0 bs (⟨el, sz, x, l⟩ :: os) n H) : Az none x := (h.row _ List.mem_cons_self).fit
theorem Owns.fit1 {a : OwnR} {el sz : Nat} {x : AV} {l : List AV} (h : Owns n0 H0 bs (a :: ⟨el, sz, x, l⟩ :: os) n H) : Az none x := (h.row _ (List.mem_cons_of_mem _ List.mem_cons_self)).fit
theorem Owns.simC0 {el sz : Nat} {x : AV} {l r : List AV} (h : Owns n0 H0 bs (⟨el, sz, x, l⟩ :: os) n H) : AC (x :: r) (.sl sz l .ro :: r) := ⟨_, _, rfl, h.sim0 (A0 _), A0 _⟩
theorem Owns.simC1 {a : OwnR} {el sz : Nat} {x : AV} {l r : List AV} (h : Owns n0 H0 bs (a :: ⟨el, sz, x, l⟩ :: os) n H) : AC (x :: r) (.sl sz l .ro :: r) := ⟨_, _, rfl, h.sim1 (A0 _), A0 _⟩
theorem Owns.len0 {o : OwnR} (h : Owns n0 H0 bs (o :: os) n H) : ∃ z t, o.x = .sl z o.l t ∧ (z = o.sz ∨ o.l = []) := by
 rcases h.row o List.mem_cons_self with ⟨h1, z, h2⟩ | ⟨g, h1, h2, h3⟩
 ·exact ⟨z, .nil, by rw [h1]; exact h2, .inr h1⟩
 ·exact ⟨_, _, h1, .inl rfl⟩
theorem Owns.app {el sz by_ : Nat} {d : Option Nat} {e : AT} {K : AS → Prop} {x : AV} {l m m' : List AV} {z : Nat} {t : Tok} (h : Owns n0 H0 bs (⟨el, sz, x, l⟩ :: os) n H) (hz : z = sz ∨ m = []) (hs : AC m m') (hb : (l.length + m.length) * by_ ≤ 140737488355328) (hc : l.length + m.length ≤ maxLen)
  (hk : ∀ x' n' H', n ≤ n' → Owns n0 H0 bs (⟨el, sz, x', l ++ m'⟩ :: os) n' H' → AN n' H' bs (⟨el, sz, x', l ++ m'⟩ :: os) → K ⟨AP e d x', n', H'⟩) : appKS el sz by_ d K ⟨e, n, H⟩ x (.sl z m t) := by
 have hap := List.pairwise_cons.1 h.apart
 refine Xy hz hs h.mem (h.row _ List.mem_cons_self) hb hc fun x' n' H' ho hm hkeep hnr hle => ?_
 have hO : Owns n0 H0 bs (⟨el, sz, x', l ++ m'⟩ :: os) n' H' := by
  refine ⟨hm, fun b hb => ?_, fun o ho' => ?_, List.pairwise_cons.2 ⟨fun b hb => ?_, hap.2⟩⟩
  ·obtain ⟨h1, h2, h3⟩ := h.box b hb
   refine ⟨hkeep _ _ h1 fun s l' hx => ?_, h2, h3⟩
   rcases h.row _ List.mem_cons_self with ⟨_, z', h4⟩ | ⟨g, h4, h5, _⟩
   ·simp only at h4; rw [h4] at hx; injection hx with _ _ hx; cases hx
   ·simp only at h4 h5; rw [h4] at hx; injection hx with _ _ hx; injection hx with hx
    subst hx
    rw [h5] at h1; injection h1 with h1; exact h3 _ _ h1.symm
  ·rcases List.mem_cons.1 ho' with rfl | ho'
   ·exact ho
   ·refine (h.row o (List.mem_cons_of_mem _ ho')).elim .inl fun ⟨g, h1, h2, h3⟩ => .inr ⟨g, h1, hkeep _ _ h2 fun s l' hx => ?_, h3⟩
    exact hap.1 o ho' g ⟨s, l', hx⟩ _ _ h1
  ·intro k hxk s l' hbx
   obtain ⟨s1, l1, hx1⟩ := hxk
   rcases h.row b (List.mem_cons_of_mem _ hb) with ⟨_, z', h4⟩ | ⟨g, h4, h5, _⟩
   ·rw [h4] at hbx; injection hbx with _ _ hbx; cases hbx
   ·rw [h4] at hbx; injection hbx with _ _ hbx; injection hbx with hbx
    subst hbx
    refine hnr g (h.mem.lt h5) (fun s2 l2 hx2 => ?_) s1 l1 hx1
    exact hap.1 b hb g ⟨s2, l2, hx2⟩ _ _ h4
 exact hk x' n' H' hle hO hO.boxF
theorem Owns.app1 {el sz by_ : Nat} {d : Option Nat} {e : AT} {K : AS → Prop} {x : AV} {l m m' : List AV} {z : Nat} {t : Tok} {a : OwnR} (h : Owns n0 H0 bs (a :: ⟨el, sz, x, l⟩ :: os) n H) (hz : z = sz ∨ m = []) (hs : AC m m') (hb : (l.length + m.length) * by_ ≤ 140737488355328) (hc : l.length + m.length ≤ maxLen)
  (hk : ∀ x' n' H', n ≤ n' → Owns n0 H0 bs (a :: ⟨el, sz, x', l ++ m'⟩ :: os) n' H' → AN n' H' bs (a :: ⟨el, sz, x', l ++ m'⟩ :: os) → K ⟨AP e d x', n', H'⟩) : appKS el sz by_ d K ⟨e, n, H⟩ x (.sl z m t) :=
 h.swap.app hz hs hb hc fun x' n' H' hle hO hB => hk x' n' H' hle hO.swap hO.swap.boxF
theorem Owns.setOb {g : Nat} {ob : AObj} (h : Owns n0 H0 ((g, ob) :: bs) os n H) (hne : ∀ b ∈ bs, b.1 ≠ g) (ob' : AObj) (hr : ∀ e m, ob' ≠ .row e m) : Owns n0 H0 ((g, ob') :: bs) os n (upd H g (some ob')) := by
 obtain ⟨h1, h2, h3⟩ := h.box (g, ob) List.mem_cons_self
 simp only at h1 h2 h3
 refine ⟨h.mem.set h1 h2 _, fun b hb => ?_, fun o ho => ?_, h.apart⟩
 ·rcases List.mem_cons.1 hb with rfl | hb
  ·exact ⟨AX _ _ _, h2, hr⟩
  ·rw [upd_ne (hne b hb)]; exact h.box b (List.mem_cons_of_mem _ hb)
 ·refine (h.row o ho).keep fun k e m hk => ?_
  rw [upd_ne (fun e => ?_)]
  ·exact hk
  ·subst e; rw [h1] at hk; injection hk with hk; exact h3 _ _ hk
theorem Owns.set0 {g : Nat} {ob : AObj} (h : Owns n0 H0 ((g, ob) :: bs) os n H) (hne : ∀ b ∈ bs, b.1 ≠ g) (e : TypeId) (cs : List AV) : Owns n0 H0 ((g, .cells e cs) :: bs) os n (upd H g (some (.cells e cs))) :=
 h.setOb hne _ fun _ _ h => by cases h
theorem appKS.chk {el sz by_ : Nat} {d : Option Nat} {K : AS → Prop} {s : AS} {x y : AV} (h : appKS el sz by_ d K s x y) : appKS el sz by_ d K s x y := h
theorem Bq {z z' : Nat} {t : Tok} : A8 (.sl z [] t) (.sl z' [] .ro) := ⟨_, _, _, rfl, .inl rfl, .inr ⟨rfl, rfl⟩, rfl⟩
theorem AL {x y : AV} {xs ys : List AV} (h : A8 x y) (k : AC xs ys) : AC (x :: xs) (y :: ys) := ⟨y, ys, rfl, h, k⟩
theorem Ew {l m : List AV} (h : AC l m) : A8 (.tup l) (.tup m) := ⟨m, rfl, h⟩
theorem CI {l m : List AV} (h : AC l m) : A8 (.agg l) (.agg m) := ⟨m, rfl, h⟩
theorem A5 {ob : AObj} {d : Option Nat} {K : AS → Prop} {e : AT} (h : ∀ g, n ≤ g → K ⟨AP e d (.ptr g 0), g + 1, upd H g (some ob)⟩) : WP ob d K e n H := h
theorem AH {sz : Nat} {l : List AV} {ob : AObj} {d : Option Nat} {K : AS → Prop} {e : AT} (h : ∀ g, n ≤ g → K ⟨AP e d (.sl sz l (.own g)), g + 1, upd H g (some ob)⟩) : VE sz l ob d K e n H := h
theorem YN {kk : Option IntKind} {d : Option Nat} {K : AS → Prop} {e : AT} (h : ∀ g, n ≤ g → K ⟨AP e d (.mp g), g + 1, upd H g (some (.map kk []))⟩) : A2x kk d K e n H := h
theorem AY {t : TypeId} {cs : List AV} {d : Option Nat} {K : AS → Prop} {e : AT} (h : Owns n0 H0 bs os n H) (hk : ∀ g, n ≤ g → Owns n0 H0 ((g, .cells t cs) :: bs) os (g + 1) (upd H g (some (.cells t cs))) → K ⟨AP e d (.ptr g 0), g + 1, upd H g (some (.cells t cs))⟩) : WP (.cells t cs) d K e n H :=
 fun g hg => hk g hg (h.addBox hg t cs)
theorem AO {sz : Nat} {l : List AV} {ob : AObj} {d : Option Nat} {K : AS → Prop} {e : AT} (h : Owns n0 H0 bs os n H) (hk : ∀ g, n ≤ g → Owns n0 H0 bs os (g + 1) (upd H g (some ob)) → K ⟨AP e d (.sl sz l (.own g)), g + 1, upd H g (some ob)⟩) : VE sz l ob d K e n H :=
 fun g hg => hk g hg (h.alloc hg ob)
end
def APureAt (P : Program) (f : Nat) (args : List AV) (n : Nat) (H : A4) (v : AV) : Prop := ACalls P f args n H fun r n' H' => r = v ∧ n' = n ∧ H' = H
section
variable {P : Program} {f : Nat} {n : Nat} {H : A4} {v : AV}
theorem APure.at_ {args : List AV} (h : APure P f args v) (n : Nat) (H : A4) : APureAt P f args n H v := h n H
theorem APureAt.sim {args args' : List AV} (h : APureAt P f args' n H v) (hs : AC args args') : APureAt P f args n H v := ACalls.sim h hs
theorem D2 {ef : List Nat} {fn : Func} {c : AFun} {args : List AV} (hf : P.funcs[f]? = some fn)
  (hc : (Aw P ef fn).map (fun x => (x.nargs, x.nt, x.res, x.code)) = some (c.nargs, c.nt, c.res, bare c.code)) (ha : args.length = c.nargs)
  (h : (∀ g, n ≤ g → H g = none) → aw P c.code (D1 v n H c.res) ⟨Gg args, n, H⟩) : APureAt P f args n H v := by
 refine Ab hf hc ha fun hs => Hf (h hs) fun e s' hq => ?_
 cases e with
 | normal => exact ⟨v, n, H, hq.1, Nat.le_refl _, hq.2.1, hs, hq.2.2, rfl, rfl, rfl⟩
 | ret => exact ⟨v, n, H, hq.1, Nat.le_refl _, hq.2.1, hs, hq.2.2, rfl, rfl, rfl⟩
 | exit id => exact hq
theorem CallK.chk {args : List AV} {d : Option Nat} {K : AS → Prop} {s : AS} (h : CallK P f args d K s) : CallK P f args d K s := h
theorem CallK.ofAt {args args' : List AV} {d : Option Nat} {K : AS → Prop} {e : AT} (h : APureAt P f args' n H v) (hs : AC args args') (hk : K ⟨AP e d v, n, H⟩) : CallK P f args d K ⟨e, n, H⟩ :=
 ⟨_, h.sim hs, fun r n' H' _ _ ⟨e1, e2, e3⟩ => by subst e1; subst e2; subst e3; exact hk⟩
theorem CallK.sfAt {args args' : List AV} {d : Option Nat} {K : AS → Prop} {e : AT} (hs : AC args args') (h : APureAt P f args' n H v) (hk : K ⟨AP e d v, n, H⟩) : CallK P f args d K ⟨e, n, H⟩ := CallK.ofAt h hs hk
end
def AUpd (P : Program) (f : Nat) (args : List AV) (n : Nat) (H : A4) (v : AV) (g : Nat) (ob : AObj) : Prop := ACalls P f args n H fun r n' H' => r = v ∧ n' = n ∧ H' = upd H g (some ob)
section
variable {P : Program} {f : Nat} {n : Nat} {H : A4} {v : AV}
theorem AUpd.sim {args args' : List AV} {g : Nat} {ob : AObj} (h : AUpd P f args' n H v g ob) (hs : AC args args') : AUpd P f args n H v g ob := ACalls.sim h hs
theorem Ft {ef : List Nat} {fn : Func} {c : AFun} {args : List AV} {g : Nat} {ob ob0 : AObj} (hf : P.funcs[f]? = some fn)
  (hc : (Aw P ef fn).map (fun x => (x.nargs, x.nt, x.res, x.code)) = some (c.nargs, c.nt, c.res, bare c.code)) (ha : args.length = c.nargs) (hg : H g = some ob0)
  (h : (∀ g, n ≤ g → H g = none) → aw P c.code (D1 v n (upd H g (some ob)) c.res) ⟨Gg args, n, H⟩) : AUpd P f args n H v g ob := by
 refine Ab hf hc ha fun hs => ?_
 have hgn : g < n := by
  rcases Nat.lt_or_ge g n with h1 | h1
  ·exact h1
  ·rw [hs g h1] at hg; cases hg
 have hs' : ∀ k, n ≤ k → upd H g (some ob) k = none := fun k hk => by rw [upd_ne (by omega)]; exact hs k hk
 refine Hf (h hs) fun e s' hq => ?_
 cases e with
 | normal => exact ⟨v, n, _, hq.1, Nat.le_refl _, hq.2.1, hs', hq.2.2, rfl, rfl, rfl⟩
 | ret => exact ⟨v, n, _, hq.1, Nat.le_refl _, hq.2.1, hs', hq.2.2, rfl, rfl, rfl⟩
 | exit id => exact hq
theorem CallK.ofU {args args' : List AV} {d : Option Nat} {K : AS → Prop} {e : AT} {g : Nat} {ob : AObj} (h : AUpd P f args' n H v g ob) (hs : AC args args') (hk : K ⟨AP e d v, n, upd H g (some ob)⟩) : CallK P f args d K ⟨e, n, H⟩ :=
 ⟨_, h.sim hs, fun r n' H' _ _ ⟨e1, e2, e3⟩ => by subst e1; subst e2; subst e3; exact hk⟩
theorem CallK.sfU {args args' : List AV} {d : Option Nat} {K : AS → Prop} {e : AT} {g : Nat} {ob : AObj} (hs : AC args args') (h : AUpd P f args' n H v g ob) (hk : K ⟨AP e d v, n, upd H g (some ob)⟩) : CallK P f args d K ⟨e, n, H⟩ := CallK.ofU h hs hk
def AHp (P : Program) (f : Nat) (args : List AV) (n : Nat) (H : A4) (v : AV) (H2 : A4) : Prop := ACalls P f args n H fun r n' H' => r = v ∧ n' = n ∧ H' = H2
theorem AHp.sim {args args' : List AV} {H2 : A4} (h : AHp P f args' n H v H2) (hs : AC args args') : AHp P f args n H v H2 := ACalls.sim h hs
theorem Owns.at_ {n0 : Nat} {H0 : A4} {bs : List (Nat × AObj)} {os : List OwnR} {g : Nat} {a : AObj} (h : Owns n0 (upd H0 g (some a)) bs os n H) (hg : g < n0) : H g = some a := by
 rw [h.mem.same g hg]; exact AX _ _ _
end
open Go.RowKit
section
variable {P : Program} {w w0 : World} {G : Gh} {n : Nat} {H : A4}
def Gh.still (G : Gh) (g : Nat) (vs : List Value) : Gh := { G with I := fun b o => if b = g then vs[o]? else G.I b o }
mutual
def Nj (g sz : Nat) (l : List AV) : AV → AV
 | .slg s' g' k => if s' = sz ∧ g' = g ∧ k = l.length then .sl sz l .ro else .slg s' g' k
 | .agg cs => .agg (RE g sz l cs)
 | .tup vs => .tup (RE g sz l vs)
 | x => x
def RE (g sz : Nat) (l : List AV) : List AV → List AV
 | [] => []
 | x :: xs => Nj g sz l x :: RE g sz l xs
end
theorem YA {g sz : Nat} {l : List AV} : ∀ {x : AV}, x.one = true → (Nj g sz l x).one = true := by
 intro x h
 cases x <;> first | (simp only [Nj]; split <;> rfl) | (cases h; done) | (simpa only [Nj] using h)
theorem SJ {g sz : Nat} {l : List AV} : ∀ {xs : List AV}, (∀ x ∈ xs, x.one = true) → ∀ x ∈ RE g sz l xs, x.one = true
 | [], _, x, hx => by cases hx
 | y :: ys, h, x, hx => by
  simp only [RE, List.mem_cons] at hx
  rcases hx with rfl | hx
  ·exact YA (h y List.mem_cons_self)
  ·exact SJ (fun z hz => h z (List.mem_cons_of_mem _ hz)) x hx
mutual
theorem Rep.frz {G G' : Gh} (hl : G.Le G') {g sz c : Nat} {e : TypeId} {l : List AV} {vs : List Value} (hc : G.cap g = some (e, c)) (hv : RepL G' vs (Aa l)) (hs : Sealed G' g 0 vs) (ho : SlOk sz l c) : ∀ {x : AV} {v : Value}, Rep G v x → Rep G' v (Nj g sz l x)
 | .slg s' g' k, v, h => by
  simp only [Nj]
  split
  ·rename_i hh
   obtain ⟨rfl, rfl, rfl⟩ := hh
   cases h with
   | slg h1 h2 h3 =>
    rw [hc] at h3; injection h3 with h3; injection h3 with h4 h5
    subst h5
    exact .slro hv hs ho rfl
  ·exact h.mono hl
 | .agg cs, v, h => by
  cases h with
  | agg h1 h2 => simp only [Nj]; exact .agg (RepL.frz hl hc hv hs ho h1) (SJ h2)
 | .tup cs, v, h => by
  cases h with
  | tup h1 => simp only [Nj]; exact .tup (RepL.frz hl hc hv hs ho h1)
 | .bool _, v, h | .int _ _, v, h | .str _, v, h | .ptr _ _, v, h | .np, v, h | .ref _, v, h | .sl _ _ _, v, h | .fn _ _ _, v, h | .nfn, v, h | .mp _, v, h | .nmp, v, h | .slm _ _ _ _, v, h | .ub, v, h | .ifc _ _, v, h | .nif, v, h | .dat _ _, v, h | .any, v, h | .und, v, h => by simp only [Nj]; exact h.mono hl
theorem RepL.frz {G G' : Gh} (hl : G.Le G') {g sz c : Nat} {e : TypeId} {l : List AV} {vs : List Value} (hc : G.cap g = some (e, c)) (hv : RepL G' vs (Aa l)) (hs : Sealed G' g 0 vs) (ho : SlOk sz l c) : ∀ {xs : List AV} {us : List Value}, RepL G us xs → RepL G' us (RE g sz l xs)
 | [], us, h => by cases h; exact .nil
 | x :: xs, us, h => by
  cases h with
  | cons h1 h2 => simp only [RE]; exact .cons (Rep.frz hl hc hv hs ho h1) (RepL.frz hl hc hv hs ho h2)
end
theorem Rel0.still (h : Rel0 P w0 G n H w) {g : Nat} {e : TypeId} {cs : List AV} (hg : H g = some (.grow e cs)) :
  ∃ (vs : List Value) (c : Nat), G.cap g = some (e, c) ∧ G.Le (G.still g vs) ∧ Rel0 P w0 (G.still g vs) n (upd H g none) w ∧ RepL (G.still g vs) vs cs ∧ Sealed (G.still g vs) g 0 vs ∧ c ≤ maxLen ∧ cs.length ≤ c * Bb P e ∧ ∀ x ∈ cs, x.one = true := by
 obtain ⟨k1, k2, k3, vs, c, hc, hw, hsz, hcm, hle, hr, h1⟩ := h.objs g _ hg
 have hLe : G.Le (G.still g (vs.toList.take cs.length)) := ⟨fun b o v hv => by
  simp only [Gh.still]
  split
  ·rename_i hb; subst hb; rw [k3] at hv; cases hv
  ·exact hv, fun g' c' hc' => hc'⟩
 refine ⟨vs.toList.take cs.length, c, hc, hLe, ⟨h.ext, h.lo, h.hi, fun b o v hv => ?_, h.caps, h.capLo, fun g' ob hob => ?_⟩, hr.mono hLe, fun j u hu => by simp [Gh.still, hu], hcm, by omega, h1⟩
 ·simp only [Gh.still] at hv
  split at hv
  ·rename_i hb; subst hb
   rw [cell_of_row w _ o vs e (0, 0) hw]
   rw [List.getElem?_take] at hv
   split at hv
   ·simpa using hv
   ·cases hv
  ·exact h.seal_ b o v hv
 ·simp only [upd] at hob
  split at hob
  ·cases hob
  ·rename_i hne
   obtain ⟨a1, a2, a3⟩ := h.objs g' ob hob
   exact ⟨a1, a2, a3.keep rfl (fun o => by simp [Gh.still, hne]) rfl hLe (MapsKeep.same fun _ _ _ _ => rfl)⟩
theorem ACalls.frz {f : Nat} {args : List AV} {R R' : Bi} (h : ACalls P f args n H R) (k : ∀ r n' H', n ≤ n' → R r n' H' → ∃ (g : Nat) (e : TypeId) (sz : Nat) (l : List AV), H' g = some (.grow e (Aa l)) ∧ Bb P e = sz ∧ 0 < sz ∧ (∀ x ∈ l, x.cells.length = sz) ∧ R' (Nj g sz l r) n' (upd H' g none)) : ACalls P f args n H R' :=
 fun hs w0 G w vs hl hr hv => (h hs w0 G w vs hl hr hv).mono fun e w' ⟨v, r, G', n', H', e1, e2, e3, e4, e5, e6⟩ => by
  obtain ⟨g, te, sz, l, q1, q2, q3, q4, q5⟩ := k r n' H' e5 e2
  obtain ⟨us, c, hc, hLe, hrel, hrl, hsl, hcm, hcs, h1⟩ := e6.still q1
  have hlen : l.length ≤ c := by
   have e : (Aa l).length = l.length * sz := by
    clear q1 hrl hcs h1 q5
    induction l with
    | nil => simp [Aa]
    | cons x l ih =>
     have := ih fun y hy => q4 y (List.mem_cons_of_mem _ hy)
     have h2 := q4 x List.mem_cons_self
     simp only [Aa, List.flatMap_cons, List.length_append] at this ⊢
     rw [this, h2, List.length_cons, Nat.succ_mul]; omega
   rw [e, q2] at hcs
   exact Nat.le_of_mul_le_mul_right hcs q3
  exact ⟨v, _, G'.still g us, n', _, e1, q5, Rep.frz hLe hc hrl hsl ⟨hlen, hcm, q3, q4, h1⟩ e3, e4.tr hLe, e5, hrel⟩
theorem ACalls.forget {f : Nat} {args : List AV} {R R' : Bi} (h : ACalls P f args n H R) (k : ∀ r n' H', n ≤ n' → R r n' H' → SameB n H H' ∧ R' r n H) : ACalls P f args n H R' :=
 fun hs w0 G w vs hl hr hv => (h hs w0 G w vs hl hr hv).mono fun e w' ⟨v, r, G', n', H', e1, e2, e3, e4, e5, e6⟩ =>
  ⟨v, r, G', n, H, e1, (k r n' H' e5 e2).2, e3, e4, Nat.le_refl _, e6.less hr.lo e5 hs (k r n' H' e5 e2).1⟩
theorem ACalls.onesH {f : Nat} {args : List AV} {R : Bi} (h : ACalls P f args n H R) : ACalls P f args n H (fun r n' H' => R r n' H' ∧ ∀ g e cs, H' g = some (.cells e cs) → ∀ x ∈ cs, x.one = true) :=
 fun hs w0 G w vs hl hr hv => (h hs w0 G w vs hl hr hv).mono fun e w' ⟨v, r, G', n', H', e1, e2, e3, e4, e5, e6⟩ =>
  ⟨v, r, G', n', H', e1, ⟨e2, fun g e cs hg => by obtain ⟨_, _, _, vs, _, _, h1⟩ := e6.objs g _ hg; exact h1⟩, e3, e4, e5, e6⟩
end
open Go.ChangeShapes Go.WideShapes Go.ChangeAt Go.RowKit Go.Deep
section
variable {H : Type} {enc : TypeId × Value → H} {P : Program}
theorem IW (hl : laidOutB P = true) {W W' : World} (hb : Ext W W') (sp : Nat → Bool) : ∀ {ts : List TypeId} {vs : List Value} {ds : List (DataW H)} {ps : List MemPlace}, (∀ t ∈ ts, P.readableRec t = true ∧ t < P.types.size) →
  DataW.TrodAll enc P W 0 (fun _ => true) true ts vs ds ps → (∀ p ∈ ps, p.block < W.heap.size) → (∀ p ∈ ps, sp p.block = true) → DataW.TrodAll enc P W' 0 sp true ts vs ds ps
 | [], _, _, _, _, h, _, _ => by
  obtain ⟨rfl, rfl, rfl⟩ := trodAll_nil h
  exact trodAll_mk0
 | t :: ts, _, _, _, ht, h, hlt, hsp => by
  obtain ⟨v, vs, d, ds, p, q, rfl, rfl, rfl, h1, h2⟩ := trodAll_cons h
  have h3 := ht t List.mem_cons_self
  refine trodAll_cons_mk (WideElems.Trod_stays hl h3.1 h3.2 h1 (fun x hx => Below.same hb (hlt x (List.mem_append_left _ hx))) (fun x hx => hsp x (List.mem_append_left _ hx))) ?_
  exact IW hl hb sp (fun u hu => ht u (List.mem_cons_of_mem _ hu)) h2 (fun x hx => hlt x (List.mem_append_right _ hx)) (fun x hx => hsp x (List.mem_append_right _ hx))
theorem F1 {f : Func} {s : ChangeSpec} {W W' : World} {args : Array Value} {ds gs : List (DataW H)} {before : List MemPlace} {tb : TypeId}
  (hW : DataW.Whole enc P f.params.toList s.vars false W args.toList ds gs before) (hv : s.vars = []) (hl : laidOutB P = true) (hr : ∀ t ∈ f.params.toList, P.readableRec t = true ∧ t < P.types.size)
  (hres : f.resultTypes = #[tb]) (htb : P.underlying tb = some .bool) (h1 : (s.fn H ds).results = [.lit (.bool true)]) (h2 : (s.fn H ds).args = ds) (h3 : (s.fn H ds).vars = []) (hb : Ext W W') :
  s.post enc P f false true false false W args (.bool true) W' := by
 have hlt : ∀ p ∈ before, p.block < W.heap.size := fun p hp => hW.lt p hp
 have hW' := hW
 obtain ⟨p, q, hA, hV, rfl, _, _⟩ := hW
 rw [hv] at hV
 obtain ⟨rfl, rfl⟩ := trodVars_none hV
 refine ⟨ds, [], p ++ [], [], p, [], hW', ?_, ?_, ?_, ?_, fun h => by cases h⟩
 ·rw [List.append_nil, h1, hres]
  exact trodAll_mk1 (shut_bool htb true)
 ·rw [List.append_nil, h2]
  exact IW hl hb _ hr hA (fun x hx => hlt x (by simpa using hx)) (fun x hx => by simpa using hlt x (by simpa using hx))
 ·rw [List.append_nil, h3, hv]; rfl
 ·exact Below.frame hb _
end
def ghW (w : World) : Gh := ⟨fun b o => w.cell? ⟨b, o, none⟩, fun _ => none⟩
theorem Vh (P : Program) (w : World) : Rel0 P w (ghW w) w.heap.size (fun _ => none) w :=
 ⟨Ext.rfl_ w, Nat.le_refl _, Nat.le_refl _, fun _ _ _ h => h, (fun _ _ _ h => by cases h), (fun _ _ _ h => by cases h), (fun _ _ h => by cases h)⟩
theorem Dr {P : Program} {f : Nat} {args : List AV} {vs : List Value} {w : World} (hl : Laid w) (h : APure P f args (.bool true)) (hr : RepL (ghW w) vs args) : Calls P f vs.toArray w fun e w' => e = .returned (.bool true) ∧ Ext w w' := by
 refine (h w.heap.size (fun _ => none) (fun _ _ => rfl) w (ghW w) w vs hl (Vh P w) hr).mono ?_
 rintro e w' ⟨v, r, G', n', H', rfl, ⟨rfl, _, _⟩, hv, _, _, h0⟩
 cases hv
 exact ⟨rfl, h0.ext⟩
section
variable {H : Type} {enc : TypeId × Value → H} {P : Program}
def A09 {α : Type} (P : Program) (w : World) (e : TypeId) (en : α → AV) (Wa : α → Prop) (q : α → Nat) (cs : List Value) (d : DataW H) (a : α) : Prop :=
 RepL (ghW w) cs (en a).cells ∧ ((∀ y ∈ d.weights P e, y ≤ reachBytes) → Wa a) ∧ q a ≤ Rows.uptoBulk d
theorem Uh {w : World} {base : Nat} {spare : Nat → Bool} {held : Bool} {t : TypeId} {fuel : Nat} {cs : List Value} {x : DataW H × List MemPlace} (ht : P.underlying t = some .string)
  (h : DataW.trod enc P w base spare held fuel t cs = some x) : ∃ a : List UInt8, A09 P w t AV.str (fun a => a.length ≤ reachBytes) (fun a => a.length + 1) cs x.1 a := by
 obtain ⟨s, rfl, hx, hs⟩ := DataW.trod_string ht h
 refine ⟨s.data.toList, .cons (.str rfl) .nil, fun hw => ?_, ?_⟩
 ·rw [hx] at hw
  simpa [DataW.weights] using hw
 ·rw [hx]; simp [Rows.uptoBulk]
end
theorem AF : (∀ {H : A4} {g k : Nat} {x : Option AObj}, k ≠ g → upd H g x k = H k) ∧ (∀ (H : A4) (g : Nat) (x : Option AObj), upd H g x g = x) ∧ (∀ {c : Prop} [h : Decidable c], c → ∀ {α : Type} {t e : α}, @ite α c h t e = t) ∧ (∀ {c : Prop} [h : Decidable c], ¬ c → ∀ {α : Type} {t e : α}, @ite α c h t e = e) ∧ (∀ n : Int, -9223372036854775808 ≤ n ∧ n ≤ 9223372036854775807 → IntKind.i64.wrap n = n) ∧ (∀ {a b : Int}, 0 ≤ a → a.tdiv b = a / b) ∧ (∀ {a b : Int}, 0 ≤ a → a.tmod b = a % b) :=
 ⟨upd_ne, AX, fun h => if_pos h, fun h => if_neg h, IntWalk.i64_in, Int.tdiv_eq_ediv_of_nonneg, Int.tmod_eq_emod_of_nonneg⟩
theorem AG {gs : List Nat} {e : AT} {n : Nat} {H : A4} {K : AS → Prop} (h : K ⟨e, n, H⟩) : KC gs H K ⟨e, n, H⟩ := KC.of (KeepM.rfl_ _ _) h
theorem AB {n : Nat} {H : A4} : SameB n H H := SameB.rfl_ _ _
theorem AE {a b : Prop} (h : a) (k : b) : a ∧ b := ⟨h, k⟩
theorem AJ (f : Nat) {P : Program} {args : List AV} {d : Option Nat} {K : AS → Prop} {s : AS} (h : CallP P f args d K s) : CallP P f args d K s := h
theorem AZ {P : Program} {f : Nat} {args args' : List AV} {d : Option Nat} {K : AS → Prop} {e : AT} {n : Nat} {H : A4} {v : AV} (h : APure P f args' v) (hk : K ⟨AP e d v, n, H⟩) (hs : AC args args' := by first | with_reducible exact A0 _ | (simp [AC, A8, A1, A0]; done)) : CallP P f args d K ⟨e, n, H⟩ := CallP.sf hs h hk
theorem Ay (f : Nat) {P : Program} {args : List AV} {d : Option Nat} {K : AS → Prop} {s : AS} (h : CallK P f args d K s) : CallK P f args d K s := h
end Go.Proofs.YtjdccdelcnmocaaGreatDoor

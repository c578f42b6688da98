/- A slice whose elements were turned is not turned any more; no condition. -/
import Derived.Test.YtjdccdelcnmocaaGreatDoorMgG
import Derived.Test.YtjdccdelcnmocaaGreatDoorMgH
set_option linter.all false
set_option linter.unusedSimpArgs false
set_option linter.unusedVariables false
set_option maxHeartbeats 1000000
namespace Go.Proofs.YtjdccdelcnmocaaGreatDoor
open Go.RowKit
section
variable {P : Program} {w w0 : World} {G : Gh} {n : Nat} {H : A3}
def Gh.still (G : Gh) (g : Nat) (vs : List Value) : Gh := { G with I := fun b o => if b = g then vs[o]? else G.I b o }
theorem ZU {g sz : Nat} {l : List AV} : ∀ {x : AV}, x.one = true → (Fp g sz l x).one = true := by
 intro x h
 cases x <;> first | (simp only [Fp]; split <;> rfl) | (cases h; done) | (simpa only [Fp] using h)
theorem Iu {g sz : Nat} {l : List AV} : ∀ {xs : List AV}, (∀ x ∈ xs, x.one = true) → ∀ x ∈ IV g sz l xs, x.one = true
 | [], _, x, hx => by cases hx
 | y :: ys, h, x, hx => by
  simp only [IV, List.mem_cons] at hx
  rcases hx with rfl | hx
  ·exact ZU (h y List.mem_cons_self)
  ·exact Iu (fun z hz => h z (List.mem_cons_of_mem _ hz)) x hx
mutual
theorem Rep.frz {G G' : Gh} (hl : G.Le G') {g sz c : Nat} {e : TypeId} {l : List AV} {vs : List Value} (hc : G.cap g = some (e, c)) (hv : RepL G' vs (AO l)) (hs : Sealed G' g 0 vs) (ho : SlOk sz l c) : ∀ {x : AV} {v : Value}, Rep G v x → Rep G' v (Fp g sz l x)
 | .slg s' g' k, v, h => by
  simp only [Fp]
  split
  ·rename_i hh
   obtain ⟨rfl, rfl, rfl⟩ := hh
   cases h with
   | slg h1 h2 h3 =>
    rw [hc] at h3; injection h3 with h3; injection h3 with h4 h5
    subst h5
    exact .slro hv hs ho rfl
  ·exact h.mono hl
 | .agg cs, v, h => by
  cases h with
  | agg h1 h2 => simp only [Fp]; exact .agg (RepL.frz hl hc hv hs ho h1) (Iu h2)
 | .tup cs, v, h => by
  cases h with
  | tup h1 => simp only [Fp]; exact .tup (RepL.frz hl hc hv hs ho h1)
 | .bool _, v, h | .int _ _, v, h | .str _, v, h | .ptr _ _, v, h | .np, v, h | .ref _, v, h | .sl _ _ _, v, h | .fn _ _ _, v, h | .nfn, v, h | .mp _, v, h | .nmp, v, h | .slm _ _ _ _, v, h | .ub, v, h | .ifc _ _, v, h | .nif, v, h | .dat _ _, v, h | .any, v, h | .und, v, h => by simp only [Fp]; exact h.mono hl
theorem RepL.frz {G G' : Gh} (hl : G.Le G') {g sz c : Nat} {e : TypeId} {l : List AV} {vs : List Value} (hc : G.cap g = some (e, c)) (hv : RepL G' vs (AO l)) (hs : Sealed G' g 0 vs) (ho : SlOk sz l c) : ∀ {xs : List AV} {us : List Value}, RepL G us xs → RepL G' us (IV g sz l xs)
 | [], us, h => by cases h; exact .nil
 | x :: xs, us, h => by
  cases h with
  | cons h1 h2 => simp only [IV]; exact .cons (Rep.frz hl hc hv hs ho h1) (RepL.frz hl hc hv hs ho h2)
end
theorem HR {sz : Nat} : ∀ {l : List AV}, (∀ x ∈ l, x.cells.length = sz) → (AO l).length = l.length * sz
 | [], _ => by simp [AO]
 | x :: l, h => by
  have h1 := HR fun y hy => h y (List.mem_cons_of_mem _ hy)
  have h2 := h x List.mem_cons_self
  simp only [AO, List.flatMap_cons, List.length_append] at h1 ⊢
  rw [h1, h2, List.length_cons, Nat.succ_mul]; omega
theorem WZ (g sz : Nat) (l : List AV) (e : AT) (t : Nat) : get (A10 g sz l e) t = Fp g sz l (get e t) := by
 induction e with
 | nil => rfl
 | cons x e ih =>
  obtain ⟨k, v⟩ := x
  simp only [A10, List.map_cons, get] at ih ⊢
  split
  ·rfl
  ·exact ih
theorem Rel0.still (h : Rel0 P w0 G n H w) {g : Nat} {e : TypeId} {cs : List AV} (hg : H g = some (.grow e cs)) :
  ∃ (vs : List Value) (c : Nat), G.cap g = some (e, c) ∧ G.Le (G.still g vs) ∧ Rel0 P w0 (G.still g vs) n (upd H g none) w ∧ RepL (G.still g vs) vs cs ∧ Sealed (G.still g vs) g 0 vs ∧ c ≤ maxLen ∧ cs.length ≤ c * Bn P e ∧ ∀ x ∈ cs, x.one = true := by
 obtain ⟨k1, k2, k3, vs, c, hc, hw, hsz, hcm, hle, hr, h1⟩ := h.objs g _ hg
 have hLe : G.Le (G.still g (vs.toList.take cs.length)) := ⟨fun b o v hv => by
  simp only [Gh.still]
  split
  ·rename_i hb; subst hb; rw [k3] at hv; cases hv
  ·exact hv, fun g' c' hc' => hc'⟩
 refine ⟨vs.toList.take cs.length, c, hc, hLe, ⟨h.ext, h.lo, h.hi, fun b o v hv => ?_, h.caps, h.capLo, fun g' ob hob => ?_⟩, hr.mono hLe, fun j u hu => by simp [Gh.still, hu], hcm, by omega, h1⟩
 ·simp only [Gh.still] at hv
  split at hv
  ·rename_i hb; subst hb
   rw [cell_of_row w _ o vs e (0, 0) hw]
   rw [List.getElem?_take] at hv
   split at hv
   ·simpa using hv
   ·cases hv
  ·exact h.seal_ b o v hv
 ·simp only [upd] at hob
  split at hob
  ·cases hob
  ·rename_i hne
   obtain ⟨a1, a2, a3⟩ := h.objs g' ob hob
   exact ⟨a1, a2, a3.keep rfl (fun o => by simp [Gh.still, hne]) rfl hLe (MapsKeep.same fun _ _ _ _ => rfl)⟩
theorem LT {g sz : Nat} {l : List AV} : ∀ {xs : List AV}, (IV g sz l xs).length = xs.length
 | [] => rfl
 | x :: xs => by simp only [IV, List.length_cons, LT (xs := xs)]
theorem ObjOk.frz {g g' sz c : Nat} {e : TypeId} {l : List AV} {vs : List Value} {ob : AObj} (h : ObjOk P G w g' ob) (hc : G.cap g = some (e, c)) (hv : RepL G vs (AO l)) (hs : Sealed G g 0 vs) (ho : SlOk sz l c) : ObjOk P G w g' (A06 g sz l ob) := by
 cases ob with
 | cells t cs =>
  obtain ⟨a, us, b, d, f⟩ := h
  exact ⟨a, us, b, RepL.frz (Gh.Le.rfl_ G) hc hv hs ho d, Iu f⟩
 | grow t cs =>
  obtain ⟨a, us, cp, b, d, f, q, r, t, u⟩ := h
  exact ⟨a, us, cp, b, d, f, q, by rw [LT]; exact r, by rw [LT]; exact RepL.frz (Gh.Le.rfl_ G) hc hv hs ho t, Iu u⟩
 | row t m => exact h
 | map kk es => exact h
 | iter m len left cur => exact h
theorem Rel0.frzK {g sz c : Nat} {e : TypeId} {l : List AV} {vs : List Value} (h : Rel0 P w0 G n (upd H g none) w) (ks : List Nat) (hc : G.cap g = some (e, c)) (hv : RepL G vs (AO l)) (hs : Sealed G g 0 vs) (ho : SlOk sz l c) : Rel0 P w0 G n (Rv ks g sz l H) w := by
 refine ⟨h.ext, h.lo, h.hi, h.seal_, h.caps, h.capLo, fun g' ob hob => ?_⟩
 unfold Rv at hob
 split at hob
 ·cases hob
 ·rename_i hne
  have hu : upd H g none g' = H g' := by simp [upd, hne]
  split at hob
  ·obtain ⟨ob', h1, rfl⟩ := Option.map_eq_some_iff.1 hob
   obtain ⟨a, b, d⟩ := h.objs g' ob' (by rw [hu]; exact h1)
   exact ⟨a, b, d.frz hc hv hs ho⟩
  ·exact h.objs g' ob (by rw [hu]; exact hob)
end
open Go.RowKit
section
variable {P : Program} {w w' w0 : World} {G : Gh} {nt : Nat} {s : AS} {a : Act} {ef : List Nat} {Q : Exit → Act → World → Prop}
theorem CG {ops : Array Oper} {draw : Bool} {ac : ACode} (h : TF P ef nt ops draw = some ac) : (∃ os, ac = .reg os) ∨ (∃ m S os, ac = .regD m S os) ∨ ac = .bad := by
 unfold TF at h
 split at h
 ·obtain ⟨aos, h1, h2⟩ := Option.map_eq_some_iff.1 h
  split at h2
  ·exact .inr (.inl ⟨_, _, _, h2.symm⟩)
  ·exact .inr (.inr h2.symm)
 ·obtain ⟨aos, h1, h2⟩ := Option.map_eq_some_iff.1 h
  exact .inl ⟨_, h2.symm⟩
theorem Rx {ops : Array Oper} {draw : Bool} {os : List AOper} (h : TF P ef nt ops draw = some (.reg os)) : (draw && !SY P ef ops nt) = false ∧ ED P ef ops nt ops.toList = some os := by
 unfold TF at h
 split at h
 ·obtain ⟨aos, h1, h2⟩ := Option.map_eq_some_iff.1 h
  split at h2 <;> cases h2
 ·rename_i hd
  obtain ⟨aos, h1, h2⟩ := Option.map_eq_some_iff.1 h
  injection h2 with h2; subst h2
  exact ⟨by simpa using hd, h1⟩
theorem T6 {ops : Array Oper} {os : List AOper} {m : Mode} {S : List Nat} (h : Qg P ef nt ops os = some (m, S)) : GN P ef ops nt m = true := by
 unfold Qg at h
 split at h
 ·rename_i ho; injection h with h; injection h with h _; subst h; exact ho
 ·split at h
  ·rename_i ho; injection h with h; injection h with h _; subst h; exact ho
  ·split at h
   ·rename_i ho; injection h with h; injection h with h _; subst h; exact ho
   ·split at h
    ·rename_i ho; injection h with h; injection h with h _; subst h; exact ho
    ·cases h
theorem W2 {ops : Array Oper} {draw : Bool} {m : Mode} {S : List Nat} {os : List AOper} (h : TF P ef nt ops draw = some (.regD m S os)) : draw = true ∧ GN P ef ops nt m = true ∧ ED P ef ops nt ops.toList = some os := by
 unfold TF at h
 split at h
 ·rename_i hd
  obtain ⟨aos, h1, h2⟩ := Option.map_eq_some_iff.1 h
  split at h2
  ·rename_i m' S' hm
   injection h2 with e1 e2 e3
   subst e1; subst e2; subst e3
   exact ⟨by revert hd; cases draw <;> simp, T6 hm, h1⟩
  ·cases h2
 ·obtain ⟨aos, h1, h2⟩ := Option.map_eq_some_iff.1 h
  cases h2
theorem JE {id : Nat} {ops : Array Oper} {draw : Bool} {aos : List AOper} {K : AS → Prop} (hd : (draw && !SY P ef ops nt) = false) (hc : ED P ef ops nt ops.toList = some aos) (hr : RelS P w0 nt G s a w) (h : awOps P aos K s) (hq : ∀ a' w', After P w0 nt G K a' w' → Q .normal a' w') :
  (Code.region id ops draw).wp P Q a w := by
 have hlen := II hc
 have hmap : (List.range ops.size).map (WL aos) = aos := by
  have := I0 aos
  rw [hlen] at this
  simpa using this
 cases draw with
 | false =>
  refine wp_region (N1 hc (List.range ops.size) (fun i hi => by simpa using hi) hr ?_ hq)
  rw [hmap]; exact h
 | true =>
  have ho := T7 (P := P) (ef := ef) (ops := ops) (nt := nt) (by simpa using hd)
  let K' : AS → Prop := fun s => ∃ e', (∀ t, get e' t = get s.e t) ∧ K ⟨e', s.n, s.H⟩
  have hK : EInv K' := fun e e' n H he ⟨e1, h1, h2⟩ => ⟨e1, fun t => (h1 t).trans (he t), h2⟩
  have h' : JM (awO P) aos K' s := by
   rw [TE]
   exact Ed h fun s' hs' => ⟨s'.e, fun _ => rfl, hs'⟩
  have hleft : left ops (Array.replicate ops.size false) = List.range ops.size := by
   simp only [left]
   rw [List.filter_eq_self]
   intro i hi
   have hi' : i < ops.size := by simpa using hi
   simp [Array.getD_eq_getD_getElem?, hi']
  have hr' : RelS P w0 nt G s a { w with drawn := w.drawn + 1 } := ⟨hr.r0.same rfl rfl rfl rfl, hr.sz, hr.df, hr.ld, hr.tm⟩
  refine wp_region_any ho.mixed (Lo Vv hc ho hK ops.size (Array.replicate ops.size false) (by simp) (by rw [hleft]; simp) ?_ hr' (by rw [hleft, hmap]; exact h') ?_)
  ·intro i o _ hl
   rw [Array.getD_eq_getD_getElem?, Array.getElem?_replicate] at hl
   split at hl <;> cases hl
  ·rintro a' w1 ⟨G1, s1, ⟨e1, h1, h2⟩, h3, h4⟩
   exact hq a' w1 ⟨G1, ⟨e1, s1.n, s1.H⟩, h2, h3, h4.env fun t => .inr (h1 t)⟩
theorem Ru {id : Nat} {ops : Array Oper} {aos : List AOper} {gs : List Nat} {md : Mode} {lo : Nat} {K : AS → Prop} (hd : GN P ef ops nt md = true) (hc : ED P ef ops nt ops.toList = some aos) (hr : RelS P w0 nt G s a w) (h : A9 P md lo gs aos K s) (hq : ∀ a' w', After P w0 nt G K a' w' → Q .normal a' w') :
  (Code.region id ops true).wp P Q a w := by
 have hlen := II hc
 have hmap : (List.range ops.size).map (WL aos) = aos := by
  have := I0 aos
  rw [hlen] at this
  simpa using this
 have ho := Sn (P := P) (ef := ef) (ops := ops) (nt := nt) hd
 let K' : AS → Prop := fun s => ∃ e', (∀ t, get e' t = get s.e t) ∧ K ⟨e', s.n, s.H⟩
 have hK : EInv K' := fun e e' n H he ⟨e1, h1, h2⟩ => ⟨e1, fun t => (h1 t).trans (he t), h2⟩
 have h' : JM (awOM P md lo gs) aos K' s := by
  rw [V1]
  exact Kk h fun s' hs' => ⟨s'.e, fun _ => rfl, hs'⟩
 have hleft : left ops (Array.replicate ops.size false) = List.range ops.size := by
  simp only [left]
  rw [List.filter_eq_self]
  intro i hi
  have hi' : i < ops.size := by simpa using hi
  simp [Array.getD_eq_getD_getElem?, hi']
 have hr' : RelS P w0 nt G s a { w with drawn := w.drawn + 1 } := ⟨hr.r0.same rfl rfl rfl rfl, hr.sz, hr.df, hr.ld, hr.tm⟩
 refine wp_region_any ho.mixed (Lo (WQ gs md lo) hc ho hK ops.size (Array.replicate ops.size false) (by simp) (by rw [hleft]; simp) ?_ hr' (by rw [hleft, hmap]; exact h') ?_)
 ·intro i o _ hl
  rw [Array.getD_eq_getD_getElem?, Array.getElem?_replicate] at hl
  split at hl <;> cases hl
 ·rintro a' w1 ⟨G1, s1, ⟨e1, h1, h2⟩, h3, h4⟩
  exact hq a' w1 ⟨G1, ⟨e1, s1.n, s1.H⟩, h2, h3, h4.env fun t => .inr (h1 t)⟩
def exR : AExit → Exit
 | .normal => .normal
 | .exit id => .exit id
 | .ret => .ret
theorem Dz {e : AT} {d : Option Nat} {t : Nat} {v : AV} (h : d ≠ some t) : get (AN e d v) t = get e t := by
 rw [Af, if_neg h]
theorem Tf {t : Nat} {want : Bool} : ∀ (ops : List AOper) {K : AS → Prop} {s : AS}, (ops.all fun o => o.guard.isNone && o.dst != some t) = true → get s.e t = .bool want → awOps P ops K s →
  awOps P (ops.map fun o => { o with guard := some (t, want) }) K s
 | [], K, s, _, _, h => h
 | o :: os, K, s, hok, hg, h => by
  simp only [List.all_cons, Bool.and_eq_true, bne_iff_ne, ne_eq] at hok
  obtain ⟨⟨h1, h2⟩, h3⟩ := hok
  simp only [awOps, awO] at h
  obtain ⟨d, op, g⟩ := o
  simp only [Option.isNone_iff_eq_none] at h1
  subst h1
  simp only [List.map_cons, awOps, awO, hg]
  obtain ⟨e, n, H⟩ := s
  refine ⟨fun _ => Eb (fun _ _ => rfl) h fun r n' H' h' => Tf os (by simpa using h3) ?_ h', fun hb => absurd rfl hb⟩
  simp only at hg h2 ⊢
  rw [Dz h2]; exact hg
theorem Up {t : Nat} {want b : Bool} (hb : b ≠ want) : ∀ (ops : List AOper) {K : AS → Prop} {s : AS}, (ops.all fun o => o.guard.isNone && o.dst != some t) = true → get s.e t = .bool b → K ⟨Gu s.e ops, s.n, s.H⟩ →
  awOps P (ops.map fun o => { o with guard := some (t, want) }) K s
 | [], K, s, _, _, h => h
 | o :: os, K, s, hok, hg, h => by
  simp only [List.all_cons, Bool.and_eq_true, bne_iff_ne, ne_eq] at hok
  obtain ⟨⟨h1, h2⟩, h3⟩ := hok
  simp only [List.map_cons, awOps, awO, hg]
  refine ⟨fun e => absurd e hb, fun _ => Up hb os (by simpa using h3) ?_ h⟩
  rw [Dz h2]; exact hg
theorem Xy {t : Nat} {want : Bool} : ∀ (ops : List AOper) {K : AS → Prop} {s : AS}, (ops.all fun o => o.guard.isNone && o.dst != some t) = true → get s.e t = .und → K ⟨Gu s.e ops, s.n, s.H⟩ →
  awOps P (ops.map fun o => { o with guard := some (t, want) }) K s
 | [], K, s, _, _, h => h
 | o :: os, K, s, hok, hg, h => by
  simp only [List.all_cons, Bool.and_eq_true, bne_iff_ne, ne_eq] at hok
  obtain ⟨⟨h1, h2⟩, h3⟩ := hok
  simp only [List.map_cons, awOps, awO, hg]
  refine Xy os (by simpa using h3) ?_ h
  rw [Dz h2]; exact hg
theorem awOps_append {xs ys : List AOper} {K : AS → Prop} {s : AS} : awOps P (xs ++ ys) K s ↔ awOps P xs (awOps P ys K) s := by
 induction xs generalizing s with
 | nil => rfl
 | cons x xs ih =>
  simp only [List.cons_append, awOps]
  exact ⟨fun h => HK h fun s h => ih.1 h, fun h => HK h fun s h => ih.2 h⟩
theorem Sf : ∀ (ops : List AOper) {e e' : AT} {n : Nat} {H : A3} {K : AS → Prop}, (ops.all fun o => o.guard.isNone) = true → DO ops e H = some e' → K ⟨e', n, H⟩ → awOps P ops K ⟨e, n, H⟩
 | [], e, e', n, H, K, _, h, hk => by simp only [DO] at h; injection h with h; subst h; exact hk
 | o :: os, e, e', n, H, K, hok, h, hk => by
  simp only [List.all_cons, Bool.and_eq_true, Option.isNone_iff_eq_none] at hok
  simp only [DO] at h
  split at h
  ·rename_i v hv
   simp only [awOps, awO, hok.1]
   have hpe : o.op.eff = false := by
    cases hop : o.op <;> first | rfl | (rw [hop] at hv; simp [pe] at hv; done)
   rw [ET hpe, hv]
   exact Sf os (by simpa using hok.2) h hk
  ·cases h
theorem RM {t : Nat} : ∀ (ops : List AOper) {e : AT}, (ops.all fun o => o.dst != some t) = true → get (Fz e ops) t = get e t
 | [], e, _ => rfl
 | o :: os, e, hok => by
  simp only [List.all_cons, Bool.and_eq_true, bne_iff_ne, ne_eq] at hok
  simp only [Fz]
  rw [RM os (by simpa using hok.2), Dz hok.1]
def LeE (e e' : AT) : Prop := ∀ t, get e' t = .any ∨ get e' t = get e t
def KW (K : AS → Prop) (s : AS) : Prop := ∃ e', LeE s.e e' ∧ K ⟨e', s.n, s.H⟩
theorem KW.of {K : AS → Prop} {s : AS} (h : K s) : KW K s := ⟨s.e, fun _ => .inr rfl, h⟩
theorem LeE.put {e e' : AT} (h : LeE e e') (d : Option Nat) (v : AV) : LeE (AN e d v) (AN e' d v) := fun t => by
 rw [Af, Af]; split
 ·exact .inr rfl
 ·exact h t
theorem LeE.tr {a b c : AT} (h : LeE a b) (k : LeE b c) : LeE a c := fun t => by
 rcases k t with k1 | k1
 ·exact .inl k1
 ·rw [k1]; exact h t
theorem X1 {K : AS → Prop} : ∀ {os : List AOper} {e e' : AT} {n : Nat} {H : A3}, (∀ o ∈ os, ∀ t ∈ o.uses, get e' t = get e t) → LeE e e' → awOps P os (KW K) ⟨e', n, H⟩ → awOps P os (KW K) ⟨e, n, H⟩
 | [], e, e', n, H, _, hl, h => by
  obtain ⟨e2, h1, h2⟩ := h
  exact ⟨e2, hl.tr h1, h2⟩
 | o :: os, e, e', n, H, hu, hl, h => by
  refine Iq (hu o List.mem_cons_self) h fun r n' H' h' => X1 (fun o' ho t ht => ?_) (hl.put _ _) h'
  rw [Af, Af]; split
  ·rfl
  ·exact hu o' (List.mem_cons_of_mem _ ho) t ht
theorem FR {t : Nat} : ∀ (ops : List AOper) {e e' : AT} {H : A3}, DO ops e H = some e' → (∀ o ∈ ops, o.dst ≠ some t) → get e' t = get e t
 | [], e, e', H, h, _ => by simp only [DO] at h; injection h with h; rw [h]
 | o :: os, e, e', H, h, ht => by
  simp only [DO] at h
  split at h
  ·rw [FR os h (fun o' ho => ht o' (List.mem_cons_of_mem _ ho)), Dz (ht o List.mem_cons_self)]
  ·cases h
theorem GF {t : Nat} : ∀ (ops : List AOper) {e : AT}, (ops.all fun o => o.dst != some t) = true → get (Gu e ops) t = get e t
 | [], e, _ => rfl
 | o :: os, e, hok => by
  simp only [List.all_cons, Bool.and_eq_true, bne_iff_ne, ne_eq] at hok
  simp only [Gu]
  rw [GF os (by simpa using hok.2), Dz hok.1]
theorem Hi {t : Nat} : ∀ (ops : List AOper) {e : AT}, get (Fz e ops) t = .any ∨ (get (Fz e ops) t = get e t ∧ ∀ o ∈ ops, o.dst ≠ some t)
 | [], e => .inr ⟨rfl, by simp⟩
 | o :: os, e => by
  simp only [Fz]
  rcases Hi (t := t) os (e := AN e o.dst .any) with h | ⟨h, h2⟩
  ·exact .inl h
  ·rw [h, Af]
   split
   ·exact .inl rfl
   ·rename_i hd
    exact .inr ⟨rfl, fun o' ho => by
     rcases List.mem_cons.1 ho with rfl | ho
     ·exact hd
     ·exact h2 o' ho⟩
theorem Ug (ops : List AOper) (e : AT) : LeE (Gu e ops) (Fz e ops) := fun t => by
 rcases Hi (t := t) ops (e := e) with h | ⟨h, h2⟩
 ·exact .inl h
 ·refine .inr ?_
  rw [h, GF ops (by rw [List.all_eq_true]; intro o ho; simpa using h2 o ho)]
theorem G5 : ∀ (l : List Seg) {K : AS → Prop} {s : AS}, Jk l = true → CT P l K s → awOps P (l.flatMap Seg.flat) (KW K) s
 | [], K, s, _, h => KW.of h
 | ⟨none, ops, _⟩ :: l, K, s, hok, h => by
  simp only [Jk, Bool.and_eq_true] at hok
  simp only [List.flatMap_cons, Seg.flat]
  exact awOps_append.2 (Ed h fun s' h' => G5 l hok.2 h')
 | ⟨some (t, want), ops, some (d, x)⟩ :: l, K, s, hok, h => by
  simp only [Jk, Bool.and_eq_true] at hok
  obtain ⟨⟨h1, h2⟩, h3⟩ := hok
  have h1 : (ops.all fun o => o.guard.isNone && o.dst != some t) = true := h1
  simp only [CT] at h
  obtain ⟨v, hv, hk⟩ := K1_iff.1 h
  have hk := G5 l h3 hk
  have hgn : ∀ o ∈ ops, o.guard.isNone = true ∧ o.dst ≠ some t := fun o ho => by
   have := List.all_eq_true.1 h1 o ho
   simp only [Bool.and_eq_true, bne_iff_ne, ne_eq] at this
   exact this
  have huse : ∀ o ∈ l.flatMap Seg.flat, ∀ t ∈ o.uses, ∀ o' ∈ ops, o'.dst ≠ some t := by
   intro o ho t ht o' ho' hd
   have h2' : (ops.all fun o => (match o.dst with | some t => !((l.flatMap Seg.flat).flatMap AOper.uses).contains t | none => true)) = true := h2
   have := List.all_eq_true.1 h2' o' ho'
   rw [hd] at this
   simp only [Bool.not_eq_true', List.contains_eq_mem, decide_eq_false_iff_not, List.mem_flatMap, not_exists, not_and] at this
   obtain ⟨sg, hs1, hs2⟩ := List.mem_flatMap.1 ho
   exact this o ⟨sg, hs1, hs2⟩ ht
  simp only [List.flatMap_cons, Seg.flat]
  rw [List.append_assoc]
  refine awOps_append.2 ?_
  obtain ⟨e, n, H⟩ := s
  simp only at hv hk ⊢
  have pick : ∀ e2, get e2 t = get e t → (∀ b, get e t = .bool b → b = want → get e2 x = v) → (∀ b, get e t = .bool b → b ≠ want → v = .bool (!want)) → (∃ b, get e t = .bool b) → LeE e2 (Fz e ops) → (∀ t, (∀ o ∈ ops, o.dst ≠ some t) → get e2 t = get e t) →
    awOps P (⟨some d, if want then .pick (.t t) (.t x) (.c (.bool false)) else .pick (.t t) (.c (.bool true)) (.t x), none⟩ :: l.flatMap Seg.flat) (KW K) ⟨e2, n, H⟩ := by
   intro e2 g1 g2 g3 ⟨b, hb⟩ g4 g5
   have hpe : pe (if want then .pick (.t t) (.t x) (.c (.bool false)) else .pick (.t t) (.c (.bool true)) (.t x)) e2 H = some v := by
    cases want
    ·simp only [Bool.false_eq_true, if_false, pe, ev, g1, hb]
     cases b
     ·simp only [Bool.false_eq_true, if_false]; rw [g2 false hb rfl]
     ·simp only [if_true]; rw [g3 true hb (by simp)]; rfl
    ·simp only [if_true, pe, ev, g1, hb]
     cases b
     ·simp only [Bool.false_eq_true, if_false]; rw [g3 false hb (by simp)]; rfl
     ·simp only [if_true]; rw [g2 true hb rfl]
   have heff : (if want then AOp.pick (.t t) (.t x) (.c (.bool false)) else AOp.pick (.t t) (.c (.bool true)) (.t x)).eff = false := by cases want <;> rfl
   simp only [awOps, awO]
   rw [ET heff, hpe]
   refine X1 (fun o ho t' ht' => ?_) (g4.put (some d) v) hk
   rw [Af, Af]
   split
   ·rfl
   ·have hn := huse o ho t' ht'
    rw [g5 t' hn]
    rcases Hi (t := t') ops (e := e) with hx | hx
    ·rw [RM ops (by rw [List.all_eq_true]; intro o' ho'; simpa using hn o' ho')]
    ·exact hx.1
  unfold WK at hv
  split at hv
  ·rename_i b e' hb he
   split at hv
   ·rename_i b' hb'
    injection hv with hv
    by_cases hbw : b = want
    ·subst hbw
     refine Tf ops h1 hb (Sf ops (List.all_eq_true.2 fun o ho => (hgn o ho).1) he ?_)
     have hnt : ∀ o ∈ ops, o.dst ≠ some t := fun o ho => by have := List.all_eq_true.1 h1 o ho; simp only [Bool.and_eq_true, bne_iff_ne, ne_eq] at this; exact this.2
     refine pick e' (FR ops he hnt) (fun b2 hb2 e3 => ?_) (fun b2 hb2 e3 => ?_) ⟨_, hb⟩ (fun t' => ?_) (fun t' ht' => FR ops he ht')
     ·rw [hb', ← hv]; cases b <;> simp
     ·rw [hb] at hb2; injection hb2 with hb2; exact absurd hb2.symm e3
     ·rcases Hi (t := t') ops (e := e) with hx | ⟨hx, hx2⟩
      ·exact .inl hx
      ·exact .inr (by rw [hx, FR ops he hx2])
    ·refine Up hbw ops h1 hb ?_
     refine pick _ (GF ops ?_) (fun b2 hb2 e3 => ?_) (fun b2 hb2 e3 => ?_) ⟨_, hb⟩ (Ug ops e) (fun t' ht' => GF ops (by rw [List.all_eq_true]; intro o' ho'; simpa using ht' o' ho'))
     ·rw [List.all_eq_true]; intro o ho; have := List.all_eq_true.1 h1 o ho; simp only [Bool.and_eq_true] at this; exact this.2
     ·have hb3 : b = b2 := by have := hb.symm.trans hb2; injection this
      exact absurd (hb3.trans e3) hbw
     ·have hbn : b = !want := by cases b <;> cases want <;> first | rfl | exact absurd rfl hbw
      subst hbn
      rw [← hv]; cases want <;> rfl
   ·cases hv
  ·rename_i b hb he
   split at hv
   ·cases hv
   ·rename_i hbw
    injection hv with hv
    refine Up hbw ops h1 hb ?_
    refine pick _ (GF ops ?_) (fun b2 hb2 e3 => ?_) (fun b2 hb2 e3 => hv.symm) ⟨_, hb⟩ (Ug ops e) (fun t' ht' => GF ops (by rw [List.all_eq_true]; intro o' ho'; simpa using ht' o' ho'))
    ·rw [List.all_eq_true]; intro o ho; have := List.all_eq_true.1 h1 o ho; simp only [Bool.and_eq_true] at this; exact this.2
    ·have hb3 : b = b2 := by have := hb.symm.trans hb2; injection this
     exact absurd (hb3.trans e3) hbw
  ·cases hv
 | ⟨some (t, want), ops, none⟩ :: l, K, s, hok, h => by
  simp only [Jk, Bool.and_eq_true] at hok
  have h1 : (ops.all fun o => o.guard.isNone && o.dst != some t) = true := hok.1.1
  simp only [List.flatMap_cons, Seg.flat, List.append_nil]
  refine awOps_append.2 ?_
  simp only [CT] at h
  unfold guardK at h
  split at h
  ·rename_i b hb
   by_cases hbw : b = want
   ·subst hbw
    exact Tf ops h1 hb (Ed (h.1 rfl) fun s' h' => G5 l hok.2 h')
   ·exact Up hbw ops h1 hb (G5 l hok.2 (h.2 hbw))
  ·rename_i hb
   exact Xy ops h1 hb (G5 l hok.2 h)
  ·exact h.elim
theorem TG : ∀ (ac : ACode) {c : Code} {Qa : AExit → AS → Prop} {Q : Exit → Act → World → Prop} {G : Gh} {s : AS} {a : Act} {w : World}, CK P ef nt c = some (bare ac) → RelS P w0 nt G s a w → aw P ac Qa s →
  (∀ e s' G' a' w', Qa e s' → G.Le G' → RelS P w0 nt G' s' a' w' → Q (exR e) a' w') → c.wp P Q a w := by
 intro ac
 induction ac with
 | skip =>
  intro c Qa Q G s a w hc hr h hq
  cases c <;> simp only [CK, bare] at hc <;> first | exact wp_skip (hq .normal s G a w h (Gh.Le.rfl_ G) hr) | (simp at hc; done) | (split at hc <;> simp at hc; done) | (rcases CG hc with ⟨_, hk⟩ | ⟨_, _, _, hk⟩ | hk <;> cases hk; done) | skip
 | reg ops =>
  intro c Qa Q G s a w hc hr h hq
  cases c <;> simp only [CK, bare] at hc <;> first | (simp at hc; done) | skip
  case region id ops' draw =>
   obtain ⟨hd, h1⟩ := Rx hc
   exact JE hd h1 hr h fun a' w1 ⟨G1, s1, k1, k2, k3⟩ => hq .normal s1 G1 a' w1 k1 k2 k3
  all_goals first | (split at hc <;> simp at hc; done) | (rcases CG hc with ⟨_, hk⟩ | ⟨_, _, _, hk⟩ | hk <;> cases hk; done)
 | regD m S ops =>
  intro c Qa Q G s a w hc hr h hq
  cases c <;> simp only [CK, bare] at hc <;> first | (simp at hc; done) | skip
  case region id ops' draw =>
   obtain ⟨hdr, hd, h1⟩ := W2 hc
   subst hdr
   simp only [aw] at h
   unfold gsK at h
   split at h
   ·rename_i hgs
    obtain ⟨ms, h⟩ := h
    exact Ru hd h1 hr h fun a' w1 ⟨G1, s1, k1, k2, k3⟩ => hq .normal s1 G1 a' w1 k1 k2 k3
   ·exact h.elim
  all_goals first | (split at hc <;> simp at hc; done) | (rcases CG hc with ⟨_, hk⟩ | ⟨_, _, _, hk⟩ | hk <;> cases hk; done)
 | segs l =>
  intro c Qa Q G s a w hc hr h hq
  simp only [bare] at hc
  split at hc
  ·rename_i hok
   have h : awOps P (l.flatMap Seg.flat) (KW (Qa .normal)) s := G5 l hok h
   cases c <;> simp only [CK] at hc <;> first | (simp at hc; done) | skip
   case region id ops' draw =>
    obtain ⟨hd, h1⟩ := Rx hc
    exact JE hd h1 hr h fun a' w1 ⟨G1, s1, ⟨e2, k0, k1⟩, k2, k3⟩ => hq .normal ⟨e2, s1.n, s1.H⟩ G1 a' w1 k1 k2 (k3.env k0)
   all_goals first | (split at hc <;> simp at hc; done) | (rcases CG hc with ⟨_, hk⟩ | ⟨_, _, _, hk⟩ | hk <;> cases hk; done)
  ·cases c <;> simp only [CK] at hc <;> first | (simp at hc; done) | (split at hc <;> simp at hc; done) | (rcases CG hc with ⟨_, hk⟩ | ⟨_, _, _, hk⟩ | hk <;> cases hk; done)
 | seq x y ihx ihy =>
  intro c Qa Q G s a w hc hr h hq
  cases c <;> simp only [CK, bare] at hc <;> first | (simp at hc; done) | skip
  case seq c1 c2 =>
   split at hc
   ·rename_i x' y' h1 h2
    injection hc with hc
    injection hc with e1 e2
    subst e1; subst e2
    refine wp_seq (ihx h1 hr h fun e s' G' a' w1 hqa hle hr' => ?_)
    cases e with
    | normal => exact ihy h2 hr' hqa fun e2 s2 G2 a2 w2 q2 l2 r2 => hq e2 s2 G2 a2 w2 q2 (hle.tr l2) r2
    | exit id => exact hq _ s' G' a' w1 hqa hle hr'
    | ret => exact hq _ s' G' a' w1 hqa hle hr'
   ·cases hc
  all_goals first | (split at hc <;> simp at hc; done) | (rcases CG hc with ⟨_, hk⟩ | ⟨_, _, _, hk⟩ | hk <;> cases hk; done)
 | cond cnd x y ihx ihy =>
  intro c Qa Q G s a w hc hr h hq
  cases c <;> simp only [CK, bare] at hc <;> first | (simp at hc; done) | skip
  case cond o c1 c2 =>
   split at hc
   ·rename_i o' x' y' h0 h1 h2
    injection hc with hc
    injection hc with e0 e1 e2
    subst e0; subst e1; subst e2
    simp only [aw] at h
    unfold FW at h
    have hor := AU (G := G) (a := a) (e := s.e) h0 hr.tm
    split at h
    ·rename_i b hb
     rw [hb] at hor
     have hval : a.eval o = .bool b := by generalize a.eval o = v at hor; cases hor; rfl
     refine wp_cond hval ?_
     cases b with
     | true => exact ihx h1 hr (h.1 rfl) hq
     | false => exact ihy h2 hr (h.2 rfl) hq
    ·rename_i hb
     rw [hb] at hor
     obtain ⟨b, hval⟩ : ∃ b, a.eval o = .bool b := by generalize a.eval o = v at hor; cases hor; exact ⟨_, rfl⟩
     refine wp_cond hval ?_
     cases b with
     | true => exact ihx h1 hr h.1 hq
     | false => exact ihy h2 hr h.2 hq
    ·exact h.elim
   ·cases hc
  all_goals first | (split at hc <;> simp at hc; done) | (rcases CG hc with ⟨_, hk⟩ | ⟨_, _, _, hk⟩ | hk <;> cases hk; done)
 | block id x ih =>
  intro c Qa Q G s a w hc hr h hq
  cases c <;> simp only [CK, bare] at hc <;> first | (simp at hc; done) | skip
  case block id' c1 =>
   obtain ⟨x', h1, h2⟩ := Option.map_eq_some_iff.1 hc
   injection h2 with e1 e2
   subst e1; subst e2
   refine wp_block (ih h1 hr h fun e s' G' a' w1 hqa hle hr' => ?_)
   cases e with
   | normal => exact hq .normal s' G' a' w1 hqa hle hr'
   | exit i =>
    simp only [EY] at hqa
    simp only [exR, Exit.inBlock]
    split
    ·rename_i hi; rw [if_pos hi] at hqa; exact hq .normal s' G' a' w1 hqa hle hr'
    ·rename_i hi; rw [if_neg hi] at hqa; exact hq (.exit i) s' G' a' w1 hqa hle hr'
   | ret => exact hq .ret s' G' a' w1 hqa hle hr'
  all_goals first | (split at hc <;> simp at hc; done) | (rcases CG hc with ⟨_, hk⟩ | ⟨_, _, _, hk⟩ | hk <;> cases hk; done)
 | loop x ih =>
  intro c Qa Q G s a w hc hr h hq
  cases c <;> simp only [CK, bare] at hc <;> first | (simp at hc; done) | skip
  case loop c1 =>
   obtain ⟨x', h1, h2⟩ := Option.map_eq_some_iff.1 hc
   injection h2 with e2
   subst e2
   have key := h (fun s => ∀ G1 a1 w1, G.Le G1 → RelS P w0 nt G1 s a1 w1 → ∀ b k cs, ∃ e a' w', Q e a' w' ∧ Arrives P (lone (b.at a1 (.code c1 :: .inLoop c1 :: k)) cs w1) b k cs e a' w') (by
    intro s1 hs1 G1 a1 w1 hle hr1 b k cs
    have hbody := ih (Q := Exit.then (fun a1 w1 => ∀ b k cs, ∃ e a' w', Q e a' w' ∧ Arrives P (lone (b.at a1 (.code c1 :: .inLoop c1 :: k)) cs w1) b k cs e a' w') Q) h1 hr1 hs1 (fun e s' G' a' w2 hqa hle2 hr' => by
     cases e with
     | normal => exact hqa G' a' w2 (hle.tr hle2) hr'
     | exit i => exact hq _ s' G' a' w2 hqa (hle.tr hle2) hr'
     | ret => exact hq _ s' G' a' w2 hqa (hle.tr hle2) hr')
    obtain ⟨e, a2, w2, hq2, harr⟩ := hbody b (.inLoop c1 :: k) cs
    cases e with
    | normal =>
     obtain ⟨e3, a3, w3, hq3, harr3⟩ := hq2 b k cs
     exact ⟨e3, a3, w3, hq3, .of_steps (Steps.trans harr (.one step_inLoop)) harr3⟩
    | exit i => exact ⟨_, a2, w2, hq2, .pass (x := .inLoop c1) rfl (fun _ _ => .inl (by simp)) harr⟩
    | goto l => exact ⟨_, a2, w2, hq2, .pass (x := .inLoop c1) rfl (fun _ _ => .inl (by simp)) harr⟩
    | ret => exact ⟨_, a2, w2, hq2, .pass (x := .inLoop c1) rfl (fun _ _ => .inl (by simp)) harr⟩
    | panic ch => exact ⟨_, a2, w2, hq2, .pass (x := .inLoop c1) rfl (fun _ _ => .inl (by simp)) harr⟩
    | outgrown => exact ⟨_, a2, w2, hq2, .pass (x := .inLoop c1) rfl (fun _ _ => .inl (by simp)) harr⟩)
   intro b k cs
   obtain ⟨e, a2, w2, hq2, harr⟩ := key G a w (Gh.Le.rfl_ G) hr b k cs
   exact ⟨e, a2, w2, hq2, .of_steps (.one step_loop) harr⟩
  all_goals first | (split at hc <;> simp at hc; done) | (rcases CG hc with ⟨_, hk⟩ | ⟨_, _, _, hk⟩ | hk <;> cases hk; done)
 | exit id =>
  intro c Qa Q G s a w hc hr h hq
  cases c <;> simp only [CK, bare] at hc <;> first | (simp at hc; done) | (split at hc <;> simp at hc; done) | (rcases CG hc with ⟨_, hk⟩ | ⟨_, _, _, hk⟩ | hk <;> cases hk; done) | skip
  case exit id' =>
   injection hc with hc; injection hc with hc; subst hc
   exact wp_exit (hq (.exit _) s G a w h (Gh.Le.rfl_ G) hr)
 | ret =>
  intro c Qa Q G s a w hc hr h hq
  cases c <;> simp only [CK, bare] at hc <;> first | exact wp_ret (hq .ret s G a w h (Gh.Le.rfl_ G) hr) | (simp at hc; done) | (split at hc <;> simp at hc; done) | (rcases CG hc with ⟨_, hk⟩ | ⟨_, _, _, hk⟩ | hk <;> cases hk; done) | skip
 | bad =>
  intro c Qa Q G s a w hc hr h hq
  exact h.elim
 | kp ks x ih =>
  intro c Qa Q G s a w hc hr h hq
  exact ih hc (hr.env (fun t => RU s.e ks t)) h hq
 | ke ks x ih =>
  intro c Qa Q G s a w hc hr h hq
  refine ih hc hr h fun e s' G' a' w' hqa hle hr' => ?_
  cases e with
  | normal => exact hq .normal _ G' a' w' hqa hle (hr'.env (fun t => RU s'.e ks t))
  | _ => exact hq _ s' G' a' w' hqa hle hr'
 | gh x ih =>
  intro c Qa Q G s a w hc hr h hq
  rcases h with h | ⟨ks, g, e, sz, l, h1, h2, h3, h4, h5⟩
  ·exact ih hc hr h hq
  ·obtain ⟨us, cp, hcap, hLe, hrel, hrl, hsl, hcm, hcs, hone⟩ := hr.r0.still h1
   have hlen : l.length ≤ cp := by
    rw [HR h4, h2] at hcs
    exact Nat.le_of_mul_le_mul_right hcs h3
   have ho : SlOk sz l cp := ⟨hlen, hcm, h3, h4, hone⟩
   exact ih hc ⟨hrel.frzK ks hcap hrl hsl ho, hr.sz, hr.df, hr.ld, fun t => by rw [WZ]; exact Rep.frz hLe hcap hrl hsl ho (hr.tm t)⟩ h5 fun e s' G' a' w' q1 q2 q3 => hq e s' G' a' w' q1 (hLe.tr q2) q3
end
open Go.RowKit
def OF (tmps : Array Value) : ResultVar → Sem Value
 | .tmp t => pure (tmps.getD t undef)
 | .cell a t => do loadVar t (← asAddr (tmps.getD a undef))
theorem TP (fn : Func) (tmps : Array Value) : results fn tmps = (do let vs ← fn.results.mapM (OF tmps); pure (if h : vs.size = 1 then vs[0] else .tuple vs)) := by
 unfold results
 congr 2
section
variable {P : Program} {w w' w0 : World} {G : Gh} {nt : Nat} {s : AS} {a : Act} {ef : List Nat}
theorem Yn {rv : ResultVar} {ar : ARes} {x : AV} (hr : RelS P w0 nt G s a w) (hc : Hy P [rv] = some [ar]) (h : Er s ar = some x) :
  ∃ v, (OF a.tmps rv).run P w = .ok v w ∧ Rep G v x := by
 cases rv with
 | tmp t =>
  simp [Hy] at hc; subst hc
  simp only [Er] at h; injection h with h; subst h
  exact ⟨_, rfl, hr.tm t⟩
 | cell ad t =>
  simp only [Hy] at hc
  split at hc
  ·rename_i sh r hsh h2
   injection hc with hc; injection hc with e1 e2; subst e1
   simp only [Er] at h
   have hv := hr.tm ad
   obtain ⟨v, h3, h4⟩ := JG (t := t) hr.r0 hsh hv h
   refine ⟨v, ?_, h4⟩
   simp only [OF]
   generalize a.tmps.getD ad undef = av at h3 hv ⊢
   simp only [Instr.loadAt, Sem.run_bind] at h3 ⊢
   unfold BS at h
   split at h
   ·rename_i g o he; rw [he] at hv; cases hv; exact h3
   ·rename_i y he; rw [he] at hv; cases hv; exact h3
   ·cases h
  ·cases hc
theorem W9 {rv : ResultVar} {rvs : List ResultVar} {ars : List ARes} (h : Hy P (rv :: rvs) = some ars) : ∃ ar ars', ars = ar :: ars' ∧ Hy P [rv] = some [ar] ∧ Hy P rvs = some ars' := by
 cases rv with
 | tmp t =>
  simp only [Hy] at h
  obtain ⟨r, h1, h2⟩ := Option.map_eq_some_iff.1 h
  exact ⟨.tmp t, r, h2.symm, by simp [Hy], h1⟩
 | cell ad t =>
  simp only [Hy] at h
  split at h
  ·rename_i sh r hsh h2
   injection h with h
   exact ⟨.cell ad sh, r, h.symm, by simp [Hy, hsh], h2⟩
  ·cases h
theorem SN : ∀ {rvs : List ResultVar} {ars : List ARes} {xs : List AV}, RelS P w0 nt G s a w → Hy P rvs = some ars → CH s ars = some xs →
  ∃ vs, (rvs.mapM (OF a.tmps)).run P w = .ok vs w ∧ RepL G vs xs
 | [], ars, xs, hr, hc, h => by
  simp [Hy] at hc; subst hc
  simp [CH] at h; subst h
  exact ⟨[], by simp, .nil⟩
 | rv :: rvs, ars, xs, hr, hc, h => by
  obtain ⟨ar, ars', rfl, h1, h2⟩ := W9 hc
  simp only [CH] at h
  split at h
  ·rename_i x xs' h3 h4
   injection h with h; subst h
   obtain ⟨v, e1, e2⟩ := Yn hr h1 h3
   obtain ⟨vs, e3, e4⟩ := SN hr h2 h4
   refine ⟨v :: vs, ?_, .cons e2 e4⟩
   simp only [List.mapM_cons, Sem.run_bind, e1, Result.andThen_ok, e3, Sem.run_pure]
  ·cases h
theorem MI {fn : Func} {ars : List ARes} {x : AV} (hr : RelS P w0 nt G s a w) (hc : Hy P fn.results.toList = some ars) (h : Br s ars = some x) : ∃ v, (results fn a.tmps).run P w = .ok v w ∧ Rep G v x := by
 unfold Br at h
 have main : ∀ xs, CH s ars = some xs → ∃ vs, (results fn a.tmps).run P w = .ok (if h : vs.length = 1 then vs[0] else .tuple vs.toArray) w ∧ RepL G vs xs := by
  intro xs hx
  obtain ⟨vs, e1, e2⟩ := SN hr hc hx
  refine ⟨vs, ?_, e2⟩
  rw [TP, Array.mapM_eq_mapM_toList]
  simp only [Sem.run_bind, Sem.run_map, e1, Result.andThen_ok, Sem.run_pure]
  simp
 split at h
 ·rename_i y hx
  injection h with h; subst h
  obtain ⟨vs, e1, e2⟩ := main _ hx
  cases e2 with
  | cons hv hn =>
   cases hn
   exact ⟨_, e1, by simpa using hv⟩
 ·rename_i xs hne hx
  injection h with h; subst h
  obtain ⟨vs, e1, e2⟩ := main _ hx
  have hl := e2.len
  have : ¬ vs.length = 1 := by
   intro h1
   rw [hl] at h1
   match xs, h1 with
   | [y], _ => exact hne y rfl
  rw [dif_neg this] at e1
  exact ⟨_, e1, .tup e2⟩
 ·cases h
def Gw (args : List AV) : AT := args.zipIdx.map fun x => (x.2, x.1)
theorem Lm (args : List AV) (t k : Nat) : get ((args.zipIdx k).map fun x => (x.2, x.1)) t = if k ≤ t then (args[t - k]?).getD .any else .any := by
 induction args generalizing k with
 | nil => simp [get]
 | cons x xs ih =>
  simp only [List.zipIdx_cons, List.map_cons, get, ih]
  by_cases h1 : k = t
  ·subst h1; simp
  ·rw [if_neg h1]
   by_cases h2 : k + 1 ≤ t
   ·rw [if_pos h2, if_pos (by omega)]
    rw [show t - k = (t - (k + 1)) + 1 by omega, List.getElem?_cons_succ]
   ·rw [if_neg h2, if_neg (by omega)]
theorem A8 {f : Nat} {fn : Func} {c : AFun} {args : List AV} {n : Nat} {H : A3} {R : CJ} (hf : P.funcs[f]? = some fn)
  (hc : (Ah P ef fn).map (fun x => (x.nargs, x.nt, x.res, x.code)) = some (c.nargs, c.nt, c.res, bare c.code)) (ha : args.length = c.nargs)
  (h : (∀ g, n ≤ g → H g = none) → aw P c.code (fin R n c.res) ⟨Gw args, n, H⟩) : ACalls P f args n H R := by
 intro hs w0 G w vs hld h0 hrep
 have hcode := h hs
 obtain ⟨fc, hfc, hpr⟩ := Option.map_eq_some_iff.1 hc
 simp only [Prod.mk.injEq] at hpr
 obtain ⟨p1, p2, p3, p4⟩ := hpr
 unfold Ah at hfc
 split at hfc
 ·rename_i code hb
  split at hfc
  ·rename_i ac r hcc hcr
   split at hfc
   ·rename_i hsz
    injection hfc with hfc
    subst hfc
    simp only at p1 p2 p3 p4
    have hvl : vs.length = fn.params.size + fn.nfree := by rw [hrep.len, ha, ← p1]
    have hrel : RelS P w0 fn.ntmps G ⟨Gw args, n, H⟩ { tmps := vs.toArray ++ Array.replicate (fn.ntmps - vs.toArray.size) undef, defers := [] } w := by
     refine ⟨h0, by simp; omega, rfl, hld, fun t => ?_⟩
     have Ag := Lm args t 0
     simp only [Nat.zero_le, if_true, Nat.sub_zero] at Ag
     show Rep G _ (get ((args.zipIdx 0).map fun x => (x.2, x.1)) t)
     rw [Ag]
     cases hat : args[t]? with
     | none => exact .any
     | some x =>
      obtain ⟨v, hv, hrv⟩ := hrep.at hat
      have hlt := (List.getElem?_eq_some_iff.1 hv).1
      have : (vs.toArray ++ Array.replicate (fn.ntmps - vs.toArray.size) undef).getD t undef = v := by
       rw [Array.getD_eq_getD_getElem?, Array.getElem?_append_left (by simpa using hlt)]
       simp [hv]
      rw [this]; exact hrv
    refine calls_of_wp hf hb (TG c.code (by rw [← p4]; exact hcc) hrel hcode fun e s' G' a' w1 hq hle hr' => ?_)
    have fin' : (∃ r n' H', (∃ x, Br s' c.res = some x ∧ AM x r) ∧ n ≤ n' ∧ n' ≤ s'.n ∧ (∀ k, n' ≤ k → H' k = none) ∧ SameB n' H' s'.H ∧ R r n' H') → a'.defers = [] ∧ ∃ v, (results fn a'.tmps).run P w1 = .ok v w1 ∧ ∃ (v' : Value) (r : AV) (G' : Gh) (n' : Nat) (H' : A3), Ending.returned v = .returned v' ∧ R r n' H' ∧ Rep G' v' r ∧ G.Le G' ∧ n ≤ n' ∧ Rel0 P w0 G' n' H' w1 := by
     rintro ⟨x, n', H', ⟨x0, h1, hx0⟩, h2, h3, h4, h5, h6⟩
     rw [← p3] at h1
     obtain ⟨v, e1, e2⟩ := MI hr' hcr h1
     have e2 : Rep G' v x := e2.sim hx0
     exact ⟨hr'.df, v, e1, v, x, G', n', H', rfl, h6, e2, hle, h2, hr'.r0.less (by have := h0.lo; omega) h3 h4 h5⟩
    cases e with
    | normal => exact fin' hq
    | ret => exact fin' hq
    | exit id => exact hq.elim
   ·cases hfc
  ·cases hfc
 ·cases hfc
theorem A7 {f : Nat} {fn : Func} {c : AFun} {args : List AV} {v : AV} (hf : P.funcs[f]? = some fn)
  (hc : (Ah P ef fn).map (fun x => (x.nargs, x.nt, x.res, x.code)) = some (c.nargs, c.nt, c.res, bare c.code)) (ha : args.length = c.nargs)
  (h : ∀ n H, (∀ g, n ≤ g → H g = none) → aw P c.code (QW v n H c.res) ⟨Gw args, n, H⟩) : APure P f args v := by
 intro n H
 refine A8 hf hc ha fun hs => Hl (h n H hs) fun e s' hq => ?_
 cases e with
 | normal =>
  exact ⟨v, n, H, hq.1, Nat.le_refl _, hq.2.1, hs, hq.2.2, rfl, rfl, rfl⟩
 | ret =>
  exact ⟨v, n, H, hq.1, Nat.le_refl _, hq.2.1, hs, hq.2.2, rfl, rfl, rfl⟩
 | exit id => exact hq
end
def Sup (n : Nat) (H : A3) : Prop := ∀ k, n ≤ k → H k = none
structure Mem (n0 : Nat) (H0 : A3) (n : Nat) (H : A3) : Prop where
 le : n0 ≤ n
 sup : Sup n H
 same : SameB n0 H0 H
def OwnS (n0 : Nat) (H : A3) (el sz : Nat) (x : AV) (l : List AV) : Prop :=
 (l = [] ∧ ∃ z, x = .sl z [] .nil) ∨ ∃ g, x = .sl sz l (.own g) ∧ H g = some (.row el l.length) ∧ n0 ≤ g
def NL (x : AV) (k : Nat) : Prop := ∀ sz l, x ≠ .sl sz l (.own k)
theorem Mem.refl {n : Nat} {H : A3} (h : ∀ k, n ≤ k → H k = none) : Mem n H n H := ⟨Nat.le_refl _, h, SameB.rfl_ _ _⟩
section
variable {n0 n : Nat} {H0 H : A3}
theorem Mem.lt (h : Mem n0 H0 n H) {g : Nat} {ob : AObj} (hg : H g = some ob) : g < n := by
 rcases Nat.lt_or_ge g n with h1 | h1
 ·exact h1
 ·rw [h.sup g h1] at hg; cases hg
theorem Sup.lt {g : Nat} {ob : AObj} (h : Sup n H) (hg : H g = some ob) : g < n := by
 rcases Nat.lt_or_ge g n with h1 | h1
 ·exact h1
 ·rw [h g h1] at hg; cases hg
theorem Mem.alloc (h : Mem n0 H0 n H) {g : Nat} (hg : n ≤ g) (ob : AObj) : Mem n0 H0 (g + 1) (upd H g (some ob)) := by
 have := h.le
 refine ⟨by omega, fun k hk => ?_, h.same.upd (by omega) _⟩
 rw [upd_ne (by omega)]; exact h.sup k (by omega)
theorem Mem.set (h : Mem n0 H0 n H) {g : Nat} {ob : AObj} (hg : H g = some ob) (hn : n0 ≤ g) (x : Option AObj) : Mem n0 H0 n (upd H g x) := by
 have hl := h.lt hg
 refine ⟨h.le, fun k hk => ?_, h.same.upd hn _⟩
 rw [upd_ne (by omega)]; exact h.sup k hk
theorem Mem.tr (h : Mem n0 H0 n H) {n' : Nat} {H' : A3} (k : Mem n H n' H') : Mem n0 H0 n' H' :=
 ⟨Nat.le_trans h.le k.le, k.sup, fun j hj => (k.same j (Nat.lt_of_lt_of_le hj h.le)).trans (h.same j hj)⟩
theorem Mem.fin {v : AV} {res : List ARes} {e : AT} (h : Mem n0 H0 n H) (h1 : ∃ x, Br ⟨e, n, H⟩ res = some x ∧ AM x v) : QW v n0 H0 res .ret ⟨e, n, H⟩ := ⟨h1, h.le, h.same⟩
theorem OwnS.nil (z : Nat) (el sz : Nat) : OwnS n0 H el sz (.sl z [] .nil) [] := .inl ⟨rfl, z, rfl⟩
theorem OwnS.own {el sz g : Nat} {l : List AV} (h : H g = some (.row el l.length)) (hn : n0 ≤ g) : OwnS n0 H el sz (.sl sz l (.own g)) l := .inr ⟨g, rfl, h, hn⟩
theorem OwnS.keep {el sz : Nat} {x : AV} {l : List AV} {H' : A3} (h : OwnS n0 H el sz x l) (hk : ∀ g e m, H g = some (.row e m) → H' g = some (.row e m)) : OwnS n0 H' el sz x l := by
 rcases h with h | ⟨g, h1, h2, h3⟩
 ·exact .inl h
 ·exact .inr ⟨g, h1, hk _ _ _ h2, h3⟩
theorem YQ {el sz by_ : Nat} {d : Option Nat} {e : AT} {K : AS → Prop} {x : AV} {l m m' : List AV} {z : Nat} {t : Tok} (hz : z = sz ∨ m = []) (hs : AQ m m') (hm : Mem n0 H0 n H) (hx : OwnS n0 H el sz x l) (hb : (l.length + m.length) * by_ ≤ 140737488355328) (hc : l.length + m.length ≤ maxLen)
  (h : ∀ x' n' H', OwnS n0 H' el sz x' (l ++ m') → Mem n0 H0 n' H' → (∀ k ob, H k = some ob → NL x k → H' k = some ob) → (∀ k, k < n → NL x k → NL x' k) → n ≤ n' → K ⟨AN e d x', n', H'⟩) : appKS el sz by_ d K ⟨e, n, H⟩ x (.sl z m t) := by
 have hl := DL hs
 have hsup := hm.sup
 have hle := hm.le
 rcases hx with ⟨rfl, z, rfl⟩ | ⟨g, rfl, hg, hng⟩
 ·by_cases hm0 : m = []
  ·subst hm0
   simp only [AQ] at hs; subst hs
   refine ⟨.inr rfl, [], rfl, by simp, by simp [maxLen], fun _ => ?_, fun h' => absurd rfl h'⟩
   exact h _ _ _ (.inl ⟨rfl, _, rfl⟩) hm (fun k ob hk _ => hk) (fun k hk _ s l h' => by injection h' with _ _ h'; cases h') (Nat.le_refl _)
  ·refine X9 hz hs hm0 (by simpa using hb) (by simpa using hc) fun g hg => ?_
   refine h _ _ _ ?_ (hm.alloc hg _) (fun k ob hk _ => ?_) (fun k hk _ => ?_) (by omega)
   ·simp only [List.nil_append]
    exact .inr ⟨g, rfl, by rw [AX], by omega⟩
   ·have := hm.lt hk
    rw [upd_ne (by omega)]; exact hk
   ·intro s l' h'; injection h' with _ _ h'; injection h' with h'; omega
 ·have hgn := hm.lt hg
  refine Wn hz hs hg hb hc fun g' n' hg' hn' hgn' => ?_
  refine h _ _ _ (.inr ⟨g', rfl, by rw [AX, List.length_append], by omega⟩) ⟨by omega, fun k hk => ?_, fun k hk => ?_⟩ (fun k ob hk hr => ?_) (fun k hk hr => ?_) hn'
  ·rw [upd_ne (by omega)]
   simp only [upd]; split
   ·rfl
   ·exact hsup k (by omega)
  ·rw [upd_ne (by omega), upd_ne (by omega)]; exact hm.same k hk
  ·have hkn := hm.lt hk
   have hkg : k ≠ g := by rintro rfl; exact hr _ _ rfl
   have hkg' : k ≠ g' := by rcases hg' with rfl | hg' <;> omega
   rw [upd_ne hkg', upd_ne hkg]; exact hk
  ·intro s l' h'
   injection h' with _ _ h'; injection h' with h'
   subst h'
   rcases hg' with rfl | hg'
   ·exact hr _ _ rfl
   ·omega
theorem OwnS.sim {el sz : Nat} {x : AV} {l l' : List AV} (h : OwnS n0 H el sz x l) (hl : AQ l l') : AM x (.sl sz l' .ro) := by
 rcases h with ⟨rfl, z, rfl⟩ | ⟨g, rfl, _⟩
 ·exact ⟨sz, l', .ro, rfl, .inl rfl, .inr ⟨rfl, rfl⟩, hl⟩
 ·exact ⟨sz, l', .ro, rfl, .inl rfl, .inl rfl, hl⟩
end
theorem bytesOf_map (bs : List UInt8) : bytesOf (bs.map fun u => AV.int .u8 u.toNat) = some bs := by
 induction bs with
 | nil => rfl
 | cons b bs ih =>
  simp only [List.map_cons, bytesOf, ih, Option.map_some]
  congr 2
  simp
theorem ZY {a b : UInt8} : ((a.toNat : Int) = (b.toNat : Int)) ↔ a = b := by rw [← UInt8.toNat_inj]; omega
theorem J8 {a : UInt8} {n : Nat} : ((a.toNat : Int) = (no_index (OfNat.ofNat n) : Int)) ↔ (n < 256 ∧ a = UInt8.ofNat n) := by
 constructor
 ·intro h
  have h' : a.toNat = n := Int.ofNat_inj.1 h
  have := a.toNat_lt
  exact ⟨by omega, by rw [← UInt8.toNat_inj]; simp; omega⟩
 ·rintro ⟨h, rfl⟩
  rw [show (UInt8.ofNat n).toNat = n from by simp; omega]; rfl
structure Keeps (n0 : Nat) (H0 : A3) (g : Nat) (ob : AObj) (n : Nat) (H : A3) : Prop where
 mem : Mem n0 H0 n H
 at_ : H g = some ob
 lo : n0 ≤ g
theorem Keeps.alloc {n0 n g : Nat} {H0 H : A3} {ob : AObj} (h : Keeps n0 H0 g ob n H) {k : Nat} (hk : n ≤ k) (x : AObj) : Keeps n0 H0 g ob (k + 1) (upd H k (some x)) :=
 ⟨h.mem.alloc hk x, by rw [upd_ne (by have := h.mem.lt h.at_; omega)]; exact h.at_, h.lo⟩
theorem Keeps.new {n g : Nat} {H : A3} (hs : ∀ k, n ≤ k → H k = none) (hg : n ≤ g) (ob : AObj) : Keeps n H g ob (g + 1) (upd H g (some ob)) :=
 ⟨(Mem.refl hs).alloc hg ob, AX _ _ _, hg⟩
theorem Oz (c : UInt8) : bytesOf [AV.int .u8 c.toNat] = some [c] := bytesOf_map [c]
theorem PP (c d : UInt8) : bytesOf [AV.int .u8 c.toNat, AV.int .u8 d.toNat] = some [c, d] := bytesOf_map [c, d]
theorem CallP.chk {P : Program} {f : Nat} {args : List AV} {d : Option Nat} {K : AS → Prop} {s : AS} (h : CallP P f args d K s) : CallP P f args d K s := h
theorem CallP.of {P : Program} {f : Nat} {args args' : List AV} {d : Option Nat} {K : AS → Prop} {e : AT} {n : Nat} {H : A3} {v : AV} (h : APure P f args' v) (hs : AQ args args') (hk : K ⟨AN e d v, n, H⟩) : CallP P f args d K ⟨e, n, H⟩ := ⟨args', v, h, hs, hk⟩
theorem CallP.sf {P : Program} {f : Nat} {args args' : List AV} {d : Option Nat} {K : AS → Prop} {e : AT} {n : Nat} {H : A3} {v : AV} (hs : AQ args args') (h : APure P f args' v) (hk : K ⟨AN e d v, n, H⟩) : CallP P f args d K ⟨e, n, H⟩ := ⟨args', v, h, hs, hk⟩
theorem A6 {v : AV} {n n' : Nat} {H H' : A3} {res : List ARes} {e : AT} (h : ∃ x, Br ⟨e, n', H'⟩ res = some x ∧ AM x v) (h1 : n ≤ n') (h2 : SameB n H H') : QW v n H res .ret ⟨e, n', H'⟩ := ⟨h, h1, h2⟩
structure OwnR where
 el : Nat
 sz : Nat
 x : AV
 l : List AV
def Vg (a b : OwnR) : Prop := ∀ k, (∃ s l, a.x = .sl s l (.own k)) → NL b.x k
structure Owns (n0 : Nat) (H0 : A3) (bs : List (Nat × AObj)) (os : List OwnR) (n : Nat) (H : A3) : Prop where
 mem : Mem n0 H0 n H
 box : ∀ b ∈ bs, H b.1 = some b.2 ∧ n0 ≤ b.1 ∧ ∀ e m, b.2 ≠ .row e m
 row : ∀ o ∈ os, OwnS n0 H o.el o.sz o.x o.l
 apart : os.Pairwise Vg
def FX (n : Nat) (H : A3) : List (Nat × AObj) → Prop
 | [] => True
 | [(g, ob)] => H g = some ob ∧ g < n
 | (g, ob) :: bs => H g = some ob ∧ g < n ∧ FX n H bs
def J1 : List OwnR → Prop
 | [] => True
 | o :: os => Vj o.x = some (.int .i64 o.l.length) ∧ (∀ s i, Cb o.sz s o.x i = Cb o.sz s (.sl o.sz o.l .ro) i) ∧ (∀ lo hi, HQ o.sz o.x lo hi = HQ o.sz (.sl o.sz o.l .ro) lo hi) ∧ J1 os
def Ix (n : Nat) (H : A3) (bs : List (Nat × AObj)) (os : List OwnR) : Prop := FX n H bs ∧ J1 os
section
variable {n0 n : Nat} {H0 H : A3} {bs : List (Nat × AObj)} {os : List OwnR}
theorem Owns.le (h : Owns n0 H0 bs os n H) : n0 ≤ n := h.mem.le
theorem Owns.same (h : Owns n0 H0 bs os n H) : SameB n0 H0 H := h.mem.same
theorem OwnS.rowF {el sz : Nat} {x : AV} {l : List AV} (h : OwnS n0 H el sz x l) : Vj x = some (.int .i64 l.length) ∧ (∀ s i, Cb sz s x i = Cb sz s (.sl sz l .ro) i) ∧ (∀ lo hi, HQ sz x lo hi = HQ sz (.sl sz l .ro) lo hi) := by
 rcases h with ⟨rfl, z, rfl⟩ | ⟨g, rfl, _⟩
 ·refine ⟨rfl, fun s i => ?_, fun lo hi => ?_⟩
  ·unfold Cb; cases i <;> first | rfl | (simp)
  ·simp [HQ]
 ·exact ⟨rfl, fun _ i => by cases i <;> rfl, fun _ _ => rfl⟩
theorem Owns.boxF (h : Owns n0 H0 bs os n H) : Ix n H bs os := by
 have key : ∀ bs' : List (Nat × AObj), (∀ b ∈ bs', H b.1 = some b.2 ∧ b.1 < n) → FX n H bs' := by
  intro bs'
  induction bs' with
  | nil => intro _; trivial
  | cons b bs' ih =>
   intro hh
   obtain ⟨g, ob⟩ := b
   cases bs' with
   | nil => exact hh (g, ob) List.mem_cons_self
   | cons c bs' => exact ⟨(hh (g, ob) List.mem_cons_self).1, (hh (g, ob) List.mem_cons_self).2, ih fun b hb => hh b (List.mem_cons_of_mem _ hb)⟩
 have key2 : ∀ os' : List OwnR, (∀ o ∈ os', OwnS n0 H o.el o.sz o.x o.l) → J1 os' := by
  intro os'
  induction os' with
  | nil => intro _; trivial
  | cons o os' ih =>
   intro hh
   obtain ⟨h1, h2, h3⟩ := (hh o List.mem_cons_self).rowF
   exact ⟨h1, h2, h3, ih fun b hb => hh b (List.mem_cons_of_mem _ hb)⟩
 exact ⟨key bs fun b hb => ⟨(h.box b hb).1, h.mem.lt (h.box b hb).1⟩, key2 os h.row⟩
theorem Owns.start (hs : ∀ k, n ≤ k → H k = none) : Owns n H [] [] n H := ⟨Mem.refl hs, by simp, by simp, .nil⟩
theorem Owns.alloc (h : Owns n0 H0 bs os n H) {g : Nat} (hg : n ≤ g) (ob : AObj) : Owns n0 H0 bs os (g + 1) (upd H g (some ob)) := by
 refine ⟨h.mem.alloc hg ob, fun b hb => ?_, fun o ho => ?_, h.apart⟩
 ·obtain ⟨h1, h2⟩ := h.box b hb
  have := h.mem.lt h1
  exact ⟨by rw [upd_ne (by omega)]; exact h1, h2⟩
 ·refine (h.row o ho).keep fun k e m hk => ?_
  have := h.mem.lt hk
  rw [upd_ne (by omega)]; exact hk
theorem Owns.addOb (h : Owns n0 H0 bs os n H) {g : Nat} (hg : n ≤ g) (ob : AObj) (hr : ∀ e m, ob ≠ .row e m) : Owns n0 H0 ((g, ob) :: bs) os (g + 1) (upd H g (some ob)) := by
 have h' := h.alloc hg ob
 refine ⟨h'.mem, fun b hb => ?_, h'.row, h'.apart⟩
 rcases List.mem_cons.1 hb with rfl | hb
 ·exact ⟨AX _ _ _, by have := h.mem.le; simp only; omega, hr⟩
 ·exact h'.box b hb
theorem Owns.addBox (h : Owns n0 H0 bs os n H) {g : Nat} (hg : n ≤ g) (e : TypeId) (cs : List AV) : Owns n0 H0 ((g, .cells e cs) :: bs) os (g + 1) (upd H g (some (.cells e cs))) :=
 h.addOb hg _ fun _ _ h => by cases h
theorem Owns.addNil (h : Owns n0 H0 bs os n H) (el sz z : Nat) : Owns n0 H0 bs (⟨el, sz, .sl z [] .nil, []⟩ :: os) n H :=
 ⟨h.mem, h.box, fun o ho => by
  rcases List.mem_cons.1 ho with rfl | ho
  ·exact OwnS.nil z el sz
  ·exact h.row o ho, .cons (fun b _ k ⟨s, l, hx⟩ => by injection hx with _ _ hx; cases hx) h.apart⟩
theorem Owns.dropBox {b : Nat × AObj} (h : Owns n0 H0 (b :: bs) os n H) : Owns n0 H0 bs os n H := ⟨h.mem, fun o' ho => h.box o' (List.mem_cons_of_mem _ ho), h.row, h.apart⟩
theorem Owns.swap {a b : OwnR} (h : Owns n0 H0 bs (a :: b :: os) n H) : Owns n0 H0 bs (b :: a :: os) n H := by
 have h1 := List.pairwise_cons.1 h.apart
 have h2 := List.pairwise_cons.1 h1.2
 refine ⟨h.mem, h.box, fun o ho => h.row o ?_, List.pairwise_cons.2 ⟨fun c hc => ?_, List.pairwise_cons.2 ⟨fun c hc => h1.1 c (List.mem_cons_of_mem _ hc), h2.2⟩⟩⟩
 ·rcases List.mem_cons.1 ho with rfl | ho
  ·exact List.mem_cons_of_mem _ List.mem_cons_self
  ·rcases List.mem_cons.1 ho with rfl | ho
   ·exact List.mem_cons_self
   ·exact List.mem_cons_of_mem _ (List.mem_cons_of_mem _ ho)
 ·rcases List.mem_cons.1 hc with rfl | hc
  ·intro k ⟨s, l, hx⟩ s' l' hx'
   exact h1.1 b List.mem_cons_self k ⟨s', l', hx'⟩ s l hx
  ·exact h2.1 c hc
theorem Owns.sim0 {o : OwnR} (h : Owns n0 H0 bs (o :: os) n H) {l' : List AV} (hl : AQ o.l l') : AM o.x (.sl o.sz l' .ro) := (h.row o List.mem_cons_self).sim hl
theorem Owns.sim1 {a o : OwnR} (h : Owns n0 H0 bs (a :: o :: os) n H) {l' : List AV} (hl : AQ o.l l') : AM o.x (.sl o.sz l' .ro) := (h.row o (List.mem_cons_of_mem _ List.mem_cons_self)).sim hl
theorem Se {x y : AV} (h : AM x y) : AQ [x] [y] := ⟨y, [], rfl, h, rfl⟩
theorem Owns.simL0 {el sz : Nat} {x : AV} {l : List AV} (h : Owns n0 H0 bs (⟨el, sz, x, l⟩ :: os) n H) : AQ [x] [.sl sz l .ro] := Se (h.sim0 (A2 _))
theorem Owns.simL1 {a : OwnR} {el sz : Nat} {x : AV} {l : List AV} (h : Owns n0 H0 bs (a :: ⟨el, sz, x, l⟩ :: os) n H) : AQ [x] [.sl sz l .ro] := Se (h.sim1 (A2 _))
theorem OwnS.fit {el sz : Nat} {x : AV} {l : List AV} (h : OwnS n0 H el sz x l) : B0 none x := by
 rcases h with ⟨_, z, rfl⟩ | ⟨g, rfl, _⟩ <;> (rw [ML]; trivial)
theorem Owns.fit0 {el sz : Nat} {x : AV} {l : List AV} (h : Owns n0 H0 bs (⟨el, sz, x, l⟩ :: os) n H) : B0 none x := (h.row _ List.mem_cons_self).fit
theorem Owns.fit1 {a : OwnR} {el sz : Nat} {x : AV} {l : List AV} (h : Owns n0 H0 bs (a :: ⟨el, sz, x, l⟩ :: os) n H) : B0 none x := (h.row _ (List.mem_cons_of_mem _ List.mem_cons_self)).fit
theorem Owns.simC0 {el sz : Nat} {x : AV} {l r : List AV} (h : Owns n0 H0 bs (⟨el, sz, x, l⟩ :: os) n H) : AQ (x :: r) (.sl sz l .ro :: r) := ⟨_, _, rfl, h.sim0 (A2 _), A2 _⟩
theorem Owns.simC1 {a : OwnR} {el sz : Nat} {x : AV} {l r : List AV} (h : Owns n0 H0 bs (a :: ⟨el, sz, x, l⟩ :: os) n H) : AQ (x :: r) (.sl sz l .ro :: r) := ⟨_, _, rfl, h.sim1 (A2 _), A2 _⟩
theorem Owns.len0 {o : OwnR} (h : Owns n0 H0 bs (o :: os) n H) : ∃ z t, o.x = .sl z o.l t ∧ (z = o.sz ∨ o.l = []) := by
 rcases h.row o List.mem_cons_self with ⟨h1, z, h2⟩ | ⟨g, h1, h2, h3⟩
 ·exact ⟨z, .nil, by rw [h1]; exact h2, .inr h1⟩
 ·exact ⟨_, _, h1, .inl rfl⟩
theorem Owns.app {el sz by_ : Nat} {d : Option Nat} {e : AT} {K : AS → Prop} {x : AV} {l m m' : List AV} {z : Nat} {t : Tok} (h : Owns n0 H0 bs (⟨el, sz, x, l⟩ :: os) n H) (hz : z = sz ∨ m = []) (hs : AQ m m') (hb : (l.length + m.length) * by_ ≤ 140737488355328) (hc : l.length + m.length ≤ maxLen)
  (hk : ∀ x' n' H', n ≤ n' → Owns n0 H0 bs (⟨el, sz, x', l ++ m'⟩ :: os) n' H' → Ix n' H' bs (⟨el, sz, x', l ++ m'⟩ :: os) → K ⟨AN e d x', n', H'⟩) : appKS el sz by_ d K ⟨e, n, H⟩ x (.sl z m t) := by
 have hap := List.pairwise_cons.1 h.apart
 refine YQ hz hs h.mem (h.row _ List.mem_cons_self) hb hc fun x' n' H' ho hm hkeep hnr hle => ?_
 have hO : Owns n0 H0 bs (⟨el, sz, x', l ++ m'⟩ :: os) n' H' := by
  refine ⟨hm, fun b hb => ?_, fun o ho' => ?_, List.pairwise_cons.2 ⟨fun b hb => ?_, hap.2⟩⟩
  ·obtain ⟨h1, h2, h3⟩ := h.box b hb
   refine ⟨hkeep _ _ h1 fun s l' hx => ?_, h2, h3⟩
   rcases h.row _ List.mem_cons_self with ⟨_, z', h4⟩ | ⟨g, h4, h5, _⟩
   ·simp only at h4; rw [h4] at hx; injection hx with _ _ hx; cases hx
   ·simp only at h4 h5; rw [h4] at hx; injection hx with _ _ hx; injection hx with hx
    subst hx
    rw [h5] at h1; injection h1 with h1; exact h3 _ _ h1.symm
  ·rcases List.mem_cons.1 ho' with rfl | ho'
   ·exact ho
   ·refine (h.row o (List.mem_cons_of_mem _ ho')).elim .inl fun ⟨g, h1, h2, h3⟩ => .inr ⟨g, h1, hkeep _ _ h2 fun s l' hx => ?_, h3⟩
    exact hap.1 o ho' g ⟨s, l', hx⟩ _ _ h1
  ·intro k hxk s l' hbx
   obtain ⟨s1, l1, hx1⟩ := hxk
   rcases h.row b (List.mem_cons_of_mem _ hb) with ⟨_, z', h4⟩ | ⟨g, h4, h5, _⟩
   ·rw [h4] at hbx; injection hbx with _ _ hbx; cases hbx
   ·rw [h4] at hbx; injection hbx with _ _ hbx; injection hbx with hbx
    subst hbx
    refine hnr g (h.mem.lt h5) (fun s2 l2 hx2 => ?_) s1 l1 hx1
    exact hap.1 b hb g ⟨s2, l2, hx2⟩ _ _ h4
 exact hk x' n' H' hle hO hO.boxF
theorem Owns.app1 {el sz by_ : Nat} {d : Option Nat} {e : AT} {K : AS → Prop} {x : AV} {l m m' : List AV} {z : Nat} {t : Tok} {a : OwnR} (h : Owns n0 H0 bs (a :: ⟨el, sz, x, l⟩ :: os) n H) (hz : z = sz ∨ m = []) (hs : AQ m m') (hb : (l.length + m.length) * by_ ≤ 140737488355328) (hc : l.length + m.length ≤ maxLen)
  (hk : ∀ x' n' H', n ≤ n' → Owns n0 H0 bs (a :: ⟨el, sz, x', l ++ m'⟩ :: os) n' H' → Ix n' H' bs (a :: ⟨el, sz, x', l ++ m'⟩ :: os) → K ⟨AN e d x', n', H'⟩) : appKS el sz by_ d K ⟨e, n, H⟩ x (.sl z m t) :=
 h.swap.app hz hs hb hc fun x' n' H' hle hO hB => hk x' n' H' hle hO.swap hO.swap.boxF
theorem Owns.setOb {g : Nat} {ob : AObj} (h : Owns n0 H0 ((g, ob) :: bs) os n H) (hne : ∀ b ∈ bs, b.1 ≠ g) (ob' : AObj) (hr : ∀ e m, ob' ≠ .row e m) : Owns n0 H0 ((g, ob') :: bs) os n (upd H g (some ob')) := by
 obtain ⟨h1, h2, h3⟩ := h.box (g, ob) List.mem_cons_self
 simp only at h1 h2 h3
 refine ⟨h.mem.set h1 h2 _, fun b hb => ?_, fun o ho => ?_, h.apart⟩
 ·rcases List.mem_cons.1 hb with rfl | hb
  ·exact ⟨AX _ _ _, h2, hr⟩
  ·rw [upd_ne (hne b hb)]; exact h.box b (List.mem_cons_of_mem _ hb)
 ·refine (h.row o ho).keep fun k e m hk => ?_
  rw [upd_ne (fun e => ?_)]
  ·exact hk
  ·subst e; rw [h1] at hk; injection hk with hk; exact h3 _ _ hk
theorem Owns.set0 {g : Nat} {ob : AObj} (h : Owns n0 H0 ((g, ob) :: bs) os n H) (hne : ∀ b ∈ bs, b.1 ≠ g) (e : TypeId) (cs : List AV) : Owns n0 H0 ((g, .cells e cs) :: bs) os n (upd H g (some (.cells e cs))) :=
 h.setOb hne _ fun _ _ h => by cases h
theorem appKS.chk {el sz by_ : Nat} {d : Option Nat} {K : AS → Prop} {s : AS} {x y : AV} (h : appKS el sz by_ d K s x y) : appKS el sz by_ d K s x y := h
theorem J9 {z z' : Nat} {t : Tok} : AM (.sl z [] t) (.sl z' [] .ro) := ⟨_, _, _, rfl, .inl rfl, .inr ⟨rfl, rfl⟩, rfl⟩
theorem Aj {x y : AV} {xs ys : List AV} (h : AM x y) (k : AQ xs ys) : AQ (x :: xs) (y :: ys) := ⟨y, ys, rfl, h, k⟩
theorem S4 {l m : List AV} (h : AQ l m) : AM (.tup l) (.tup m) := ⟨m, rfl, h⟩
theorem JL {l m : List AV} (h : AQ l m) : AM (.agg l) (.agg m) := ⟨m, rfl, h⟩
theorem A4 {ob : AObj} {d : Option Nat} {K : AS → Prop} {e : AT} (h : ∀ g, n ≤ g → K ⟨AN e d (.ptr g 0), g + 1, upd H g (some ob)⟩) : XG ob d K e n H := h
theorem AJ {sz : Nat} {l : List AV} {ob : AObj} {d : Option Nat} {K : AS → Prop} {e : AT} (h : ∀ g, n ≤ g → K ⟨AN e d (.sl sz l (.own g)), g + 1, upd H g (some ob)⟩) : W4 sz l ob d K e n H := h
theorem Yb {kk : Option IntKind} {d : Option Nat} {K : AS → Prop} {e : AT} (h : ∀ g, n ≤ g → K ⟨AN e d (.mp g), g + 1, upd H g (some (.map kk []))⟩) : A1v kk d K e n H := h
theorem JH {t : TypeId} {cs : List AV} {d : Option Nat} {K : AS → Prop} {e : AT} (h : Owns n0 H0 bs os n H) (hk : ∀ g, n ≤ g → Owns n0 H0 ((g, .cells t cs) :: bs) os (g + 1) (upd H g (some (.cells t cs))) → K ⟨AN e d (.ptr g 0), g + 1, upd H g (some (.cells t cs))⟩) : XG (.cells t cs) d K e n H :=
 fun g hg => hk g hg (h.addBox hg t cs)
theorem Ik {sz : Nat} {l : List AV} {ob : AObj} {d : Option Nat} {K : AS → Prop} {e : AT} (h : Owns n0 H0 bs os n H) (hk : ∀ g, n ≤ g → Owns n0 H0 bs os (g + 1) (upd H g (some ob)) → K ⟨AN e d (.sl sz l (.own g)), g + 1, upd H g (some ob)⟩) : W4 sz l ob d K e n H :=
 fun g hg => hk g hg (h.alloc hg ob)
end
def APureAt (P : Program) (f : Nat) (args : List AV) (n : Nat) (H : A3) (v : AV) : Prop := ACalls P f args n H fun r n' H' => r = v ∧ n' = n ∧ H' = H
section
variable {P : Program} {f : Nat} {n : Nat} {H : A3} {v : AV}
theorem APure.at_ {args : List AV} (h : APure P f args v) (n : Nat) (H : A3) : APureAt P f args n H v := h n H
theorem APureAt.sim {args args' : List AV} (h : APureAt P f args' n H v) (hs : AQ args args') : APureAt P f args n H v := ACalls.sim h hs
theorem DH {ef : List Nat} {fn : Func} {c : AFun} {args : List AV} (hf : P.funcs[f]? = some fn)
  (hc : (Ah P ef fn).map (fun x => (x.nargs, x.nt, x.res, x.code)) = some (c.nargs, c.nt, c.res, bare c.code)) (ha : args.length = c.nargs)
  (h : (∀ g, n ≤ g → H g = none) → aw P c.code (QW v n H c.res) ⟨Gw args, n, H⟩) : APureAt P f args n H v := by
 refine A8 hf hc ha fun hs => Hl (h hs) fun e s' hq => ?_
 cases e with
 | normal => exact ⟨v, n, H, hq.1, Nat.le_refl _, hq.2.1, hs, hq.2.2, rfl, rfl, rfl⟩
 | ret => exact ⟨v, n, H, hq.1, Nat.le_refl _, hq.2.1, hs, hq.2.2, rfl, rfl, rfl⟩
 | exit id => exact hq
theorem CallK.chk {args : List AV} {d : Option Nat} {K : AS → Prop} {s : AS} (h : CallK P f args d K s) : CallK P f args d K s := h
theorem CallK.ofAt {args args' : List AV} {d : Option Nat} {K : AS → Prop} {e : AT} (h : APureAt P f args' n H v) (hs : AQ args args') (hk : K ⟨AN e d v, n, H⟩) : CallK P f args d K ⟨e, n, H⟩ :=
 ⟨_, h.sim hs, fun r n' H' _ _ ⟨e1, e2, e3⟩ => by subst e1; subst e2; subst e3; exact hk⟩
theorem CallK.sfAt {args args' : List AV} {d : Option Nat} {K : AS → Prop} {e : AT} (hs : AQ args args') (h : APureAt P f args' n H v) (hk : K ⟨AN e d v, n, H⟩) : CallK P f args d K ⟨e, n, H⟩ := CallK.ofAt h hs hk
end
def AUpd (P : Program) (f : Nat) (args : List AV) (n : Nat) (H : A3) (v : AV) (g : Nat) (ob : AObj) : Prop := ACalls P f args n H fun r n' H' => r = v ∧ n' = n ∧ H' = upd H g (some ob)
section
variable {P : Program} {f : Nat} {n : Nat} {H : A3} {v : AV}
theorem AUpd.sim {args args' : List AV} {g : Nat} {ob : AObj} (h : AUpd P f args' n H v g ob) (hs : AQ args args') : AUpd P f args n H v g ob := ACalls.sim h hs
theorem T1 {ef : List Nat} {fn : Func} {c : AFun} {args : List AV} {g : Nat} {ob ob0 : AObj} (hf : P.funcs[f]? = some fn)
  (hc : (Ah P ef fn).map (fun x => (x.nargs, x.nt, x.res, x.code)) = some (c.nargs, c.nt, c.res, bare c.code)) (ha : args.length = c.nargs) (hg : H g = some ob0)
  (h : (∀ g, n ≤ g → H g = none) → aw P c.code (QW v n (upd H g (some ob)) c.res) ⟨Gw args, n, H⟩) : AUpd P f args n H v g ob := by
 refine A8 hf hc ha fun hs => ?_
 have hgn : g < n := by
  rcases Nat.lt_or_ge g n with h1 | h1
  ·exact h1
  ·rw [hs g h1] at hg; cases hg
 have hs' : ∀ k, n ≤ k → upd H g (some ob) k = none := fun k hk => by rw [upd_ne (by omega)]; exact hs k hk
 refine Hl (h hs) fun e s' hq => ?_
 cases e with
 | normal => exact ⟨v, n, _, hq.1, Nat.le_refl _, hq.2.1, hs', hq.2.2, rfl, rfl, rfl⟩
 | ret => exact ⟨v, n, _, hq.1, Nat.le_refl _, hq.2.1, hs', hq.2.2, rfl, rfl, rfl⟩
 | exit id => exact hq
theorem CallK.ofU {args args' : List AV} {d : Option Nat} {K : AS → Prop} {e : AT} {g : Nat} {ob : AObj} (h : AUpd P f args' n H v g ob) (hs : AQ args args') (hk : K ⟨AN e d v, n, upd H g (some ob)⟩) : CallK P f args d K ⟨e, n, H⟩ :=
 ⟨_, h.sim hs, fun r n' H' _ _ ⟨e1, e2, e3⟩ => by subst e1; subst e2; subst e3; exact hk⟩
theorem CallK.sfU {args args' : List AV} {d : Option Nat} {K : AS → Prop} {e : AT} {g : Nat} {ob : AObj} (hs : AQ args args') (h : AUpd P f args' n H v g ob) (hk : K ⟨AN e d v, n, upd H g (some ob)⟩) : CallK P f args d K ⟨e, n, H⟩ := CallK.ofU h hs hk
def AHp (P : Program) (f : Nat) (args : List AV) (n : Nat) (H : A3) (v : AV) (H2 : A3) : Prop := ACalls P f args n H fun r n' H' => r = v ∧ n' = n ∧ H' = H2
theorem AHp.sim {args args' : List AV} {H2 : A3} (h : AHp P f args' n H v H2) (hs : AQ args args') : AHp P f args n H v H2 := ACalls.sim h hs
theorem Owns.at_ {n0 : Nat} {H0 : A3} {bs : List (Nat × AObj)} {os : List OwnR} {g : Nat} {a : AObj} (h : Owns n0 (upd H0 g (some a)) bs os n H) (hg : g < n0) : H g = some a := by
 rw [h.mem.same g hg]; exact AX _ _ _
end
open Go.RowKit
section
variable {P : Program} {w w0 : World} {G : Gh} {n : Nat} {H : A3}
theorem ACalls.frz {f : Nat} {args : List AV} {R R' : CJ} (h : ACalls P f args n H R) (k : ∀ r n' H', n ≤ n' → R r n' H' → ∃ (g : Nat) (e : TypeId) (sz : Nat) (l : List AV), H' g = some (.grow e (AO l)) ∧ Bn P e = sz ∧ 0 < sz ∧ (∀ x ∈ l, x.cells.length = sz) ∧ R' (Fp g sz l r) n' (upd H' g none)) : ACalls P f args n H R' :=
 fun hs w0 G w vs hl hr hv => (h hs w0 G w vs hl hr hv).mono fun e w' ⟨v, r, G', n', H', e1, e2, e3, e4, e5, e6⟩ => by
  obtain ⟨g, te, sz, l, q1, q2, q3, q4, q5⟩ := k r n' H' e5 e2
  obtain ⟨us, c, hc, hLe, hrel, hrl, hsl, hcm, hcs, h1⟩ := e6.still q1
  have hlen : l.length ≤ c := by
   have e : (AO l).length = l.length * sz := by
    clear q1 hrl hcs h1 q5
    induction l with
    | nil => simp [AO]
    | cons x l ih =>
     have := ih fun y hy => q4 y (List.mem_cons_of_mem _ hy)
     have h2 := q4 x List.mem_cons_self
     simp only [AO, List.flatMap_cons, List.length_append] at this ⊢
     rw [this, h2, List.length_cons, Nat.succ_mul]; omega
   rw [e, q2] at hcs
   exact Nat.le_of_mul_le_mul_right hcs q3
  exact ⟨v, _, G'.still g us, n', _, e1, q5, Rep.frz hLe hc hrl hsl ⟨hlen, hcm, q3, q4, h1⟩ e3, e4.tr hLe, e5, hrel⟩
theorem ACalls.forget {f : Nat} {args : List AV} {R R' : CJ} (h : ACalls P f args n H R) (k : ∀ r n' H', n ≤ n' → R r n' H' → SameB n H H' ∧ R' r n H) : ACalls P f args n H R' :=
 fun hs w0 G w vs hl hr hv => (h hs w0 G w vs hl hr hv).mono fun e w' ⟨v, r, G', n', H', e1, e2, e3, e4, e5, e6⟩ =>
  ⟨v, r, G', n, H, e1, (k r n' H' e5 e2).2, e3, e4, Nat.le_refl _, e6.less hr.lo e5 hs (k r n' H' e5 e2).1⟩
end
def Ex (r r' : List Nat) : Prop := ∀ g a : Nat, r[g]? = some a → r'[g]? = some a
theorem Ex.rfl_ (r : List Nat) : Ex r r := fun _ _ h => h
theorem Ex.tr {a b c : List Nat} (h : Ex a b) (k : Ex b c) : Ex a c := fun g x h1 => k g x (h g x h1)
theorem Ex.app (r l : List Nat) : Ex r (r ++ l) := fun g a h => by
 rw [List.getElem?_append_left (List.getElem?_eq_some_iff.1 h).1]; exact h
def RnT (r : List Nat) : Tok → Tok → Prop
 | .nil, t => t = .nil
 | .ro, t => t = .ro
 | .own g, t => ∃ g', t = .own g' ∧ r[g]? = some g'
mutual
def Rn (r : List Nat) : AV → AV → Prop
 | .sl z l t, y => ∃ l' t', y = .sl z l' t' ∧ RnL r l l' ∧ RnT r t t'
 | .agg l, y => ∃ l', y = .agg l' ∧ RnL r l l'
 | .tup l, y => ∃ l', y = .tup l' ∧ RnL r l l'
 | .dat e l, y => ∃ l', y = .dat e l' ∧ RnL r l l'
 | .fn f a b, y => ∃ a' b', y = .fn f a' b' ∧ RnL r a a' ∧ RnL r b b'
 | .ref x, y => ∃ x', y = .ref x' ∧ Rn r x x'
 | .ifc t x, y => ∃ x', y = .ifc t x' ∧ Rn r x x'
 | .ptr g o, y => ∃ g', y = .ptr g' o ∧ r[g]? = some g'
 | .mp g, y => ∃ g', y = .mp g' ∧ r[g]? = some g'
 | .slm z g o n, y => ∃ g', y = .slm z g' o n ∧ r[g]? = some g'
 | .slg z g n, y => ∃ g', y = .slg z g' n ∧ r[g]? = some g'
 | .bool b, y => y = .bool b
 | .int k n, y => y = .int k n
 | .str s, y => y = .str s
 | .np, y => y = .np
 | .nfn, y => y = .nfn
 | .nmp, y => y = .nmp
 | .ub, y => y = .ub
 | .nif, y => y = .nif
 | .any, _ => True
 | .und, y => y = .und
def RnL (r : List Nat) : List AV → List AV → Prop
 | [], y => y = []
 | x :: xs, y => ∃ x' xs', y = x' :: xs' ∧ Rn r x x' ∧ RnL r xs xs'
end
theorem RnT.mono {r r' : List Nat} (h : Ex r r') : ∀ {x y : Tok}, RnT r x y → RnT r' x y
 | .nil, _, e => e
 | .ro, _, e => e
 | .own _, _, ⟨g, e, k⟩ => ⟨g, e, h _ _ k⟩
mutual
theorem Rn.mono {r r' : List Nat} (h : Ex r r') : ∀ {x y : AV}, Rn r x y → Rn r' x y
 | .sl _ _ _, _, k => by simp only [Rn] at k ⊢; obtain ⟨l', t', e, a, b⟩ := k; exact ⟨l', t', e, RnL.mono h a, b.mono h⟩
 | .agg _, _, k => by simp only [Rn] at k ⊢; obtain ⟨l', e, a⟩ := k; exact ⟨l', e, RnL.mono h a⟩
 | .tup _, _, k => by simp only [Rn] at k ⊢; obtain ⟨l', e, a⟩ := k; exact ⟨l', e, RnL.mono h a⟩
 | .dat _ _, _, k => by simp only [Rn] at k ⊢; obtain ⟨l', e, a⟩ := k; exact ⟨l', e, RnL.mono h a⟩
 | .fn _ _ _, _, k => by simp only [Rn] at k ⊢; obtain ⟨l', m', e, a, b⟩ := k; exact ⟨l', m', e, RnL.mono h a, RnL.mono h b⟩
 | .ref _, _, k => by simp only [Rn] at k ⊢; obtain ⟨l', e, a⟩ := k; exact ⟨l', e, Rn.mono h a⟩
 | .ifc _ _, _, k => by simp only [Rn] at k ⊢; obtain ⟨l', e, a⟩ := k; exact ⟨l', e, Rn.mono h a⟩
 | .ptr _ _, _, k => by simp only [Rn] at k ⊢; obtain ⟨l', e, a⟩ := k; exact ⟨l', e, h _ _ a⟩
 | .mp _, _, k => by simp only [Rn] at k ⊢; obtain ⟨l', e, a⟩ := k; exact ⟨l', e, h _ _ a⟩
 | .slm _ _ _ _, _, k => by simp only [Rn] at k ⊢; obtain ⟨l', e, a⟩ := k; exact ⟨l', e, h _ _ a⟩
 | .slg _ _ _, _, k => by simp only [Rn] at k ⊢; obtain ⟨l', e, a⟩ := k; exact ⟨l', e, h _ _ a⟩
 | .any, _, _ => by simp only [Rn]
 | .bool _, _, k | .int _ _, _, k | .str _, _, k | .np, _, k | .nfn, _, k | .nmp, _, k | .ub, _, k | .nif, _, k | .und, _, k => by simp only [Rn] at k ⊢; exact k
theorem RnL.mono {r r' : List Nat} (h : Ex r r') : ∀ {x y : List AV}, RnL r x y → RnL r' x y
 | [], _, k => by simp only [RnL] at k ⊢; exact k
 | _ :: _, _, k => by simp only [RnL] at k ⊢; obtain ⟨x', l', e, a, b⟩ := k; exact ⟨x', l', e, Rn.mono h a, RnL.mono h b⟩
end
mutual
def Im : AV → Bool
 | .sl _ l t => (match t with | .own _ => false | _ => true) && HD l
 | .agg l | .tup l | .dat _ l => HD l
 | .fn _ a b => HD a && HD b
 | .ref x | .ifc _ x => Im x
 | .ptr _ _ | .mp _ | .slm _ _ _ _ | .slg _ _ _ | .any => false
 | _ => true
def HD : List AV → Bool
 | [] => true
 | x :: xs => Im x && HD xs
end
mutual
theorem Rn.of_nid {r : List Nat} : ∀ {x : AV}, Im x = true → Rn r x x
 | .sl _ l t, h => by
  simp only [Im, Bool.and_eq_true] at h
  refine ⟨l, t, rfl, RnL.of_nid h.2, ?_⟩
  cases t <;> simp_all [RnT]
 | .agg _, h | .tup _, h | .dat _ _, h => by simp only [Im] at h; exact ⟨_, rfl, RnL.of_nid h⟩
 | .fn _ _ _, h => by simp only [Im, Bool.and_eq_true] at h; exact ⟨_, _, rfl, RnL.of_nid h.1, RnL.of_nid h.2⟩
 | .ref _, h | .ifc _ _, h => by simp only [Im] at h; exact ⟨_, rfl, Rn.of_nid h⟩
 | .ptr _ _, h | .mp _, h | .slm _ _ _ _, h | .slg _ _ _, h | .any, h => by simp [Im] at h
 | .bool _, _ | .int _ _, _ | .str _, _ | .np, _ | .nfn, _ | .nmp, _ | .ub, _ | .nif, _ | .und, _ => by simp only [Rn]
theorem RnL.of_nid {r : List Nat} : ∀ {x : List AV}, HD x = true → RnL r x x
 | [], _ => rfl
 | _ :: _, h => by simp only [HD, Bool.and_eq_true] at h; exact ⟨_, _, rfl, Rn.of_nid h.1, RnL.of_nid h.2⟩
end
mutual
def KF : AV → AV → Bool
 | .bool a, .bool b => decide (a = b)
 | .int k a, .int l b => decide (k = l) && decide (a = b)
 | .str a, .str b => decide (a = b)
 | .ptr g o, .ptr g' o' => decide (g = g') && decide (o = o')
 | .np, .np | .nfn, .nfn | .nmp, .nmp | .ub, .ub | .nif, .nif | .und, .und => true
 | .ref x, .ref y => KF x y
 | .sl z l t, .sl z' l' t' => decide (z = z') && ((match t, t' with | .nil, .nil | .ro, .ro => true | .own g, .own g' => decide (g = g') | _, _ => false) && Tv l l')
 | .agg l, .agg m | .tup l, .tup m => Tv l m
 | .fn f a b, .fn f' a' b' => decide (f = f') && (Tv a a' && Tv b b')
 | .mp g, .mp g' => decide (g = g')
 | .slm a b c d, .slm a' b' c' d' => decide (a = a') && (decide (b = b') && (decide (c = c') && decide (d = d')))
 | .slg a b c, .slg a' b' c' => decide (a = a') && (decide (b = b') && decide (c = c'))
 | .ifc t v, .ifc t' v' => decide (t = t') && KF v v'
 | .dat e l, .dat e' l' => decide (e = e') && Tv l l'
 | _, _ => false
def Tv : List AV → List AV → Bool
 | [], [] => true
 | x :: xs, y :: ys => KF x y && Tv xs ys
 | _, _ => false
end
mutual
theorem Rn.one_ {r r' : List Nat} (hx : Ex r r') : ∀ {x x' y z : AV}, KF x x' = true → Rn r x y → Rn r' x' z → z = y
 | .sl _ _ t, x', _, _, e, h, k => by
  cases x' <;> simp [KF] at e
  rename_i t'
  obtain ⟨rfl, e1, e2⟩ := e
  simp only [Rn] at h k
  obtain ⟨l, t1, rfl, a, b⟩ := h; obtain ⟨m, t2, rfl, c, d⟩ := k
  have := RnL.one_ hx e2 a c; subst this
  congr 1
  cases t <;> cases t' <;> simp only [RnT] at b d <;> simp at e1
  ·rw [b, d]
  ·rw [b, d]
  ·subst e1; obtain ⟨g, rfl, e⟩ := b; obtain ⟨g', rfl, f⟩ := d
   have := hx _ _ e; rw [f] at this; injection this with this; rw [this]
 | .agg _, x', _, _, e, h, k | .tup _, x', _, _, e, h, k => by
  cases x' <;> simp [KF] at e
  simp only [Rn] at h k
  obtain ⟨l, rfl, a⟩ := h; obtain ⟨m, rfl, c⟩ := k
  rw [RnL.one_ hx e a c]
 | .dat _ _, x', _, _, e, h, k => by
  cases x' <;> simp [KF] at e
  obtain ⟨rfl, e⟩ := e
  simp only [Rn] at h k
  obtain ⟨l, rfl, a⟩ := h; obtain ⟨m, rfl, c⟩ := k
  rw [RnL.one_ hx e a c]
 | .fn _ _ _, x', _, _, e, h, k => by
  cases x' <;> simp [KF] at e
  obtain ⟨rfl, e1, e2⟩ := e
  simp only [Rn] at h k
  obtain ⟨l, l2, rfl, a, b⟩ := h; obtain ⟨m, m2, rfl, c, d⟩ := k
  rw [RnL.one_ hx e1 a c, RnL.one_ hx e2 b d]
 | .ref _, x', _, _, e, h, k => by
  cases x' <;> simp [KF] at e
  simp only [Rn] at h k
  obtain ⟨l, rfl, a⟩ := h; obtain ⟨m, rfl, c⟩ := k
  rw [Rn.one_ hx e a c]
 | .ifc _ _, x', _, _, e, h, k => by
  cases x' <;> simp [KF] at e
  obtain ⟨rfl, e⟩ := e
  simp only [Rn] at h k
  obtain ⟨l, rfl, a⟩ := h; obtain ⟨m, rfl, c⟩ := k
  rw [Rn.one_ hx e a c]
 | .ptr _ _, x', _, _, e, h, k | .mp _, x', _, _, e, h, k | .slm _ _ _ _, x', _, _, e, h, k | .slg _ _ _, x', _, _, e, h, k => by
  cases x' <;> simp [KF] at e
  simp only [Rn] at h k
  obtain ⟨l, rfl, a⟩ := h; obtain ⟨m, rfl, c⟩ := k
  have := hx _ _ a
  simp_all
 | .bool _, x', _, _, e, h, k | .int _ _, x', _, _, e, h, k | .str _, x', _, _, e, h, k | .np, x', _, _, e, h, k | .nfn, x', _, _, e, h, k | .nmp, x', _, _, e, h, k | .ub, x', _, _, e, h, k | .nif, x', _, _, e, h, k | .und, x', _, _, e, h, k => by
  cases x' <;> simp [KF] at e <;> simp_all [Rn]
 | .any, x', _, _, e, h, k => by simp [KF] at e
theorem RnL.one_ {r r' : List Nat} (hx : Ex r r') : ∀ {x x' y z : List AV}, Tv x x' = true → RnL r x y → RnL r' x' z → z = y
 | [], x', _, _, e, h, k => by cases x' <;> simp [Tv] at e; simp only [RnL] at h k; rw [h, k]
 | _ :: _, x', _, _, e, h, k => by
  cases x' <;> simp [Tv] at e
  simp only [RnL] at h k
  obtain ⟨x, l, rfl, a, b⟩ := h; obtain ⟨y, m, rfl, c, d⟩ := k
  rw [Rn.one_ hx e.1 a c, RnL.one_ hx e.2 b d]
end
mutual
theorem Rn.eq_nid {r : List Nat} : ∀ {x y : AV}, Im x = true → Rn r x y → y = x
 | .sl _ l t, _, h, k => by
  simp only [Im, Bool.and_eq_true] at h
  simp only [Rn] at k; obtain ⟨l', t', rfl, a, b⟩ := k
  rw [RnL.eq_nid h.2 a]
  cases t <;> simp only [RnT] at b
  ·rw [b]
  ·rw [b]
  ·simp at h
 | .agg _, _, h, k | .tup _, _, h, k | .dat _ _, _, h, k => by simp only [Im] at h; simp only [Rn] at k; obtain ⟨l, rfl, a⟩ := k; rw [RnL.eq_nid h a]
 | .fn _ _ _, _, h, k => by simp only [Im, Bool.and_eq_true] at h; simp only [Rn] at k; obtain ⟨l, m, rfl, a, b⟩ := k; rw [RnL.eq_nid h.1 a, RnL.eq_nid h.2 b]
 | .ref _, _, h, k | .ifc _ _, _, h, k => by simp only [Im] at h; simp only [Rn] at k; obtain ⟨l, rfl, a⟩ := k; rw [Rn.eq_nid h a]
 | .ptr _ _, _, h, _ | .mp _, _, h, _ | .slm _ _ _ _, _, h, _ | .slg _ _ _, _, h, _ | .any, _, h, _ => by simp [Im] at h
 | .bool _, _, _, k | .int _ _, _, _, k | .str _, _, _, k | .np, _, _, k | .nfn, _, _, k | .nmp, _, _, k | .ub, _, _, k | .nif, _, _, k | .und, _, _, k => by simpa only [Rn] using k
theorem RnL.eq_nid {r : List Nat} : ∀ {x y : List AV}, HD x = true → RnL r x y → y = x
 | [], _, _, k => by simpa only [RnL] using k
 | _ :: _, _, h, k => by simp only [HD, Bool.and_eq_true] at h; simp only [RnL] at k; obtain ⟨x, l, rfl, a, b⟩ := k; rw [Rn.eq_nid h.1 a, RnL.eq_nid h.2 b]
end
def Nl : AV → Bool
 | .any => false
 | _ => true
theorem ER {x : AV} {s : BV} (h : x.fits s = true) : Nl x = true := by cases x <;> first | rfl | (cases s <;> simp [AV.fits] at h)
section
variable {r : List Nat}
theorem RnL.len : ∀ {l m : List AV}, RnL r l m → m.length = l.length
 | [], _, h => by simp only [RnL] at h; rw [h]
 | _ :: _, _, h => by simp only [RnL] at h; obtain ⟨x, l, rfl, _, b⟩ := h; simp [RnL.len b]
theorem RnL.at_ : ∀ {l m : List AV} {i : Nat} {x : AV}, RnL r l m → l[i]? = some x → ∃ y, m[i]? = some y ∧ Rn r x y
 | [], _, _, _, _, h => by simp at h
 | _ :: _, _, 0, _, h, k => by simp only [RnL] at h; obtain ⟨x, l, rfl, a, b⟩ := h; simp at k; subst k; exact ⟨_, rfl, a⟩
 | _ :: _, _, _ + 1, _, h, k => by simp only [RnL] at h; obtain ⟨x, l, rfl, a, b⟩ := h; simp at k; simpa using RnL.at_ b k
theorem RnL.app : ∀ {a b c d : List AV}, RnL r a b → RnL r c d → RnL r (a ++ c) (b ++ d)
 | [], _, _, _, h, k => by simp only [RnL] at h; subst h; exact k
 | _ :: _, _, _, _, h, k => by simp only [RnL] at h; obtain ⟨x, l, rfl, a, b⟩ := h; exact ⟨_, _, rfl, a, RnL.app b k⟩
theorem RnL.tk : ∀ {a b : List AV} (n : Nat), RnL r a b → RnL r (a.take n) (b.take n)
 | [], _, _, h => by simp only [RnL] at h; subst h; simp [RnL]
 | _ :: _, _, 0, h => by simp [RnL]
 | _ :: _, _, n + 1, h => by simp only [RnL] at h; obtain ⟨x, l, rfl, a, b⟩ := h; exact ⟨_, _, rfl, a, RnL.tk n b⟩
theorem RnL.dp : ∀ {a b : List AV} (n : Nat), RnL r a b → RnL r (a.drop n) (b.drop n)
 | [], _, _, h => by simp only [RnL] at h; subst h; simp [RnL]
 | _ :: _, _, 0, h => by simpa using h
 | _ :: _, _, n + 1, h => by simp only [RnL] at h; obtain ⟨x, l, rfl, a, b⟩ := h; simpa using RnL.dp n b
theorem RnL.mp {α : Type} {f g : α → AV} : ∀ {l : List α}, (∀ x ∈ l, Rn r (f x) (g x)) → RnL r (l.map f) (l.map g)
 | [], _ => rfl
 | x :: l, h => ⟨_, _, rfl, h x List.mem_cons_self, RnL.mp fun y hy => h y (List.mem_cons_of_mem _ hy)⟩
theorem Rn.cells {x y : AV} (h : Rn r x y) (hn : Nl x = true) : RnL r x.cells y.cells := by
 cases x
 case any => simp [Nl] at hn
 case agg l => simp only [Rn] at h; obtain ⟨l', rfl, a⟩ := h; exact a
 all_goals
  have h' := h
  simp only [Rn] at h'
  first
   | (subst h'; exact ⟨_, [], rfl, h, rfl⟩)
   | (obtain ⟨_, rfl, _⟩ := h'; exact ⟨_, [], rfl, h, rfl⟩)
   | (obtain ⟨_, _, rfl, _⟩ := h'; exact ⟨_, [], rfl, h, rfl⟩)
theorem Rn.one {x y : AV} (h : Rn r x y) (k : x.one = true) : y.one = true := by
 cases x <;> simp only [Rn] at h <;> first
  | (subst h; exact k)
  | (obtain ⟨_, rfl, _⟩ := h; exact k)
  | (obtain ⟨_, _, rfl, _⟩ := h; exact k)
  | simp [AV.one] at k
theorem Rn.fits {x y : AV} (h : Rn r x y) {s : BV} (k : x.fits s = true) : y.fits s = true := by
 cases x
 case any => cases s <;> simp [AV.fits] at k
 case agg l => simp only [Rn] at h; obtain ⟨l', rfl, a⟩ := h; cases s <;> simp_all [AV.fits, a.len]
 all_goals
  simp only [Rn] at h
  first
   | (subst h; exact k)
   | (obtain ⟨_, rfl, _⟩ := h; cases s <;> simp_all [AV.fits]; done)
   | (obtain ⟨_, _, rfl, _⟩ := h; cases s <;> simp_all [AV.fits]; done)
theorem RnL.ones : ∀ {l m : List AV}, RnL r l m → ones l → ones m
 | [], _, h, _ => by simp only [RnL] at h; subst h; simp [Go.Proofs.YtjdccdelcnmocaaGreatDoor.ones]
 | _ :: _, _, h, k => by
  simp only [RnL] at h; obtain ⟨x, l, rfl, a, b⟩ := h
  intro z hz
  rcases List.mem_cons.1 hz with rfl | hz
  ·exact a.one (k _ List.mem_cons_self)
  ·exact RnL.ones b (fun w hw => k w (List.mem_cons_of_mem _ hw)) z hz
theorem RnL.flat : ∀ {l m : List AV}, RnL r l m → l.all Nl = true → RnL r (AO l) (AO m)
 | [], _, h, _ => by simp only [RnL] at h; subst h; rfl
 | _ :: _, _, h, k => by
  simp only [RnL] at h; obtain ⟨x, l, rfl, a, b⟩ := h
  simp only [List.all_cons, Bool.and_eq_true] at k
  simp only [AO, List.flatMap_cons]; exact (a.cells k.1).app (RnL.flat b k.2)
theorem RnL.part {cs ds : List AV} (h : RnL r cs ds) {o : Nat} {s : BV} {v : AV} (k : part cs o s = some v) : ∃ u, part ds o s = some u ∧ Rn r v u := by
 cases s with
 | none => exact h.at_ k
 | some s =>
  simp only [Go.Proofs.YtjdccdelcnmocaaGreatDoor.part] at k ⊢
  split at k
  ·rename_i hl
   injection k with k; subst k
   rw [h.len, if_pos hl]
   exact ⟨_, rfl, _, rfl, (h.dp o).tk s⟩
  ·cases k
theorem L3 : ∀ {l m : List AV} {b : List UInt8}, RnL r l m → bytesOf l = some b → bytesOf m = some b
 | [], _, _, h, k => by simp only [RnL] at h; subst h; exact k
 | x :: l, _, _, h, k => by
  simp only [RnL] at h; obtain ⟨y, m, rfl, a, b⟩ := h
  unfold bytesOf at k
  split at k
  ·rename_i e; cases e
  ·rename_i n r' e
   injection e with e1 e2; subst e1; subst e2
   simp only [Rn] at a; subst a
   obtain ⟨b', h1, h2⟩ := Option.map_eq_some_iff.1 k
   simp only [bytesOf, L3 b h1, Option.map_some, h2]
  ·cases k
theorem A23 {l m : List AV} (h : RnL r l m) (k : l.all RJ = true) : m.all RJ = true := by
 rw [List.all_eq_true] at k ⊢
 intro x hx
 obtain ⟨i, hi⟩ := List.getElem?_of_mem hx
 have hlt := (List.getElem?_eq_some_iff.1 hi).1
 rw [h.len] at hlt
 obtain ⟨y, h1, h2⟩ := h.at_ (List.getElem?_eq_getElem hlt)
 rw [hi] at h1; injection h1 with h1; subst h1
 have h3 := k _ (List.getElem_mem hlt)
 generalize l[i] = z at *
 unfold RJ at h3
 split at h3
 ·simp only [Rn] at h2; subst h2; exact h3
 ·cases h3
theorem P0 : ∀ {ks : List FK} {a b a' b' : List AV} {t : Bool}, RnL r a a' → RnL r b b' → Cz ks a b = some t → Cz ks a' b' = some t
 | [], [], [], _, _, _, h, k, e => by simp only [RnL] at h k; subst h; subst k; exact e
 | f :: ks, x :: xs, y :: ys, _, _, _, h, k, e => by
  simp only [RnL] at h k
  obtain ⟨x', xs', rfl, h1, h2⟩ := h; obtain ⟨y', ys', rfl, k1, k2⟩ := k
  cases f <;> cases x <;> (try (simp [Cz] at e; done)) <;> cases y <;> (try (simp [Cz] at e; done)) <;>
   (simp only [Rn] at h1 k1; subst h1; subst k1; simp only [Cz] at e ⊢)
  ·split at e
   ·rename_i hk
    obtain ⟨t', e1, e2⟩ := Option.map_eq_some_iff.1 e
    rw [if_pos hk, P0 h2 k2 e1]; simpa using e2
   ·cases e
  ·obtain ⟨t', e1, e2⟩ := Option.map_eq_some_iff.1 e
   rw [P0 h2 k2 e1]; simpa using e2
  ·obtain ⟨t', e1, e2⟩ := Option.map_eq_some_iff.1 e
   rw [P0 h2 k2 e1]; simpa using e2
 | [], _ :: _, _, _, _, _, _, _, e | [], [], _ :: _, _, _, _, _, _, e | _ :: _, [], _, _, _, _, _, _, e | _ :: _, _ :: _, [], _, _, _, _, _, e => by simp [Cz] at e
theorem Ro : ∀ {ps qs : List (Nat × AV)} {cs ds : List AV}, RnL r cs ds → ps.map (·.1) = qs.map (·.1) → RnL r (ps.map (·.2)) (qs.map (·.2)) → (ps.all fun p => Nl p.2) = true → RnL r (GZ cs ps) (GZ ds qs)
 | [], [], _, _, h, _, _, _ => h
 | [], _ :: _, _, _, _, e, _, _ => by simp at e
 | _ :: _, [], _, _, _, e, _, _ => by simp at e
 | (o, v) :: ps, (o', v') :: qs, _, _, h, e, k, na => by
  simp only [List.map_cons, RnL, List.cons.injEq] at k e
  obtain ⟨x, xs, ⟨rfl, rfl⟩, k1, k2⟩ := k
  obtain ⟨rfl, e⟩ := e
  simp only [GZ]
  simp only [List.all_cons, Bool.and_eq_true] at na
  have hc := k1.cells na.1
  refine Ro (((h.tk o).app hc).app ?_) e k2 na.2
  rw [hc.len]; exact h.dp _
theorem Lh : ∀ {n : Nat} {ps qs : List (Nat × BV × AV)}, ps.map (fun p => (p.1, p.2.1)) = qs.map (fun p => (p.1, p.2.1)) → RnL r (ps.map (·.2.2)) (qs.map (·.2.2)) → Fk n ps = true → Fk n qs = true
 | _, [], [], _, _, h => h
 | _, [], _ :: _, e, _, _ => by simp at e
 | _, _ :: _, [], e, _, _ => by simp at e
 | n, (o, s, v) :: ps, (o', s', v') :: qs, e, k, h => by
  simp only [List.map_cons, RnL, List.cons.injEq, Prod.mk.injEq] at k e
  obtain ⟨x, xs, ⟨rfl, rfl⟩, k1, k2⟩ := k
  obtain ⟨⟨rfl, rfl⟩, e⟩ := e
  simp only [Fk, Bool.and_eq_true, decide_eq_true_eq] at h ⊢
  exact ⟨⟨k1.fits h.1.1, by rw [(k1.cells (ER h.1.1)).len]; exact h.1.2⟩, Lh e k2 h.2⟩
theorem Is : ∀ {n : Nat} {ps : List (Nat × BV × AV)}, Fk n ps = true → (ps.all fun p => Nl p.2.2) = true
 | _, [], _ => rfl
 | _, (o, s, v) :: ps, h => by
  simp only [Fk, Bool.and_eq_true] at h
  simp only [List.all_cons, Bool.and_eq_true]
  exact ⟨ER h.1.1, Is h.2⟩
def RnM (r : List Nat) : List (AV × AV) → List (AV × AV) → Prop
 | [], y => y = []
 | (k, v) :: es, y => ∃ v' es', y = (k, v') :: es' ∧ Rn r v v' ∧ RnM r es es' ∧ Im k = true
theorem RnM.find {k : AV} : ∀ {es fs : List (AV × AV)}, RnM r es fs → (Bo k es = none ∧ Bo k fs = none) ∨ ∃ x y, Bo k es = some x ∧ Bo k fs = some y ∧ Rn r x y
 | [], _, h => by simp only [RnM] at h; subst h; exact .inl ⟨rfl, rfl⟩
 | (k', v) :: es, _, h => by
  simp only [RnM] at h; obtain ⟨v', es', rfl, a, b, _⟩ := h
  simp only [Bo]
  split
  ·exact .inr ⟨_, _, rfl, rfl, a⟩
  ·exact RnM.find b
theorem RnM.len : ∀ {es fs : List (AV × AV)}, RnM r es fs → fs.length = es.length
 | [], _, h => by simp only [RnM] at h; rw [h]
 | (_, _) :: _, _, h => by simp only [RnM] at h; obtain ⟨x, l, rfl, _, b, _⟩ := h; simp [RnM.len b]
theorem RnM.at_ : ∀ {es fs : List (AV × AV)} {i : Nat} {k v : AV}, RnM r es fs → es[i]? = some (k, v) → ∃ u, fs[i]? = some (k, u) ∧ Rn r v u ∧ Im k = true
 | [], _, _, _, _, _, h => by simp at h
 | (_, _) :: _, _, 0, _, _, h, k => by simp only [RnM] at h; obtain ⟨x, l, rfl, a, b, c⟩ := h; simp at k; obtain ⟨rfl, rfl⟩ := k; exact ⟨_, rfl, a, c⟩
 | (_, _) :: _, _, _ + 1, _, _, h, k => by simp only [RnM] at h; obtain ⟨x, l, rfl, a, b, _⟩ := h; simp at k; simpa using RnM.at_ b k
theorem RnM.set {k v u : AV} (hk : Im k = true) (hv : Rn r v u) : ∀ {es fs : List (AV × AV)}, RnM r es fs → RnM r (Cu k v es) (Cu k u fs)
 | [], _, h => by simp only [RnM] at h; subst h; exact ⟨_, _, rfl, hv, rfl, hk⟩
 | (k', v') :: es, _, h => by
  simp only [RnM] at h; obtain ⟨v', es', rfl, a, b, c⟩ := h
  simp only [Cu]
  split
  ·exact ⟨_, _, rfl, hv, b, hk⟩
  ·exact ⟨_, _, rfl, a, RnM.set hk hv b, c⟩
def RnO (r : List Nat) : AObj → AObj → Prop
 | .cells e cs, o => ∃ cs', o = .cells e cs' ∧ RnL r cs cs'
 | .grow e cs, o => ∃ cs', o = .grow e cs' ∧ RnL r cs cs'
 | .row e m, o => o = .row e m
 | .map kk es, o => ∃ es', o = .map kk es' ∧ RnM r es es'
 | .iter m len left cur, o => ∃ m' left', o = .iter m' len left' cur ∧ r[m]? = some m' ∧ (cur = none → left' = left)
theorem RnM.mono {r r' : List Nat} (h : Ex r r') : ∀ {x y : List (AV × AV)}, RnM r x y → RnM r' x y
 | [], _, k => k
 | _ :: _, _, k => by simp only [RnM] at k ⊢; obtain ⟨v, es, e, a, b, c⟩ := k; exact ⟨v, es, e, a.mono h, b.mono h, c⟩
theorem RnO.mono {r r' : List Nat} (h : Ex r r') {x y : AObj} (k : RnO r x y) : RnO r' x y := by
 cases x <;> simp only [RnO] at k ⊢
 ·obtain ⟨c, e, a⟩ := k; exact ⟨c, e, a.mono h⟩
 ·exact k
 ·obtain ⟨c, e, a⟩ := k; exact ⟨c, e, a.mono h⟩
 ·obtain ⟨m', left', e, a, b⟩ := k; exact ⟨m', left', e, h _ _ a, b⟩
 ·obtain ⟨c, e, a⟩ := k; exact ⟨c, e, a.mono h⟩
def eqM : List (AV × AV) → List (AV × AV) → Bool
 | [], [] => true
 | x :: xs, y :: ys => KF x.1 y.1 && (KF x.2 y.2 && eqM xs ys)
 | _, _ => false
def eqO : AObj → AObj → Bool
 | .cells e l, .cells e' l' | .grow e l, .grow e' l' => decide (e = e') && Tv l l'
 | .row e m, .row e' m' => decide (e = e') && decide (m = m')
 | .map k l, .map k' l' => decide (k = k') && eqM l l'
 | _, _ => false
mutual
theorem LG : ∀ {x y : AV}, KF x y = true → x = y
 | .ref x, y, h => by cases y <;> simp [KF] at h; rw [LG h]
 | .ifc t x, y, h => by cases y <;> simp [KF] at h; rw [h.1, LG h.2]
 | .agg l, y, h => by cases y <;> simp [KF] at h; rw [HF h]
 | .tup l, y, h => by cases y <;> simp [KF] at h; rw [HF h]
 | .dat e l, y, h => by cases y <;> simp [KF] at h; rw [h.1, HF h.2]
 | .fn f a b, y, h => by cases y <;> simp [KF] at h; rw [h.1, HF h.2.1, HF h.2.2]
 | .sl z l t, y, h => by
  cases y <;> simp [KF] at h
  rename_i z' l' t'
  rw [h.1, HF h.2.2]
  have := h.2.1
  cases t <;> cases t' <;> simp_all
 | .bool _, y, h | .int _ _, y, h | .str _, y, h | .ptr _ _, y, h | .np, y, h | .nfn, y, h | .nmp, y, h | .ub, y, h | .nif, y, h | .any, y, h | .und, y, h | .mp _, y, h | .slm _ _ _ _, y, h | .slg _ _ _, y, h => by
  cases y <;> simp_all [KF]
theorem HF : ∀ {x y : List AV}, Tv x y = true → x = y
 | [], y, h => by cases y <;> simp [Tv] at h; rfl
 | x :: xs, y, h => by cases y <;> simp [Tv] at h; rw [LG h.1, HF h.2]
end
theorem RnM.one_ {r r' : List Nat} (hx : Ex r r') : ∀ {x x' y z : List (AV × AV)}, eqM x x' = true → RnM r x y → RnM r' x' z → z = y
 | [], x', _, _, e, h, k => by cases x' <;> simp [eqM] at e; simp only [RnM] at h k; rw [h, k]
 | (a, b) :: _, x', _, _, e, h, k => by
  cases x' with
  | nil => simp [eqM] at e
  | cons w ws =>
   obtain ⟨c, d⟩ := w
   simp only [eqM, Bool.and_eq_true] at e
   simp only [RnM] at h k
   obtain ⟨x, l, rfl, a, b, _⟩ := h; obtain ⟨y, m, rfl, c, d, _⟩ := k
   rw [Rn.one_ hx e.2.1 a c, RnM.one_ hx e.2.2 b d, LG e.1]
theorem RnO.one_ {r r' : List Nat} (hx : Ex r r') {x x' y z : AObj} (e : eqO x x' = true) (h : RnO r x y) (k : RnO r' x' z) : z = y := by
 cases x <;> cases x' <;> simp [eqO] at e <;> simp only [RnO] at h k
 ·obtain ⟨x, rfl, a⟩ := h; obtain ⟨y, rfl, c⟩ := k; rw [RnL.one_ hx e.2 a c, e.1]
 ·rw [h, k, e.1, e.2]
 ·obtain ⟨x, rfl, a⟩ := h; obtain ⟨y, rfl, c⟩ := k; rw [RnM.one_ hx e.2 a c, e.1]
 ·obtain ⟨x, rfl, a⟩ := h; obtain ⟨y, rfl, c⟩ := k; rw [RnL.one_ hx e.2 a c, e.1]
end
def Ig : Opd → Bool
 | .t _ => true
 | .c v => Im v
def okO : Option Opd → Bool
 | some x => Ig x
 | none => true
def AOp.okc : AOp → Bool
 | .mv x | .neg x | .not x | .cvi _ x | .faddr x _ _ | .field x _ _ | .len x | .lenS x | .extr x _ | .nilck x | .load _ x | .b2s x | .r2s x | .box _ _ x | .s2b _ x | .s2s x | .eqn _ x | .eqp _ x | .eqi _ x | .upc x | .updn _ x | .usd _ x | .rng x | .ent x => Ig x
 | .pick c a b => Ig c && (Ig a && Ig b)
 | .bin _ x y | .eqpp _ x y | .ust _ x y | .eqs _ _ x y | .eqb _ x y | .iaddr _ _ x y | .aaddr _ _ _ x y | .sidx x y | .aidx _ _ _ x y | .mm _ x y | .store _ x y | .app _ _ _ x y | .appB _ _ x y => Ig x && Ig y
 | .mksl _ _ z x y | .mget _ z _ x y => Im z && (Ig x && Ig y)
 | .mkfn _ a b => a.all Ig && b.all Ig
 | .cut _ x lo hi | .cutS x lo hi => Ig x && (okO lo && okO hi)
 | .mset _ m k v => Ig m && (Ig k && Ig v)
 | .clen _ | .mkmap _ => true
 | .alloc _ z => HD z
 | .build z ps => HD z && ps.all fun p => Ig p.2.2
 | .bsl _ _ xs | .call _ xs | .callp _ xs => xs.all Ig
 | .callv f xs => Ig f && xs.all Ig
 | _ => false
def HeapR (r : List Nat) (h H : A3) : Prop := ∀ g ob, h g = some ob → ∃ g' ob', r[g]? = some g' ∧ H g' = some ob' ∧ RnO r ob ob'
section
variable {r : List Nat} {e e' : AT} {h H : A3}
theorem HeapR.at_ (hh : HeapR r h H) {g g' : Nat} {ob : AObj} (h1 : r[g]? = some g') (h2 : h g = some ob) : ∃ ob', H g' = some ob' ∧ RnO r ob ob' := by
 obtain ⟨a, ob', e1, e2, e3⟩ := hh g ob h2
 rw [h1] at e1; injection e1 with e1; subst e1
 exact ⟨ob', e2, e3⟩
theorem Ac (he : ∀ i, Rn r (get e i) (get e' i)) {x : Opd} (hx : Ig x = true) : Rn r (ev e x) (ev e' x) := by
 cases x with
 | t i => exact he i
 | c v => exact Rn.of_nid hx
theorem IY (he : ∀ i, Rn r (get e i) (get e' i)) {l : List Opd} (hx : l.all Ig = true) : RnL r (l.map (ev e)) (l.map (ev e')) :=
 RnL.mp fun x hm => Ac he (List.all_eq_true.1 hx x hm)
theorem Q1 (hh : HeapR r h H) {x y v : AV} {s : BV} (hx : Rn r x y) (k : BS h s x = some v) : ∃ u, BS H s y = some u ∧ Rn r v u := by
 unfold BS at k
 split at k
 ·rename_i g o
  simp only [Rn] at hx; obtain ⟨g', rfl, hg⟩ := hx
  split at k
  ·rename_i t cs hc
   obtain ⟨ob, h1, h2⟩ := hh.at_ hg hc
   simp only [RnO] at h2; obtain ⟨ds, rfl, h3⟩ := h2
   obtain ⟨u, h4, h5⟩ := h3.part k
   exact ⟨u, by simp only [BS, h1, h4], h5⟩
  ·rename_i t cs hc
   obtain ⟨ob, h1, h2⟩ := hh.at_ hg hc
   simp only [RnO] at h2; obtain ⟨ds, rfl, h3⟩ := h2
   obtain ⟨u, h4, h5⟩ := h3.part k
   exact ⟨u, by simp only [BS, h1, h4], h5⟩
  ·cases k
 ·simp only [Rn] at hx; obtain ⟨x', rfl, hx⟩ := hx
  split at k
  ·rename_i hf
   injection k with k; subst k
   exact ⟨x', if_pos (hx.fits hf), hx⟩
  ·cases k
 ·cases k
theorem TD {op : BinOp} {k : IntKind} {a b : Int} {v : AV} (h : EG op k a b = some v) : Im v = true := by
 unfold EG at h
 split at h <;> first
  | (injection h with h; subst h; rfl)
  | (split at h <;> first | (cases h; done) | (injection h with h; subst h; rfl))
  | cases h
theorem TH {op : BinOp} {a b : List UInt8} {v : AV} (h : EE op a b = some v) : Im v = true := by
 unfold EE at h
 split at h <;> first
  | (injection h with h; subst h; rfl)
  | (split at h <;> first | (cases h; done) | (injection h with h; subst h; rfl))
  | cases h
theorem A12 {op : BinOp} {a b a' b' v : AV} (ha : Rn r a a') (hb : Rn r b b') (k : Ep op a b = some v) : Ep op a' b' = some v ∧ Im v = true := by
 unfold Ep at k
 split at k
 ·simp only [Rn] at ha hb; subst ha; subst hb
  split at k
  ·rename_i hk; exact ⟨by simp only [Ep, if_pos hk, k], TD k⟩
  ·cases k
 ·simp only [Rn] at ha hb; subst ha; subst hb
  exact ⟨k, TH k⟩
 ·cases k
theorem XZ (he : ∀ i, Rn r (get e i) (get e' i)) {lo hi : Option Opd} (h1 : okO lo = true) (h2 : okO hi = true) {n : Nat} {p : Nat × Nat} (k : Fg (lo.map (ev e)) (hi.map (ev e)) n = some p) : Fg (lo.map (ev e')) (hi.map (ev e')) n = some p := by
 have hl : ∀ {x : Option Opd}, okO x = true → (x.map (ev e) = none ∧ x.map (ev e') = none) ∨ ∃ a b, x.map (ev e) = some a ∧ x.map (ev e') = some b ∧ Rn r a b := by
  intro x hx
  cases x with
  | none => exact .inl ⟨rfl, rfl⟩
  | some x => exact .inr ⟨_, _, rfl, rfl, Ac he hx⟩
 have ha := hl h1
 have hb := hl h2
 generalize lo.map (ev e) = a at *
 generalize hi.map (ev e) = b at *
 generalize lo.map (ev e') = a' at *
 generalize hi.map (ev e') = b' at *
 have int : ∀ {x y : AV}, Rn r x y → (∃ k n, x = .int k n) → y = x := by
  rintro x y hxy ⟨k, n, rfl⟩; simpa only [Rn] using hxy
 unfold Fg at k
 split at k
 ·rename_i h' l' e1 e2
  have hb' : b' = b := by
   rcases hb with ⟨rfl, rfl⟩ | ⟨x, y, rfl, rfl, hxy⟩
   ·rfl
   ·rw [int hxy]; split at e1 <;> simp_all
  have ha' : a' = a := by
   rcases ha with ⟨rfl, rfl⟩ | ⟨x, y, rfl, rfl, hxy⟩
   ·rfl
   ·rw [int hxy]; split at e2 <;> simp_all
  subst ha'; subst hb'
  unfold Fg
  rw [e1, e2]; exact k
 ·cases k
theorem DJ {α β : Type} {f : α → β} {o : Option α} {v : β} (h : o.map f = some v) : ∃ a, o = some a ∧ f a = v := Option.map_eq_some_iff.1 h
theorem A00 (he : ∀ i, Rn r (get e i) (get e' i)) (hh : HeapR r h H) {op : AOp} (ho : op.okc = true) {v : AV} (k : pe op e h = some v) : ∃ u, pe op e' H = some u ∧ Rn r v u := by
 cases op <;> simp only [AOp.okc, Bool.and_eq_true, Bool.false_eq_true] at ho <;> simp only [pe] at k ⊢ <;> try (cases k; done)
 case mv x => injection k with k; subst k; exact ⟨_, rfl, Ac he ho⟩
 case pick c a b =>
  have h1 := Ac he ho.1; have h2 := Ac he ho.2.1; have h3 := Ac he ho.2.2
  generalize ev e c = c1 at *; generalize ev e' c = c2 at *
  split at k
  ·simp only [Rn] at h1; subst h1
   injection k with k; subst k
   exact ⟨_, rfl, by split <;> assumption⟩
  ·cases k
 case bin o x y =>
  obtain ⟨h1, h2⟩ := A12 (Ac he ho.1) (Ac he ho.2) k
  exact ⟨v, h1, Rn.of_nid h2⟩
 case eqs ks ng x y =>
  have h1 := Ac he ho.1; have h2 := Ac he ho.2
  generalize ev e x = c1 at *; generalize ev e' x = c2 at *
  generalize ev e y = d1 at *; generalize ev e' y = d2 at *
  split at k
  ·simp only [Rn] at h1 h2
   obtain ⟨l, rfl, h1⟩ := h1; obtain ⟨m, rfl, h2⟩ := h2
   obtain ⟨t, k1, rfl⟩ := DJ k
   simp only [P0 h1 h2 k1, Option.map_some]; exact ⟨_, rfl, rfl⟩
  ·cases k
 case eqb ng x y =>
  have h1 := Ac he ho.1; have h2 := Ac he ho.2
  generalize ev e x = c1 at *; generalize ev e' x = c2 at *
  generalize ev e y = d1 at *; generalize ev e' y = d2 at *
  split at k
  ·simp only [Rn] at h1 h2; subst h1; subst h2
   injection k with k; subst k
   exact ⟨_, rfl, by simp only [Rn]⟩
  ·cases k
 case eqn ng x =>
  have h1 := Ac he ho
  generalize ev e x = c1 at *; generalize ev e' x = c2 at *
  unfold JD at k
  split at k
  ·simp only [Rn, RnL, RnT] at h1; obtain ⟨l, t, rfl, rfl, rfl⟩ := h1
   injection k with k; subst k; exact ⟨_, rfl, by simp only [Rn]⟩
  ·obtain ⟨t, k1, rfl⟩ := DJ k
   unfold isNil at k1
   split at k1
   ·simp only [Rn, RnT] at h1; obtain ⟨l, t, rfl, h1, rfl⟩ := h1
    injection k1 with k1; subst k1
    refine ⟨.bool (if ng then !true else true), ?_, rfl⟩
    cases l <;> rfl
   ·rename_i t hnil _
    simp only [Rn, RnL] at h1; obtain ⟨l, t', rfl, ⟨x', xs', rfl, _⟩, ht⟩ := h1
    injection k1 with k1; subst k1
    refine ⟨.bool (if ng then !false else false), ?_, rfl⟩
    cases t <;> simp only [RnT] at ht
    ·exact absurd rfl hnil
    ·subst ht; rfl
    ·obtain ⟨g', rfl, _⟩ := ht; rfl
   ·simp only [Rn, RnL, RnT] at h1; obtain ⟨l, t, rfl, rfl, g', rfl, _⟩ := h1
    injection k1 with k1; subst k1
    exact ⟨.bool (if ng then !false else false), rfl, rfl⟩
   ·cases k1
 case eqp ng x =>
  have h1 := Ac he ho
  generalize ev e x = c1 at *; generalize ev e' x = c2 at *
  obtain ⟨t, k1, rfl⟩ := DJ k
  unfold Df at k1
  split at k1
  ·simp only [Rn] at h1; subst h1; injection k1 with k1; subst k1; exact ⟨_, rfl, by simp only [Rn]⟩
  ·simp only [Rn] at h1; obtain ⟨g, rfl, _⟩ := h1; injection k1 with k1; subst k1; exact ⟨_, rfl, by simp only [Rn]⟩
  ·cases k1
 case eqi ng x =>
  have h1 := Ac he ho
  generalize ev e x = c1 at *; generalize ev e' x = c2 at *
  obtain ⟨t, k1, rfl⟩ := DJ k
  unfold EC at k1
  split at k1
  ·simp only [Rn] at h1; subst h1; injection k1 with k1; subst k1; exact ⟨_, rfl, by simp only [Rn]⟩
  ·simp only [Rn] at h1; obtain ⟨g, rfl, _⟩ := h1; injection k1 with k1; subst k1; exact ⟨_, rfl, by simp only [Rn]⟩
  ·cases k1
 case neg x | not x | cvi _ x | lenS x | r2s x =>
  have h1 := Ac he ho
  generalize ev e x = c1 at *; generalize ev e' x = c2 at *
  split at k
  ·simp only [Rn] at h1; subst h1
   injection k with k; subst k
   exact ⟨_, rfl, by simp only [Rn]⟩
  ·cases k
 case mkfn f a b =>
  injection k with k; subst k
  exact ⟨_, rfl, _, _, rfl, IY he ho.1, IY he ho.2⟩
 case cutS x lo hi =>
  have h1 := Ac he ho.1
  generalize ev e x = c1 at *; generalize ev e' x = c2 at *
  unfold FS at k
  split at k
  ·simp only [Rn] at h1; subst h1
   obtain ⟨p, k1, rfl⟩ := DJ k
   simp only [FS, XZ he ho.2.1 ho.2.2 k1, Option.map_some]; exact ⟨_, rfl, rfl⟩
  ·cases k
 case cut sz x lo hi =>
  have h1 := Ac he ho.1
  generalize ev e x = c1 at *; generalize ev e' x = c2 at *
  unfold HQ at k
  split at k
  ·rename_i z xs t
   simp only [Rn] at h1; obtain ⟨l, t', rfl, h1, _⟩ := h1
   split at k
   ·rename_i hz
    obtain ⟨p, k1, rfl⟩ := DJ k
    have hz' : z = sz ∨ l = [] := hz.imp id fun hz => by subst hz; simpa only [RnL] using h1
    refine ⟨_, by simp only [HQ, if_pos hz', h1.len, XZ he ho.2.1 ho.2.2 k1, Option.map_some], _, _, rfl, (h1.tk _).dp _, rfl⟩
   ·cases k
  ·cases k
 case faddr x off s =>
  have h1 := Ac he ho
  generalize ev e x = c1 at *; generalize ev e' x = c2 at *
  unfold IH at k
  split at k
  ·simp only [Rn] at h1; obtain ⟨g, rfl, h1⟩ := h1
   injection k with k; subst k; exact ⟨_, rfl, _, rfl, h1⟩
  ·simp only [Rn] at h1; obtain ⟨y, rfl, l, rfl, h1⟩ := h1
   obtain ⟨p, k1, rfl⟩ := DJ k
   obtain ⟨u, h2, h3⟩ := h1.part k1
   exact ⟨_, by simp only [IH, h2, Option.map_some], _, rfl, h3⟩
  ·cases k
 case field x off s =>
  have h1 := Ac he ho
  generalize ev e x = c1 at *; generalize ev e' x = c2 at *
  split at k
  ·simp only [Rn] at h1; obtain ⟨l, rfl, h1⟩ := h1; exact h1.part k
  ·cases k
 case iaddr sz s x i =>
  have h1 := Ac he ho.1; have h2 := Ac he ho.2
  generalize ev e x = c1 at *; generalize ev e' x = c2 at *
  generalize ev e i = d1 at *; generalize ev e' i = d2 at *
  unfold Cb at k
  split at k
  ·simp only [Rn] at h1 h2; obtain ⟨l, t, rfl, h1, _⟩ := h1; subst h2
   split at k
   ·rename_i hz
    split at k
    ·rename_i y hy
     obtain ⟨y', h3, h4⟩ := h1.at_ hy
     split at k
     ·rename_i hf
      injection k with k; subst k
      refine ⟨.ref y', ?_, y', rfl, h4⟩
      simp only [Cb, if_pos hz, h3, if_pos (h4.fits hf)]
     ·cases k
    ·cases k
   ·cases k
  ·simp only [Rn] at h1 h2; obtain ⟨g, rfl, h1⟩ := h1; subst h2
   split at k
   ·rename_i hz
    injection k with k; subst k
    exact ⟨_, by simp only [Cb, if_pos hz], _, rfl, h1⟩
   ·cases k
  ·simp only [Rn] at h1 h2; obtain ⟨g, rfl, h1⟩ := h1; subst h2
   split at k
   ·rename_i hz
    injection k with k; subst k
    exact ⟨_, by simp only [Cb, if_pos hz], _, rfl, h1⟩
   ·cases k
  ·cases k
 case aaddr len sz s x i =>
  have h1 := Ac he ho.1; have h2 := Ac he ho.2
  generalize ev e x = c1 at *; generalize ev e' x = c2 at *
  generalize ev e i = d1 at *; generalize ev e' i = d2 at *
  unfold Hx at k
  split at k
  ·simp only [Rn] at h1 h2; obtain ⟨g, rfl, h1⟩ := h1; subst h2
   split at k
   ·rename_i hz
    injection k with k; subst k
    exact ⟨_, by simp only [Hx, if_pos hz], _, rfl, h1⟩
   ·cases k
  ·simp only [Rn] at h1 h2; obtain ⟨y, rfl, l, rfl, h1⟩ := h1; subst h2
   split at k
   ·rename_i hz
    obtain ⟨p, k1, rfl⟩ := DJ k
    obtain ⟨u, h2, h3⟩ := h1.part k1
    exact ⟨_, by simp only [Hx, if_pos hz, h2, Option.map_some], _, rfl, h3⟩
   ·cases k
  ·cases k
 case sidx x i =>
  have h1 := Ac he ho.1; have h2 := Ac he ho.2
  generalize ev e x = c1 at *; generalize ev e' x = c2 at *
  generalize ev e i = d1 at *; generalize ev e' i = d2 at *
  split at k
  ·simp only [Rn] at h1 h2; subst h1; subst h2
   split at k
   ·rename_i hz
    obtain ⟨p, k1, rfl⟩ := DJ k
    simp only [if_pos hz, k1, Option.map_some]; exact ⟨_, rfl, rfl⟩
   ·cases k
  ·cases k
 case aidx len sz s x i =>
  have h1 := Ac he ho.1; have h2 := Ac he ho.2
  generalize ev e x = c1 at *; generalize ev e' x = c2 at *
  generalize ev e i = d1 at *; generalize ev e' i = d2 at *
  split at k
  ·simp only [Rn] at h1 h2; obtain ⟨l, rfl, h1⟩ := h1; subst h2
   split at k
   ·rename_i hz
    obtain ⟨u, h2, h3⟩ := h1.part k
    exact ⟨u, by simp only [if_pos hz, h2], h3⟩
   ·cases k
  ·cases k
 case len x =>
  have h1 := Ac he ho
  generalize ev e x = c1 at *; generalize ev e' x = c2 at *
  split at k
  ·simp only [Rn] at h1; obtain ⟨l, t, rfl, h1, _⟩ := h1
   injection k with k; subst k; exact ⟨_, rfl, by simp only [Rn, h1.len]⟩
  ·simp only [Rn] at h1; obtain ⟨l, rfl, h1⟩ := h1
   injection k with k; subst k; exact ⟨_, rfl, by simp only [Rn]⟩
  ·simp only [Rn] at h1; obtain ⟨l, rfl, h1⟩ := h1
   injection k with k; subst k; exact ⟨_, rfl, by simp only [Rn]⟩
  ·cases k
 case clen n => injection k with k; subst k; exact ⟨_, rfl, by simp only [Rn]⟩
 case extr x i =>
  have h1 := Ac he ho
  generalize ev e x = c1 at *; generalize ev e' x = c2 at *
  split at k
  ·simp only [Rn] at h1; obtain ⟨l, rfl, h1⟩ := h1; exact h1.at_ k
  ·cases k
 case nilck x =>
  have h1 := Ac he ho
  generalize ev e x = c1 at *; generalize ev e' x = c2 at *
  split at k
  ·have h2 := h1; simp only [Rn] at h1; obtain ⟨g, rfl, h1⟩ := h1; injection k with k; subst k; exact ⟨_, rfl, h2⟩
  ·have h2 := h1; simp only [Rn] at h1; obtain ⟨g, rfl, h1⟩ := h1; injection k with k; subst k; exact ⟨_, rfl, h2⟩
  ·rename_i f a b
   have h2 := h1; simp only [Rn] at h1; obtain ⟨a', b', rfl, h1, _⟩ := h1
   split at k
   ·rename_i hz
    injection k with k; subst k
    have : a' = [] := by
     rw [List.isEmpty_iff] at hz; subst hz; simpa only [RnL] using h1
    subst this
    exact ⟨_, rfl, h2⟩
   ·cases k
  ·cases k
 case load s x => exact Q1 hh (Ac he ho) k
 case build z ps =>
  split at k
  ·rename_i hb
   injection k with k; subst k
   have hp : RnL r (ps.map fun p => ev e p.2.2) (ps.map fun p => ev e' p.2.2) := RnL.mp fun p hm => Ac he (List.all_eq_true.1 ho.2 p hm)
   have hb' := Lh (r := r) (qs := ps.map fun p => (p.1, p.2.1, ev e' p.2.2)) (by simp) (by simpa [List.map_map, Function.comp_def] using hp) hb
   refine ⟨_, if_pos hb', _, rfl, Ro (RnL.of_nid ho.1) (by simp) (by simpa [List.map_map, Function.comp_def] using hp) (by simpa [List.all_map, Function.comp_def] using Is hb)⟩
  ·cases k
 case mm mx x y =>
  have h1 := Ac he ho.1; have h2 := Ac he ho.2
  generalize ev e x = c1 at *; generalize ev e' x = c2 at *
  generalize ev e y = d1 at *; generalize ev e' y = d2 at *
  split at k
  ·simp only [Rn] at h1 h2; subst h1; subst h2
   split at k
   ·rename_i hz
    injection k with k; subst k; exact ⟨_, if_pos hz, rfl⟩
   ·cases k
  ·cases k
 case b2s x =>
  have h1 := Ac he ho
  generalize ev e x = c1 at *; generalize ev e' x = c2 at *
  split at k
  ·simp only [Rn] at h1; obtain ⟨l, t, rfl, h1, _⟩ := h1
   obtain ⟨p, k1, rfl⟩ := DJ k
   simp only [L3 h1 k1, Option.map_some]; exact ⟨_, rfl, rfl⟩
  ·cases k
 case upc x =>
  have h1 := Ac he ho
  generalize ev e x = c1 at *; generalize ev e' x = c2 at *
  unfold FF at k
  split at k
  ·have h2 := h1; simp only [Rn] at h1; obtain ⟨g, rfl, h1⟩ := h1
   split at k
   ·rename_i t cs hc
    obtain ⟨ob, h3, h4⟩ := hh.at_ h1 hc
    simp only [RnO] at h4; obtain ⟨ds, rfl, h4⟩ := h4
    split at k
    ·rename_i hz
     injection k with k; subst k
     exact ⟨_, by simp only [FF, h3, h4.len, if_pos hz], h2⟩
    ·cases k
   ·cases k
  ·cases k
 case eqpp ng x y =>
  have h1 := Ac he ho.1; have h2 := Ac he ho.2
  generalize ev e x = c1 at *; generalize ev e' x = c2 at *
  generalize ev e y = d1 at *; generalize ev e' y = d2 at *
  split at k
  ·simp only [Rn] at h1 h2; obtain ⟨g, rfl, h1⟩ := h1; obtain ⟨g', rfl, h2⟩ := h2
   split at k
   ·rename_i hz
    subst hz
    rw [h1] at h2; injection h2 with h2; subst h2
    injection k with k; subst k
    exact ⟨_, if_pos rfl, rfl⟩
   ·cases k
  ·cases k
 case mget kk z ok m x =>
  have h1 := Ac he ho.2.1; have h2 := Ac he ho.2.2
  generalize ev e m = c1 at *; generalize ev e' m = c2 at *
  generalize ev e x = d1 at *; generalize ev e' x = d2 at *
  have key : ∀ {x y : AV}, Rn r x y → C6 kk x = true → y = x := by
   intro x y hxy hk
   cases kk <;> cases x <;> simp [C6] at hk <;> simpa only [Rn] using hxy
  have hz := Rn.of_nid (r := r) ho.1
  unfold EL at k
  split at k
  ·simp only [Rn] at h1; obtain ⟨g, rfl, h1⟩ := h1
   split at k
   ·rename_i kk' es hc
    obtain ⟨ob, h3, h4⟩ := hh.at_ h1 hc
    simp only [RnO] at h4; obtain ⟨fs, rfl, h4⟩ := h4
    split at k
    ·rename_i hk
     have hk2 := key h2 hk.2; subst hk2
     injection k with k; subst k
     simp only [EL, h3, if_pos hk]
     refine ⟨_, rfl, ?_⟩
     rcases h4.find (k := d2) with ⟨a, b⟩ | ⟨x, y, a, b, c⟩
     ·rw [a, b]; cases ok
      ·exact hz
      ·exact ⟨_, rfl, _, _, rfl, hz, _, _, rfl, rfl, rfl⟩
     ·rw [a, b]; cases ok
      ·exact c
      ·exact ⟨_, rfl, _, _, rfl, c, _, _, rfl, rfl, rfl⟩
    ·cases k
   ·cases k
  ·simp only [Rn] at h1; subst h1
   split at k
   ·rename_i hk
    have hk2 := key h2 hk; subst hk2
    injection k with k; subst k
    simp only [EL, if_pos hk]
    refine ⟨_, rfl, ?_⟩
    cases ok
    ·exact hz
    ·exact ⟨_, rfl, _, _, rfl, hz, _, _, rfl, rfl, rfl⟩
   ·cases k
  ·cases k
 case ent x =>
  have h1 := Ac he ho
  generalize ev e x = c1 at *; generalize ev e' x = c2 at *
  unfold IB at k
  split at k
  ·simp only [Rn] at h1; obtain ⟨g, rfl, h1⟩ := h1
   split at k
   ·rename_i ho0
    split at k
    ·rename_i m len left j hc
     obtain ⟨ob, h3, h4⟩ := hh.at_ h1 hc
     simp only [RnO] at h4; obtain ⟨m', left', rfl, h4, _⟩ := h4
     split at k
     ·rename_i kk es hm
      obtain ⟨ob, h5, h6⟩ := hh.at_ h4 hm
      simp only [RnO] at h6; obtain ⟨fs, rfl, h6⟩ := h6
      split at k
      ·rename_i hz
       obtain ⟨⟨k1, v1⟩, k2, rfl⟩ := DJ k
       obtain ⟨u, h7, h8, h9⟩ := h6.at_ k2
       simp only [IB, if_pos ho0, h3, h5, h6.len, if_pos hz, h7, Option.map_some]
       exact ⟨_, rfl, _, rfl, _, _, rfl, Rn.of_nid h9, _, _, rfl, h8, rfl⟩
      ·cases k
     ·cases k
    ·cases k
   ·cases k
  ·cases k
 case usd t x =>
  have h1 := Ac he ho
  generalize ev e x = c1 at *; generalize ev e' x = c2 at *
  unfold FI at k
  split at k
  ·simp only [Rn, RnL, RnT] at h1; obtain ⟨l, t, rfl, rfl, rfl⟩ := h1
   injection k with k; subst k; exact ⟨_, rfl, [], rfl, rfl⟩
  ·rename_i z y l g
   simp only [Rn, RnL, RnT] at h1; obtain ⟨l', t', rfl, ⟨y', ys', rfl, h1, h2⟩, g', rfl, h3⟩ := h1
   split at k
   ·rename_i t2 m hc
    obtain ⟨ob, h4, h5⟩ := hh.at_ h3 hc
    simp only [RnO] at h5; subst h5
    split at k
    ·rename_i hz
     injection k with k; subst k
     exact ⟨_, by simp only [FI, h4, if_pos hz], _, rfl, _, _, rfl, h1, h2⟩
    ·cases k
   ·cases k
  ·cases k
end
end Go.Proofs.YtjdccdelcnmocaaGreatDoor

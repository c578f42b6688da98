/- Regions of operations agree with those on plain data, whatever order is drawn; no condition. -/
import Derived.Test.YtnfjgphfaemjcaaGreatDoorMgH
import Derived.Test.YtnfjgphfaemjcaaGreatDoorMgG
set_option linter.all false
namespace Go.Proofs.YtnfjgphfaemjcaaGreatDoor
open Go.RowKit
section
variable {P : Program} {w w' w0 : World} {G G' : Gh} {nt : Nat} {ds : List Deferred} {s : AS} {a : Act} {ops : Array Oper} {ef : List Nat} {Q : Exit → Act → World → Prop}
theorem After.weak {K : AS → Prop} (hl : G.Le G') (h : After P w0 nt ds G' K a w) : After P w0 nt ds G K a w := by
 obtain ⟨G1, s1, h1, h2, h3⟩ := h
 exact ⟨G1, s1, h1, hl.tr h2, h3⟩
theorem RelS.env {e e' : AH} {n : Nat} {H : A3} (h : RelS P w0 nt ds G ⟨e, n, H⟩ a w) (he : ∀ t, get e' t = .any ∨ get e' t = get e t) : RelS P w0 nt ds G ⟨e', n, H⟩ a w :=
 ⟨h.r0, h.sz, h.df, h.ld, fun t => by rcases he t with h1 | h1 <;> rw [h1]; exact .any; exact h.tm t⟩
theorem Rt {o : Oper} {ao : AOper} {K : AS → Prop} {i : Nat} {K' : Act → World → Prop} (hi : ops[i]? = some o) (hc : IL P ef ops nt o = some ao) (hr : RelS P w0 nt ds G s a w) (h : awO P ao K s) (hk : ∀ a' w', After P w0 nt ds G K a' w' → K' a' w') :
  wpOp P ops Q i K' a w := by
 unfold IL at hc
 split at hc
 ·rename_i op hop
  split at hc
  ·rename_i hd
   have hd' : ∀ t, o.dst = some t → t < nt := fun t ht => by rw [ht] at hd; simpa [A1j] using hd
   unfold wpOp
   simp only [hi]
   split at hc
   ·rename_i hg
    injection hc with hc; subst hc
    have hw : Region.wanted o (yielded ops a.tmps) = true := by simp [Region.wanted, hg]
    rw [if_pos hw]
    simp only [awO] at h
    exact .inl (Oper.wp_mono (fun a w => hk a w) (U5 hop hd' hr h))
   ·rename_i j want hg
    split at hc
    ·rename_i t ht
     injection hc with hc; subst hc
     simp only [awO] at h
     split at h
     ·rename_i b hb
      have hrt := hr.tm t
      rw [hb] at hrt
      have hval : a.tmps.getD t undef = .bool b := by generalize a.tmps.getD t undef = v at hrt; cases hrt; rfl
      have hy : yielded ops a.tmps j = some b := by
       simp only [yielded, ht, Option.bind_some]
       cases hx : a.tmps[t]? with
       | none => rw [Array.getD_eq_getD_getElem?, hx] at hval; cases hval
       | some v => rw [Array.getD_eq_getD_getElem?, hx] at hval; simp only [Option.getD_some] at hval; rw [hval]
      have hw : Region.wanted o (yielded ops a.tmps) = decide (b = want) := by
       simp only [Region.wanted, hg, hy]
       cases b <;> cases want <;> rfl
      by_cases hbw : b = want
      ·rw [if_pos (by rw [hw]; simpa using hbw)]
       exact .inl (Oper.wp_mono (fun a w => hk a w) (U5 hop hd' hr (h.1 hbw)))
      ·rw [if_neg (by rw [hw]; simpa using hbw)]
       exact hk _ _ ⟨G, _, h.2 hbw, Gh.Le.rfl_ G, hr.put hd' (Gh.Le.rfl_ G) hr.r0 .und⟩
     ·rename_i hb
      have hrt := hr.tm t
      rw [hb] at hrt
      have hval : a.tmps.getD t undef = undef := by generalize a.tmps.getD t undef = v at hrt; cases hrt; rfl
      have hy : yielded ops a.tmps j = none := by
       simp only [yielded, ht, Option.bind_some]
       cases hx : a.tmps[t]? with
       | none => rfl
       | some v => rw [Array.getD_eq_getD_getElem?, hx] at hval; simp only [Option.getD_some] at hval; rw [hval]; rfl
      have hw : Region.wanted o (yielded ops a.tmps) = false := by
       simp only [Region.wanted, hg, hy]
       rfl
      rw [if_neg (by rw [hw]; simp)]
      exact hk _ _ ⟨G, _, h, Gh.Le.rfl_ G, hr.put hd' (Gh.Le.rfl_ G) hr.r0 .und⟩
     ·exact h.elim
    ·cases hc
  ·cases hc
 ·injection hc with hc; subst hc
  exact h.elim
theorem GH : ∀ {os : List Oper} {aos : List AOper} {i : Nat} {o : Oper}, Dz P ef ops nt os = some aos → os[i]? = some o → ∃ ao, aos[i]? = some ao ∧ IL P ef ops nt o = some ao
 | [], _, i, o, _, h => by simp at h
 | x :: os, aos, i, o, hc, h => by
  simp only [Dz] at hc
  split at hc
  ·rename_i y ys h1 h2
   injection hc with hc; subst hc
   cases i with
   | zero => simp at h; subst h; exact ⟨y, rfl, h1⟩
   | succ i => obtain ⟨ao, e1, e2⟩ := GH h2 (by simpa using h); exact ⟨ao, by simpa using e1, e2⟩
  ·cases hc
theorem I3 : ∀ {os : List Oper} {aos : List AOper}, Dz P ef ops nt os = some aos → aos.length = os.length
 | [], _, h => by simp [Dz] at h; subst h; rfl
 | x :: os, aos, hc => by
  simp only [Dz] at hc
  split at hc
  ·rename_i y ys h1 h2
   injection hc with hc; subst hc
   simp [I3 h2]
  ·cases hc
def UJ (aos : List AOper) (i : Nat) : AOper := aos.getD i ⟨none, .clen 0, none⟩
theorem Gr (aos : List AOper) : (List.range aos.length).map (UJ aos) = aos := by
 apply List.ext_getElem?
 intro i
 by_cases hi : i < aos.length
 ·simp [UJ, hi, List.getD]
 ·simp [hi]
theorem Ql {aos : List AOper} {K : AS → Prop} (hc : Dz P ef ops nt ops.toList = some aos) : ∀ (l : List Nat) {G : Gh} {s : AS} {a : Act} {w : World}, (∀ i ∈ l, i < ops.size) → RelS P w0 nt ds G s a w → awOps P (l.map (UJ aos)) K s → (∀ a' w', After P w0 nt ds G K a' w' → Q .normal a' w') → wpOps P ops Q l a w
 | [], G, s, a, w, _, hr, h, hq => hq a w ⟨G, s, h, Gh.Le.rfl_ G, hr⟩
 | i :: l, G, s, a, w, hl, hr, h, hq => by
  have hi : i < ops.size := hl i List.mem_cons_self
  obtain ⟨ao, e1, e2⟩ := GH hc (i := i) (o := ops[i]) (by simp [hi])
  have hat : UJ aos i = ao := by simp [UJ, List.getD, e1]
  rw [wpOps_cons]
  simp only [List.map_cons, hat] at h
  refine Rt (by simp [hi]) e2 hr h fun a' w' ⟨G1, s1, h1, h2, h3⟩ => ?_
  exact Ql hc l (fun j hj => hl j (List.mem_cons_of_mem _ hj)) h3 h1 fun a2 w2 h4 => hq a2 w2 (h4.weak h2)
end
/-! ### the order that is drawn -/
def Oh (acc : Array Nat) (o : Oper) : Array Nat := acc.push (o.after.foldl (fun s e => if Region.binds .any e then s ||| 2 ^ e.on ||| acc.getD e.on 0 else s) 0)
theorem WK (ops : Array Oper) : Region.before ops = ops.toList.foldl Oh #[] := by
 simp only [Region.before, Array.foldl_toList]; rfl
theorem Sm (acc : Array Nat) (k : Nat) : ∀ (es : List Edge) (s0 : Nat), (es.foldl (fun s e => if Region.binds .any e then s ||| 2 ^ e.on ||| acc.getD e.on 0 else s) s0).testBit k = true → s0.testBit k = true ∨ ∃ e ∈ es, Region.binds .any e = true ∧ (e.on = k ∨ (acc.getD e.on 0).testBit k = true)
 | [], s0, h => .inl h
 | e :: es, s0, h => by
  rw [List.foldl_cons] at h
  rcases Sm acc k es _ h with h1 | ⟨e', he, hb, h2⟩
  ·split at h1
   ·rename_i hb
    simp only [Nat.testBit_or, Bool.or_eq_true, Nat.testBit_two_pow, decide_eq_true_eq] at h1
    rcases h1 with (h1 | h1) | h1
    ·exact .inl h1
    ·exact .inr ⟨e, List.mem_cons_self, hb, .inl h1⟩
    ·exact .inr ⟨e, List.mem_cons_self, hb, .inr h1⟩
   ·exact .inl h1
  ·exact .inr ⟨e', List.mem_cons_of_mem _ he, hb, h2⟩
theorem RV : ∀ (l : List Oper) (acc : Array Nat), (l.foldl Oh acc).size = acc.size + l.length ∧ (∀ j, j < acc.size → (l.foldl Oh acc).getD j 0 = acc.getD j 0) ∧
  ∀ i o k, l[i]? = some o → ((l.foldl Oh acc).getD (acc.size + i) 0).testBit k = true → ∃ e ∈ o.after, Region.binds .any e = true ∧ (e.on = k ∨ ((l.foldl Oh acc).getD e.on 0).testBit k = true)
 | [], acc => ⟨by simp, fun _ _ => rfl, fun i o k h => by simp at h⟩
 | x :: l, acc => by
  obtain ⟨h1, h2, h3⟩ := RV l (Oh acc x)
  have hs : (Oh acc x).size = acc.size + 1 := by simp [Oh]
  have hold : ∀ j, j < acc.size → (Oh acc x).getD j 0 = acc.getD j 0 := fun j hj => by
   simp [Oh, Array.getD_eq_getD_getElem?, Array.getElem?_push, Nat.ne_of_lt hj]
  refine ⟨by rw [List.foldl_cons, h1, hs]; simp; omega, fun j hj => by rw [List.foldl_cons, h2 j (by omega), hold j hj], fun i o k hi hb => ?_⟩
  rw [List.foldl_cons] at hb ⊢
  cases i with
  | zero =>
   simp at hi; subst hi
   rw [Nat.add_zero, h2 acc.size (by omega)] at hb
   have hnew : (Oh acc x).getD acc.size 0 = x.after.foldl (fun s e => if Region.binds .any e then s ||| 2 ^ e.on ||| acc.getD e.on 0 else s) 0 := by
    simp [Oh, Array.getD_eq_getD_getElem?]
   rw [hnew, ← Array.foldl_toList] at hb
   rcases Sm acc k _ _ hb with h4 | ⟨e, he, hb2, h4⟩
   ·simp at h4
   ·refine ⟨e, by simpa using he, hb2, ?_⟩
    rcases h4 with h4 | h4
    ·exact .inl h4
    ·right
     have hlt : e.on < acc.size := by
      rcases Nat.lt_or_ge e.on acc.size with h5 | h5
      ·exact h5
      ·simp [Array.getD_eq_getD_getElem?, Array.getElem?_eq_none h5] at h4
     rw [h2 e.on (by omega), hold e.on hlt]; exact h4
  | succ i =>
   have := h3 i o k (by simpa using hi) (by rw [hs, show acc.size + 1 + i = acc.size + (i + 1) by omega]; exact hb)
   exact this
theorem Ta {ops : Array Oper} {j k : Nat} {o : Oper} (ho : ops[j]? = some o) (h : ((Region.before ops).getD j 0).testBit k = true) : ∃ e ∈ o.after, Region.binds .any e = true ∧ (e.on = k ∨ ((Region.before ops).getD e.on 0).testBit k = true) := by
 have h3 := (RV ops.toList #[]).2.2 j o k (by simpa using ho)
 rw [WK] at h ⊢
 exact h3 (by simpa using h)
section
variable {P : Program} {w w' w0 : World} {nt : Nat} {ds : List Deferred} {ops : Array Oper} {ef : List Nat} {Q : Exit → Act → World → Prop}
structure OrdOk (P : Program) (ef : List Nat) (ops : Array Oper) (nt : Nat) (C : AOper → AOper → Bool) : Prop where
 mixed : P.follows .mixedOrders = true
 back : ∀ i o, ops[i]? = some o → ∀ e ∈ o.after, Region.binds .any e = true → e.on < i
 pairs : ∀ (i j : Nat) x y, ops[i]? = some x → ops[j]? = some y → i < j → ((Region.before ops).getD j 0).testBit i = true ∨ ∃ a c, IL P ef ops nt x = some a ∧ IL P ef ops nt y = some c ∧ D7 a c = true ∧ C a c = true
theorem DU {l : List Oper} {i : Nat} {o : Oper} (h : l[i]? = some o) : (o, i) ∈ l.zipIdx := by
 rw [List.mem_zipIdx_iff_getElem?]; exact h
theorem Ul (h : U7 P ef ops nt = true) : OrdOk P ef ops nt fun x y => x.op.cls.comm y.op.cls := by
 simp only [U7, Bool.and_eq_true] at h
 obtain ⟨⟨h1, h2⟩, h3⟩ := h
 rw [List.all_eq_true] at h2 h3
 refine ⟨h1, fun i o ho e he hb => ?_, fun i j x y hx hy hij => ?_⟩
 ·have := h2 (o, i) (DU (by simpa using ho))
  simp only [Array.all_eq_true_iff_forall_mem] at this
  have := this e he
  simpa [hb] using this
 ·have := h3 (y, j) (DU (by simpa using hy))
  rw [List.all_eq_true] at this
  have := this (x, i) (DU (by simpa using hx))
  simp only [Bool.or_eq_true, decide_eq_true_eq] at this
  rcases this with (h4 | h4) | h4
  ·omega
  ·exact .inl h4
  ·right
   split at h4
   ·rename_i a c ha hc
    simp only [Bool.and_eq_true] at h4
    exact ⟨a, c, ha, hc, h4.1, h4.2⟩
   ·cases h4
theorem TR {st : Mode} (h : Fj P ef ops nt st = true) : OrdOk P ef ops nt fun x y => x.op.cls.comm y.op.cls || x.late st y := by
 simp only [Fj, Bool.and_eq_true] at h
 obtain ⟨⟨h1, h2⟩, h3⟩ := h
 rw [List.all_eq_true] at h2 h3
 refine ⟨h1, fun i o ho e he hb => ?_, fun i j x y hx hy hij => ?_⟩
 ·have := h2 (o, i) (DU (by simpa using ho))
  simp only [Array.all_eq_true_iff_forall_mem] at this
  have := this e he
  simpa [hb] using this
 ·have := h3 (y, j) (DU (by simpa using hy))
  rw [List.all_eq_true] at this
  have := this (x, i) (DU (by simpa using hx))
  rw [Bool.or_eq_true, Bool.or_eq_true, decide_eq_true_eq] at this
  rcases this with (h4 | h4) | h4
  ·omega
  ·exact .inl h4
  ·right
   split at h4
   ·rename_i a c ha hc
    rw [Bool.and_eq_true] at h4
    exact ⟨a, c, ha, hc, h4.1, h4.2⟩
   ·cases h4
def left (ops : Array Oper) (listed : Array Bool) : List Nat := (List.range ops.size).filter fun i => !listed.getD i true
def Closed (ops : Array Oper) (listed : Array Bool) : Prop := ∀ i o, ops[i]? = some o → listed.getD i false = true → ∀ e ∈ o.after, Region.binds .any e = true → listed.getD e.on false = true
theorem QS {listed : Array Bool} (hc : Closed ops listed) {k : Nat} : ∀ (j : Nat) (o : Oper), ops[j]? = some o → (∀ i o', ops[i]? = some o' → ∀ e ∈ o'.after, Region.binds .any e = true → e.on < i) → (∀ e ∈ o.after, Region.binds .any e = true → listed.getD e.on false = true) → ((Region.before ops).getD j 0).testBit k = true → listed.getD k false = true := by
 intro j
 induction j using Nat.strongRecOn with
 | _ j ih =>
  intro o ho hb hl ht
  obtain ⟨e, he, hbe, h4⟩ := Ta ho ht
  rcases h4 with h4 | h4
  ·rw [← h4]; exact hl e he hbe
  ·have hlt := hb j o ho e he hbe
   have hle := hl e he hbe
   have hos : ∃ o', ops[e.on]? = some o' := ⟨_, Array.getElem?_eq_getElem (by have := (Array.getElem?_eq_some_iff.1 ho).1; omega)⟩
   obtain ⟨o', ho'⟩ := hos
   exact ih e.on hlt o' ho' hb (fun e' he' hbe' => hc e.on o' ho' hle e' he' hbe') h4
theorem Uf {listed : Array Bool} {i : Nat} (hi : i < ops.size) (hl : listed.getD i true = false) (hsz : listed.size = ops.size) : ∃ l1 l2, left ops listed = l1 ++ i :: l2 ∧ left ops (listed.setIfInBounds i true) = l1 ++ l2 ∧ ∀ k ∈ l1, k < i ∧ listed.getD k true = false := by
 have L7 : ∀ k, k ≠ i → (listed.setIfInBounds i true).getD k true = listed.getD k true := fun k hk => by
  simp [Array.getD_eq_getD_getElem?, Array.getElem?_setIfInBounds_ne (fun e => hk e.symm)]
 have hseti : (listed.setIfInBounds i true).getD i true = true := by simp [Array.getD_eq_getD_getElem?, hsz, hi]
 have hr : List.range ops.size = List.range i ++ i :: (List.range' (i + 1) (ops.size - (i + 1))) := by
  have h1 : ops.size = i + (1 + (ops.size - (i + 1))) := by omega
  rw [List.range_eq_range', List.range_eq_range']
  conv => lhs; rw [h1]
  rw [← List.range'_append_1, Nat.zero_add, ← List.range'_append_1]
  simp [List.range'_one]
 refine ⟨(List.range i).filter fun k => !listed.getD k true, (List.range' (i + 1) (ops.size - (i + 1))).filter fun k => !listed.getD k true, ?_, ?_, ?_⟩
 ·simp only [left, hr, List.filter_append, List.filter_cons, hl, Bool.not_false, if_true]
 ·simp only [left, hr, List.filter_append, List.filter_cons, hseti, Bool.not_true, Bool.false_eq_true, if_false]
  congr 1
  ·apply List.filter_congr
   intro k hk
   rw [L7 k (by simp at hk; omega)]
  ·apply List.filter_congr
   intro k hk
   rw [L7 k (by simp [List.mem_range'_1] at hk; omega)]
 ·intro k hk
  simp only [List.mem_filter, List.mem_range, Bool.not_eq_true'] at hk
  exact hk
theorem PK {W : AOper → (AS → Prop) → AS → Prop} {C : AOper → AOper → Bool} (hD : Drw P W C) {aos : List AOper} {K : AS → Prop} (hc : Dz P ef ops nt ops.toList = some aos) (ho : OrdOk P ef ops nt C) (hK : EInv K) : ∀ (fuel : Nat) (listed : Array Bool) {G : Gh} {s : AS} {a : Act} {w : World}, listed.size = ops.size → (left ops listed).length ≤ fuel → Closed ops listed → RelS P w0 nt ds G s a w →
  M5 W ((left ops listed).map (UJ aos)) K s → (∀ a' w', After P w0 nt ds G K a' w' → Q .normal a' w') → wpAny P .any ops Q fuel listed a w := by
 intro fuel
 induction fuel with
 | zero =>
  intro listed G s a w hsz hlen hcl hr h hq
  have hnil : left ops listed = [] := List.length_eq_zero_iff.1 (by omega)
  refine ⟨?_, ?_⟩
  ·cases hrd : Region.ready .any ops listed with
   | nil => rfl
   | cons i is =>
    have hi : i ∈ Region.ready .any ops listed := by rw [hrd]; exact List.mem_cons_self
    simp only [Region.ready, List.mem_filter, Bool.and_eq_true, List.mem_range] at hi
    have : i ∈ left ops listed := by simp only [left, List.mem_filter, List.mem_range]; exact ⟨hi.1, hi.2.1⟩
    rw [hnil] at this; cases this
  ·rw [hnil] at h
   exact hq a w ⟨G, s, h, Gh.Le.rfl_ G, hr⟩
 | succ fuel ih =>
  intro listed G s a w hsz hlen hcl hr h hq
  refine ⟨fun hrd => ?_, fun i hi => ?_⟩
  ·have hnil : left ops listed = [] := by
    cases hl : left ops listed with
    | nil => rfl
    | cons i is =>
     exfalso
     have hmem : i ∈ left ops listed := by rw [hl]; exact List.mem_cons_self
     simp only [left, List.mem_filter, List.mem_range] at hmem
     have hmin : ∀ k, k < i → listed.getD k false = true := by
      intro k hk
      by_cases hkl : listed.getD k true = true
      ·have hks : k < listed.size := by omega
       simp only [Array.getD_eq_getD_getElem?, Array.getElem?_eq_getElem hks, Option.getD_some] at hkl ⊢
       exact hkl
      ·exfalso
       have hkm : k ∈ left ops listed := by simp only [left, List.mem_filter, List.mem_range]; exact ⟨by omega, by simpa using hkl⟩
       rw [hl] at hkm
       rcases List.mem_cons.1 hkm with e | hkm
       ·omega
       ·have hsorted : (left ops listed).Pairwise (· < ·) := List.Pairwise.filter _ List.pairwise_lt_range
        rw [hl] at hsorted
        have := (List.pairwise_cons.1 hsorted).1 k hkm
        omega
     have : i ∈ Region.ready .any ops listed := by
      simp only [Region.ready, List.mem_filter, Bool.and_eq_true, List.mem_range]
      refine ⟨hmem.1, hmem.2, ?_⟩
      rw [Array.getElem?_eq_getElem hmem.1]
      simp only [Option.map_some, Option.getD_some, Array.all_eq_true_iff_forall_mem, Bool.or_eq_true, Bool.not_eq_true']
      intro e he
      by_cases hb : Region.binds .any e = true
      ·right; exact hmin e.on (ho.back i ops[i] (Array.getElem?_eq_getElem hmem.1) e he hb)
      ·left; simpa using hb
     rw [hrd] at this; cases this
   rw [hnil] at h
   exact hq a w ⟨G, s, h, Gh.Le.rfl_ G, hr⟩
  ·simp only [Region.ready, List.mem_filter, Bool.and_eq_true, List.mem_range] at hi
   obtain ⟨his, hil, hie⟩ := hi
   have hnl : listed.getD i true = false := by simpa using hil
   have hoi : ops[i]? = some ops[i] := Array.getElem?_eq_getElem his
   rw [hoi] at hie
   simp only [Option.map_some, Option.getD_some, Array.all_eq_true_iff_forall_mem, Bool.or_eq_true, Bool.not_eq_true'] at hie
   have hedges : ∀ e ∈ ops[i].after, Region.binds .any e = true → listed.getD e.on false = true := fun e he hb => by
    rcases hie e he with h1 | h1
    ·rw [hb] at h1; cases h1
    ·exact h1
   obtain ⟨l1, l2, e1, e2, e3⟩ := Uf his hnl hsz
   obtain ⟨ao, f1, f2⟩ := GH hc (i := i) (o := ops[i]) (by simp [his])
   have hat : UJ aos i = ao := by simp [UJ, List.getD, f1]
   rw [e1, List.map_append, List.map_cons, hat] at h
   have hfront := VO hD hK (fun x hx => by
    obtain ⟨k, hk, rfl⟩ := List.mem_map.1 hx
    obtain ⟨hki, hkl⟩ := e3 k hk
    have hks : k < ops.size := by omega
    have hok : ops[k]? = some ops[k] := Array.getElem?_eq_getElem hks
    obtain ⟨ak, g1, g2⟩ := GH hc (i := k) (o := ops[k]) (by simp [hks])
    have hak : UJ aos k = ak := by simp [UJ, List.getD, g1]
    rcases ho.pairs k i _ _ hok hoi hki with h1 | ⟨a1, c1, h1, h2, h3, h4⟩
    ·have := QS hcl i ops[i] hoi ho.back hedges h1
     rw [Array.getD_eq_getD_getElem?, Array.getElem?_eq_getElem (by omega : k < listed.size)] at this hkl
     simp only [Option.getD_some] at this hkl
     rw [this] at hkl; cases hkl
    ·rw [hak]
     rw [g2] at h1; injection h1 with h1; subst h1
     rw [f2] at h2; injection h2 with h2; subst h2
     exact ⟨h3, h4⟩) h
   refine Rt hoi f2 hr (hD.down hr.r0.supp hfront) fun a' w' ⟨G1, s1, k1, k2, k3⟩ => ?_
   refine ih (listed.setIfInBounds i true) (by simpa using hsz) ?_ ?_ k3 ?_ fun a2 w2 h4 => hq a2 w2 (h4.weak k2)
   ·rw [e2]; rw [e1] at hlen; simp at hlen ⊢; omega
   ·intro j oj hoj hlj e he hb
    by_cases hji : j = i
    ·subst hji
     rw [hoi] at hoj; injection hoj with hoj; subst hoj
     exact getD_set_true (hedges e he hb)
    ·rw [getD_set_ne false (fun e => hji e.symm)] at hlj
     exact getD_set_true (hcl j oj hoj hlj e he hb)
   ·rw [e2, List.map_append]; exact k1
end
open Go.RowKit
section
variable {P : Program} {w w0 : World} {G : Gh} {n : Nat} {H : A3}
def Gh.still (G : Gh) (g : Nat) (vs : List Value) : Gh := { G with I := fun b o => if b = g then vs[o]? else G.I b o }
theorem A18 {g sz : Nat} {l : List AV} : ∀ {x : AV}, x.one = true → (Dg g sz l x).one = true := by
 intro x h
 cases x <;> first | (simp only [Dg]; split <;> rfl) | (cases h; done) | (simpa only [Dg] using h)
theorem MN {g sz : Nat} {l : List AV} : ∀ {xs : List AV}, (∀ x ∈ xs, x.one = true) → ∀ x ∈ Gv g sz l xs, x.one = true
 | [], _, x, hx => by cases hx
 | y :: ys, h, x, hx => by
  simp only [Gv, List.mem_cons] at hx
  rcases hx with rfl | hx
  ·exact A18 (h y List.mem_cons_self)
  ·exact MN (fun z hz => h z (List.mem_cons_of_mem _ hz)) x hx
mutual
theorem Rep.frz {G G' : Gh} (hl : G.Le G') {g sz c : Nat} {e : TypeId} {l : List AV} {vs : List Value} (hc : G.cap g = some (e, c)) (hv : RepL G' vs (AG l)) (hs : Sealed G' g 0 vs) (ho : SlOk sz l c) : ∀ {x : AV} {v : Value}, Rep G v x → Rep G' v (Dg g sz l x)
 | .slg s' g' k, v, h => by
  simp only [Dg]
  split
  ·rename_i hh
   obtain ⟨rfl, rfl, rfl⟩ := hh
   cases h with
   | slg h1 h2 h3 =>
    rw [hc] at h3; injection h3 with h3; injection h3 with h4 h5
    subst h5
    exact .slro hv hs ho rfl
  ·exact h.mono hl
 | .agg cs, v, h => by
  cases h with
  | agg h1 h2 => simp only [Dg]; exact .agg (RepL.frz hl hc hv hs ho h1) (MN h2)
 | .tup cs, v, h => by
  cases h with
  | tup h1 => simp only [Dg]; exact .tup (RepL.frz hl hc hv hs ho h1)
 | .bool _, v, h | .int _ _, v, h | .str _, v, h | .ptr _ _, v, h | .np, v, h | .ref _, v, h | .sl _ _ _, v, h | .fn _ _ _, v, h | .nfn, v, h | .mp _, v, h | .nmp, v, h | .slm _ _ _ _, v, h | .ub, v, h | .ifc _ _, v, h | .nif, v, h | .dat _ _, v, h | .any, v, h | .und, v, h => by simp only [Dg]; exact h.mono hl
theorem RepL.frz {G G' : Gh} (hl : G.Le G') {g sz c : Nat} {e : TypeId} {l : List AV} {vs : List Value} (hc : G.cap g = some (e, c)) (hv : RepL G' vs (AG l)) (hs : Sealed G' g 0 vs) (ho : SlOk sz l c) : ∀ {xs : List AV} {us : List Value}, RepL G us xs → RepL G' us (Gv g sz l xs)
 | [], us, h => by cases h; exact .nil
 | x :: xs, us, h => by
  cases h with
  | cons h1 h2 => simp only [Gv]; exact .cons (Rep.frz hl hc hv hs ho h1) (RepL.frz hl hc hv hs ho h2)
end
theorem UB {sz : Nat} : ∀ {l : List AV}, (∀ x ∈ l, x.cells.length = sz) → (AG l).length = l.length * sz
 | [], _ => by simp [AG]
 | x :: l, h => by
  have h1 := UB fun y hy => h y (List.mem_cons_of_mem _ hy)
  have h2 := h x List.mem_cons_self
  simp only [AG, List.flatMap_cons, List.length_append] at h1 ⊢
  rw [h1, h2, List.length_cons, Nat.succ_mul]; omega
theorem Xi (g sz : Nat) (l : List AV) (e : AH) (t : Nat) : get (A07 g sz l e) t = Dg g sz l (get e t) := by
 induction e with
 | nil => rfl
 | cons x e ih =>
  obtain ⟨k, v⟩ := x
  simp only [A07, List.map_cons, get] at ih ⊢
  split
  ·rfl
  ·exact ih
theorem Rel0.still (h : Rel0 P w0 G n H w) {g : Nat} {e : TypeId} {cs : List AV} (hg : H g = some (.grow e cs)) :
  ∃ (vs : List Value) (c : Nat), G.cap g = some (e, c) ∧ G.Le (G.still g vs) ∧ Rel0 P w0 (G.still g vs) n (upd H g none) w ∧ RepL (G.still g vs) vs cs ∧ Sealed (G.still g vs) g 0 vs ∧ c ≤ maxLen ∧ cs.length ≤ c * BJ P e ∧ ∀ x ∈ cs, x.one = true := by
 obtain ⟨k1, k2, k3, vs, c, hc, hw, hsz, hcm, hle, hr, h1⟩ := h.objs g _ hg
 have hLe : G.Le (G.still g (vs.toList.take cs.length)) := ⟨fun b o v hv => by
  simp only [Gh.still]
  split
  ·rename_i hb; subst hb; rw [k3] at hv; cases hv
  ·exact hv, fun g' c' hc' => hc'⟩
 refine ⟨vs.toList.take cs.length, c, hc, hLe, ⟨h.ext, h.lo, h.hi, fun b o v hv => ?_, h.caps, h.capLo, fun g' ob hob => ?_⟩, hr.mono hLe, fun j u hu => by simp [Gh.still, hu], hcm, by omega, h1⟩
 ·simp only [Gh.still] at hv
  split at hv
  ·rename_i hb; subst hb
   rw [cell_of_row w _ o vs e (0, 0) hw]
   rw [List.getElem?_take] at hv
   split at hv
   ·simpa using hv
   ·cases hv
  ·exact h.seal_ b o v hv
 ·simp only [upd] at hob
  split at hob
  ·cases hob
  ·rename_i hne
   obtain ⟨a1, a2, a3⟩ := h.objs g' ob hob
   exact ⟨a1, a2, a3.keep rfl (fun o => by simp [Gh.still, hne]) rfl hLe (MapsKeep.same fun _ _ _ _ => rfl)⟩
theorem QK {g sz : Nat} {l : List AV} : ∀ {xs : List AV}, (Gv g sz l xs).length = xs.length
 | [] => rfl
 | x :: xs => by simp only [Gv, List.length_cons, QK (xs := xs)]
theorem ObjOk.frz {g g' sz c : Nat} {e : TypeId} {l : List AV} {vs : List Value} {ob : AObj} (h : ObjOk P G w g' ob) (hc : G.cap g = some (e, c)) (hv : RepL G vs (AG l)) (hs : Sealed G g 0 vs) (ho : SlOk sz l c) : ObjOk P G w g' (PG g sz l ob) := by
 cases ob with
 | cells t cs =>
  obtain ⟨a, us, b, d, f⟩ := h
  exact ⟨a, us, b, RepL.frz (Gh.Le.rfl_ G) hc hv hs ho d, MN f⟩
 | grow t cs =>
  obtain ⟨a, us, cp, b, d, f, q, r, t, u⟩ := h
  exact ⟨a, us, cp, b, d, f, q, by rw [QK]; exact r, by rw [QK]; exact RepL.frz (Gh.Le.rfl_ G) hc hv hs ho t, MN u⟩
 | row t m => exact h
 | map kk es => exact h
 | iter m len left cur => exact h
theorem Rel0.frzK {g sz c : Nat} {e : TypeId} {l : List AV} {vs : List Value} (h : Rel0 P w0 G n (upd H g none) w) (ks : List Nat) (hc : G.cap g = some (e, c)) (hv : RepL G vs (AG l)) (hs : Sealed G g 0 vs) (ho : SlOk sz l c) : Rel0 P w0 G n (NR ks g sz l H) w := by
 refine ⟨h.ext, h.lo, h.hi, h.seal_, h.caps, h.capLo, fun g' ob hob => ?_⟩
 unfold NR at hob
 split at hob
 ·cases hob
 ·rename_i hne
  have hu : upd H g none g' = H g' := by simp [upd, hne]
  split at hob
  ·obtain ⟨ob', h1, rfl⟩ := Option.map_eq_some_iff.1 hob
   obtain ⟨a, b, d⟩ := h.objs g' ob' (by rw [hu]; exact h1)
   exact ⟨a, b, d.frz hc hv hs ho⟩
  ·exact h.objs g' ob (by rw [hu]; exact hob)
end
open Go.RowKit
section
variable {P : Program} {w w' w0 : World} {G : Gh} {nt : Nat} {ds : List Deferred} {s : AS} {a : Act} {ef : List Nat} {Q : Exit → Act → World → Prop}
theorem C1 {ops : Array Oper} {draw : Bool} {ac : ACode} (h : S9 P ef nt ops draw = some ac) : (∃ os, ac = .reg os) ∨ (∃ m S os, ac = .regD m S os) ∨ ac = .bad := by
 unfold S9 at h
 split at h
 ·obtain ⟨aos, h1, h2⟩ := Option.map_eq_some_iff.1 h
  split at h2
  ·exact .inr (.inl ⟨_, _, _, h2.symm⟩)
  ·exact .inr (.inr h2.symm)
 ·obtain ⟨aos, h1, h2⟩ := Option.map_eq_some_iff.1 h
  split at h2
  ·exact .inr (.inr h2.symm)
  ·exact .inl ⟨_, h2.symm⟩
theorem PL {ops : Array Oper} {draw : Bool} {os : List AOper} (h : S9 P ef nt ops draw = some (.reg os)) : (draw && !U7 P ef ops nt) = false ∧ Dz P ef ops nt ops.toList = some os := by
 unfold S9 at h
 split at h
 ·obtain ⟨aos, h1, h2⟩ := Option.map_eq_some_iff.1 h
  split at h2 <;> cases h2
 ·rename_i hd
  obtain ⟨aos, h1, h2⟩ := Option.map_eq_some_iff.1 h
  split at h2
  ·cases h2
  ·injection h2 with h2; subst h2
   exact ⟨by simpa using hd, h1⟩
theorem Xm {ops : Array Oper} {draw : Bool} {os : List AOper} (h : S9 P ef nt ops draw = some (.reg os)) (hd : A2o os = true) : draw = false := by
 unfold S9 at h
 split at h
 ·obtain ⟨aos, h1, h2⟩ := Option.map_eq_some_iff.1 h
  split at h2 <;> cases h2
 ·obtain ⟨aos, h1, h2⟩ := Option.map_eq_some_iff.1 h
  split at h2
  ·cases h2
  ·rename_i hn
   injection h2 with h2; subst h2
   rw [hd, Bool.and_true] at hn; simpa using hn
theorem Uu {ops : Array Oper} {os : List AOper} {m : Mode} {S : List Nat} (h : RZ P ef nt ops os = some (m, S)) : Fj P ef ops nt m = true := by
 unfold RZ at h
 split at h
 ·rename_i ho; injection h with h; injection h with h _; subst h; exact ho
 ·split at h
  ·rename_i ho; injection h with h; injection h with h _; subst h; exact ho
  ·split at h
   ·rename_i ho; injection h with h; injection h with h _; subst h; exact ho
   ·split at h
    ·rename_i ho; injection h with h; injection h with h _; subst h; exact ho
    ·split at h
     ·rename_i ho; injection h with h; injection h with h _; subst h; exact ho
     ·split at h
      ·rename_i ho; injection h with h; injection h with h _; subst h; exact ho
      ·split at h
       ·rename_i ho; injection h with h; injection h with h _; subst h; exact ho
       ·cases h
theorem WN {m : Mode} {K : AS → Prop} {s : AS} (hs : ∀ k, s.n ≤ k → s.H k = none) (h : dryK m K s) : K s := by
 cases m <;> first | exact h | exact h.elim (fun ⟨k, h1, h2⟩ => absurd (hs k h1) h2) id
theorem XK {ops : Array Oper} {draw : Bool} {m : Mode} {S : List Nat} {os : List AOper} (h : S9 P ef nt ops draw = some (.regD m S os)) : draw = true ∧ Fj P ef ops nt m = true ∧ Dz P ef ops nt ops.toList = some os := by
 unfold S9 at h
 split at h
 ·rename_i hd
  obtain ⟨aos, h1, h2⟩ := Option.map_eq_some_iff.1 h
  split at h2
  ·rename_i m' S' hm
   injection h2 with e1 e2 e3
   subst e1; subst e2; subst e3
   exact ⟨by revert hd; cases draw <;> simp, Uu hm, h1⟩
  ·cases h2
 ·obtain ⟨aos, h1, h2⟩ := Option.map_eq_some_iff.1 h
  split at h2 <;> cases h2
theorem Lw {id : Nat} {ops : Array Oper} {draw : Bool} {aos : List AOper} {K : AS → Prop} (hd : (draw && !U7 P ef ops nt) = false) (hc : Dz P ef ops nt ops.toList = some aos) (hr : RelS P w0 nt ds G s a w) (h : awOps P aos K s) (hq : ∀ a' w', After P w0 nt ds G K a' w' → Q .normal a' w') :
  (Code.region id ops draw).wp P Q a w := by
 have hlen := I3 hc
 have hmap : (List.range ops.size).map (UJ aos) = aos := by
  have := Gr aos
  rw [hlen] at this
  simpa using this
 cases draw with
 | false =>
  refine wp_region (Ql hc (List.range ops.size) (fun i hi => by simpa using hi) hr ?_ hq)
  rw [hmap]; exact h
 | true =>
  have ho := Ul (P := P) (ef := ef) (ops := ops) (nt := nt) (by simpa using hd)
  let K' : AS → Prop := fun s => ∃ e', (∀ t, get e' t = get s.e t) ∧ K ⟨e', s.n, s.H⟩
  have hK : EInv K' := fun e e' n H he ⟨e1, h1, h2⟩ => ⟨e1, fun t => (h1 t).trans (he t), h2⟩
  have h' : M5 (awO P) aos K' s := by
   rw [Ui]
   exact Eu h fun s' hs' => ⟨s'.e, fun _ => rfl, hs'⟩
  have hleft : left ops (Array.replicate ops.size false) = List.range ops.size := by
   simp only [left]
   rw [List.filter_eq_self]
   intro i hi
   have hi' : i < ops.size := by simpa using hi
   simp [Array.getD_eq_getD_getElem?, hi']
  have hr' : RelS P w0 nt ds G s a { w with drawn := w.drawn + 1 } := ⟨hr.r0.same rfl rfl rfl rfl, hr.sz, hr.df, hr.ld, hr.tm⟩
  refine wp_region_any ho.mixed (PK WL hc ho hK ops.size (Array.replicate ops.size false) (by simp) (by rw [hleft]; simp) ?_ hr' (by rw [hleft, hmap]; exact h') ?_)
  ·intro i o _ hl
   rw [Array.getD_eq_getD_getElem?, Array.getElem?_replicate] at hl
   split at hl <;> cases hl
  ·rintro a' w1 ⟨G1, s1, ⟨e1, h1, h2⟩, h3, h4⟩
   exact hq a' w1 ⟨G1, ⟨e1, s1.n, s1.H⟩, h2, h3, h4.env fun t => .inr (h1 t)⟩
theorem TV {id : Nat} {ops : Array Oper} {aos : List AOper} {gs : List Nat} {md : Mode} {lo : Nat} {K : AS → Prop} (hd : Fj P ef ops nt md = true) (hc : Dz P ef ops nt ops.toList = some aos) (hr : RelS P w0 nt ds G s a w) (h : A7 P md lo gs aos K s) (hq : ∀ a' w', After P w0 nt ds G K a' w' → Q .normal a' w') :
  (Code.region id ops true).wp P Q a w := by
 have hlen := I3 hc
 have hmap : (List.range ops.size).map (UJ aos) = aos := by
  have := Gr aos
  rw [hlen] at this
  simpa using this
 have ho := TR (P := P) (ef := ef) (ops := ops) (nt := nt) hd
 let K' : AS → Prop := fun s => ∃ e', (∀ t, get e' t = get s.e t) ∧ K ⟨e', s.n, s.H⟩
 have hK : EInv K' := fun e e' n H he ⟨e1, h1, h2⟩ => ⟨e1, fun t => (h1 t).trans (he t), h2⟩
 have h' : M5 (awOM P md lo gs) aos K' s := by
  rw [Wj]
  exact Gi h fun s' hs' => ⟨s'.e, fun _ => rfl, hs'⟩
 have hleft : left ops (Array.replicate ops.size false) = List.range ops.size := by
  simp only [left]
  rw [List.filter_eq_self]
  intro i hi
  have hi' : i < ops.size := by simpa using hi
  simp [Array.getD_eq_getD_getElem?, hi']
 have hr' : RelS P w0 nt ds G s a { w with drawn := w.drawn + 1 } := ⟨hr.r0.same rfl rfl rfl rfl, hr.sz, hr.df, hr.ld, hr.tm⟩
 refine wp_region_any ho.mixed (PK (YX gs md lo) hc ho hK ops.size (Array.replicate ops.size false) (by simp) (by rw [hleft]; simp) ?_ hr' (by rw [hleft, hmap]; exact h') ?_)
 ·intro i o _ hl
  rw [Array.getD_eq_getD_getElem?, Array.getElem?_replicate] at hl
  split at hl <;> cases hl
 ·rintro a' w1 ⟨G1, s1, ⟨e1, h1, h2⟩, h3, h4⟩
  exact hq a' w1 ⟨G1, ⟨e1, s1.n, s1.H⟩, h2, h3, h4.env fun t => .inr (h1 t)⟩
def exR : AExit → Exit
 | .normal => .normal
 | .exit id => .exit id
 | .ret => .ret
theorem ET {e : AH} {d : Option Nat} {t : Nat} {v : AV} (h : d ≠ some t) : get (AD e d v) t = get e t := by
 rw [AL, if_neg h]
theorem UX {t : Nat} {want : Bool} : ∀ (ops : List AOper) {K : AS → Prop} {s : AS}, (ops.all fun o => o.guard.isNone && o.dst != some t) = true → get s.e t = .bool want → awOps P ops K s →
  awOps P (ops.map fun o => { o with guard := some (t, want) }) K s
 | [], K, s, _, _, h => h
 | o :: os, K, s, hok, hg, h => by
  simp only [List.all_cons, Bool.and_eq_true, bne_iff_ne, ne_eq] at hok
  obtain ⟨⟨h1, h2⟩, h3⟩ := hok
  simp only [awOps, awO] at h
  obtain ⟨d, op, g⟩ := o
  simp only [Option.isNone_iff_eq_none] at h1
  subst h1
  simp only [List.map_cons, awOps, awO, hg]
  obtain ⟨e, n, H⟩ := s
  refine ⟨fun _ => Ep (fun _ _ => rfl) h fun r n' H' h' => UX os (by simpa using h3) ?_ h', fun hb => absurd rfl hb⟩
  simp only at hg h2 ⊢
  rw [ET h2]; exact hg
theorem Vf {t : Nat} {want b : Bool} (hb : b ≠ want) : ∀ (ops : List AOper) {K : AS → Prop} {s : AS}, (ops.all fun o => o.guard.isNone && o.dst != some t) = true → get s.e t = .bool b → K ⟨Er s.e ops, s.n, s.H⟩ →
  awOps P (ops.map fun o => { o with guard := some (t, want) }) K s
 | [], K, s, _, _, h => h
 | o :: os, K, s, hok, hg, h => by
  simp only [List.all_cons, Bool.and_eq_true, bne_iff_ne, ne_eq] at hok
  obtain ⟨⟨h1, h2⟩, h3⟩ := hok
  simp only [List.map_cons, awOps, awO, hg]
  refine ⟨fun e => absurd e hb, fun _ => Vf hb os (by simpa using h3) ?_ h⟩
  rw [ET h2]; exact hg
theorem Yi {t : Nat} {want : Bool} : ∀ (ops : List AOper) {K : AS → Prop} {s : AS}, (ops.all fun o => o.guard.isNone && o.dst != some t) = true → get s.e t = .und → K ⟨Er s.e ops, s.n, s.H⟩ →
  awOps P (ops.map fun o => { o with guard := some (t, want) }) K s
 | [], K, s, _, _, h => h
 | o :: os, K, s, hok, hg, h => by
  simp only [List.all_cons, Bool.and_eq_true, bne_iff_ne, ne_eq] at hok
  obtain ⟨⟨h1, h2⟩, h3⟩ := hok
  simp only [List.map_cons, awOps, awO, hg]
  refine Yi os (by simpa using h3) ?_ h
  rw [ET h2]; exact hg
theorem awOps_append {xs ys : List AOper} {K : AS → Prop} {s : AS} : awOps P (xs ++ ys) K s ↔ awOps P xs (awOps P ys K) s := by
 induction xs generalizing s with
 | nil => rfl
 | cons x xs ih =>
  simp only [List.cons_append, awOps]
  exact ⟨fun h => IJ h fun s h => ih.1 h, fun h => IJ h fun s h => ih.2 h⟩
theorem UD : ∀ (ops : List AOper) {e e' : AH} {n : Nat} {H : A3} {K : AS → Prop}, (ops.all fun o => o.guard.isNone) = true → DF ops e H = some e' → K ⟨e', n, H⟩ → awOps P ops K ⟨e, n, H⟩
 | [], e, e', n, H, K, _, h, hk => by simp only [DF] at h; injection h with h; subst h; exact hk
 | o :: os, e, e', n, H, K, hok, h, hk => by
  simp only [List.all_cons, Bool.and_eq_true, Option.isNone_iff_eq_none] at hok
  simp only [DF] at h
  split at h
  ·rename_i v hv
   simp only [awOps, awO, hok.1]
   have hpe : o.op.eff = false := by
    cases hop : o.op <;> first | rfl | (rw [hop] at hv; simp [pe] at hv; done)
   rw [Ek hpe, hv]
   exact UD os (by simpa using hok.2) h hk
  ·cases h
theorem T9 {t : Nat} : ∀ (ops : List AOper) {e : AH}, (ops.all fun o => o.dst != some t) = true → get (Ed e ops) t = get e t
 | [], e, _ => rfl
 | o :: os, e, hok => by
  simp only [List.all_cons, Bool.and_eq_true, bne_iff_ne, ne_eq] at hok
  simp only [Ed]
  rw [T9 os (by simpa using hok.2), ET hok.1]
def LeE (e e' : AH) : Prop := ∀ t, get e' t = .any ∨ get e' t = get e t
def KW (K : AS → Prop) (s : AS) : Prop := ∃ e', LeE s.e e' ∧ K ⟨e', s.n, s.H⟩
theorem KW.of {K : AS → Prop} {s : AS} (h : K s) : KW K s := ⟨s.e, fun _ => .inr rfl, h⟩
theorem LeE.put {e e' : AH} (h : LeE e e') (d : Option Nat) (v : AV) : LeE (AD e d v) (AD e' d v) := fun t => by
 rw [AL, AL]; split
 ·exact .inr rfl
 ·exact h t
theorem LeE.tr {a b c : AH} (h : LeE a b) (k : LeE b c) : LeE a c := fun t => by
 rcases k t with k1 | k1
 ·exact .inl k1
 ·rw [k1]; exact h t
theorem XQ {K : AS → Prop} : ∀ {os : List AOper} {e e' : AH} {n : Nat} {H : A3}, (∀ o ∈ os, ∀ t ∈ o.uses, get e' t = get e t) → LeE e e' → awOps P os (KW K) ⟨e', n, H⟩ → awOps P os (KW K) ⟨e, n, H⟩
 | [], e, e', n, H, _, hl, h => by
  obtain ⟨e2, h1, h2⟩ := h
  exact ⟨e2, hl.tr h1, h2⟩
 | o :: os, e, e', n, H, hu, hl, h => by
  refine M9 (hu o List.mem_cons_self) h fun r n' H' h' => XQ (fun o' ho t ht => ?_) (hl.put _ _) h'
  rw [AL, AL]; split
  ·rfl
  ·exact hu o' (List.mem_cons_of_mem _ ho) t ht
theorem Gl {t : Nat} : ∀ (ops : List AOper) {e e' : AH} {H : A3}, DF ops e H = some e' → (∀ o ∈ ops, o.dst ≠ some t) → get e' t = get e t
 | [], e, e', H, h, _ => by simp only [DF] at h; injection h with h; rw [h]
 | o :: os, e, e', H, h, ht => by
  simp only [DF] at h
  split at h
  ·rw [Gl os h (fun o' ho => ht o' (List.mem_cons_of_mem _ ho)), ET (ht o List.mem_cons_self)]
  ·cases h
theorem Hf {t : Nat} : ∀ (ops : List AOper) {e : AH}, (ops.all fun o => o.dst != some t) = true → get (Er e ops) t = get e t
 | [], e, _ => rfl
 | o :: os, e, hok => by
  simp only [List.all_cons, Bool.and_eq_true, bne_iff_ne, ne_eq] at hok
  simp only [Er]
  rw [Hf os (by simpa using hok.2), ET hok.1]
theorem Ic {t : Nat} : ∀ (ops : List AOper) {e : AH}, get (Ed e ops) t = .any ∨ (get (Ed e ops) t = get e t ∧ ∀ o ∈ ops, o.dst ≠ some t)
 | [], e => .inr ⟨rfl, by simp⟩
 | o :: os, e => by
  simp only [Ed]
  rcases Ic (t := t) os (e := AD e o.dst .any) with h | ⟨h, h2⟩
  ·exact .inl h
  ·rw [h, AL]
   split
   ·exact .inl rfl
   ·rename_i hd
    exact .inr ⟨rfl, fun o' ho => by
     rcases List.mem_cons.1 ho with rfl | ho
     ·exact hd
     ·exact h2 o' ho⟩
theorem Va (ops : List AOper) (e : AH) : LeE (Er e ops) (Ed e ops) := fun t => by
 rcases Ic (t := t) ops (e := e) with h | ⟨h, h2⟩
 ·exact .inl h
 ·refine .inr ?_
  rw [h, Hf ops (by rw [List.all_eq_true]; intro o ho; simpa using h2 o ho)]
theorem HC : ∀ (l : List Seg) {K : AS → Prop} {s : AS}, Mt l = true → AT P l K s → awOps P (l.flatMap Seg.flat) (KW K) s
 | [], K, s, _, h => KW.of h
 | ⟨none, ops, _⟩ :: l, K, s, hok, h => by
  simp only [Mt, Bool.and_eq_true] at hok
  simp only [List.flatMap_cons, Seg.flat]
  exact awOps_append.2 (Eu h fun s' h' => HC l hok.2 h')
 | ⟨some (t, want), ops, some (d, x)⟩ :: l, K, s, hok, h => by
  simp only [Mt, Bool.and_eq_true] at hok
  obtain ⟨⟨h1, h2⟩, h3⟩ := hok
  have h1 : (ops.all fun o => o.guard.isNone && o.dst != some t) = true := h1
  simp only [AT] at h
  obtain ⟨v, hv, hk⟩ := K1_iff.1 h
  have hk := HC l h3 hk
  have hgn : ∀ o ∈ ops, o.guard.isNone = true ∧ o.dst ≠ some t := fun o ho => by
   have := List.all_eq_true.1 h1 o ho
   simp only [Bool.and_eq_true, bne_iff_ne, ne_eq] at this
   exact this
  have huse : ∀ o ∈ l.flatMap Seg.flat, ∀ t ∈ o.uses, ∀ o' ∈ ops, o'.dst ≠ some t := by
   intro o ho t ht o' ho' hd
   have h2' : (ops.all fun o => (match o.dst with | some t => !((l.flatMap Seg.flat).flatMap AOper.uses).contains t | none => true)) = true := h2
   have := List.all_eq_true.1 h2' o' ho'
   rw [hd] at this
   simp only [Bool.not_eq_true', List.contains_eq_mem, decide_eq_false_iff_not, List.mem_flatMap, not_exists, not_and] at this
   obtain ⟨sg, hs1, hs2⟩ := List.mem_flatMap.1 ho
   exact this o ⟨sg, hs1, hs2⟩ ht
  simp only [List.flatMap_cons, Seg.flat]
  rw [List.append_assoc]
  refine awOps_append.2 ?_
  obtain ⟨e, n, H⟩ := s
  simp only at hv hk ⊢
  have pick : ∀ e2, get e2 t = get e t → (∀ b, get e t = .bool b → b = want → get e2 x = v) → (∀ b, get e t = .bool b → b ≠ want → v = .bool (!want)) → (∃ b, get e t = .bool b) → LeE e2 (Ed e ops) → (∀ t, (∀ o ∈ ops, o.dst ≠ some t) → get e2 t = get e t) →
    awOps P (⟨some d, if want then .pick (.t t) (.t x) (.c (.bool false)) else .pick (.t t) (.c (.bool true)) (.t x), none⟩ :: l.flatMap Seg.flat) (KW K) ⟨e2, n, H⟩ := by
   intro e2 g1 g2 g3 ⟨b, hb⟩ g4 g5
   have hpe : pe (if want then .pick (.t t) (.t x) (.c (.bool false)) else .pick (.t t) (.c (.bool true)) (.t x)) e2 H = some v := by
    cases want
    ·simp only [Bool.false_eq_true, if_false, pe, ev, g1, hb]
     cases b
     ·simp only [Bool.false_eq_true, if_false]; rw [g2 false hb rfl]
     ·simp only [if_true]; rw [g3 true hb (by simp)]; rfl
    ·simp only [if_true, pe, ev, g1, hb]
     cases b
     ·simp only [Bool.false_eq_true, if_false]; rw [g3 false hb (by simp)]; rfl
     ·simp only [if_true]; rw [g2 true hb rfl]
   have heff : (if want then AOp.pick (.t t) (.t x) (.c (.bool false)) else AOp.pick (.t t) (.c (.bool true)) (.t x)).eff = false := by cases want <;> rfl
   simp only [awOps, awO]
   rw [Ek heff, hpe]
   refine XQ (fun o ho t' ht' => ?_) (g4.put (some d) v) hk
   rw [AL, AL]
   split
   ·rfl
   ·have hn := huse o ho t' ht'
    rw [g5 t' hn]
    rcases Ic (t := t') ops (e := e) with hx | hx
    ·rw [T9 ops (by rw [List.all_eq_true]; intro o' ho'; simpa using hn o' ho')]
    ·exact hx.1
  unfold Qt at hv
  split at hv
  ·rename_i b e' hb he
   split at hv
   ·rename_i b' hb'
    injection hv with hv
    by_cases hbw : b = want
    ·subst hbw
     refine UX ops h1 hb (UD ops (List.all_eq_true.2 fun o ho => (hgn o ho).1) he ?_)
     have hnt : ∀ o ∈ ops, o.dst ≠ some t := fun o ho => by have := List.all_eq_true.1 h1 o ho; simp only [Bool.and_eq_true, bne_iff_ne, ne_eq] at this; exact this.2
     refine pick e' (Gl ops he hnt) (fun b2 hb2 e3 => ?_) (fun b2 hb2 e3 => ?_) ⟨_, hb⟩ (fun t' => ?_) (fun t' ht' => Gl ops he ht')
     ·rw [hb', ← hv]; cases b <;> simp
     ·rw [hb] at hb2; injection hb2 with hb2; exact absurd hb2.symm e3
     ·rcases Ic (t := t') ops (e := e) with hx | ⟨hx, hx2⟩
      ·exact .inl hx
      ·exact .inr (by rw [hx, Gl ops he hx2])
    ·refine Vf hbw ops h1 hb ?_
     refine pick _ (Hf ops ?_) (fun b2 hb2 e3 => ?_) (fun b2 hb2 e3 => ?_) ⟨_, hb⟩ (Va ops e) (fun t' ht' => Hf ops (by rw [List.all_eq_true]; intro o' ho'; simpa using ht' o' ho'))
     ·rw [List.all_eq_true]; intro o ho; have := List.all_eq_true.1 h1 o ho; simp only [Bool.and_eq_true] at this; exact this.2
     ·have hb3 : b = b2 := by have := hb.symm.trans hb2; injection this
      exact absurd (hb3.trans e3) hbw
     ·have hbn : b = !want := by cases b <;> cases want <;> first | rfl | exact absurd rfl hbw
      subst hbn
      rw [← hv]; cases want <;> rfl
   ·cases hv
  ·rename_i b hb he
   split at hv
   ·cases hv
   ·rename_i hbw
    injection hv with hv
    refine Vf hbw ops h1 hb ?_
    refine pick _ (Hf ops ?_) (fun b2 hb2 e3 => ?_) (fun b2 hb2 e3 => hv.symm) ⟨_, hb⟩ (Va ops e) (fun t' ht' => Hf ops (by rw [List.all_eq_true]; intro o' ho'; simpa using ht' o' ho'))
    ·rw [List.all_eq_true]; intro o ho; have := List.all_eq_true.1 h1 o ho; simp only [Bool.and_eq_true] at this; exact this.2
    ·have hb3 : b = b2 := by have := hb.symm.trans hb2; injection this
     exact absurd (hb3.trans e3) hbw
  ·cases hv
 | ⟨some (t, want), ops, none⟩ :: l, K, s, hok, h => by
  simp only [Mt, Bool.and_eq_true] at hok
  have h1 : (ops.all fun o => o.guard.isNone && o.dst != some t) = true := hok.1.1
  simp only [List.flatMap_cons, Seg.flat, List.append_nil]
  refine awOps_append.2 ?_
  simp only [AT] at h
  unfold guardK at h
  split at h
  ·rename_i b hb
   by_cases hbw : b = want
   ·subst hbw
    exact UX ops h1 hb (Eu (h.1 rfl) fun s' h' => HC l hok.2 h')
   ·exact Vf hbw ops h1 hb (HC l hok.2 (h.2 hbw))
  ·rename_i hb
   exact Yi ops h1 hb (HC l hok.2 h)
  ·exact h.elim
theorem I2 : ∀ (ac : ACode) {c : Code} {Qa : AExit → AS → Prop} {Q : Exit → Act → World → Prop} {G : Gh} {s : AS} {a : Act} {w : World}, Bx P ef nt c = some (bare ac) → RelS P w0 nt ds G s a w → aw P ac Qa s →
  (∀ e s' G' a' w', Qa e s' → G.Le G' → RelS P w0 nt ds G' s' a' w' → Q (exR e) a' w') → c.wp P Q a w := by
 intro ac
 induction ac with
 | skip =>
  intro c Qa Q G s a w hc hr h hq
  cases c <;> simp only [Bx, bare] at hc <;> first | exact wp_skip (hq .normal s G a w h (Gh.Le.rfl_ G) hr) | (simp at hc; done) | (split at hc <;> simp at hc; done) | (rcases C1 hc with ⟨_, hk⟩ | ⟨_, _, _, hk⟩ | hk <;> cases hk; done) | skip
 | reg ops =>
  intro c Qa Q G s a w hc hr h hq
  cases c <;> simp only [Bx, bare] at hc <;> first | (simp at hc; done) | skip
  case region id ops' draw =>
   obtain ⟨hd, h1⟩ := PL hc
   exact Lw hd h1 hr h fun a' w1 ⟨G1, s1, k1, k2, k3⟩ => hq .normal s1 G1 a' w1 k1 k2 k3
  all_goals first | (split at hc <;> simp at hc; done) | (rcases C1 hc with ⟨_, hk⟩ | ⟨_, _, _, hk⟩ | hk <;> cases hk; done)
 | regD m S ops =>
  intro c Qa Q G s a w hc hr h hq
  cases c <;> simp only [Bx, bare] at hc <;> first | (simp at hc; done) | skip
  case region id ops' draw =>
   obtain ⟨hdr, hd, h1⟩ := XK hc
   subst hdr
   simp only [aw] at h
   unfold gsK at h
   split at h
   ·rename_i hgs
    obtain ⟨ms, h⟩ := h
    exact TV hd h1 hr h fun a' w1 ⟨G1, s1, k1, k2, k3⟩ => hq .normal s1 G1 a' w1 (WN k3.r0.supp k1) k2 k3
   ·exact h.elim
  all_goals first | (split at hc <;> simp at hc; done) | (rcases C1 hc with ⟨_, hk⟩ | ⟨_, _, _, hk⟩ | hk <;> cases hk; done)
 | segs l =>
  intro c Qa Q G s a w hc hr h hq
  simp only [bare] at hc
  split at hc
  ·rename_i hok
   have h : awOps P (l.flatMap Seg.flat) (KW (Qa .normal)) s := HC l hok h
   cases c <;> simp only [Bx] at hc <;> first | (simp at hc; done) | skip
   case region id ops' draw =>
    obtain ⟨hd, h1⟩ := PL hc
    exact Lw hd h1 hr h fun a' w1 ⟨G1, s1, ⟨e2, k0, k1⟩, k2, k3⟩ => hq .normal ⟨e2, s1.n, s1.H⟩ G1 a' w1 k1 k2 (k3.env k0)
   all_goals first | (split at hc <;> simp at hc; done) | (rcases C1 hc with ⟨_, hk⟩ | ⟨_, _, _, hk⟩ | hk <;> cases hk; done)
  ·cases c <;> simp only [Bx] at hc <;> first | (simp at hc; done) | (split at hc <;> simp at hc; done) | (rcases C1 hc with ⟨_, hk⟩ | ⟨_, _, _, hk⟩ | hk <;> cases hk; done)
 | seq x y ihx ihy =>
  intro c Qa Q G s a w hc hr h hq
  cases c <;> simp only [Bx, bare] at hc <;> first | (simp at hc; done) | skip
  case seq c1 c2 =>
   split at hc
   ·rename_i x' y' h1 h2
    injection hc with hc
    injection hc with e1 e2
    subst e1; subst e2
    refine wp_seq (ihx h1 hr h fun e s' G' a' w1 hqa hle hr' => ?_)
    cases e with
    | normal => exact ihy h2 hr' hqa fun e2 s2 G2 a2 w2 q2 l2 r2 => hq e2 s2 G2 a2 w2 q2 (hle.tr l2) r2
    | exit id => exact hq _ s' G' a' w1 hqa hle hr'
    | ret => exact hq _ s' G' a' w1 hqa hle hr'
   ·cases hc
  all_goals first | (split at hc <;> simp at hc; done) | (rcases C1 hc with ⟨_, hk⟩ | ⟨_, _, _, hk⟩ | hk <;> cases hk; done)
 | cond cnd x y ihx ihy =>
  intro c Qa Q G s a w hc hr h hq
  cases c <;> simp only [Bx, bare] at hc <;> first | (simp at hc; done) | skip
  case cond o c1 c2 =>
   split at hc
   ·rename_i o' x' y' h0 h1 h2
    injection hc with hc
    injection hc with e0 e1 e2
    subst e0; subst e1; subst e2
    simp only [aw] at h
    unfold EO at h
    have hor := AJ (G := G) (a := a) (e := s.e) h0 hr.tm
    split at h
    ·rename_i b hb
     rw [hb] at hor
     have hval : a.eval o = .bool b := by generalize a.eval o = v at hor; cases hor; rfl
     refine wp_cond hval ?_
     cases b with
     | true => exact ihx h1 hr (h.1 rfl) hq
     | false => exact ihy h2 hr (h.2 rfl) hq
    ·rename_i hb
     rw [hb] at hor
     obtain ⟨b, hval⟩ : ∃ b, a.eval o = .bool b := by generalize a.eval o = v at hor; cases hor; exact ⟨_, rfl⟩
     refine wp_cond hval ?_
     cases b with
     | true => exact ihx h1 hr h.1 hq
     | false => exact ihy h2 hr h.2 hq
    ·exact h.elim
   ·cases hc
  all_goals first | (split at hc <;> simp at hc; done) | (rcases C1 hc with ⟨_, hk⟩ | ⟨_, _, _, hk⟩ | hk <;> cases hk; done)
 | block id x ih =>
  intro c Qa Q G s a w hc hr h hq
  cases c <;> simp only [Bx, bare] at hc <;> first | (simp at hc; done) | skip
  case block id' c1 =>
   obtain ⟨x', h1, h2⟩ := Option.map_eq_some_iff.1 hc
   injection h2 with e1 e2
   subst e1; subst e2
   refine wp_block (ih h1 hr h fun e s' G' a' w1 hqa hle hr' => ?_)
   cases e with
   | normal => exact hq .normal s' G' a' w1 hqa hle hr'
   | exit i =>
    simp only [FS] at hqa
    simp only [exR, Exit.inBlock]
    split
    ·rename_i hi; rw [if_pos hi] at hqa; exact hq .normal s' G' a' w1 hqa hle hr'
    ·rename_i hi; rw [if_neg hi] at hqa; exact hq (.exit i) s' G' a' w1 hqa hle hr'
   | ret => exact hq .ret s' G' a' w1 hqa hle hr'
  all_goals first | (split at hc <;> simp at hc; done) | (rcases C1 hc with ⟨_, hk⟩ | ⟨_, _, _, hk⟩ | hk <;> cases hk; done)
 | loop x ih =>
  intro c Qa Q G s a w hc hr h hq
  cases c <;> simp only [Bx, bare] at hc <;> first | (simp at hc; done) | skip
  case loop c1 =>
   obtain ⟨x', h1, h2⟩ := Option.map_eq_some_iff.1 hc
   injection h2 with e2
   subst e2
   have key := h (fun s => ∀ G1 a1 w1, G.Le G1 → RelS P w0 nt ds G1 s a1 w1 → ∀ b k cs, ∃ e a' w', Q e a' w' ∧ Arrives P (lone (b.at a1 (.code c1 :: .inLoop c1 :: k)) cs w1) b k cs e a' w') (by
    intro s1 hs1 G1 a1 w1 hle hr1 b k cs
    have hbody := ih (Q := Exit.then (fun a1 w1 => ∀ b k cs, ∃ e a' w', Q e a' w' ∧ Arrives P (lone (b.at a1 (.code c1 :: .inLoop c1 :: k)) cs w1) b k cs e a' w') Q) h1 hr1 hs1 (fun e s' G' a' w2 hqa hle2 hr' => by
     cases e with
     | normal => exact hqa G' a' w2 (hle.tr hle2) hr'
     | exit i => exact hq _ s' G' a' w2 hqa (hle.tr hle2) hr'
     | ret => exact hq _ s' G' a' w2 hqa (hle.tr hle2) hr')
    obtain ⟨e, a2, w2, hq2, harr⟩ := hbody b (.inLoop c1 :: k) cs
    cases e with
    | normal =>
     obtain ⟨e3, a3, w3, hq3, harr3⟩ := hq2 b k cs
     exact ⟨e3, a3, w3, hq3, .of_steps (Steps.trans harr (.one step_inLoop)) harr3⟩
    | exit i => exact ⟨_, a2, w2, hq2, .pass (x := .inLoop c1) rfl (fun _ _ => .inl (by simp)) harr⟩
    | goto l => exact ⟨_, a2, w2, hq2, .pass (x := .inLoop c1) rfl (fun _ _ => .inl (by simp)) harr⟩
    | ret => exact ⟨_, a2, w2, hq2, .pass (x := .inLoop c1) rfl (fun _ _ => .inl (by simp)) harr⟩
    | panic ch => exact ⟨_, a2, w2, hq2, .pass (x := .inLoop c1) rfl (fun _ _ => .inl (by simp)) harr⟩
    | outgrown => exact ⟨_, a2, w2, hq2, .pass (x := .inLoop c1) rfl (fun _ _ => .inl (by simp)) harr⟩)
   intro b k cs
   obtain ⟨e, a2, w2, hq2, harr⟩ := key G a w (Gh.Le.rfl_ G) hr b k cs
   exact ⟨e, a2, w2, hq2, .of_steps (.one step_loop) harr⟩
  all_goals first | (split at hc <;> simp at hc; done) | (rcases C1 hc with ⟨_, hk⟩ | ⟨_, _, _, hk⟩ | hk <;> cases hk; done)
 | exit id =>
  intro c Qa Q G s a w hc hr h hq
  cases c <;> simp only [Bx, bare] at hc <;> first | (simp at hc; done) | (split at hc <;> simp at hc; done) | (rcases C1 hc with ⟨_, hk⟩ | ⟨_, _, _, hk⟩ | hk <;> cases hk; done) | skip
  case exit id' =>
   injection hc with hc; injection hc with hc; subst hc
   exact wp_exit (hq (.exit _) s G a w h (Gh.Le.rfl_ G) hr)
 | ret =>
  intro c Qa Q G s a w hc hr h hq
  cases c <;> simp only [Bx, bare] at hc <;> first | exact wp_ret (hq .ret s G a w h (Gh.Le.rfl_ G) hr) | (simp at hc; done) | (split at hc <;> simp at hc; done) | (rcases C1 hc with ⟨_, hk⟩ | ⟨_, _, _, hk⟩ | hk <;> cases hk; done) | skip
 | bad =>
  intro c Qa Q G s a w hc hr h hq
  exact h.elim
 | kp ks x ih =>
  intro c Qa Q G s a w hc hr h hq
  exact ih hc (hr.env (fun t => QE s.e ks t)) h hq
 | ke ks x ih =>
  intro c Qa Q G s a w hc hr h hq
  refine ih hc hr h fun e s' G' a' w' hqa hle hr' => ?_
  cases e with
  | normal => exact hq .normal _ G' a' w' hqa hle (hr'.env (fun t => QE s'.e ks t))
  | _ => exact hq _ s' G' a' w' hqa hle hr'
 | gh x ih =>
  intro c Qa Q G s a w hc hr h hq
  rcases h with h | ⟨ks, g, e, sz, l, h1, h2, h3, h4, h5⟩
  ·exact ih hc hr h hq
  ·obtain ⟨us, cp, hcap, hLe, hrel, hrl, hsl, hcm, hcs, hone⟩ := hr.r0.still h1
   have hlen : l.length ≤ cp := by
    rw [UB h4, h2] at hcs
    exact Nat.le_of_mul_le_mul_right hcs h3
   have ho : SlOk sz l cp := ⟨hlen, hcm, h3, h4, hone⟩
   exact ih hc ⟨hrel.frzK ks hcap hrl hsl ho, hr.sz, hr.df, hr.ld, fun t => by rw [Xi]; exact Rep.frz hLe hcap hrl hsl ho (hr.tm t)⟩ h5 fun e s' G' a' w' q1 q2 q3 => hq e s' G' a' w' q1 (hLe.tr q2) q3
end
open Go.RowKit
def SR (tmps : Array Value) : ResultVar → Sem Value
 | .tmp t => pure (tmps.getD t undef)
 | .cell a t => do loadVar t (← asAddr (tmps.getD a undef))
theorem V6 (fn : Func) (tmps : Array Value) : results fn tmps = (do let vs ← fn.results.mapM (SR tmps); pure (if h : vs.size = 1 then vs[0] else .tuple vs)) := by
 unfold results
 congr 2
section
variable {P : Program} {w w' w0 : World} {G : Gh} {nt : Nat} {ds : List Deferred} {s : AS} {a : Act} {ef : List Nat}
theorem A0l {rv : ResultVar} {ar : ARes} {x : AV} (hr : RelS P w0 nt ds G s a w) (hc : JC P [rv] = some [ar]) (h : G7 s ar = some x) :
  ∃ v, (SR a.tmps rv).run P w = .ok v w ∧ Rep G v x := by
 cases rv with
 | tmp t =>
  simp [JC] at hc; subst hc
  simp only [G7] at h; injection h with h; subst h
  exact ⟨_, rfl, hr.tm t⟩
 | cell ad t =>
  simp only [JC] at hc
  split at hc
  ·rename_i sh r hsh h2
   injection hc with hc; injection hc with e1 e2; subst e1
   simp only [G7] at h
   have hv := hr.tm ad
   obtain ⟨v, h3, h4⟩ := M4 (t := t) hr.r0 hsh hv h
   refine ⟨v, ?_, h4⟩
   simp only [SR]
   generalize a.tmps.getD ad undef = av at h3 hv ⊢
   simp only [Instr.loadAt, Sem.run_bind] at h3 ⊢
   unfold Ap at h
   split at h
   ·rename_i g o he; rw [he] at hv; cases hv; exact h3
   ·rename_i y he; rw [he] at hv; cases hv; exact h3
   ·cases h
  ·cases hc
theorem XG {rv : ResultVar} {rvs : List ResultVar} {ars : List ARes} (h : JC P (rv :: rvs) = some ars) : ∃ ar ars', ars = ar :: ars' ∧ JC P [rv] = some [ar] ∧ JC P rvs = some ars' := by
 cases rv with
 | tmp t =>
  simp only [JC] at h
  obtain ⟨r, h1, h2⟩ := Option.map_eq_some_iff.1 h
  exact ⟨.tmp t, r, h2.symm, by simp [JC], h1⟩
 | cell ad t =>
  simp only [JC] at h
  split at h
  ·rename_i sh r hsh h2
   injection h with h
   exact ⟨.cell ad sh, r, h.symm, by simp [JC, hsh], h2⟩
  ·cases h
theorem T5 : ∀ {rvs : List ResultVar} {ars : List ARes} {xs : List AV}, RelS P w0 nt ds G s a w → JC P rvs = some ars → Cw s ars = some xs →
  ∃ vs, (rvs.mapM (SR a.tmps)).run P w = .ok vs w ∧ RepL G vs xs
 | [], ars, xs, hr, hc, h => by
  simp [JC] at hc; subst hc
  simp [Cw] at h; subst h
  exact ⟨[], by simp, .nil⟩
 | rv :: rvs, ars, xs, hr, hc, h => by
  obtain ⟨ar, ars', rfl, h1, h2⟩ := XG hc
  simp only [Cw] at h
  split at h
  ·rename_i x xs' h3 h4
   injection h with h; subst h
   obtain ⟨v, e1, e2⟩ := A0l hr h1 h3
   obtain ⟨vs, e3, e4⟩ := T5 hr h2 h4
   refine ⟨v :: vs, ?_, .cons e2 e4⟩
   simp only [List.mapM_cons, Sem.run_bind, e1, Result.andThen_ok, e3, Sem.run_pure]
  ·cases h
theorem JS {fn : Func} {ars : List ARes} {x : AV} (hr : RelS P w0 nt ds G s a w) (hc : JC P fn.results.toList = some ars) (h : BS s ars = some x) : ∃ v, (results fn a.tmps).run P w = .ok v w ∧ Rep G v x := by
 unfold BS at h
 have main : ∀ xs, Cw s ars = some xs → ∃ vs, (results fn a.tmps).run P w = .ok (if h : vs.length = 1 then vs[0] else .tuple vs.toArray) w ∧ RepL G vs xs := by
  intro xs hx
  obtain ⟨vs, e1, e2⟩ := T5 hr hc hx
  refine ⟨vs, ?_, e2⟩
  rw [V6, Array.mapM_eq_mapM_toList]
  simp only [Sem.run_bind, Sem.run_map, e1, Result.andThen_ok, Sem.run_pure]
  simp
 split at h
 ·rename_i y hx
  injection h with h; subst h
  obtain ⟨vs, e1, e2⟩ := main _ hx
  cases e2 with
  | cons hv hn =>
   cases hn
   exact ⟨_, e1, by simpa using hv⟩
 ·rename_i xs hne hx
  injection h with h; subst h
  obtain ⟨vs, e1, e2⟩ := main _ hx
  have hl := e2.len
  have : ¬ vs.length = 1 := by
   intro h1
   rw [hl] at h1
   match xs, h1 with
   | [y], _ => exact hne y rfl
  rw [dif_neg this] at e1
  exact ⟨_, e1, .tup e2⟩
 ·cases h
def E3 (args : List AV) : AH := args.zipIdx.map fun x => (x.2, x.1)
theorem Lv (args : List AV) (t k : Nat) : get ((args.zipIdx k).map fun x => (x.2, x.1)) t = if k ≤ t then (args[t - k]?).getD .any else .any := by
 induction args generalizing k with
 | nil => simp [get]
 | cons x xs ih =>
  simp only [List.zipIdx_cons, List.map_cons, get, ih]
  by_cases h1 : k = t
  ·subst h1; simp
  ·rw [if_neg h1]
   by_cases h2 : k + 1 ≤ t
   ·rw [if_pos h2, if_pos (by omega)]
    rw [show t - k = (t - (k + 1)) + 1 by omega, List.getElem?_cons_succ]
   ·rw [if_neg h2, if_neg (by omega)]
theorem A1q {fn : Func} {c : AFun} {args : List AV} {n : Nat} {H : A3} {R : Gk} 
  (hc : (O7 P ef fn).map (fun x => (x.nargs, x.nt, x.res, x.code)) = some (c.nargs, c.nt, c.res, bare c.code)) (ha : args.length = c.nargs)
  (h : (∀ g, n ≤ g → H g = none) → aw P c.code (fin R n c.res) ⟨E3 args, n, H⟩)  {w0 w : World} {G : Gh} {vs : List Value} (hs : ∀ g, n ≤ g → H g = none) (hld : Laid w0) (h0 : Rel0 P w0 G n H w) (hrep : RepL G vs args) :
  ∃ code, fn.body = some code ∧ code.wp P (bodyPost P fn fun e w1 => ∃ (v' : Value) (r : AV) (G' : Gh) (n' : Nat) (H' : A3), e = .returned v' ∧ R r n' H' ∧ Rep G' v' r ∧ G.Le G' ∧ n ≤ n' ∧ Rel0 P w0 G' n' H' w1) { tmps := vs.toArray ++ Array.replicate (fn.ntmps - vs.toArray.size) undef, defers := [] } w := by
 have hcode := h hs
 obtain ⟨fc, hfc, hpr⟩ := Option.map_eq_some_iff.1 hc
 simp only [Prod.mk.injEq] at hpr
 obtain ⟨p1, p2, p3, p4⟩ := hpr
 unfold O7 at hfc
 split at hfc
 ·rename_i code hb
  split at hfc
  ·rename_i ac r hcc hcr
   split at hfc
   ·rename_i hsz
    injection hfc with hfc
    subst hfc
    simp only at p1 p2 p3 p4
    have hvl : vs.length = fn.params.size + fn.nfree := by rw [hrep.len, ha, ← p1]
    have hrel : RelS P w0 fn.ntmps [] G ⟨E3 args, n, H⟩ { tmps := vs.toArray ++ Array.replicate (fn.ntmps - vs.toArray.size) undef, defers := [] } w := by
     refine ⟨h0, by simp; omega, rfl, hld, fun t => ?_⟩
     have AO := Lv args t 0
     simp only [Nat.zero_le, if_true, Nat.sub_zero] at AO
     show Rep G _ (get ((args.zipIdx 0).map fun x => (x.2, x.1)) t)
     rw [AO]
     cases hat : args[t]? with
     | none => exact .any
     | some x =>
      obtain ⟨v, hv, hrv⟩ := hrep.at hat
      have hlt := (List.getElem?_eq_some_iff.1 hv).1
      have : (vs.toArray ++ Array.replicate (fn.ntmps - vs.toArray.size) undef).getD t undef = v := by
       rw [Array.getD_eq_getD_getElem?, Array.getElem?_append_left (by simpa using hlt)]
       simp [hv]
      rw [this]; exact hrv
    refine ⟨code, hb, (I2 c.code (by rw [← p4]; exact hcc) hrel hcode fun e s' G' a' w1 hq hle hr' => ?_)⟩
    have fin' : (∃ r n' H', (∃ x, BS s' c.res = some x ∧ A4 x r) ∧ n ≤ n' ∧ n' ≤ s'.n ∧ (∀ k, n' ≤ k → H' k = none) ∧ SameB n' H' s'.H ∧ R r n' H') → a'.defers = [] ∧ ∃ v, (results fn a'.tmps).run P w1 = .ok v w1 ∧ ∃ (v' : Value) (r : AV) (G' : Gh) (n' : Nat) (H' : A3), Ending.returned v = .returned v' ∧ R r n' H' ∧ Rep G' v' r ∧ G.Le G' ∧ n ≤ n' ∧ Rel0 P w0 G' n' H' w1 := by
     rintro ⟨x, n', H', ⟨x0, h1, hx0⟩, h2, h3, h4, h5, h6⟩
     rw [← p3] at h1
     obtain ⟨v, e1, e2⟩ := JS hr' hcr h1
     have e2 : Rep G' v x := e2.sim hx0
     exact ⟨hr'.df, v, e1, v, x, G', n', H', rfl, h6, e2, hle, h2, hr'.r0.less (by have := h0.lo; omega) h3 h4 h5⟩
    cases e with
    | normal => exact fin' hq
    | ret => exact fin' hq
    | exit id => exact hq.elim
   ·cases hfc
  ·cases hfc
 ·cases hfc
theorem AK {f : Nat} {fn : Func} {c : AFun} {args : List AV} {n : Nat} {H : A3} {R : Gk} (hf : P.funcs[f]? = some fn)
  (hc : (O7 P ef fn).map (fun x => (x.nargs, x.nt, x.res, x.code)) = some (c.nargs, c.nt, c.res, bare c.code)) (ha : args.length = c.nargs)
  (h : (∀ g, n ≤ g → H g = none) → aw P c.code (fin R n c.res) ⟨E3 args, n, H⟩) : ACalls P f args n H R := by
 intro hs w0 G w vs hld h0 hrep
 obtain ⟨code, hb, hw⟩ := A1q hc ha h hs hld h0 hrep
 exact calls_of_wp hf hb hw
theorem A6 {f : Nat} {fn : Func} {c : AFun} {args : List AV} {v : AV} (hf : P.funcs[f]? = some fn)
  (hc : (O7 P ef fn).map (fun x => (x.nargs, x.nt, x.res, x.code)) = some (c.nargs, c.nt, c.res, bare c.code)) (ha : args.length = c.nargs)
  (h : ∀ n H, (∀ g, n ≤ g → H g = none) → aw P c.code (Ga v n H c.res) ⟨E3 args, n, H⟩) : APure P f args v := by
 intro n H
 refine AK hf hc ha fun hs => P4 (h n H hs) fun e s' hq => ?_
 cases e with
 | normal =>
  exact ⟨v, n, H, hq.1, Nat.le_refl _, hq.2.1, hs, hq.2.2, rfl, rfl, rfl⟩
 | ret =>
  exact ⟨v, n, H, hq.1, Nat.le_refl _, hq.2.1, hs, hq.2.2, rfl, rfl, rfl⟩
 | exit id => exact hq
end
def Sup (n : Nat) (H : A3) : Prop := ∀ k, n ≤ k → H k = none
structure Mem (n0 : Nat) (H0 : A3) (n : Nat) (H : A3) : Prop where
 le : n0 ≤ n
 sup : Sup n H
 same : SameB n0 H0 H
def OwnS (n0 : Nat) (H : A3) (el sz : Nat) (x : AV) (l : List AV) : Prop :=
 (l = [] ∧ ∃ z, x = .sl z [] .nil) ∨ ∃ g, x = .sl sz l (.own g) ∧ H g = some (.row el l.length) ∧ n0 ≤ g
def S5 (x : AV) (k : Nat) : Prop := ∀ sz l, x ≠ .sl sz l (.own k)
theorem Mem.refl {n : Nat} {H : A3} (h : ∀ k, n ≤ k → H k = none) : Mem n H n H := ⟨Nat.le_refl _, h, SameB.rfl_ _ _⟩
section
variable {n0 n : Nat} {H0 H : A3}
theorem Mem.lt (h : Mem n0 H0 n H) {g : Nat} {ob : AObj} (hg : H g = some ob) : g < n := by
 rcases Nat.lt_or_ge g n with h1 | h1
 ·exact h1
 ·rw [h.sup g h1] at hg; cases hg
theorem Sup.lt {g : Nat} {ob : AObj} (h : Sup n H) (hg : H g = some ob) : g < n := by
 rcases Nat.lt_or_ge g n with h1 | h1
 ·exact h1
 ·rw [h g h1] at hg; cases hg
theorem Mem.alloc (h : Mem n0 H0 n H) {g : Nat} (hg : n ≤ g) (ob : AObj) : Mem n0 H0 (g + 1) (upd H g (some ob)) := by
 have := h.le
 refine ⟨by omega, fun k hk => ?_, h.same.upd (by omega) _⟩
 rw [upd_ne (by omega)]; exact h.sup k (by omega)
theorem Mem.set (h : Mem n0 H0 n H) {g : Nat} {ob : AObj} (hg : H g = some ob) (hn : n0 ≤ g) (x : Option AObj) : Mem n0 H0 n (upd H g x) := by
 have hl := h.lt hg
 refine ⟨h.le, fun k hk => ?_, h.same.upd hn _⟩
 rw [upd_ne (by omega)]; exact h.sup k hk
theorem Mem.tr (h : Mem n0 H0 n H) {n' : Nat} {H' : A3} (k : Mem n H n' H') : Mem n0 H0 n' H' :=
 ⟨Nat.le_trans h.le k.le, k.sup, fun j hj => (k.same j (Nat.lt_of_lt_of_le hj h.le)).trans (h.same j hj)⟩
theorem Mem.fin {v : AV} {res : List ARes} {e : AH} (h : Mem n0 H0 n H) (h1 : ∃ x, BS ⟨e, n, H⟩ res = some x ∧ A4 x v) : Ga v n0 H0 res .ret ⟨e, n, H⟩ := ⟨h1, h.le, h.same⟩
theorem OwnS.nil (z : Nat) (el sz : Nat) : OwnS n0 H el sz (.sl z [] .nil) [] := .inl ⟨rfl, z, rfl⟩
theorem OwnS.own {el sz g : Nat} {l : List AV} (h : H g = some (.row el l.length)) (hn : n0 ≤ g) : OwnS n0 H el sz (.sl sz l (.own g)) l := .inr ⟨g, rfl, h, hn⟩
theorem OwnS.keep {el sz : Nat} {x : AV} {l : List AV} {H' : A3} (h : OwnS n0 H el sz x l) (hk : ∀ g e m, H g = some (.row e m) → H' g = some (.row e m)) : OwnS n0 H' el sz x l := by
 rcases h with h | ⟨g, h1, h2, h3⟩
 ·exact .inl h
 ·exact .inr ⟨g, h1, hk _ _ _ h2, h3⟩
theorem A19 {el sz by_ : Nat} {d : Option Nat} {e : AH} {K : AS → Prop} {x : AV} {l m m' : List AV} {z : Nat} {t : Tok} (hz : z = sz ∨ m = []) (hs : A5 m m') (hm : Mem n0 H0 n H) (hx : OwnS n0 H el sz x l) (hb : (l.length + m.length) * by_ ≤ 140737488355328) (hc : l.length + m.length ≤ maxLen)
  (h : ∀ x' n' H', OwnS n0 H' el sz x' (l ++ m') → Mem n0 H0 n' H' → (∀ k ob, H k = some ob → S5 x k → H' k = some ob) → (∀ k, k < n → S5 x k → S5 x' k) → n ≤ n' → K ⟨AD e d x', n', H'⟩) : appKS el sz by_ d K ⟨e, n, H⟩ x (.sl z m t) := by
 have hl := Dh hs
 have hsup := hm.sup
 have hle := hm.le
 rcases hx with ⟨rfl, z, rfl⟩ | ⟨g, rfl, hg, hng⟩
 ·by_cases hm0 : m = []
  ·subst hm0
   simp only [A5] at hs; subst hs
   refine ⟨.inr rfl, [], rfl, by simp, by simp [maxLen], fun _ => ?_, fun h' => absurd rfl h'⟩
   exact h _ _ _ (.inl ⟨rfl, _, rfl⟩) hm (fun k ob hk _ => hk) (fun k hk _ s l h' => by injection h' with _ _ h'; cases h') (Nat.le_refl _)
  ·refine YR hz hs hm0 (by simpa using hb) (by simpa using hc) fun g hg => ?_
   refine h _ _ _ ?_ (hm.alloc hg _) (fun k ob hk _ => ?_) (fun k hk _ => ?_) (by omega)
   ·simp only [List.nil_append]
    exact .inr ⟨g, rfl, by rw [AN], by omega⟩
   ·have := hm.lt hk
    rw [upd_ne (by omega)]; exact hk
   ·intro s l' h'; injection h' with _ _ h'; injection h' with h'; omega
 ·have hgn := hm.lt hg
  refine Y3 hz hs hg hb hc fun g' n' hg' hn' hgn' => ?_
  refine h _ _ _ (.inr ⟨g', rfl, by rw [AN, List.length_append], by omega⟩) ⟨by omega, fun k hk => ?_, fun k hk => ?_⟩ (fun k ob hk hr => ?_) (fun k hk hr => ?_) hn'
  ·rw [upd_ne (by omega)]
   simp only [upd]; split
   ·rfl
   ·exact hsup k (by omega)
  ·rw [upd_ne (by omega), upd_ne (by omega)]; exact hm.same k hk
  ·have hkn := hm.lt hk
   have hkg : k ≠ g := by rintro rfl; exact hr _ _ rfl
   have hkg' : k ≠ g' := by rcases hg' with rfl | hg' <;> omega
   rw [upd_ne hkg', upd_ne hkg]; exact hk
  ·intro s l' h'
   injection h' with _ _ h'; injection h' with h'
   subst h'
   rcases hg' with rfl | hg'
   ·exact hr _ _ rfl
   ·omega
theorem OwnS.sim {el sz : Nat} {x : AV} {l l' : List AV} (h : OwnS n0 H el sz x l) (hl : A5 l l') : A4 x (.sl sz l' .ro) := by
 rcases h with ⟨rfl, z, rfl⟩ | ⟨g, rfl, _⟩
 ·exact ⟨sz, l', .ro, rfl, .inl rfl, .inr ⟨rfl, rfl⟩, hl⟩
 ·exact ⟨sz, l', .ro, rfl, .inl rfl, .inl rfl, hl⟩
end
theorem bytesOf_map (bs : List UInt8) : bytesOf (bs.map fun u => AV.int .u8 u.toNat) = some bs := by
 induction bs with
 | nil => rfl
 | cons b bs ih =>
  simp only [List.map_cons, bytesOf, ih, Option.map_some]
  congr 2
  simp
theorem VJ {a b : UInt8} : ((a.toNat : Int) = (b.toNat : Int)) ↔ a = b := by rw [← UInt8.toNat_inj]; omega
theorem GL {a : UInt8} {n : Nat} : ((a.toNat : Int) = (no_index (OfNat.ofNat n) : Int)) ↔ (n < 256 ∧ a = UInt8.ofNat n) := by
 constructor
 ·intro h
  have h' : a.toNat = n := Int.ofNat_inj.1 h
  have := a.toNat_lt
  exact ⟨by omega, by rw [← UInt8.toNat_inj]; simp; omega⟩
 ·rintro ⟨h, rfl⟩
  rw [show (UInt8.ofNat n).toNat = n from by simp; omega]; rfl
structure Keeps (n0 : Nat) (H0 : A3) (g : Nat) (ob : AObj) (n : Nat) (H : A3) : Prop where
 mem : Mem n0 H0 n H
 at_ : H g = some ob
 lo : n0 ≤ g
theorem Keeps.alloc {n0 n g : Nat} {H0 H : A3} {ob : AObj} (h : Keeps n0 H0 g ob n H) {k : Nat} (hk : n ≤ k) (x : AObj) : Keeps n0 H0 g ob (k + 1) (upd H k (some x)) :=
 ⟨h.mem.alloc hk x, by rw [upd_ne (by have := h.mem.lt h.at_; omega)]; exact h.at_, h.lo⟩
theorem Keeps.new {n g : Nat} {H : A3} (hs : ∀ k, n ≤ k → H k = none) (hg : n ≤ g) (ob : AObj) : Keeps n H g ob (g + 1) (upd H g (some ob)) :=
 ⟨(Mem.refl hs).alloc hg ob, AN _ _ _, hg⟩
theorem Lj (c : UInt8) : bytesOf [AV.int .u8 c.toNat] = some [c] := bytesOf_map [c]
theorem Ke (c d : UInt8) : bytesOf [AV.int .u8 c.toNat, AV.int .u8 d.toNat] = some [c, d] := bytesOf_map [c, d]
theorem CallP.chk {P : Program} {f : Nat} {args : List AV} {d : Option Nat} {K : AS → Prop} {s : AS} (h : CallP P f args d K s) : CallP P f args d K s := h
theorem CallP.of {P : Program} {f : Nat} {args args' : List AV} {d : Option Nat} {K : AS → Prop} {e : AH} {n : Nat} {H : A3} {v : AV} (h : APure P f args' v) (hs : A5 args args') (hk : K ⟨AD e d v, n, H⟩) : CallP P f args d K ⟨e, n, H⟩ := ⟨args', v, h, hs, hk⟩
theorem CallP.sf {P : Program} {f : Nat} {args args' : List AV} {d : Option Nat} {K : AS → Prop} {e : AH} {n : Nat} {H : A3} {v : AV} (hs : A5 args args') (h : APure P f args' v) (hk : K ⟨AD e d v, n, H⟩) : CallP P f args d K ⟨e, n, H⟩ := ⟨args', v, h, hs, hk⟩
theorem A51 {v : AV} {n n' : Nat} {H H' : A3} {res : List ARes} {e : AH} (h : ∃ x, BS ⟨e, n', H'⟩ res = some x ∧ A4 x v) (h1 : n ≤ n') (h2 : SameB n H H') : Ga v n H res .ret ⟨e, n', H'⟩ := ⟨h, h1, h2⟩
structure OwnR where
 el : Nat
 sz : Nat
 x : AV
 l : List AV
def WU (a b : OwnR) : Prop := ∀ k, (∃ s l, a.x = .sl s l (.own k)) → S5 b.x k
structure Owns (n0 : Nat) (H0 : A3) (bs : List (Nat × AObj)) (os : List OwnR) (n : Nat) (H : A3) : Prop where
 mem : Mem n0 H0 n H
 box : ∀ b ∈ bs, H b.1 = some b.2 ∧ n0 ≤ b.1 ∧ ∀ e m, b.2 ≠ .row e m
 row : ∀ o ∈ os, OwnS n0 H o.el o.sz o.x o.l
 apart : os.Pairwise WU
variable {el sz g by_ z : Nat} {x y v : AV} {l l' m m' args : List AV} {o : OwnR} {d : Option Nat} {e : AH} {K : AS → Prop} {t : Tok} {ob : AObj} {p q : Prop}
def Gn (n : Nat) (H : A3) : List (Nat × AObj) → Prop
 | [] => True
 | [(g, ob)] => H g = some ob ∧ g < n
 | (g, ob) :: bs => H g = some ob ∧ g < n ∧ Gn n H bs
def ME : List OwnR → Prop
 | [] => True
 | o :: os => Rs o.x = some (.int .i64 o.l.length) ∧ (∀ s i, Cy o.sz s o.x i = Cy o.sz s (.sl o.sz o.l .ro) i) ∧ (∀ lo hi, Ha o.sz o.x lo hi = Ha o.sz (.sl o.sz o.l .ro) lo hi) ∧ ME os
def J8 (n : Nat) (H : A3) (bs : List (Nat × AObj)) (os : List OwnR) : Prop := Gn n H bs ∧ ME os
section
variable {n0 n : Nat} {H0 H : A3} {bs : List (Nat × AObj)} {os : List OwnR}
theorem Owns.le (h : Owns n0 H0 bs os n H) : n0 ≤ n := h.mem.le
theorem Owns.same (h : Owns n0 H0 bs os n H) : SameB n0 H0 H := h.mem.same
theorem OwnS.rowF (h : OwnS n0 H el sz x l) : Rs x = some (.int .i64 l.length) ∧ (∀ s i, Cy sz s x i = Cy sz s (.sl sz l .ro) i) ∧ (∀ lo hi, Ha sz x lo hi = Ha sz (.sl sz l .ro) lo hi) := by
 rcases h with ⟨rfl, z, rfl⟩ | ⟨g, rfl, _⟩
 ·refine ⟨rfl, fun s i => ?_, fun lo hi => ?_⟩
  ·unfold Cy; cases i <;> first | rfl | (simp)
  ·simp [Ha]
 ·exact ⟨rfl, fun _ i => by cases i <;> rfl, fun _ _ => rfl⟩
theorem Owns.boxF (h : Owns n0 H0 bs os n H) : J8 n H bs os := by
 have key : ∀ bs' : List (Nat × AObj), (∀ b ∈ bs', H b.1 = some b.2 ∧ b.1 < n) → Gn n H bs' := by
  intro bs'
  induction bs' with
  | nil => intro _; trivial
  | cons b bs' ih =>
   intro hh
   obtain ⟨g, ob⟩ := b
   cases bs' with
   | nil => exact hh (g, ob) List.mem_cons_self
   | cons c bs' => exact ⟨(hh (g, ob) List.mem_cons_self).1, (hh (g, ob) List.mem_cons_self).2, ih fun b hb => hh b (List.mem_cons_of_mem _ hb)⟩
 have key2 : ∀ os' : List OwnR, (∀ o ∈ os', OwnS n0 H o.el o.sz o.x o.l) → ME os' := by
  intro os'
  induction os' with
  | nil => intro _; trivial
  | cons o os' ih =>
   intro hh
   obtain ⟨h1, h2, h3⟩ := (hh o List.mem_cons_self).rowF
   exact ⟨h1, h2, h3, ih fun b hb => hh b (List.mem_cons_of_mem _ hb)⟩
 exact ⟨key bs fun b hb => ⟨(h.box b hb).1, h.mem.lt (h.box b hb).1⟩, key2 os h.row⟩
theorem Owns.start (hs : ∀ k, n ≤ k → H k = none) : Owns n H [] [] n H := ⟨Mem.refl hs, by simp, by simp, .nil⟩
theorem Owns.alloc (h : Owns n0 H0 bs os n H) {g : Nat} (hg : n ≤ g) (ob : AObj) : Owns n0 H0 bs os (g + 1) (upd H g (some ob)) := by
 refine ⟨h.mem.alloc hg ob, fun b hb => ?_, fun o ho => ?_, h.apart⟩
 ·obtain ⟨h1, h2⟩ := h.box b hb
  have := h.mem.lt h1
  exact ⟨by rw [upd_ne (by omega)]; exact h1, h2⟩
 ·refine (h.row o ho).keep fun k e m hk => ?_
  have := h.mem.lt hk
  rw [upd_ne (by omega)]; exact hk
theorem Owns.addOb (h : Owns n0 H0 bs os n H) (hg : n ≤ g) (ob : AObj) (hr : ∀ e m, ob ≠ .row e m) : Owns n0 H0 ((g, ob) :: bs) os (g + 1) (upd H g (some ob)) := by
 have h' := h.alloc hg ob
 refine ⟨h'.mem, fun b hb => ?_, h'.row, h'.apart⟩
 rcases List.mem_cons.1 hb with rfl | hb
 ·exact ⟨AN _ _ _, by have := h.mem.le; simp only; omega, hr⟩
 ·exact h'.box b hb
theorem Owns.addBox (h : Owns n0 H0 bs os n H) (hg : n ≤ g) (e : TypeId) (cs : List AV) : Owns n0 H0 ((g, .cells e cs) :: bs) os (g + 1) (upd H g (some (.cells e cs))) :=
 h.addOb hg _ fun _ _ h => by cases h
theorem Owns.addNil (h : Owns n0 H0 bs os n H) (el sz z : Nat) : Owns n0 H0 bs (⟨el, sz, .sl z [] .nil, []⟩ :: os) n H :=
 ⟨h.mem, h.box, fun o ho => by
  rcases List.mem_cons.1 ho with rfl | ho
  ·exact OwnS.nil z el sz
  ·exact h.row o ho, .cons (fun b _ k ⟨s, l, hx⟩ => by injection hx with _ _ hx; cases hx) h.apart⟩
theorem Owns.swap {a b : OwnR} (h : Owns n0 H0 bs (a :: b :: os) n H) : Owns n0 H0 bs (b :: a :: os) n H := by
 have h1 := List.pairwise_cons.1 h.apart
 have h2 := List.pairwise_cons.1 h1.2
 refine ⟨h.mem, h.box, fun o ho => h.row o ?_, List.pairwise_cons.2 ⟨fun c hc => ?_, List.pairwise_cons.2 ⟨fun c hc => h1.1 c (List.mem_cons_of_mem _ hc), h2.2⟩⟩⟩
 ·rcases List.mem_cons.1 ho with rfl | ho
  ·exact List.mem_cons_of_mem _ List.mem_cons_self
  ·rcases List.mem_cons.1 ho with rfl | ho
   ·exact List.mem_cons_self
   ·exact List.mem_cons_of_mem _ (List.mem_cons_of_mem _ ho)
 ·rcases List.mem_cons.1 hc with rfl | hc
  ·intro k ⟨s, l, hx⟩ s' l' hx'
   exact h1.1 b List.mem_cons_self k ⟨s', l', hx'⟩ s l hx
  ·exact h2.1 c hc
theorem Owns.sim0 (h : Owns n0 H0 bs (o :: os) n H) (hl : A5 o.l l') : A4 o.x (.sl o.sz l' .ro) := (h.row o List.mem_cons_self).sim hl
theorem Owns.sim1 {a o : OwnR} (h : Owns n0 H0 bs (a :: o :: os) n H) (hl : A5 o.l l') : A4 o.x (.sl o.sz l' .ro) := (h.row o (List.mem_cons_of_mem _ List.mem_cons_self)).sim hl
theorem TW (h : A4 x y) : A5 [x] [y] := ⟨y, [], rfl, h, rfl⟩
theorem Owns.simL0 (h : Owns n0 H0 bs (⟨el, sz, x, l⟩ :: os) n H) : A5 [x] [.sl sz l .ro] := TW (h.sim0 (A0 _))
theorem Owns.simL1 {a : OwnR} (h : Owns n0 H0 bs (a :: ⟨el, sz, x, l⟩ :: os) n H) : A5 [x] [.sl sz l .ro] := TW (h.sim1 (A0 _))
theorem OwnS.fit (h : OwnS n0 H el sz x l) : BQ none x := by
 rcases h with ⟨_, z, rfl⟩ | ⟨g, rfl, _⟩ <;> (rw [J6]; trivial)
theorem Owns.fit0 (h : Owns n0 H0 bs (⟨el, sz, x, l⟩ :: os) n H) : BQ none x := (h.row _ List.mem_cons_self).fit
theorem Owns.fit1 {a : OwnR} (h : Owns n0 H0 bs (a :: ⟨el, sz, x, l⟩ :: os) n H) : BQ none x := (h.row _ (List.mem_cons_of_mem _ List.mem_cons_self)).fit
theorem Owns.len0 (h : Owns n0 H0 bs (o :: os) n H) : ∃ z t, o.x = .sl z o.l t ∧ (z = o.sz ∨ o.l = []) := by
 rcases h.row o List.mem_cons_self with ⟨h1, z, h2⟩ | ⟨g, h1, h2, h3⟩
 ·exact ⟨z, .nil, by rw [h1]; exact h2, .inr h1⟩
 ·exact ⟨_, _, h1, .inl rfl⟩
theorem Owns.app (h : Owns n0 H0 bs (⟨el, sz, x, l⟩ :: os) n H) (hz : z = sz ∨ m = []) (hs : A5 m m') (hb : (l.length + m.length) * by_ ≤ 140737488355328) (hc : l.length + m.length ≤ maxLen)
  (hk : ∀ x' n' H', n ≤ n' → Owns n0 H0 bs (⟨el, sz, x', l ++ m'⟩ :: os) n' H' → J8 n' H' bs (⟨el, sz, x', l ++ m'⟩ :: os) → K ⟨AD e d x', n', H'⟩) : appKS el sz by_ d K ⟨e, n, H⟩ x (.sl z m t) := by
 have hap := List.pairwise_cons.1 h.apart
 refine A19 hz hs h.mem (h.row _ List.mem_cons_self) hb hc fun x' n' H' ho hm hkeep hnr hle => ?_
 have hO : Owns n0 H0 bs (⟨el, sz, x', l ++ m'⟩ :: os) n' H' := by
  refine ⟨hm, fun b hb => ?_, fun o ho' => ?_, List.pairwise_cons.2 ⟨fun b hb => ?_, hap.2⟩⟩
  ·obtain ⟨h1, h2, h3⟩ := h.box b hb
   refine ⟨hkeep _ _ h1 fun s l' hx => ?_, h2, h3⟩
   rcases h.row _ List.mem_cons_self with ⟨_, z', h4⟩ | ⟨g, h4, h5, _⟩
   ·simp only at h4; rw [h4] at hx; injection hx with _ _ hx; cases hx
   ·simp only at h4 h5; rw [h4] at hx; injection hx with _ _ hx; injection hx with hx
    subst hx
    rw [h5] at h1; injection h1 with h1; exact h3 _ _ h1.symm
  ·rcases List.mem_cons.1 ho' with rfl | ho'
   ·exact ho
   ·refine (h.row o (List.mem_cons_of_mem _ ho')).elim .inl fun ⟨g, h1, h2, h3⟩ => .inr ⟨g, h1, hkeep _ _ h2 fun s l' hx => ?_, h3⟩
    exact hap.1 o ho' g ⟨s, l', hx⟩ _ _ h1
  ·intro k hxk s l' hbx
   obtain ⟨s1, l1, hx1⟩ := hxk
   rcases h.row b (List.mem_cons_of_mem _ hb) with ⟨_, z', h4⟩ | ⟨g, h4, h5, _⟩
   ·rw [h4] at hbx; injection hbx with _ _ hbx; cases hbx
   ·rw [h4] at hbx; injection hbx with _ _ hbx; injection hbx with hbx
    subst hbx
    refine hnr g (h.mem.lt h5) (fun s2 l2 hx2 => ?_) s1 l1 hx1
    exact hap.1 b hb g ⟨s2, l2, hx2⟩ _ _ h4
 exact hk x' n' H' hle hO hO.boxF
theorem Owns.app1 {a : OwnR} (h : Owns n0 H0 bs (a :: ⟨el, sz, x, l⟩ :: os) n H) (hz : z = sz ∨ m = []) (hs : A5 m m') (hb : (l.length + m.length) * by_ ≤ 140737488355328) (hc : l.length + m.length ≤ maxLen)
  (hk : ∀ x' n' H', n ≤ n' → Owns n0 H0 bs (a :: ⟨el, sz, x', l ++ m'⟩ :: os) n' H' → J8 n' H' bs (a :: ⟨el, sz, x', l ++ m'⟩ :: os) → K ⟨AD e d x', n', H'⟩) : appKS el sz by_ d K ⟨e, n, H⟩ x (.sl z m t) :=
 h.swap.app hz hs hb hc fun x' n' H' hle hO hB => hk x' n' H' hle hO.swap hO.swap.boxF
theorem Owns.setOb (h : Owns n0 H0 ((g, ob) :: bs) os n H) (hne : ∀ b ∈ bs, b.1 ≠ g) (ob' : AObj) (hr : ∀ e m, ob' ≠ .row e m) : Owns n0 H0 ((g, ob') :: bs) os n (upd H g (some ob')) := by
 obtain ⟨h1, h2, h3⟩ := h.box (g, ob) List.mem_cons_self
 simp only at h1 h2 h3
 refine ⟨h.mem.set h1 h2 _, fun b hb => ?_, fun o ho => ?_, h.apart⟩
 ·rcases List.mem_cons.1 hb with rfl | hb
  ·exact ⟨AN _ _ _, h2, hr⟩
  ·rw [upd_ne (hne b hb)]; exact h.box b (List.mem_cons_of_mem _ hb)
 ·refine (h.row o ho).keep fun k e m hk => ?_
  rw [upd_ne (fun e => ?_)]
  ·exact hk
  ·subst e; rw [h1] at hk; injection hk with hk; exact h3 _ _ hk
theorem Owns.set0 (h : Owns n0 H0 ((g, ob) :: bs) os n H) (hne : ∀ b ∈ bs, b.1 ≠ g) (e : TypeId) (cs : List AV) : Owns n0 H0 ((g, .cells e cs) :: bs) os n (upd H g (some (.cells e cs))) :=
 h.setOb hne _ fun _ _ h => by cases h
theorem appKS.chk {s : AS} (h : appKS el sz by_ d K s x y) : appKS el sz by_ d K s x y := h
theorem A2 {xs ys : List AV} (h : A4 x y) (k : A5 xs ys) : A5 (x :: xs) (y :: ys) := ⟨y, ys, rfl, h, k⟩
theorem DO (h : A5 l m) : A4 (.tup l) (.tup m) := ⟨m, rfl, h⟩
theorem Cp (h : A5 l m) : A4 (.agg l) (.agg m) := ⟨m, rfl, h⟩
theorem SV (h : ∀ g, n ≤ g → K ⟨AD e d (.ptr g 0), g + 1, upd H g (some ob)⟩) : A14 ob d K e n H := h
theorem VS (h : ∀ g, n ≤ g → K ⟨AD e d (.sl sz l (.own g)), g + 1, upd H g (some ob)⟩) : Uh sz l ob d K e n H := h
theorem A09 {kk : Option IntKind} (h : ∀ g, n ≤ g → K ⟨AD e d (.mp g), g + 1, upd H g (some (.map kk []))⟩) : A4x kk d K e n H := h
theorem Z9 (h : Owns n0 H0 bs os n H) (hk : ∀ g, n ≤ g → Owns n0 H0 bs os (g + 1) (upd H g (some ob)) → K ⟨AD e d (.sl sz l (.own g)), g + 1, upd H g (some ob)⟩) : Uh sz l ob d K e n H :=
 fun g hg => hk g hg (h.alloc hg ob)
end
theorem AA : (∀ {H : A3} {g k : Nat} {x : Option AObj}, k ≠ g → upd H g x k = H k) ∧ (∀ (H : A3) (g : Nat) (x : Option AObj), upd H g x g = x) ∧ (∀ {c : Prop} [h : Decidable c], c → ∀ {α : Type} {t e : α}, @ite α c h t e = t) ∧ (∀ {c : Prop} [h : Decidable c], ¬ c → ∀ {α : Type} {t e : α}, @ite α c h t e = e) ∧ (∀ n : Int, -9223372036854775808 ≤ n ∧ n ≤ 9223372036854775807 → IntKind.i64.wrap n = n) ∧ (∀ {a b : Int}, 0 ≤ a → a.tdiv b = a / b) ∧ (∀ {a b : Int}, 0 ≤ a → a.tmod b = a % b) :=
 ⟨upd_ne, AN, fun h => if_pos h, fun h => if_neg h, IntWalk.i64_in, Int.tdiv_eq_ediv_of_nonneg, Int.tmod_eq_emod_of_nonneg⟩
theorem VC {gs : List Nat} {n : Nat} {H : A3} (h : K ⟨e, n, H⟩) : KC gs H K ⟨e, n, H⟩ := KC.of (KeepM.rfl_ _ _) h
theorem A6c {n : Nat} {H : A3} : SameB n H H := SameB.rfl_ _ _
theorem A9 {a b : Prop} (h : a) (k : b) : a ∧ b := ⟨h, k⟩
theorem A8 (f : Nat) {P : Program} {s : AS} (h : CallP P f args d K s) : CallP P f args d K s := h
theorem A6i {P : Program} {f : Nat} {args args' : List AV} {n : Nat} {H : A3} (h : APure P f args' v) (hk : K ⟨AD e d v, n, H⟩) (hs : A5 args args' := by first | with_reducible exact A0 _ | (simp [A5, A4, A1, A0]; done)) : CallP P f args d K ⟨e, n, H⟩ := CallP.sf hs h hk
theorem Al (f : Nat) {P : Program} {s : AS} (h : CallK P f args d K s) : CallK P f args d K s := h
theorem zzF {n n' : Nat} {H H' : A3} {res : List ARes} (h : (∃ x, BS ⟨e, n', H'⟩ res = some x ∧ A4 x v) ∧ n ≤ n' ∧ SameB n H H') : Ga v n H res .ret ⟨e, n', H'⟩ := A51 h.1 h.2.1 h.2.2
theorem zzG {n g : Nat} {H H' : A3} {x : Option AObj} (h : SameB n H H' ∧ n ≤ g) : SameB n H (upd H' g x) := h.1.upd h.2 x
theorem AI (s : p := by with_reducible first | exact SameB.rfl_ _ _ | assumption | exact Owns.le (by assumption) | exact Owns.same (by assumption) | exact Owns.fit0 (by assumption) | exact Owns.fit1 (by assumption)) : p := s
theorem AP (h : q) (s : q → p := by with_reducible first | exact zzF | exact Hz | exact KM.of | exact VC | exact QI | exact SV) : p := s h
theorem AQ (h : q) (s : q → p := by with_reducible first | exact zzF | exact zzG | exact Hz | exact KM.of | exact VC) : p := s h
theorem ZC (h : q) (s : q → p := by with_reducible first | exact zzF | exact zzG | exact PY) : p := s h
theorem Xq (h : q) (s : q → p := by with_reducible first | exact Hz | exact KM.of | exact VC | exact PY | exact VS | exact Tw) : p := s h
theorem BT (h : q) (s : q → p := by with_reducible first | exact zzF | exact zzG | exact Hz | exact KM.of | exact VC | exact QI | exact SV) : p := s h
theorem A6g (h : q) (s : q → p := by with_reducible first | exact zzF | exact Hz | exact KM.of | exact VC | exact A09) : p := s h
theorem AZ (h : q) (s : q → p := by with_reducible first | exact zzF | exact Hz | exact KM.of | exact VC | exact QI | exact PY | exact SV | exact VS | exact Tw) : p := s h
theorem Hl (h : q) (s : q → p := by with_reducible first | exact zzF | exact Hz | exact KM.of | exact VC) : p := s h
theorem zzS {n0 n : Nat} {H0 H : A3} {bs : List (Nat × AObj)} {os : List OwnR} (hk : ∀ g, n ≤ g → Owns n0 H0 bs os (g + 1) (upd H g (some ob)) → K ⟨AD e d (.sl sz l (.own g)), g + 1, upd H g (some ob)⟩) (h : Owns n0 H0 bs os n H := by first | assumption | exact Owns.set0 (by assumption) (by simp <;> omega) _ _ | exact Owns.set1 (by assumption) (by simp <;> omega) (by simp <;> omega) _ _) : Uh sz l ob d K e n H := Z9 h hk
theorem zzA {n0 n : Nat} {H0 H : A3} {bs : List (Nat × AObj)} {os : List OwnR} (hb : (l.length + m.length) * by_ ≤ 140737488355328) (hc : l.length + m.length ≤ maxLen) (hk : ∀ x' n' H', n ≤ n' → Owns n0 H0 bs (⟨el, sz, x', l ++ m'⟩ :: os) n' H' → J8 n' H' bs (⟨el, sz, x', l ++ m'⟩ :: os) → K ⟨AD e d x', n', H'⟩) (h : Owns n0 H0 bs (⟨el, sz, x, l⟩ :: os) n H := by first | assumption | exact Owns.set0 (by assumption) (by simp <;> omega) _ _ | exact Owns.set1 (by assumption) (by simp <;> omega) (by simp <;> omega) _ _) (hz : z = sz ∨ m = [] := by exact .inl rfl) (hs : A5 m m' := by first | (exact Owns.simL0 (by assumption)) | (exact Owns.simL1 (by assumption)) | (with_reducible exact A0 _) | assumption | (simp [A5, A4, A1, A0]; done)) : appKS el sz by_ d K ⟨e, n, H⟩ x (.sl z m t) := Owns.app h hz hs hb hc hk
theorem zzB {a : OwnR} {n0 n : Nat} {H0 H : A3} {bs : List (Nat × AObj)} {os : List OwnR} (hb : (l.length + m.length) * by_ ≤ 140737488355328) (hc : l.length + m.length ≤ maxLen) (hk : ∀ x' n' H', n ≤ n' → Owns n0 H0 bs (a :: ⟨el, sz, x', l ++ m'⟩ :: os) n' H' → J8 n' H' bs (a :: ⟨el, sz, x', l ++ m'⟩ :: os) → K ⟨AD e d x', n', H'⟩) (h : Owns n0 H0 bs (a :: ⟨el, sz, x, l⟩ :: os) n H := by first | assumption | exact Owns.set0 (by assumption) (by simp <;> omega) _ _ | exact Owns.set1 (by assumption) (by simp <;> omega) (by simp <;> omega) _ _) (hz : z = sz ∨ m = [] := by exact .inl rfl) (hs : A5 m m' := by first | (exact Owns.simL0 (by assumption)) | (exact Owns.simL1 (by assumption)) | (with_reducible exact A0 _) | assumption | (simp [A5, A4, A1, A0]; done)) : appKS el sz by_ d K ⟨e, n, H⟩ x (.sl z m t) := Owns.app1 h hz hs hb hc hk
end Go.Proofs.YtnfjgphfaemjcaaGreatDoor

/- Regions of operations agree with those on plain data, whatever order is drawn; no condition. -/
import Derived.Test.YtnmkpadgogbgkaaDoorAmReg
set_option linter.all false
set_option linter.unusedSimpArgs false
set_option linter.unusedVariables false
namespace Go.Proofs.YtnmkpadgogbgkaaDoor
open Go.RowKit

section
variable {P : Program} {w w' w0 : World} {G G' : Gh} {nt : Nat} {s : AS} {a : Act} {ops : Array Oper} {ef : List Nat} {Q : Exit → Act → World → Prop}

theorem After.weak {K : AS → Prop} (hl : G.Le G') (h : After P w0 nt G' K a w) : After P w0 nt G K a w := by
  obtain ⟨G1, s1, h1, h2, h3⟩ := h
  exact ⟨G1, s1, h1, hl.tr h2, h3⟩
theorem RelS.env {e e' : AEnv} {n : Nat} {H : AHeap} (h : RelS P w0 nt G ⟨e, n, H⟩ a w) (he : ∀ t, get e' t = .any ∨ get e' t = get e t) : RelS P w0 nt G ⟨e', n, H⟩ a w :=
  ⟨h.r0, h.sz, h.df, h.ld, fun t => by rcases he t with h1 | h1 <;> rw [h1]; exact .any; exact h.tm t⟩

/-- one operation, wanted or not -/
theorem o_sound {o : Oper} {ao : AOper} {K : AS → Prop} {i : Nat} {K' : Act → World → Prop} (hi : ops[i]? = some o) (hc : cOper P ef ops nt o = some ao) (hr : RelS P w0 nt G s a w) (h : awO P ao K s) (hk : ∀ a' w', After P w0 nt G K a' w' → K' a' w') :
    wpOp P ops Q i K' a w := by
  unfold cOper at hc
  split at hc
  · rename_i op hop
    split at hc
    · rename_i hd
      have hd' : ∀ t, o.dst = some t → t < nt := fun t ht => by rw [ht] at hd; simpa [dstOk] using hd
      unfold wpOp
      simp only [hi]
      split at hc
      · rename_i hg
        injection hc with hc; subst hc
        have hw : Region.wanted o (yielded ops a.tmps) = true := by simp [Region.wanted, hg]
        rw [if_pos hw]
        simp only [awO] at h
        exact .inl (Oper.wp_mono (fun a w => hk a w) (op_sound hop hd' hr h))
      · rename_i j want hg
        split at hc
        · rename_i t ht
          injection hc with hc; subst hc
          simp only [awO] at h
          split at h
          · rename_i b hb
            have hrt := hr.tm t
            rw [hb] at hrt
            have hval : a.tmps.getD t undef = .bool b := by generalize a.tmps.getD t undef = v at hrt; cases hrt; rfl
            have hy : yielded ops a.tmps j = some b := by
              simp only [yielded, ht, Option.bind_some]
              cases hx : a.tmps[t]? with
              | none => rw [Array.getD_eq_getD_getElem?, hx] at hval; cases hval
              | some v => rw [Array.getD_eq_getD_getElem?, hx] at hval; simp only [Option.getD_some] at hval; rw [hval]
            have hw : Region.wanted o (yielded ops a.tmps) = decide (b = want) := by
              simp only [Region.wanted, hg, hy]
              cases b <;> cases want <;> rfl
            by_cases hbw : b = want
            · rw [if_pos (by rw [hw]; simpa using hbw)]
              exact .inl (Oper.wp_mono (fun a w => hk a w) (op_sound hop hd' hr (h.1 hbw)))
            · rw [if_neg (by rw [hw]; simpa using hbw)]
              exact hk _ _ ⟨G, _, h.2 hbw, Gh.Le.rfl_ G, hr.put hd' (Gh.Le.rfl_ G) hr.r0 .und⟩
          · rename_i hb
            have hrt := hr.tm t
            rw [hb] at hrt
            have hval : a.tmps.getD t undef = undef := by generalize a.tmps.getD t undef = v at hrt; cases hrt; rfl
            have hy : yielded ops a.tmps j = none := by
              simp only [yielded, ht, Option.bind_some]
              cases hx : a.tmps[t]? with
              | none => rfl
              | some v => rw [Array.getD_eq_getD_getElem?, hx] at hval; simp only [Option.getD_some] at hval; rw [hval]; rfl
            have hw : Region.wanted o (yielded ops a.tmps) = false := by
              simp only [Region.wanted, hg, hy]
              rfl
            rw [if_neg (by rw [hw]; simp)]
            exact hk _ _ ⟨G, _, h, Gh.Le.rfl_ G, hr.put hd' (Gh.Le.rfl_ G) hr.r0 .und⟩
          · exact h.elim
        · cases hc
    · cases hc
  · injection hc with hc; subst hc
    exact h.elim

theorem cOpers_at : ∀ {os : List Oper} {aos : List AOper} {i : Nat} {o : Oper}, cOpers P ef ops nt os = some aos → os[i]? = some o → ∃ ao, aos[i]? = some ao ∧ cOper P ef ops nt o = some ao
  | [], _, i, o, _, h => by simp at h
  | x :: os, aos, i, o, hc, h => by
    simp only [cOpers] at hc
    split at hc
    · rename_i y ys h1 h2
      injection hc with hc; subst hc
      cases i with
      | zero => simp at h; subst h; exact ⟨y, rfl, h1⟩
      | succ i => obtain ⟨ao, e1, e2⟩ := cOpers_at h2 (by simpa using h); exact ⟨ao, by simpa using e1, e2⟩
    · cases hc
theorem cOpers_len : ∀ {os : List Oper} {aos : List AOper}, cOpers P ef ops nt os = some aos → aos.length = os.length
  | [], _, h => by simp [cOpers] at h; subst h; rfl
  | x :: os, aos, hc => by
    simp only [cOpers] at hc
    split at hc
    · rename_i y ys h1 h2
      injection hc with hc; subst hc
      simp [cOpers_len h2]
    · cases hc

def aAt (aos : List AOper) (i : Nat) : AOper := aos.getD i ⟨none, .clen 0, none⟩
theorem range_map_aAt (aos : List AOper) : (List.range aos.length).map (aAt aos) = aos := by
  apply List.ext_getElem?
  intro i
  by_cases hi : i < aos.length
  · simp [aAt, hi, List.getD]
  · simp [hi]

/-- operations in the order of the text -/
theorem ops_sound {aos : List AOper} {K : AS → Prop} (hc : cOpers P ef ops nt ops.toList = some aos) : ∀ (l : List Nat) {G : Gh} {s : AS} {a : Act} {w : World}, (∀ i ∈ l, i < ops.size) → RelS P w0 nt G s a w → awOps P (l.map (aAt aos)) K s → (∀ a' w', After P w0 nt G K a' w' → Q .normal a' w') → wpOps P ops Q l a w
  | [], G, s, a, w, _, hr, h, hq => hq a w ⟨G, s, h, Gh.Le.rfl_ G, hr⟩
  | i :: l, G, s, a, w, hl, hr, h, hq => by
    have hi : i < ops.size := hl i List.mem_cons_self
    obtain ⟨ao, e1, e2⟩ := cOpers_at hc (i := i) (o := ops[i]) (by simp [hi])
    have hat : aAt aos i = ao := by simp [aAt, List.getD, e1]
    rw [wpOps_cons]
    simp only [List.map_cons, hat] at h
    refine o_sound (by simp [hi]) e2 hr h fun a' w' ⟨G1, s1, h1, h2, h3⟩ => ?_
    exact ops_sound hc l (fun j hj => hl j (List.mem_cons_of_mem _ hj)) h3 h1 fun a2 w2 h4 => hq a2 w2 (h4.weak h2)
end

/-! ### the order that is drawn -/
def befF (acc : Array Nat) (o : Oper) : Array Nat := acc.push (o.after.foldl (fun s e => if Region.binds .any e then s ||| 2 ^ e.on ||| acc.getD e.on 0 else s) 0)
theorem before_eq (ops : Array Oper) : Region.before ops = ops.toList.foldl befF #[] := by
  simp only [Region.before, Array.foldl_toList]; rfl
theorem fold_bit (acc : Array Nat) (k : Nat) : ∀ (es : List Edge) (s0 : Nat), (es.foldl (fun s e => if Region.binds .any e then s ||| 2 ^ e.on ||| acc.getD e.on 0 else s) s0).testBit k = true → s0.testBit k = true ∨ ∃ e ∈ es, Region.binds .any e = true ∧ (e.on = k ∨ (acc.getD e.on 0).testBit k = true)
  | [], s0, h => .inl h
  | e :: es, s0, h => by
    rw [List.foldl_cons] at h
    rcases fold_bit acc k es _ h with h1 | ⟨e', he, hb, h2⟩
    · split at h1
      · rename_i hb
        simp only [Nat.testBit_or, Bool.or_eq_true, Nat.testBit_two_pow, decide_eq_true_eq] at h1
        rcases h1 with (h1 | h1) | h1
        · exact .inl h1
        · exact .inr ⟨e, List.mem_cons_self, hb, .inl h1⟩
        · exact .inr ⟨e, List.mem_cons_self, hb, .inr h1⟩
      · exact .inl h1
    · exact .inr ⟨e', List.mem_cons_of_mem _ he, hb, h2⟩
theorem befF_fold : ∀ (l : List Oper) (acc : Array Nat), (l.foldl befF acc).size = acc.size + l.length ∧ (∀ j, j < acc.size → (l.foldl befF acc).getD j 0 = acc.getD j 0) ∧
    ∀ i o k, l[i]? = some o → ((l.foldl befF acc).getD (acc.size + i) 0).testBit k = true → ∃ e ∈ o.after, Region.binds .any e = true ∧ (e.on = k ∨ ((l.foldl befF acc).getD e.on 0).testBit k = true)
  | [], acc => ⟨by simp, fun _ _ => rfl, fun i o k h => by simp at h⟩
  | x :: l, acc => by
    obtain ⟨h1, h2, h3⟩ := befF_fold l (befF acc x)
    have hs : (befF acc x).size = acc.size + 1 := by simp [befF]
    have hold : ∀ j, j < acc.size → (befF acc x).getD j 0 = acc.getD j 0 := fun j hj => by
      simp [befF, Array.getD_eq_getD_getElem?, Array.getElem?_push, Nat.ne_of_lt hj]
    refine ⟨by rw [List.foldl_cons, h1, hs]; simp; omega, fun j hj => by rw [List.foldl_cons, h2 j (by omega), hold j hj], fun i o k hi hb => ?_⟩
    rw [List.foldl_cons] at hb ⊢
    cases i with
    | zero =>
      simp at hi; subst hi
      rw [Nat.add_zero, h2 acc.size (by omega)] at hb
      have hnew : (befF acc x).getD acc.size 0 = x.after.foldl (fun s e => if Region.binds .any e then s ||| 2 ^ e.on ||| acc.getD e.on 0 else s) 0 := by
        simp [befF, Array.getD_eq_getD_getElem?]
      rw [hnew, ← Array.foldl_toList] at hb
      rcases fold_bit acc k _ _ hb with h4 | ⟨e, he, hb2, h4⟩
      · simp at h4
      · refine ⟨e, by simpa using he, hb2, ?_⟩
        rcases h4 with h4 | h4
        · exact .inl h4
        · right
          have hlt : e.on < acc.size := by
            rcases Nat.lt_or_ge e.on acc.size with h5 | h5
            · exact h5
            · simp [Array.getD_eq_getD_getElem?, Array.getElem?_eq_none h5] at h4
          rw [h2 e.on (by omega), hold e.on hlt]; exact h4
    | succ i =>
      have := h3 i o k (by simpa using hi) (by rw [hs, show acc.size + 1 + i = acc.size + (i + 1) by omega]; exact hb)
      exact this
theorem before_spec {ops : Array Oper} {j k : Nat} {o : Oper} (ho : ops[j]? = some o) (h : ((Region.before ops).getD j 0).testBit k = true) : ∃ e ∈ o.after, Region.binds .any e = true ∧ (e.on = k ∨ ((Region.before ops).getD e.on 0).testBit k = true) := by
  have h3 := (befF_fold ops.toList #[]).2.2 j o k (by simpa using ho)
  rw [before_eq] at h ⊢
  exact h3 (by simpa using h)

section
variable {P : Program} {w w' w0 : World} {nt : Nat} {ops : Array Oper} {ef : List Nat} {Q : Exit → Act → World → Prop}
structure OrdOk (P : Program) (ef : List Nat) (ops : Array Oper) (nt : Nat) (C : AOper → AOper → Bool) : Prop where
  mixed : P.follows .mixedOrders = true
  back : ∀ i o, ops[i]? = some o → ∀ e ∈ o.after, Region.binds .any e = true → e.on < i
  pairs : ∀ (i j : Nat) x y, ops[i]? = some x → ops[j]? = some y → i < j → ((Region.before ops).getD j 0).testBit i = true ∨ ∃ a c, cOper P ef ops nt x = some a ∧ cOper P ef ops nt y = some c ∧ aApart a c = true ∧ C a c = true
theorem mem_zipIdx_of {l : List Oper} {i : Nat} {o : Oper} (h : l[i]? = some o) : (o, i) ∈ l.zipIdx := by
  rw [List.mem_zipIdx_iff_getElem?]; exact h
theorem ordOk_spec (h : ordOk P ef ops nt = true) : OrdOk P ef ops nt fun x y => x.op.cls.comm y.op.cls := by
  simp only [ordOk, Bool.and_eq_true] at h
  obtain ⟨⟨h1, h2⟩, h3⟩ := h
  rw [List.all_eq_true] at h2 h3
  refine ⟨h1, fun i o ho e he hb => ?_, fun i j x y hx hy hij => ?_⟩
  · have := h2 (o, i) (mem_zipIdx_of (by simpa using ho))
    simp only [Array.all_eq_true_iff_forall_mem] at this
    have := this e he
    simpa [hb] using this
  · have := h3 (y, j) (mem_zipIdx_of (by simpa using hy))
    rw [List.all_eq_true] at this
    have := this (x, i) (mem_zipIdx_of (by simpa using hx))
    simp only [Bool.or_eq_true, decide_eq_true_eq] at this
    rcases this with (h4 | h4) | h4
    · omega
    · exact .inl h4
    · right
      split at h4
      · rename_i a c ha hc
        simp only [Bool.and_eq_true] at h4
        exact ⟨a, c, ha, hc, h4.1, h4.2⟩
      · cases h4

theorem ordOkD_spec (h : ordOkD P ef ops nt = true) : OrdOk P ef ops nt fun x y => x.op.cls.comm y.op.cls || x.late y := by
  simp only [ordOkD, Bool.and_eq_true] at h
  obtain ⟨⟨h1, h2⟩, h3⟩ := h
  rw [List.all_eq_true] at h2 h3
  refine ⟨h1, fun i o ho e he hb => ?_, fun i j x y hx hy hij => ?_⟩
  · have := h2 (o, i) (mem_zipIdx_of (by simpa using ho))
    simp only [Array.all_eq_true_iff_forall_mem] at this
    have := this e he
    simpa [hb] using this
  · have := h3 (y, j) (mem_zipIdx_of (by simpa using hy))
    rw [List.all_eq_true] at this
    have := this (x, i) (mem_zipIdx_of (by simpa using hx))
    rw [Bool.or_eq_true, Bool.or_eq_true, decide_eq_true_eq] at this
    rcases this with (h4 | h4) | h4
    · omega
    · exact .inl h4
    · right
      split at h4
      · rename_i a c ha hc
        rw [Bool.and_eq_true] at h4
        exact ⟨a, c, ha, hc, h4.1, h4.2⟩
      · cases h4

/-- what is not carried out yet, in the order of the text -/
def left (ops : Array Oper) (listed : Array Bool) : List Nat := (List.range ops.size).filter fun i => !listed.getD i true
def Closed (ops : Array Oper) (listed : Array Bool) : Prop := ∀ i o, ops[i]? = some o → listed.getD i false = true → ∀ e ∈ o.after, Region.binds .any e = true → listed.getD e.on false = true

theorem before_listed {listed : Array Bool} (hc : Closed ops listed) {k : Nat} : ∀ (j : Nat) (o : Oper), ops[j]? = some o → (∀ i o', ops[i]? = some o' → ∀ e ∈ o'.after, Region.binds .any e = true → e.on < i) → (∀ e ∈ o.after, Region.binds .any e = true → listed.getD e.on false = true) → ((Region.before ops).getD j 0).testBit k = true → listed.getD k false = true := by
  intro j
  induction j using Nat.strongRecOn with
  | _ j ih =>
    intro o ho hb hl ht
    obtain ⟨e, he, hbe, h4⟩ := before_spec ho ht
    rcases h4 with h4 | h4
    · rw [← h4]; exact hl e he hbe
    · have hlt := hb j o ho e he hbe
      have hle := hl e he hbe
      have hos : ∃ o', ops[e.on]? = some o' := ⟨_, Array.getElem?_eq_getElem (by have := (Array.getElem?_eq_some_iff.1 ho).1; omega)⟩
      obtain ⟨o', ho'⟩ := hos
      exact ih e.on hlt o' ho' hb (fun e' he' hbe' => hc e.on o' ho' hle e' he' hbe') h4

theorem left_split {listed : Array Bool} {i : Nat} (hi : i < ops.size) (hl : listed.getD i true = false) (hsz : listed.size = ops.size) : ∃ l1 l2, left ops listed = l1 ++ i :: l2 ∧ left ops (listed.setIfInBounds i true) = l1 ++ l2 ∧ ∀ k ∈ l1, k < i ∧ listed.getD k true = false := by
  have hset : ∀ k, k ≠ i → (listed.setIfInBounds i true).getD k true = listed.getD k true := fun k hk => by
    simp [Array.getD_eq_getD_getElem?, Array.getElem?_setIfInBounds_ne (fun e => hk e.symm)]
  have hseti : (listed.setIfInBounds i true).getD i true = true := by simp [Array.getD_eq_getD_getElem?, hsz, hi]
  have hr : List.range ops.size = List.range i ++ i :: (List.range' (i + 1) (ops.size - (i + 1))) := by
    have h1 : ops.size = i + (1 + (ops.size - (i + 1))) := by omega
    rw [List.range_eq_range', List.range_eq_range']
    conv => lhs; rw [h1]
    rw [← List.range'_append_1, Nat.zero_add, ← List.range'_append_1]
    simp [List.range'_one]
  refine ⟨(List.range i).filter fun k => !listed.getD k true, (List.range' (i + 1) (ops.size - (i + 1))).filter fun k => !listed.getD k true, ?_, ?_, ?_⟩
  · simp only [left, hr, List.filter_append, List.filter_cons, hl, Bool.not_false, if_true]
  · simp only [left, hr, List.filter_append, List.filter_cons, hseti, Bool.not_true, Bool.false_eq_true, if_false]
    congr 1
    · apply List.filter_congr
      intro k hk
      rw [hset k (by simp at hk; omega)]
    · apply List.filter_congr
      intro k hk
      rw [hset k (by simp [List.mem_range'_1] at hk; omega)]
  · intro k hk
    simp only [List.mem_filter, List.mem_range, Bool.not_eq_true'] at hk
    exact hk

theorem draw_sound {W : AOper → (AS → Prop) → AS → Prop} {C : AOper → AOper → Bool} (hD : Drw P W C) {aos : List AOper} {K : AS → Prop} (hc : cOpers P ef ops nt ops.toList = some aos) (ho : OrdOk P ef ops nt C) (hK : EInv K) : ∀ (fuel : Nat) (listed : Array Bool) {G : Gh} {s : AS} {a : Act} {w : World}, listed.size = ops.size → (left ops listed).length ≤ fuel → Closed ops listed → RelS P w0 nt G s a w →
    WOps W ((left ops listed).map (aAt aos)) K s → (∀ a' w', After P w0 nt G K a' w' → Q .normal a' w') → wpAny P .any ops Q fuel listed a w := by
  intro fuel
  induction fuel with
  | zero =>
    intro listed G s a w hsz hlen hcl hr h hq
    have hnil : left ops listed = [] := List.length_eq_zero_iff.1 (by omega)
    refine ⟨?_, ?_⟩
    · cases hrd : Region.ready .any ops listed with
      | nil => rfl
      | cons i is =>
        have hi : i ∈ Region.ready .any ops listed := by rw [hrd]; exact List.mem_cons_self
        simp only [Region.ready, List.mem_filter, Bool.and_eq_true, List.mem_range] at hi
        have : i ∈ left ops listed := by simp only [left, List.mem_filter, List.mem_range]; exact ⟨hi.1, hi.2.1⟩
        rw [hnil] at this; cases this
    · rw [hnil] at h
      exact hq a w ⟨G, s, h, Gh.Le.rfl_ G, hr⟩
  | succ fuel ih =>
    intro listed G s a w hsz hlen hcl hr h hq
    refine ⟨fun hrd => ?_, fun i hi => ?_⟩
    · have hnil : left ops listed = [] := by
        cases hl : left ops listed with
        | nil => rfl
        | cons i is =>
          exfalso
          have hmem : i ∈ left ops listed := by rw [hl]; exact List.mem_cons_self
          simp only [left, List.mem_filter, List.mem_range] at hmem
          have hmin : ∀ k, k < i → listed.getD k false = true := by
            intro k hk
            by_cases hkl : listed.getD k true = true
            · have hks : k < listed.size := by omega
              simp only [Array.getD_eq_getD_getElem?, Array.getElem?_eq_getElem hks, Option.getD_some] at hkl ⊢
              exact hkl
            · exfalso
              have hkm : k ∈ left ops listed := by simp only [left, List.mem_filter, List.mem_range]; exact ⟨by omega, by simpa using hkl⟩
              rw [hl] at hkm
              rcases List.mem_cons.1 hkm with e | hkm
              · omega
              · have hsorted : (left ops listed).Pairwise (· < ·) := List.Pairwise.filter _ List.pairwise_lt_range
                rw [hl] at hsorted
                have := (List.pairwise_cons.1 hsorted).1 k hkm
                omega
          have : i ∈ Region.ready .any ops listed := by
            simp only [Region.ready, List.mem_filter, Bool.and_eq_true, List.mem_range]
            refine ⟨hmem.1, hmem.2, ?_⟩
            rw [Array.getElem?_eq_getElem hmem.1]
            simp only [Option.map_some, Option.getD_some, Array.all_eq_true_iff_forall_mem, Bool.or_eq_true, Bool.not_eq_true']
            intro e he
            by_cases hb : Region.binds .any e = true
            · right; exact hmin e.on (ho.back i ops[i] (Array.getElem?_eq_getElem hmem.1) e he hb)
            · left; simpa using hb
          rw [hrd] at this; cases this
      rw [hnil] at h
      exact hq a w ⟨G, s, h, Gh.Le.rfl_ G, hr⟩
    · simp only [Region.ready, List.mem_filter, Bool.and_eq_true, List.mem_range] at hi
      obtain ⟨his, hil, hie⟩ := hi
      have hnl : listed.getD i true = false := by simpa using hil
      have hoi : ops[i]? = some ops[i] := Array.getElem?_eq_getElem his
      rw [hoi] at hie
      simp only [Option.map_some, Option.getD_some, Array.all_eq_true_iff_forall_mem, Bool.or_eq_true, Bool.not_eq_true'] at hie
      have hedges : ∀ e ∈ ops[i].after, Region.binds .any e = true → listed.getD e.on false = true := fun e he hb => by
        rcases hie e he with h1 | h1
        · rw [hb] at h1; cases h1
        · exact h1
      obtain ⟨l1, l2, e1, e2, e3⟩ := left_split his hnl hsz
      obtain ⟨ao, f1, f2⟩ := cOpers_at hc (i := i) (o := ops[i]) (by simp [his])
      have hat : aAt aos i = ao := by simp [aAt, List.getD, f1]
      rw [e1, List.map_append, List.map_cons, hat] at h
      have hfront := WOps_front hD hK (fun x hx => by
        obtain ⟨k, hk, rfl⟩ := List.mem_map.1 hx
        obtain ⟨hki, hkl⟩ := e3 k hk
        have hks : k < ops.size := by omega
        have hok : ops[k]? = some ops[k] := Array.getElem?_eq_getElem hks
        obtain ⟨ak, g1, g2⟩ := cOpers_at hc (i := k) (o := ops[k]) (by simp [hks])
        have hak : aAt aos k = ak := by simp [aAt, List.getD, g1]
        rcases ho.pairs k i _ _ hok hoi hki with h1 | ⟨a1, c1, h1, h2, h3, h4⟩
        · have := before_listed hcl i ops[i] hoi ho.back hedges h1
          rw [Array.getD_eq_getD_getElem?, Array.getElem?_eq_getElem (by omega : k < listed.size)] at this hkl
          simp only [Option.getD_some] at this hkl
          rw [this] at hkl; cases hkl
        · rw [hak]
          rw [g2] at h1; injection h1 with h1; subst h1
          rw [f2] at h2; injection h2 with h2; subst h2
          exact ⟨h3, h4⟩) h
      refine o_sound hoi f2 hr (hD.down hr.r0.supp hfront) fun a' w' ⟨G1, s1, k1, k2, k3⟩ => ?_
      refine ih (listed.setIfInBounds i true) (by simpa using hsz) ?_ ?_ k3 ?_ fun a2 w2 h4 => hq a2 w2 (h4.weak k2)
      · rw [e2]; rw [e1] at hlen; simp at hlen ⊢; omega
      · intro j oj hoj hlj e he hb
        by_cases hji : j = i
        · subst hji
          rw [hoi] at hoj; injection hoj with hoj; subst hoj
          exact getD_set_true (hedges e he hb)
        · rw [getD_set_ne false (fun e => hji e.symm)] at hlj
          exact getD_set_true (hcl j oj hoj hlj e he hb)
      · rw [e2, List.map_append]; exact k1
end
end Go.Proofs.YtnmkpadgogbgkaaDoor

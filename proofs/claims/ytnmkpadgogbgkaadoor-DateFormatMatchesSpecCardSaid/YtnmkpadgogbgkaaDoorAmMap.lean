/- Maps whose keys are integers or strings, on plain data: finding, putting in; no condition. -/
import Derived.Test.YtnmkpadgogbgkaaDoorAmRep
import Derived.MapKept
set_option linter.all false
set_option linter.unusedSimpArgs false
set_option linter.unusedVariables false
namespace Go.Proofs.YtnmkpadgogbgkaaDoor
open Go.RowKit

def keyOk : TypeDesc → AV → Bool
  | .int k, .int k' _ => decide (k = k')
  | .string, .str _ => true
  | _, _ => false
def kdesc : Option IntKind → TypeDesc
  | some k => .int k
  | none => .string
theorem keyOk_of {kk : Option IntKind} {x : AV} (h : keyOkK kk x = true) : keyOk (kdesc kk) x = true := by
  cases kk <;> cases x <;> simp_all [keyOkK, keyOk, kdesc]
/-- the entries of a map stand for such data -/
inductive RepM (G : Gh) : List MapEntry → List (AV × AV) → Prop
  | nil : RepM G [] []
  | cons {e : MapEntry} {k v : AV} {es : List MapEntry} {xs : List (AV × AV)} (h1 : Rep G e.key k) (h2 : Rep G e.val v) (h : RepM G es xs) : RepM G (e :: es) ((k, v) :: xs)
theorem RepM.mono {G G' : Gh} (hl : G.Le G') {es : List MapEntry} {xs : List (AV × AV)} (h : RepM G es xs) : RepM G' es xs := by
  induction h with
  | nil => exact .nil
  | cons h1 h2 _ ih => exact .cons (h1.mono hl) (h2.mono hl) ih
section
variable {P : Program} {G : Gh} {w : World}
theorem sameNow_rep {t : TypeDesc} {a b : Value} {x y : AV} (ha : Rep G a x) (hb : Rep G b y) (hx : keyOk t x = true) (hy : keyOk t y = true) : Instr.sameNow t a b = some (keyEq x y) := by
  cases t <;> cases x <;> simp [keyOk] at hx <;> cases y <;> simp [keyOk] at hy
  · subst hx; subst hy
    cases ha; cases hb
    simp [Instr.sameNow, keyEq]
    rw [Bool.eq_iff_iff]; simp
  · rename_i sa sb
    cases ha with | @str s _ hs => cases hb with | @str s' _ hs' =>
    subst hs; subst hs'
    simp only [Instr.sameNow, keyEq]
    congr 1
    rw [Bool.eq_iff_iff]
    simp
    constructor
    · intro h; have h2 := (MapKept.bytes_beq _ _).1 h; subst h2; rfl
    · intro h; exact (MapKept.bytes_beq _ _).2 (ByteArray.ext h)
theorem findNow_rep {t : TypeDesc} {kv : Value} {ka : AV} (hk : Rep G kv ka) (hka : keyOk t ka = true) : ∀ {es : List MapEntry} {xs : List (AV × AV)} (i : Nat), RepM G es xs → (∀ e ∈ xs, keyOk t e.1 = true) →
    (mfind ka xs = none ∧ Instr.findNow t kv es i = some none) ∨ ∃ (j : Nat) (v : Value) (va : AV) (e : MapEntry), mfind ka xs = some va ∧ Instr.findNow t kv es i = some (some (i + j, v)) ∧ Rep G v va ∧ es[j]? = some e ∧ e.val = v ∧ Instr.sameNow t kv e.key = some true
  | _, _, i, .nil, _ => .inl ⟨rfl, rfl⟩
  | _, _, i, .cons (e := e) (k := k) (v := v) (es := es) (xs := xs) h1 h2 h, hok => by
    have hs := sameNow_rep hk h1 hka (hok _ List.mem_cons_self)
    cases he : keyEq ka k with
    | true =>
      right
      rw [he] at hs
      exact ⟨0, e.val, v, e, by simp [mfind, he], by simp [Instr.findNow, hs], h2, rfl, rfl, hs⟩
    | false =>
      rw [he] at hs
      have ih := findNow_rep hk hka (i + 1) h (fun x hx => hok x (List.mem_cons_of_mem _ hx))
      rcases ih with ⟨a, b⟩ | ⟨j, v', va, e', a, b, c, d, f, g⟩
      · exact .inl ⟨by simp [mfind, he, a], by simp [Instr.findNow, hs, b]⟩
      · exact .inr ⟨j + 1, v', va, e', by simp [mfind, he, a], by simp [Instr.findNow, hs, b]; omega, c, by simpa using d, f, g⟩
theorem run_checkKeyN {t : TypeDesc} {kt : TypeId} {kv : Value} {ka : AV} (b : Bool) (n : Nat) (ht : P.underlying kt = some t) (hk : Rep G kv ka) (hka : keyOk t ka = true) : (Instr.checkKey b (n + 1) kt kv).run P w = .ok () w := by
  cases t <;> cases ka <;> simp [keyOk] at hka
  · cases hk
    simp [Instr.checkKey, run_underlying ht]
  · cases hk
    simp [Instr.checkKey, run_underlying ht]
theorem run_checkKey {t : TypeDesc} {kt : TypeId} {kv : Value} {ka : AV} (b : Bool) (ht : P.underlying kt = some t) (hk : Rep G kv ka) (hka : keyOk t ka = true) : (Instr.checkKey b 10000 kt kv).run P w = .ok () w := run_checkKeyN b 9999 ht hk hka
theorem run_findKey {t : TypeDesc} {kt : TypeId} {kv : Value} {ka : AV} {es : List MapEntry} {xs : List (AV × AV)} (ht : P.underlying kt = some t) (hk : Rep G kv ka) (hka : keyOk t ka = true) (h : RepM G es xs) (hok : ∀ e ∈ xs, keyOk t e.1 = true) :
    (mfind ka xs = none ∧ (Instr.findKey kt kv es).run P w = .ok none w) ∨ ∃ (j : Nat) (v : Value) (va : AV) (e : MapEntry), mfind ka xs = some va ∧ (Instr.findKey kt kv es).run P w = .ok (some (j, v)) w ∧ Rep G v va ∧ es[j]? = some e ∧ e.val = v ∧ Instr.sameNow t kv e.key = some true := by
  rcases findNow_rep hk hka 0 h hok with ⟨a, b⟩ | ⟨j, v, va, e, a, b, c, d, f, g⟩
  · exact .inl ⟨a, by simp [Instr.findKey, run_underlying ht, b]⟩
  · exact .inr ⟨j, v, va, e, a, by simp [Instr.findKey, run_underlying ht, b], c, d, f, g⟩
theorem run_lookup_rep {t : TypeDesc} {mt kt et : TypeId} {kv : Value} {ka : AV} {r clock : Nat} {es : Array MapEntry} {xs : List (AV × AV)} {z : Value} {za : AV} (ok : Bool) (hm : P.underlying mt = some (.map kt et)) (ht : P.underlying kt = some t) (hk : Rep G kv ka) (hka : keyOk t ka = true)
    (hb : w.heap[r]? = some (.map es clock)) (h : RepM G es.toList xs) (hok : ∀ e ∈ xs, keyOk t e.1 = true) (hz : (zeroValue et).run P w = .ok z w) (hzr : Rep G z za) :
    ∃ v va, (mfind ka xs).getD za = va ∧ Rep G v va ∧ (Instr.lookup mt (.map (some r)) kv ok).run P w = .ok (if ok then .tuple #[v, .bool (mfind ka xs).isSome] else v) w := by
  rcases run_findKey (w := w) ht hk hka h hok with ⟨a, b⟩ | ⟨j, v, va, e, a, b, c, d, f, g⟩
  · refine ⟨z, za, by rw [a]; rfl, hzr, ?_⟩
    rw [a]
    simp [Instr.lookup, run_underlying hm, MapKept.run_getObj_map hb, run_checkKey _ ht hk hka, b, hz]
  · refine ⟨v, va, by rw [a]; rfl, c, ?_⟩
    rw [a]
    simp [Instr.lookup, run_underlying hm, MapKept.run_getObj_map hb, run_checkKey _ ht hk hka, b]
theorem msetL_none {k v : AV} : ∀ {xs : List (AV × AV)}, mfind k xs = none → msetL k v xs = xs ++ [(k, v)]
  | [], _ => rfl
  | e :: es, h => by
    simp only [mfind] at h
    split at h
    · cases h
    · rename_i hne
      simp only [msetL, hne, if_false, List.cons_append, msetL_none h]
      rfl
theorem findSet_rep {t : TypeDesc} {kv vv : Value} {ka va : AV} (hk : Rep G kv ka) (hka : keyOk t ka = true) (hv : Rep G vv va) : ∀ {es : List MapEntry} {xs : List (AV × AV)} (i : Nat), RepM G es xs → (∀ e ∈ xs, keyOk t e.1 = true) →
    (mfind ka xs = none ∧ Instr.findNow t kv es i = some none) ∨ ∃ (j : Nat) (v : Value) (e : MapEntry), Instr.findNow t kv es i = some (some (i + j, v)) ∧ es[j]? = some e ∧ Rep G e.key ka ∧ RepM G (es.modify j fun e => { e with key := kv, val := vv }) (msetL ka va xs)
  | _, _, i, .nil, _ => .inl ⟨rfl, rfl⟩
  | _, _, i, .cons (e := e) (k := k) (v := v) (es := es) (xs := xs) h1 h2 h, hok => by
    have hs := sameNow_rep hk h1 hka (hok _ List.mem_cons_self)
    cases he : keyEq ka k with
    | true =>
      right
      rw [he] at hs
      refine ⟨0, e.val, e, by simp [Instr.findNow, hs], rfl, ?_, ?_⟩
      · have : ka = k := by
          cases ka <;> cases k <;> simp [keyEq] at he
          · obtain ⟨rfl, rfl⟩ := he; rfl
          · subst he; rfl
        rw [this]; exact h1
      · simp only [msetL, he, if_true]
        exact .cons hk hv h
    | false =>
      rw [he] at hs
      rcases findSet_rep hk hka hv (i + 1) h (fun x hx => hok x (List.mem_cons_of_mem _ hx)) with ⟨a, b⟩ | ⟨j, v', e', a, b, c, d⟩
      · exact .inl ⟨by simp [mfind, he, a], by simp [Instr.findNow, hs, b]⟩
      · refine .inr ⟨j + 1, v', e', by simp [Instr.findNow, hs, a]; omega, by simpa using b, c, ?_⟩
        have : msetL ka va ((k, v) :: xs) = (k, v) :: msetL ka va xs := by simp [msetL, he]
        rw [this]
        exact .cons h1 h2 d
theorem RepM.snoc {es : List MapEntry} {xs : List (AV × AV)} (h : RepM G es xs) {e : MapEntry} {k v : AV} (h1 : Rep G e.key k) (h2 : Rep G e.val v) : RepM G (es ++ [e]) (xs ++ [(k, v)]) := by
  induction h with
  | nil => exact .cons h1 h2 .nil
  | cons a b _ ih => exact .cons a b ih
theorem sameBits_rep {t : TypeDesc} {a b : Value} {x : AV} (ha : Rep G a x) (hb : Rep G b x) (hx : keyOk t x = true) : Instr.sameBits 10000 a b = true := by
  cases t <;> cases x <;> simp [keyOk] at hx
  · cases ha; cases hb
    simp [Instr.sameBits]
  · cases ha with | @str s _ hs => cases hb with | @str s' _ hs' =>
    have : s = s' := ByteArray.ext (Array.toList_inj.1 (hs.trans hs'.symm))
    subst this
    simp only [Instr.sameBits]
    exact (MapKept.bytes_beq _ _).2 rfl
theorem run_mapUpdate_rep {t : TypeDesc} {mt kt et : TypeId} {kv vv : Value} {ka va : AV} {r clock : Nat} {es : Array MapEntry} {xs : List (AV × AV)} (hm : P.underlying mt = some (.map kt et)) (ht : P.underlying kt = some t) (hk : Rep G kv ka) (hka : keyOk t ka = true) (hv : Rep G vv va)
    (hb : w.heap[r]? = some (.map es clock)) (h : RepM G es.toList xs) (hok : ∀ e ∈ xs, keyOk t e.1 = true) :
    ∃ (es' : Array MapEntry) (clock' : Nat) (w' : World), (Instr.mapUpdate mt (.map (some r)) kv vv).run P w = .ok () w' ∧ w'.heap[r]? = some (.map es' clock') ∧ RepM G es'.toList (msetL ka va xs) ∧ (∀ k, k ≠ r → w'.heap[k]? = w.heap[k]?) ∧ w'.heap.size = w.heap.size ∧ w'.os = w.os ∧ w'.tape = w.tape ∧ w'.output = w.output := by
  have hr : r < w.heap.size := (Array.getElem?_eq_some_iff.1 hb).1
  rcases findSet_rep hk hka hv 0 h hok with ⟨a, b⟩ | ⟨j, v, e, a, b, c, d⟩
  · refine ⟨es.push { key := kv, val := vv, born := clock }, clock + 1, { w with heap := w.heap.setIfInBounds r (.map (es.push { key := kv, val := vv, born := clock }) (clock + 1)) }, ?_, ?_, ?_, ?_, ?_, rfl, rfl, rfl⟩
    · simp [Instr.mapUpdate, run_underlying hm, MapKept.run_getObj_map hb, run_checkKey _ ht hk hka, Instr.findKey, run_underlying ht, b, MapKept.run_setObj_map _ hb]
    · simp [hr]
    · rw [msetL_none a]; simpa using h.snoc (e := { key := kv, val := vv, born := clock }) hk hv
    · intro k hkr; simp [Array.getElem?_setIfInBounds, Ne.symm hkr]
    · simp
  · have hsb := sameBits_rep c hk hka
    refine ⟨es.modify j fun e => { e with key := kv, val := vv }, clock, { w with heap := w.heap.setIfInBounds r (.map (es.modify j fun e => { e with key := kv, val := vv }) clock) }, ?_, ?_, ?_, ?_, ?_, rfl, rfl, rfl⟩
    · have hej : es[j]? = some e := by simpa using b
      simp only [Nat.zero_add] at a
      simp [Instr.mapUpdate, run_underlying hm, MapKept.run_getObj_map hb, run_checkKey _ ht hk hka, Instr.findKey, run_underlying ht, a, hej, Instr.keyThatStays, hsb, MapKept.run_setObj_map _ hb]
    · simp [hr]
    · simpa using d
    · intro k hkr; simp [Array.getElem?_setIfInBounds, Ne.symm hkr]
    · simp
end
end Go.Proofs.YtnmkpadgogbgkaaDoor

/- What the listed variables hold when a call begins; no condition. -/
import Derived.Test.YtnfjgphfaemjcaaGreatDoorMdB
import Derived.Lib.Space
import Derived.Lib.ItoaNum
import Derived.Lib.LaidTab
import Derived.Lib.DecodeN
import Derived.Test.YtnfjgphfaemjcaaGreatDoorMgA
import Derived.MapKept
import Derived.Laws.IdiomRangeMap
set_option linter.all false
namespace Go.Proofs.YtnfjgphfaemjcaaGreatDoor
def Xb (g3 g4 : Nat) (w : World) : Prop :=
 (∀ c, c < 256 → w.cell? ⟨g3, c, none⟩ = some (.int .u8 (Lib.firstT c))) ∧
 (∀ i, i < 16 → w.cell? ⟨g4, 2 * i, none⟩ = some (.int .u8 (Lib.accLo i)) ∧ w.cell? ⟨g4, 2 * i + 1, none⟩ = some (.int .u8 (Lib.accHi i)))
def Laid (w : World) : Prop :=
 (∃ t fz, w.heap[4]? = some (.cells (Lib.asciiSpaceTab.map fun z => Value.int .u8 z).toArray t fz)) ∧
 (∃ t fz, w.heap[3]? = some (.cells (Lib.pow10Tab.map fun z => Value.int .u64 z).toArray t fz)) ∧
 (∃ v, w.cell? ⟨5, 0, none⟩ = some v ∧ (v = .nilIface ∨ ∃ te pe, v = .iface te pe)) ∧
 (∃ v, w.cell? ⟨6, 0, none⟩ = some v ∧ (v = .nilIface ∨ ∃ te pe, v = .iface te pe)) ∧ Xb 1 2 w ∧
 (∃ m, w.cell? ⟨0, 0, none⟩ = some (.int .i64 m))
theorem Laid.ext {w w' : World} (h : Laid w) (e : Ext w w') : Laid w' := by
 obtain ⟨⟨t, fz, h1⟩, ⟨t', fz', h2⟩, ⟨v4, h4, h4'⟩, ⟨v5, h5, h5'⟩, ⟨h6, h7⟩, m, h8⟩ := h
 exact ⟨⟨t, fz, by rw [e.block 4 (Array.getElem?_eq_some_iff.1 h1).1]; exact h1⟩, ⟨t', fz', by rw [e.block 3 (Array.getElem?_eq_some_iff.1 h2).1]; exact h2⟩, ⟨v4, e.cellAt h4, h4'⟩, ⟨v5, e.cellAt h5, h5'⟩, ⟨fun c hc => e.cellAt (h6 c hc), fun i hi => ⟨e.cellAt (h7 i hi).1, e.cellAt (h7 i hi).2⟩⟩, m, e.cellAt h8⟩
theorem Laid.spc {w : World} (h : Laid w) : ∃ t fz, w.heap[4]? = some (.cells (Lib.asciiSpaceTab.map fun z => Value.int .u8 z).toArray t fz) := h.1
theorem Laid.pow {w : World} (h : Laid w) : ∃ t fz, w.heap[3]? = some (.cells (Lib.pow10Tab.map fun z => Value.int .u64 z).toArray t fz) := h.2.1
theorem Laid.syn {w : World} (h : Laid w) : ∃ v, w.cell? ⟨5, 0, none⟩ = some v ∧ (v = .nilIface ∨ ∃ te pe, v = .iface te pe) := h.2.2.1
theorem Laid.rng {w : World} (h : Laid w) : ∃ v, w.cell? ⟨6, 0, none⟩ = some v ∧ (v = .nilIface ∨ ∃ te pe, v = .iface te pe) := h.2.2.2.1
theorem Laid.u8 {w : World} (h : Laid w) : Xb 1 2 w := h.2.2.2.2.1
theorem Laid.len {w : World} (h : Laid w) : ∃ m, w.cell? ⟨0, 0, none⟩ = some (.int .i64 m) := h.2.2.2.2.2
theorem Xy {P : Program} {w : World} {name : String} {g : Nat} {k : IntKind} {zs : List Int} (hg : P.globalNamed name = some g) (h : ∃ t fz, w.heap[g]? = some (.cells (zs.map fun z => Value.int k z).toArray t fz)) : Lib.TabIs P w name k zs := by
 obtain ⟨t, fz, h1⟩ := h
 simp [Lib.TabIs, World.var?, hg, h1]
open Go.RowKit
structure Gh where
 I : Nat → Nat → Option Value
 cap : Nat → Option (TypeId × Nat)
structure Gh.Le (a b : Gh) : Prop where
 I : ∀ b' o v, a.I b' o = some v → b.I b' o = some v
 cap : ∀ g c, a.cap g = some c → b.cap g = some c
theorem Gh.Le.rfl_ (a : Gh) : a.Le a := ⟨fun _ _ _ h => h, fun _ _ h => h⟩
theorem Gh.Le.tr {a b c : Gh} (h : a.Le b) (k : b.Le c) : a.Le c := ⟨fun x y z h1 => k.I x y z (h.I x y z h1), fun x y h1 => k.cap x y (h.cap x y h1)⟩
def AV.one : AV → Bool
 | .agg _ | .tup _ | .dat _ _ | .any | .und => false
 | _ => true
def AG (l : List AV) : List AV := l.flatMap AV.cells
def Sealed (G : Gh) (g off : Nat) (vs : List Value) : Prop := ∀ j u, vs[j]? = some u → G.I g (off + j) = some u
structure SlOk (sz : Nat) (l : List AV) (c : Nat) : Prop where
 cap : l.length ≤ c
 max : c ≤ maxLen
 pos : 0 < sz
 uni : ∀ x ∈ l, x.cells.length = sz
 one : ∀ x ∈ AG l, x.one = true
mutual
inductive Rep (G : Gh) : Value → AV → Prop
 | any {v} : Rep G v .any
 | und : Rep G undef .und
 | bool {b} : Rep G (.bool b) (.bool b)
 | int {k n} : Rep G (.int k n) (.int k n)
 | str {s l} (h : s.data.toList = l) : Rep G (.string s) (.str l)
 | np : Rep G (.pointer none) .np
 | ptr {g o} : Rep G (.pointer (some ⟨g, o, none⟩)) (.ptr g o)
 | ref {g o vs x} (h : RepL G vs x.cells) (hs : Sealed G g o vs) (h1 : ∀ y ∈ x.cells, y.one = true) : Rep G (.pointer (some ⟨g, o, none⟩)) (.ref x)
 | slnil {sz} : Rep G (.slice none 0 0) (.sl sz [] .nil)
 | sl0 {A c sz} (h : c ≤ maxLen) : Rep G (.slice A 0 c) (.sl sz [] .ro)
 | slro {g off vs sz l c n} (h : RepL G vs (AG l)) (hs : Sealed G g off vs) (ho : SlOk sz l c) (hn : n = l.length) : Rep G (.slice (some ⟨g, off, none⟩) n c) (.sl sz l .ro)
 | slown {g vs sz l c n e} (h : RepL G vs (AG l)) (hs : Sealed G g 0 vs) (ho : SlOk sz l c) (hn : n = l.length) (hc : G.cap g = some (e, c)) : Rep G (.slice (some ⟨g, 0, none⟩) n c) (.sl sz l (.own g))
 | agg {vs cs} (h : RepL G vs cs) (h1 : ∀ x ∈ cs, x.one = true) : Rep G (.agg vs.toArray) (.agg cs)
 | fn {f a b as bs} (h : RepL G a as) (h' : RepL G b bs) : Rep G (.func (.func f) a.toArray b.toArray) (.fn f as bs)
 | nfn : Rep G .nilFunc .nfn
 | tup {vs l} (h : RepL G vs l) : Rep G (.tuple vs.toArray) (.tup l)
 | mp {g} : Rep G (.map (some g)) (.mp g)
 | nmp : Rep G (.map none) .nmp
 | slm {sz g o n c} (h : n ≤ c) (hm : c ≤ maxLen) : Rep G (.slice (some ⟨g, o, none⟩) n c) (.slm sz g o n)
 | slg {sz g n c e} (h : n ≤ c) (hm : c ≤ maxLen) (hc : G.cap g = some (e, c)) : Rep G (.slice (some ⟨g, 0, none⟩) n c) (.slg sz g n)
 | ub {b} : Rep G (.bool b) .ub
 | ifc {t v x} (h : Rep G v x) : Rep G (.iface t v) (.ifc t x)
 | nif : Rep G .nilIface .nif
 | dat0 {A e} : Rep G (.pointer A) (.dat e [])
 | dat {g vs l e c} (h : RepL G vs (AG l)) (hs : Sealed G g 0 vs) (hc : G.cap g = some (e, c)) : Rep G (.pointer (some ⟨g, 0, none⟩)) (.dat e l)
inductive RepL (G : Gh) : List Value → List AV → Prop
 | nil : RepL G [] []
 | cons {v x vs xs} (h : Rep G v x) (h' : RepL G vs xs) : RepL G (v :: vs) (x :: xs)
end
theorem Sealed.mono {G G' : Gh} (hl : G.Le G') {g off : Nat} {vs : List Value} (h : Sealed G g off vs) : Sealed G' g off vs := fun j u hu => hl.I _ _ _ (h j u hu)
mutual
theorem Rep.mono {G G' : Gh} (hl : G.Le G') : ∀ {v x}, Rep G v x → Rep G' v x
 | _, _, .any => .any
 | _, _, .und => .und
 | _, _, .bool => .bool
 | _, _, .int => .int
 | _, _, .str h => .str h
 | _, _, .np => .np
 | _, _, .ptr => .ptr
 | _, _, .ref h hs h1 => .ref (RepL.mono hl h) (hs.mono hl) h1
 | _, _, .slnil => .slnil
 | _, _, .sl0 h => .sl0 h
 | _, _, .slro h hs ho hn => .slro (RepL.mono hl h) (hs.mono hl) ho hn
 | _, _, .slown h hs ho hn hc => .slown (RepL.mono hl h) (hs.mono hl) ho hn (hl.cap _ _ hc)
 | _, _, .agg h h1 => .agg (RepL.mono hl h) h1
 | _, _, .fn h h' => .fn (RepL.mono hl h) (RepL.mono hl h')
 | _, _, .nfn => .nfn
 | _, _, .tup h => .tup (RepL.mono hl h)
 | _, _, .mp => .mp
 | _, _, .nmp => .nmp
 | _, _, .slm h hm => .slm h hm
 | _, _, .slg h hm hc => .slg h hm (hl.cap _ _ hc)
 | _, _, .ub => .ub
 | _, _, .ifc h => .ifc (Rep.mono hl h)
 | _, _, .nif => .nif
 | _, _, .dat0 => .dat0
 | _, _, .dat h hs hc => .dat (RepL.mono hl h) (hs.mono hl) (hl.cap _ _ hc)
theorem RepL.mono {G G' : Gh} (hl : G.Le G') : ∀ {vs xs}, RepL G vs xs → RepL G' vs xs
 | _, _, .nil => .nil
 | _, _, .cons h h' => .cons (Rep.mono hl h) (RepL.mono hl h')
end
section
variable {G : Gh}
theorem RepL.len {vs : List Value} {xs : List AV} (h : RepL G vs xs) : vs.length = xs.length := by
 induction xs generalizing vs with
 | nil => cases h; rfl
 | cons x xs ih => cases h with | cons h h' => simp [ih h']
theorem RepL.at {vs : List Value} {xs : List AV} (h : RepL G vs xs) {i : Nat} {x : AV} (hx : xs[i]? = some x) : ∃ v, vs[i]? = some v ∧ Rep G v x := by
 induction xs generalizing vs i with
 | nil => simp at hx
 | cons y ys ih =>
  cases h with
  | cons h h' =>
   cases i with
   | zero => simp at hx; subst hx; exact ⟨_, rfl, h⟩
   | succ i => simp at hx; simpa using ih h' hx
theorem RepL.of {vs : List Value} {xs : List AV} (hl : vs.length = xs.length) (h : ∀ (i : Nat) (v : Value) (x : AV), vs[i]? = some v → xs[i]? = some x → Rep G v x) : RepL G vs xs := by
 induction xs generalizing vs with
 | nil => cases vs with | nil => exact .nil | cons _ _ => simp at hl
 | cons x xs ih =>
  cases vs with
  | nil => simp at hl
  | cons v vs => exact .cons (h 0 v x rfl rfl) (ih (by simpa using hl) fun i v' x' h1 h2 => h (i + 1) v' x' (by simpa using h1) (by simpa using h2))
theorem RepL.append {a b : List Value} {x y : List AV} (h : RepL G a x) (k : RepL G b y) : RepL G (a ++ b) (x ++ y) := by
 induction x generalizing a with
 | nil => cases h; exact k
 | cons _ _ ih => cases h with | cons h h' => exact .cons h (ih h')
theorem RepL.take {a : List Value} {x : List AV} (h : RepL G a x) (n : Nat) : RepL G (a.take n) (x.take n) := by
 induction x generalizing a n with
 | nil => cases h; simp; exact .nil
 | cons _ _ ih => cases h with | cons h h' => cases n with | zero => simp; exact .nil | succ n => simpa using .cons h (ih h' n)
theorem RepL.drop {a : List Value} {x : List AV} (h : RepL G a x) (n : Nat) : RepL G (a.drop n) (x.drop n) := by
 induction x generalizing a n with
 | nil => cases h; simp; exact .nil
 | cons _ _ ih => cases h with | cons h h' => cases n with | zero => simpa using .cons h h' | succ n => simpa using ih h' n
theorem RepL.map {f : Opd → Value} {g : Opd → AV} (l : List Opd) (h : ∀ o ∈ l, Rep G (f o) (g o)) : RepL G (l.map f) (l.map g) := by
 induction l with
 | nil => exact .nil
 | cons a l ih => exact .cons (h a List.mem_cons_self) (ih fun o ho => h o (List.mem_cons_of_mem _ ho))
theorem Rep.cells {v : Value} {x : AV} (h : Rep G v x) (h1 : ∀ y ∈ x.cells, y.one = true) : RepL G v.cells.toList x.cells := by
 cases h with
 | agg h _ => simpa [Value.cells, AV.cells] using h
 | any => exact absurd (h1 .any (by simp [AV.cells])) (by simp [AV.one])
 | und => exact absurd (h1 .und (by simp [AV.cells])) (by simp [AV.one])
 | tup => rename_i l _; exact absurd (h1 (.tup l) (by simp [AV.cells])) (by simp [AV.one])
 | dat0 => rename_i e; exact absurd (h1 (.dat e []) (by simp [AV.cells])) (by simp [AV.one])
 | slg h hm hc => simp only [Value.cells, AV.cells]; exact .cons (.slg h hm hc) .nil
 | dat => rename_i l e _ _ _ _; exact absurd (h1 (.dat e l) (by simp [AV.cells])) (by simp [AV.one])
 | _ => simp only [Value.cells, AV.cells]; exact .cons (by constructor <;> assumption) .nil
theorem Rep.one {v : Value} {x : AV} (h : Rep G v x) (h1 : x.one = true) : v.oneCell' = true := by
 cases h <;> first | rfl | (simp [AV.one] at h1)
theorem RepL.ones {vs : List Value} {xs : List AV} (h : RepL G vs xs) (h1 : ∀ x ∈ xs, x.one = true) : ∀ u ∈ vs, u.oneCell' = true := by
 induction xs generalizing vs with
 | nil => cases h; simp
 | cons x xs ih =>
  cases h with
  | cons h h' =>
   intro u hu
   rcases List.mem_cons.1 hu with rfl | hu
   ·exact h.one (h1 _ List.mem_cons_self)
   ·exact ih h' (fun y hy => h1 y (List.mem_cons_of_mem _ hy)) u hu
theorem Rep.toRo {v : Value} {sz : Nat} {l : List AV} {t : Tok} (h : Rep G v (.sl sz l t)) : Rep G v (.sl sz l .ro) := by
 cases h with
 | slnil => exact .sl0 (by simp [maxLen])
 | sl0 h => exact .sl0 h
 | slro h hs ho hn => exact .slro h hs ho hn
 | slown h hs ho hn hc => exact .slro h hs ho hn
theorem Dh : ∀ {l m : List AV}, A5 l m → l.length = m.length
 | [], m, h => by simp only [A5] at h; subst h; rfl
 | x :: xs, m, h => by
  simp only [A5] at h
  obtain ⟨x', xs', rfl, _, h⟩ := h
  simp [Dh h]
theorem NL : ∀ {a b a' b' : List AV}, A5 a a' → A5 b b' → A5 (a ++ b) (a' ++ b')
 | [], b, a', b', h, k => by simp only [A5] at h; subst h; exact k
 | x :: xs, b, a', b', h, k => by
  simp only [A5] at h
  obtain ⟨x', xs', rfl, h1, h⟩ := h
  exact ⟨x', xs' ++ b', rfl, h1, NL h k⟩
theorem It {x y : AV} (h : A4 x y) : A5 x.cells y.cells := by
 cases x <;> simp only [A4] at h
 case agg l => obtain ⟨l', rfl, h⟩ := h; exact h
 case sl z l t => obtain ⟨z', l', t', rfl, h⟩ := h; exact ⟨_, [], rfl, ⟨z', l', t', rfl, h⟩, rfl⟩
 case tup l => obtain ⟨l', rfl, h⟩ := h; exact ⟨_, [], rfl, ⟨l', rfl, h⟩, rfl⟩
 case ref l => obtain ⟨l', rfl, h⟩ := h; exact ⟨_, [], rfl, ⟨l', rfl, h⟩, rfl⟩
 case ifc l => obtain ⟨l', rfl, h⟩ := h; exact ⟨_, [], rfl, ⟨l', rfl, h⟩, rfl⟩
 all_goals (subst h; exact A0 _)
theorem A0w {x y : AV} (h : A4 x y) : y.one = x.one := by
 cases x <;> simp only [A4] at h
 case agg l => obtain ⟨l', rfl, h⟩ := h; rfl
 case sl z l t => obtain ⟨z', l', t', rfl, h⟩ := h; rfl
 case tup l => obtain ⟨l', rfl, h⟩ := h; rfl
 case ref l => obtain ⟨l', rfl, h⟩ := h; rfl
 case ifc l => obtain ⟨l', rfl, h⟩ := h; rfl
 all_goals (subst h; rfl)
theorem M8 : ∀ {l m : List AV}, A5 l m → (∀ x ∈ l, x.one = true) → ∀ x ∈ m, x.one = true
 | [], m, h, _ => by simp only [A5] at h; subst h; simp
 | x :: xs, m, h, h1 => by
  simp only [A5] at h
  obtain ⟨x', xs', rfl, hx, h⟩ := h
  intro y hy
  rcases List.mem_cons.1 hy with rfl | hy
  ·rw [A0w hx]; exact h1 _ List.mem_cons_self
  ·exact M8 h (fun z hz => h1 z (List.mem_cons_of_mem _ hz)) y hy
theorem W7 {sz : Nat} : ∀ {l m : List AV}, A5 l m → (∀ x ∈ l, x.cells.length = sz) → ∀ x ∈ m, x.cells.length = sz
 | [], m, h, _ => by simp only [A5] at h; subst h; simp
 | x :: xs, m, h, h1 => by
  simp only [A5] at h
  obtain ⟨x', xs', rfl, hx, h⟩ := h
  intro y hy
  rcases List.mem_cons.1 hy with rfl | hy
  ·rw [← Dh (It hx)]; exact h1 _ List.mem_cons_self
  ·exact W7 h (fun z hz => h1 z (List.mem_cons_of_mem _ hz)) y hy
theorem IB : ∀ {l m : List AV}, A5 l m → A5 (AG l) (AG m)
 | [], m, h => by simp only [A5] at h; subst h; exact A0 _
 | x :: xs, m, h => by
  simp only [A5] at h
  obtain ⟨x', xs', rfl, hx, h⟩ := h
  simp only [AG, List.flatMap_cons]
  exact NL (It hx) (IB h)
theorem SlOk.sim {sz : Nat} {l m : List AV} {c : Nat} (h : SlOk sz l c) (hs : A5 l m) : SlOk sz m c :=
 ⟨by rw [← Dh hs]; exact h.cap, h.max, h.pos, W7 hs h.uni, M8 (IB hs) h.one⟩
mutual
theorem Rep.sim : ∀ {v x}, Rep G v x → ∀ {y}, A4 x y → Rep G v y
 | _, _, .any, y, h => by simp only [A4] at h; subst h; exact .any
 | _, _, .und, y, h => by simp only [A4] at h; subst h; exact .und
 | _, _, .bool, y, h => by simp only [A4] at h; subst h; exact .bool
 | _, _, .int, y, h => by simp only [A4] at h; subst h; exact .int
 | _, _, .str k, y, h => by simp only [A4] at h; subst h; exact .str k
 | _, _, .np, y, h => by simp only [A4] at h; subst h; exact .np
 | _, _, .ptr, y, h => by simp only [A4] at h; subst h; exact .ptr
 | _, _, .slm k1 k2, y, h => by simp only [A4] at h; subst h; exact .slm k1 k2
 | _, _, .slg k1 k2 k3, y, h => by simp only [A4] at h; subst h; exact .slg k1 k2 k3
 | _, _, .ub, y, h => by simp only [A4] at h; subst h; exact .ub
 | _, _, .ref k hs h1, y, h => by
  simp only [A4] at h
  obtain ⟨x', rfl, h⟩ := h
  exact .ref (RepL.sim k (It h)) hs (M8 (It h) h1)
 | _, _, .slnil, y, h => by
  simp only [A4, A5] at h
  obtain ⟨z', l', t', rfl, ht, hz, rfl⟩ := h
  rcases ht with rfl | rfl
  ·exact .sl0 (by simp [maxLen])
  ·exact .slnil
 | _, _, .sl0 hc, y, h => by
  simp only [A4, A5] at h
  obtain ⟨z', l', t', rfl, ht, hz, rfl⟩ := h
  rcases ht with rfl | rfl <;> exact .sl0 hc
 | _, _, .slro k hs ho hn, y, h => by
  simp only [A4] at h
  obtain ⟨z', l', t', rfl, ht, hz, h⟩ := h
  have ht : t' = .ro := by rcases ht with rfl | rfl <;> rfl
  subst ht
  rcases hz with rfl | ⟨rfl, _⟩
  ·exact .slro (RepL.sim k (IB h)) hs (ho.sim h) (by rw [← Dh h]; exact hn)
  ·simp only [A5] at h; subst h; subst hn; exact .sl0 ho.max
 | _, _, .slown k hs ho hn hc, y, h => by
  simp only [A4] at h
  obtain ⟨z', l', t', rfl, ht, hz, h⟩ := h
  rcases hz with rfl | ⟨rfl, rfl⟩
  ·rcases ht with rfl | rfl
   ·exact .slro (RepL.sim k (IB h)) hs (ho.sim h) (by rw [← Dh h]; exact hn)
   ·exact .slown (RepL.sim k (IB h)) hs (ho.sim h) (by rw [← Dh h]; exact hn) hc
  ·simp only [A5] at h; subst h; subst hn; exact .sl0 ho.max
 | _, _, .agg k h1, y, h => by
  simp only [A4] at h
  obtain ⟨l', rfl, h⟩ := h
  exact .agg (RepL.sim k h) (M8 h h1)
 | _, _, .fn k k', y, h => by simp only [A4] at h; subst h; exact .fn k k'
 | _, _, .nfn, y, h => by simp only [A4] at h; subst h; exact .nfn
 | _, _, .tup k, y, h => by
  simp only [A4] at h
  obtain ⟨l', rfl, h⟩ := h
  exact .tup (RepL.sim k h)
 | _, _, .mp, y, h => by simp only [A4] at h; subst h; exact .mp
 | _, _, .nmp, y, h => by simp only [A4] at h; subst h; exact .nmp
 | _, _, .ifc k, y, h => by
  simp only [A4] at h
  obtain ⟨l', rfl, h⟩ := h
  exact .ifc (Rep.sim k h)
 | _, _, .nif, y, h => by simp only [A4] at h; subst h; exact .nif
 | _, _, .dat0, y, h => by simp only [A4] at h; subst h; exact .dat0
 | _, _, .dat k hs hc, y, h => by simp only [A4] at h; subst h; exact .dat k hs hc
theorem RepL.sim : ∀ {vs xs}, RepL G vs xs → ∀ {ys}, A5 xs ys → RepL G vs ys
 | _, _, .nil, ys, h => by simp only [A5] at h; subst h; exact .nil
 | _, _, .cons k k', ys, h => by
  simp only [A5] at h
  obtain ⟨x', xs', rfl, hx, h⟩ := h
  exact .cons (Rep.sim k hx) (RepL.sim k' h)
end
end
open Go.RowKit
def E4 : TypeDesc → AV → Bool
 | .int k, .int k' _ => decide (k = k')
 | .string, .str _ => true
 | _, _ => false
def U9 : Option IntKind → TypeDesc
 | some k => .int k
 | none => .string
theorem IU {kk : Option IntKind} {x : AV} (h : BN kk x = true) : E4 (U9 kk) x = true := by
 cases kk <;> cases x <;> simp_all [BN, E4, U9]
inductive RepM (G : Gh) : List MapEntry → List (AV × AV) → Prop
 | nil : RepM G [] []
 | cons {e : MapEntry} {k v : AV} {es : List MapEntry} {xs : List (AV × AV)} (h1 : Rep G e.key k) (h2 : Rep G e.val v) (h : RepM G es xs) : RepM G (e :: es) ((k, v) :: xs)
theorem RepM.mono {G G' : Gh} (hl : G.Le G') {es : List MapEntry} {xs : List (AV × AV)} (h : RepM G es xs) : RepM G' es xs := by
 induction h with
 | nil => exact .nil
 | cons h1 h2 _ ih => exact .cons (h1.mono hl) (h2.mono hl) ih
section
variable {P : Program} {G : Gh} {w : World}
theorem NC {t : TypeDesc} {a b : Value} {x y : AV} (ha : Rep G a x) (hb : Rep G b y) (hx : E4 t x = true) (hy : E4 t y = true) : Instr.sameNow t a b = some (DZ x y) := by
 cases t <;> cases x <;> simp [E4] at hx <;> cases y <;> simp [E4] at hy
 ·subst hx; subst hy
  cases ha; cases hb
  simp [Instr.sameNow, DZ]
  rw [Bool.eq_iff_iff]; simp
 ·rename_i sa sb
  cases ha with | @str s _ hs => cases hb with | @str s' _ hs' =>
  subst hs; subst hs'
  simp only [Instr.sameNow, DZ]
  congr 1
  rw [Bool.eq_iff_iff]
  simp
  constructor
  ·intro h; have h2 := (MapKept.bytes_beq _ _).1 h; subst h2; rfl
  ·intro h; exact (MapKept.bytes_beq _ _).2 (ByteArray.ext h)
theorem NB {t : TypeDesc} {kv : Value} {ka : AV} (hk : Rep G kv ka) (hka : E4 t ka = true) : ∀ {es : List MapEntry} {xs : List (AV × AV)} (i : Nat), RepM G es xs → (∀ e ∈ xs, E4 t e.1 = true) →
  (BR ka xs = none ∧ Instr.findNow t kv es i = some none) ∨ ∃ (j : Nat) (v : Value) (va : AV) (e : MapEntry), BR ka xs = some va ∧ Instr.findNow t kv es i = some (some (i + j, v)) ∧ Rep G v va ∧ es[j]? = some e ∧ e.val = v ∧ Instr.sameNow t kv e.key = some true
 | _, _, i, .nil, _ => .inl ⟨rfl, rfl⟩
 | _, _, i, .cons (e := e) (k := k) (v := v) (es := es) (xs := xs) h1 h2 h, hok => by
  have hs := NC hk h1 hka (hok _ List.mem_cons_self)
  cases he : DZ ka k with
  | true =>
   right
   rw [he] at hs
   exact ⟨0, e.val, v, e, by simp [BR, he], by simp [Instr.findNow, hs], h2, rfl, rfl, hs⟩
  | false =>
   rw [he] at hs
   have ih := NB hk hka (i + 1) h (fun x hx => hok x (List.mem_cons_of_mem _ hx))
   rcases ih with ⟨a, b⟩ | ⟨j, v', va, e', a, b, c, d, f, g⟩
   ·exact .inl ⟨by simp [BR, he, a], by simp [Instr.findNow, hs, b]⟩
   ·exact .inr ⟨j + 1, v', va, e', by simp [BR, he, a], by simp [Instr.findNow, hs, b]; omega, c, by simpa using d, f, g⟩
theorem Qd {t : TypeDesc} {kt : TypeId} {kv : Value} {ka : AV} (b : Bool) (n : Nat) (ht : P.underlying kt = some t) (hk : Rep G kv ka) (hka : E4 t ka = true) : (Instr.checkKey b (n + 1) kt kv).run P w = .ok () w := by
 cases t <;> cases ka <;> simp [E4] at hka
 ·cases hk
  simp [Instr.checkKey, run_underlying ht]
 ·cases hk
  simp [Instr.checkKey, run_underlying ht]
theorem run_checkKey {t : TypeDesc} {kt : TypeId} {kv : Value} {ka : AV} (b : Bool) (ht : P.underlying kt = some t) (hk : Rep G kv ka) (hka : E4 t ka = true) : (Instr.checkKey b 10000 kt kv).run P w = .ok () w := Qd b 9999 ht hk hka
theorem run_findKey {t : TypeDesc} {kt : TypeId} {kv : Value} {ka : AV} {es : List MapEntry} {xs : List (AV × AV)} (ht : P.underlying kt = some t) (hk : Rep G kv ka) (hka : E4 t ka = true) (h : RepM G es xs) (hok : ∀ e ∈ xs, E4 t e.1 = true) :
  (BR ka xs = none ∧ (Instr.findKey kt kv es).run P w = .ok none w) ∨ ∃ (j : Nat) (v : Value) (va : AV) (e : MapEntry), BR ka xs = some va ∧ (Instr.findKey kt kv es).run P w = .ok (some (j, v)) w ∧ Rep G v va ∧ es[j]? = some e ∧ e.val = v ∧ Instr.sameNow t kv e.key = some true := by
 rcases NB hk hka 0 h hok with ⟨a, b⟩ | ⟨j, v, va, e, a, b, c, d, f, g⟩
 ·exact .inl ⟨a, by simp [Instr.findKey, run_underlying ht, b]⟩
 ·exact .inr ⟨j, v, va, e, a, by simp [Instr.findKey, run_underlying ht, b], c, d, f, g⟩
theorem PF {t : TypeDesc} {mt kt et : TypeId} {kv : Value} {ka : AV} {r clock : Nat} {es : Array MapEntry} {xs : List (AV × AV)} {z : Value} {za : AV} (ok : Bool) (hm : P.underlying mt = some (.map kt et)) (ht : P.underlying kt = some t) (hk : Rep G kv ka) (hka : E4 t ka = true)
  (hb : w.heap[r]? = some (.map es clock)) (h : RepM G es.toList xs) (hok : ∀ e ∈ xs, E4 t e.1 = true) (hz : (zeroValue et).run P w = .ok z w) (hzr : Rep G z za) :
  ∃ v va, (BR ka xs).getD za = va ∧ Rep G v va ∧ (Instr.lookup mt (.map (some r)) kv ok).run P w = .ok (if ok then .tuple #[v, .bool (BR ka xs).isSome] else v) w := by
 rcases run_findKey (w := w) ht hk hka h hok with ⟨a, b⟩ | ⟨j, v, va, e, a, b, c, d, f, g⟩
 ·refine ⟨z, za, by rw [a]; rfl, hzr, ?_⟩
  rw [a]
  simp [Instr.lookup, run_underlying hm, MapKept.run_getObj_map hb, run_checkKey _ ht hk hka, b, hz]
 ·refine ⟨v, va, by rw [a]; rfl, c, ?_⟩
  rw [a]
  simp [Instr.lookup, run_underlying hm, MapKept.run_getObj_map hb, run_checkKey _ ht hk hka, b]
theorem PH {k v : AV} : ∀ {xs : List (AV × AV)}, BR k xs = none → C0 k v xs = xs ++ [(k, v)]
 | [], _ => rfl
 | e :: es, h => by
  simp only [BR] at h
  split at h
  ·cases h
  ·rename_i hne
   simp only [C0, hne, if_false, List.cons_append, PH h]
   rfl
theorem NJ {t : TypeDesc} {kv vv : Value} {ka va : AV} (hk : Rep G kv ka) (hka : E4 t ka = true) (hv : Rep G vv va) : ∀ {es : List MapEntry} {xs : List (AV × AV)} (i : Nat), RepM G es xs → (∀ e ∈ xs, E4 t e.1 = true) →
  (BR ka xs = none ∧ Instr.findNow t kv es i = some none) ∨ ∃ (j : Nat) (v : Value) (e : MapEntry), Instr.findNow t kv es i = some (some (i + j, v)) ∧ es[j]? = some e ∧ Rep G e.key ka ∧ RepM G (es.modify j fun e => { e with key := kv, val := vv }) (C0 ka va xs)
 | _, _, i, .nil, _ => .inl ⟨rfl, rfl⟩
 | _, _, i, .cons (e := e) (k := k) (v := v) (es := es) (xs := xs) h1 h2 h, hok => by
  have hs := NC hk h1 hka (hok _ List.mem_cons_self)
  cases he : DZ ka k with
  | true =>
   right
   rw [he] at hs
   refine ⟨0, e.val, e, by simp [Instr.findNow, hs], rfl, ?_, ?_⟩
   ·have : ka = k := by
     cases ka <;> cases k <;> simp [DZ] at he
     ·obtain ⟨rfl, rfl⟩ := he; rfl
     ·subst he; rfl
    rw [this]; exact h1
   ·simp only [C0, he, if_true]
    exact .cons hk hv h
  | false =>
   rw [he] at hs
   rcases NJ hk hka hv (i + 1) h (fun x hx => hok x (List.mem_cons_of_mem _ hx)) with ⟨a, b⟩ | ⟨j, v', e', a, b, c, d⟩
   ·exact .inl ⟨by simp [BR, he, a], by simp [Instr.findNow, hs, b]⟩
   ·refine .inr ⟨j + 1, v', e', by simp [Instr.findNow, hs, a]; omega, by simpa using b, c, ?_⟩
    have : C0 ka va ((k, v) :: xs) = (k, v) :: C0 ka va xs := by simp [C0, he]
    rw [this]
    exact .cons h1 h2 d
theorem RepM.snoc {es : List MapEntry} {xs : List (AV × AV)} (h : RepM G es xs) {e : MapEntry} {k v : AV} (h1 : Rep G e.key k) (h2 : Rep G e.val v) : RepM G (es ++ [e]) (xs ++ [(k, v)]) := by
 induction h with
 | nil => exact .cons h1 h2 .nil
 | cons a b _ ih => exact .cons a b ih
theorem SX {t : TypeDesc} {a b : Value} {x : AV} (ha : Rep G a x) (hb : Rep G b x) (hx : E4 t x = true) : Instr.sameBits 10000 a b = true := by
 cases t <;> cases x <;> simp [E4] at hx
 ·cases ha; cases hb
  simp [Instr.sameBits]
 ·cases ha with | @str s _ hs => cases hb with | @str s' _ hs' =>
  have : s = s' := ByteArray.ext (Array.toList_inj.1 (hs.trans hs'.symm))
  subst this
  simp only [Instr.sameBits]
  exact (MapKept.bytes_beq _ _).2 rfl
def Bo (es : Array MapEntry) : List Nat := es.toList.map (·.born)
def P9 (es : Array MapEntry) (clock : Nat) : Prop := (Bo es).Nodup ∧ ∀ b ∈ Bo es, b < clock
def Grown (es : Array MapEntry) (clock : Nat) (es' : Array MapEntry) (clock' : Nat) : Prop := (∀ (j b : Nat), (Bo es)[j]? = some b → (Bo es')[j]? = some b) ∧ es.size ≤ es'.size ∧ clock' + es.size = clock + es'.size
theorem Grown.rfl_ (es : Array MapEntry) (clock : Nat) : Grown es clock es clock := ⟨fun _ _ h => h, Nat.le_refl _, rfl⟩
theorem Ly (l : List MapEntry) (kv vv : Value) : ∀ j, (l.modify j fun e => { e with key := kv, val := vv }).map (·.born) = l.map (·.born) := by
 induction l with
 | nil => intro j; simp
 | cons x l ih =>
  intro j
  cases j with
  | zero => simp
  | succ j => simp [ih]
theorem M3 {t : TypeDesc} {mt kt et : TypeId} {kv vv : Value} {ka va : AV} {r clock : Nat} {es : Array MapEntry} {xs : List (AV × AV)} (hm : P.underlying mt = some (.map kt et)) (ht : P.underlying kt = some t) (hk : Rep G kv ka) (hka : E4 t ka = true) (hv : Rep G vv va)
  (hb : w.heap[r]? = some (.map es clock)) (h : RepM G es.toList xs) (hok : ∀ e ∈ xs, E4 t e.1 = true) (hbo : P9 es clock) :
  ∃ (es' : Array MapEntry) (clock' : Nat) (w' : World), P9 es' clock' ∧ Grown es clock es' clock' ∧ (Instr.mapUpdate mt (.map (some r)) kv vv).run P w = .ok () w' ∧ w'.heap[r]? = some (.map es' clock') ∧ RepM G es'.toList (C0 ka va xs) ∧ (∀ k, k ≠ r → w'.heap[k]? = w.heap[k]?) ∧ w'.heap.size = w.heap.size ∧ w'.os = w.os ∧ w'.tape = w.tape ∧ w'.output = w.output := by
 have hr : r < w.heap.size := (Array.getElem?_eq_some_iff.1 hb).1
 rcases NJ hk hka hv 0 h hok with ⟨a, b⟩ | ⟨j, v, e, a, b, c, d⟩
 ·refine ⟨es.push { key := kv, val := vv, born := clock }, clock + 1, { w with heap := w.heap.setIfInBounds r (.map (es.push { key := kv, val := vv, born := clock }) (clock + 1)) }, ?_, ?_, ?_, ?_, ?_, ?_, ?_, rfl, rfl, rfl⟩
  ·refine ⟨?_, fun b hb' => ?_⟩
   ·simp only [Bo, Array.toList_push, List.map_append, List.map_cons, List.map_nil]
    refine List.nodup_append.2 ⟨hbo.1, by simp, fun a ha b hb' => ?_⟩
    have := hbo.2 a ha
    simp at hb'; omega
   ·simp only [Bo, Array.toList_push, List.map_append, List.map_cons, List.map_nil, List.mem_append, List.mem_singleton] at hb'
    rcases hb' with hb' | hb'
    ·have := hbo.2 b hb'; omega
    ·omega
  ·refine ⟨fun j b hj => ?_, by simp, by first | (simp; done) | (simp; omega)⟩
   unfold Bo at hj ⊢
   simp only [Array.toList_push, List.map_append]
   rw [List.getElem?_append_left (List.getElem?_eq_some_iff.1 hj).1]; exact hj
  ·simp [Instr.mapUpdate, run_underlying hm, MapKept.run_getObj_map hb, run_checkKey _ ht hk hka, Instr.findKey, run_underlying ht, b, MapKept.run_setObj_map _ hb]
  ·simp [hr]
  ·rw [PH a]; simpa using h.snoc (e := { key := kv, val := vv, born := clock }) hk hv
  ·intro k hkr; simp [Array.getElem?_setIfInBounds, Ne.symm hkr]
  ·simp
 ·have hsb := SX c hk hka
  refine ⟨es.modify j fun e => { e with key := kv, val := vv }, clock, { w with heap := w.heap.setIfInBounds r (.map (es.modify j fun e => { e with key := kv, val := vv }) clock) }, ?_, ?_, ?_, ?_, ?_, ?_, ?_, rfl, rfl, rfl⟩
  ·unfold P9 Bo
   rw [Array.toList_modify, Ly]; exact hbo
  ·refine ⟨fun j' b hj => ?_, by simp, by simp⟩
   unfold Bo at hj ⊢
   rw [Array.toList_modify, Ly]; exact hj
  ·have hej : es[j]? = some e := by simpa using b
   simp only [Nat.zero_add] at a
   simp [Instr.mapUpdate, run_underlying hm, MapKept.run_getObj_map hb, run_checkKey _ ht hk hka, Instr.findKey, run_underlying ht, a, hej, Instr.keyThatStays, hsb, MapKept.run_setObj_map _ hb]
  ·simp [hr]
  ·simpa using d
  ·intro k hkr; simp [Array.getElem?_setIfInBounds, Ne.symm hkr]
  ·simp
theorem run_next_any {g bm since c0 : Nat} {seen : Array Nat} {es : Array MapEntry} {clock : Nat} (ty : TypeId) (hg : w.heap[g]? = some (.mapIter (some bm) since seen c0)) (hb : w.heap[bm]? = some (.map es clock)) (hold : ∀ x ∈ es.toList, x.born < since) (hsc : since ≤ c0) :
  ((leftOf es seen).size = 0 ∧ (Instr.next (.pointer (some ⟨g, 0, none⟩)) false ty).run P w = .ok (.tuple #[.bool false]) w) ∨
  ∃ e ∈ (leftOf es seen).toList, ∃ w1 : World, w1.heap = w.heap ∧ w1.os = w.os ∧ w1.tape = w.tape ∧ w1.output = w.output ∧ (Instr.next (.pointer (some ⟨g, 0, none⟩)) false ty).run P w = .ok (.tuple #[.bool true, e.key, e.val]) { w1 with heap := w1.heap.setIfInBounds g (.mapIter (some bm) since (seen.push e.born) clock) } := by
 simp only [Instr.next, getObj, Sem.run_bind, Sem.run, hg, hb, Result.andThen, next_test_false seen es since c0 hold hsc, Bool.false_eq_true, if_false]
 unfold leftOf
 have hmem : ∀ x ∈ (Array.filter (fun e => !seen.contains e.born) es).toList, x.born < since := fun x hx => hold x (by simp at hx ⊢; exact hx.1)
 generalize Array.filter (fun e => !seen.contains e.born) es = L at hmem ⊢
 have e1 : L.filter (fun x => decide (x.born < since)) = L := Array.filter_eq_self.2 (fun x hx => by simpa using hmem x (by simpa using hx))
 have e2 : L.filter (fun x => decide (x.born ≥ since)) = #[] := by
  rw [Array.filter_eq_empty_iff]
  intro x hx
  have := hmem x (by simpa using hx)
  simp
  omega
 simp only [e1, e2, Array.append_empty]
 by_cases h0 : L.size = 0
 ·left
  have : L = #[] := Array.eq_empty_of_size_eq_zero h0
  subst this
  refine ⟨rfl, ?_⟩
  simp [choose, Sem.run, Question.forced]
 ·right
  have hne : L.isEmpty = false := by simp [Array.isEmpty, h0]
  simp only [hne, Bool.false_eq_true, if_false, Array.empty_append, Array.size_map]
  have hch : ∃ (j : Nat) (w1 : World), j < L.size ∧ w1.heap = w.heap ∧ w1.os = w.os ∧ w1.tape = w.tape ∧ w1.output = w.output ∧ (choose (Question.mapNext L.size)).run P w = .ok j w1 := by
   by_cases hf : L.size ≤ 1
   ·exact ⟨0, w, by omega, rfl, rfl, rfl, rfl, by simp [choose, Sem.run, Question.forced, hf]⟩
   ·exact ⟨_, w.drew, Nat.mod_lt _ (by omega), rfl, rfl, rfl, rfl, by
     simp only [choose, Sem.run, Question.forced, decide_eq_true_eq, hf, if_false, Question.cut]
     rfl⟩
  obtain ⟨j, w1, hj, a1, a2, a3, a4, hrun⟩ := hch
  refine ⟨L[j], by simp, w1, a1, a2, a3, a4, ?_⟩
  have L7 : ∀ o' : Obj, (setObj g o').run P w1 = .ok () { w1 with heap := w1.heap.setIfInBounds g o' } := fun o' => by
   simp only [setObj, Sem.run]
   rw [a1, hg]
  simp only [hrun, Array.getElem?_map, Array.getElem?_eq_getElem hj, Option.map_some, Sem.run_bind, L7, Result.andThen]
  rfl
theorem Qe {g bm since : Nat} {seen : Array Nat} {es : Array MapEntry} {clock : Nat} {e : MapEntry} (hg : w.heap[g]? = some (.mapIter (some bm) since seen clock)) (hs : seen.back? = some e.born) (hb : w.heap[bm]? = some (.map es clock)) (he : e ∈ es.toList) (hn : (es.toList.map (·.born)).Nodup) :
  (Instr.entry (.pointer (some ⟨g, 0, none⟩))).run P w = .ok (.tuple #[e.key, e.val]) w := by
 have hf : es.find? (·.born == e.born) = some e := by rw [← Array.find?_toList]; exact find_born e es.toList hn he
 simp only [Instr.entry, getObj, Sem.run_bind, Sem.run, hg, hb, Result.andThen, hs, bne_self_eq_false, Bool.false_eq_true, if_false, hf]
 rfl
end
open Go.RowKit
def B6 : Cm → Nat
 | none => 1
 | some s => s
def BJ (P : Program) (e : TypeId) : Nat := ((P.info? e).map (·.size)).getD 0
def ObjOk (P : Program) (G : Gh) (w : World) (g : Nat) : AObj → Prop
 | .cells e cs => (∀ o, G.I g o = none) ∧ ∃ vs : Array Value, w.heap[g]? = some (.cells vs e (0, 0)) ∧ RepL G vs.toList cs ∧ ∀ x ∈ cs, x.one = true
 | .row e m => ∃ (cur : Array Value) (c : Nat) (fz : Nat × Nat), G.cap g = some (e, c) ∧ w.heap[g]? = some (.cells cur e fz) ∧ fz.2 ≤ m * BJ P e ∧ m ≤ c ∧ c ≤ maxLen ∧ cur.size = c * BJ P e ∧ ∀ o, m * BJ P e ≤ o → G.I g o = none
 | .map kk es => ∃ (es' : Array MapEntry) (clock : Nat), w.heap[g]? = some (.map es' clock) ∧ RepM G es'.toList es ∧ (∀ e ∈ es, BN kk e.1 = true) ∧ P9 es' clock
 | .iter m len left cur => ∃ (since : Nat) (seen : Array Nat) (es' : Array MapEntry) (clock : Nat), w.heap[g]? = some (.mapIter (some m) since seen since) ∧ w.heap[m]? = some (.map es' clock) ∧ len ≤ es'.size ∧ clock + len = since + es'.size ∧
  left.Nodup ∧ (∀ j ∈ left, j < len) ∧ (∀ (j b : Nat), (Bo es')[j]? = some b → j < len → (j ∈ left ↔ b ∉ seen)) ∧ ∀ j, cur = some j → j < len ∧ ∃ b, (Bo es')[j]? = some b ∧ seen.back? = some b
 | .grow e cs => (∀ o, G.I g o = none) ∧ ∃ (vs : Array Value) (c : Nat), G.cap g = some (e, c) ∧ w.heap[g]? = some (.cells vs e (0, 0)) ∧ vs.size = c * BJ P e ∧ c ≤ maxLen ∧ cs.length ≤ vs.size ∧ RepL G (vs.toList.take cs.length) cs ∧ ∀ x ∈ cs, x.one = true
structure Rel0 (P : Program) (w0 : World) (G : Gh) (n : Nat) (H : A3) (w : World) : Prop where
 ext : Ext w0 w
 lo : w0.heap.size ≤ n
 hi : n ≤ w.heap.size
 seal_ : ∀ b o v, G.I b o = some v → w.cell? ⟨b, o, none⟩ = some v
 caps : ∀ g e c, G.cap g = some (e, c) → ∃ (cur : Array Value) (fz : Nat × Nat), w.heap[g]? = some (.cells cur e fz) ∧ cur.size = c * BJ P e
 capLo : ∀ g e c, G.cap g = some (e, c) → w0.heap.size ≤ g
 objs : ∀ g ob, H g = some ob → w0.heap.size ≤ g ∧ g < n ∧ ObjOk P G w g ob
abbrev Gk := AV → Nat → A3 → Prop
def ACalls (P : Program) (f : Nat) (args : List AV) (n : Nat) (H : A3) (R : Gk) : Prop :=
 (∀ g, n ≤ g → H g = none) → ∀ (w0 : World) (G : Gh) (w : World) (vs : List Value), Laid w0 → Rel0 P w0 G n H w → RepL G vs args →
  Calls P f vs.toArray w fun e w' => ∃ (v : Value) (r : AV) (G' : Gh) (n' : Nat) (H' : A3), e = .returned v ∧ R r n' H' ∧ Rep G' v r ∧ G.Le G' ∧ n ≤ n' ∧ Rel0 P w0 G' n' H' w'
def CallK (P : Program) (f : Nat) (args : List AV) (d : Option Nat) (K : AS → Prop) (s : AS) : Prop :=
 ∃ R, ACalls P f args s.n s.H R ∧ ∀ r n' H', s.n ≤ n' → (∀ g, n' ≤ g → H' g = none) → R r n' H' → K ⟨AD s.e d r, n', H'⟩
def APure (P : Program) (f : Nat) (args : List AV) (v : AV) : Prop := ∀ n H, ACalls P f args n H fun r n' H' => r = v ∧ n' = n ∧ H' = H
def CallP (P : Program) (f : Nat) (args : List AV) (d : Option Nat) (K : AS → Prop) (s : AS) : Prop := ∃ args' v, APure P f args' v ∧ A5 args args' ∧ K ⟨AD s.e d v, s.n, s.H⟩
def Ec (P : Program) (f : Nat) : Bool := match P.funcs[f]? with | some fn => fn.body.isSome && fn.name != "runtime.NumGoroutine" | none => false
def splice (cs : List AV) (o : Nat) (v : List AV) : List AV := cs.take o ++ v ++ cs.drop (o + v.length)
def ones (cs : List AV) : Prop := ∀ x ∈ cs, x.one = true
def M6 (e sz by_ : Nat) (d : Option Nat) (K : AS → Prop) (s : AS) (g0 k : Nat) (m : List AV) : Option AObj → Prop
 | some (.grow e' cs) => e' = e ∧ cs.length = k * sz ∧ ∀ g n', (g = g0 ∨ s.n ≤ g) → s.n ≤ n' → g < n' → K ⟨AD s.e d (.slg sz g (k + m.length)), n', upd (upd s.H g0 none) g (some (.grow e (cs ++ AG m)))⟩
 | _ => False
def K4 (e sz by_ : Nat) (d : Option Nat) (K : AS → Prop) (s : AS) : AV → List AV → Prop
 | .sl z l t, m => (l.length + m.length) * by_ ≤ 140737488355328 ∧ l.length + m.length ≤ maxLen ∧
  match t with
  | .nil => (m = [] → K ⟨AD s.e d (.sl sz [] .nil), s.n, s.H⟩) ∧ (m ≠ [] → (∀ g, s.n ≤ g → K ⟨AD s.e d (.sl sz m (.own g)), g + 1, upd s.H g (some (.row e m.length))⟩) ∨ (∀ g, s.n ≤ g → K ⟨AD s.e d (.slg sz g m.length), g + 1, upd s.H g (some (.grow e (AG m)))⟩))
  | .own g0 => z = sz ∧ s.H g0 = some (.row e l.length) ∧ ∀ g n', (g = g0 ∨ s.n ≤ g) → s.n ≤ n' → g < n' → K ⟨AD s.e d (.sl sz (l ++ m) (.own g)), n', upd (upd s.H g0 none) g (some (.row e (l.length + m.length)))⟩
  | .ro => False
 | .slg z g0 k, m => z = sz ∧ (k + m.length) * by_ ≤ 140737488355328 ∧ k + m.length ≤ maxLen ∧ M6 e sz by_ d K s g0 k m (s.H g0)
 | _, _ => False
def appKS (e sz by_ : Nat) (d : Option Nat) (K : AS → Prop) (s : AS) (x : AV) : AV → Prop
 | .sl z m _ => (z = sz ∨ m = []) ∧ ∃ m', A5 m m' ∧ K4 e sz by_ d K s x m'
 | _ => False
def Co (s : List UInt8) : List AV := s.map fun u => AV.int .u8 u.toNat
def QF (e by_ : Nat) (d : Option Nat) (K : AS → Prop) (s : AS) (x : AV) : AV → Prop
 | .str b => K4 e 1 by_ d K s x (Co b)
 | _ => False
def Cz (sh : Cm) (d : Option Nat) (K : AS → Prop) (s : AS) (v : AV) : AV → Prop
 | .ptr g o => match s.H g with
  | some (.cells e cs) => v.fits sh = true ∧ ones v.cells ∧ o + v.cells.length ≤ cs.length ∧ K ⟨AD s.e d .any, s.n, upd s.H g (some (.cells e (splice cs o v.cells)))⟩
  | some (.grow e cs) => v.fits sh = true ∧ ones v.cells ∧ o + v.cells.length ≤ cs.length ∧ K ⟨AD s.e d .any, s.n, upd s.H g (some (.grow e (splice cs o v.cells)))⟩
  | _ => False
 | _ => False
def Bp (P : Program) (H : A3) (u : TypeId) : AV → Option AV
 | .ptr g o => match H g with
  | some (.cells e cs) => if liesAt P P.depth e (cs.length / P.cellsOf e) o u 1 = true then some (.ptr g o) else none
  | _ => none
 | _ => none
def Ds (kk : Option IntKind) (d : Option Nat) (K : AS → Prop) (s : AS) (k v : AV) : AV → Prop
 | .mp g => match s.H g with
  | some (.map kk' es) => kk' = kk ∧ BN kk k = true ∧ K ⟨AD s.e d .any, s.n, upd s.H g (some (.map kk (C0 k v es)))⟩
  | _ => False
 | _ => False
def N5 (el : TypeId) (by_ : Nat) (z : AV) (d : Option Nat) (K : AS → Prop) (s : AS) : AV → AV → Prop
 | .int _ a, .int _ b => a = b ∧ 0 ≤ a ∧ (by_ : Int) * a ≤ 281474976710656 ∧ a ≤ maxLen ∧ ∀ g, s.n ≤ g → K ⟨AD s.e d (.slm 1 g 0 a.toNat), g + 1, upd s.H g (some (.cells el (List.replicate a.toNat z)))⟩
 | _, _ => False
def Ra (d : Option Nat) (K : AS → Prop) (s : AS) : AV → Prop
 | .mp m => match s.H m with
  | some (.map _ es) => ∀ g, s.n ≤ g → K ⟨AD s.e d (.ptr g 0), g + 1, upd s.H g (some (.iter m es.length (List.range es.length) none))⟩
  | _ => False
 | _ => False
def Rk (d : Option Nat) (K : AS → Prop) (s : AS) : AV → Prop
 | .ptr g o => o = 0 ∧ match s.H g with
  | some (.iter m len left _) => match s.H m with
   | some (.map _ es) => es.length = len ∧ (left = [] → K ⟨AD s.e d (.tup [.bool false]), s.n, s.H⟩) ∧ ∀ j ∈ left, ∀ k v, es[j]? = some (k, v) → K ⟨AD s.e d (.tup [.bool true, k, v]), s.n, upd s.H g (some (.iter m len (left.erase j) (some j)))⟩
   | _ => False
  | _ => False
 | _ => False
def AF (P : Program) (d : Option Nat) (op : AOp) (K : AS → Prop) (s : AS) : Prop :=
 match op with
 | .alloc e z => ones z ∧ ∀ g, s.n ≤ g → K ⟨AD s.e d (.ptr g 0), g + 1, upd s.H g (some (.cells e z))⟩
 | .box e sh x => (ev s.e x).fits sh = true ∧ ones (ev s.e x).cells ∧ ∀ g, s.n ≤ g → K ⟨AD s.e d (.ptr g 0), g + 1, upd s.H g (some (.cells e (ev s.e x).cells))⟩
 | .store sh x v => Cz sh d K s (ev s.e v) (ev s.e x)
 | .bsl e sh xs => (∀ x ∈ xs, (ev s.e x).fits sh = true ∧ ones (ev s.e x).cells) ∧ ((∀ g, s.n ≤ g → K ⟨AD s.e d (.sl (B6 sh) (xs.map (ev s.e)) (.own g)), g + 1, upd s.H g (some (.row e xs.length))⟩) ∨ (∀ g, s.n ≤ g → K ⟨AD s.e d (.slm (B6 sh) g 0 xs.length), g + 1, upd s.H g (some (.cells e (AG (xs.map (ev s.e)))))⟩))
 | .app e sz by_ x y => appKS e sz by_ d K s (ev s.e x) (ev s.e y)
 | .appB e by_ x y => QF e by_ d K s (ev s.e x) (ev s.e y)
 | .s2b _ x => match ev s.e x with | .str b => b.length ≤ maxLen ∧ ∀ n', s.n ≤ n' → K ⟨AD s.e d (.sl 1 (b.map fun u => .int .u8 u.toNat) .ro), n', s.H⟩ | _ => False
 | .s2s x => match ev s.e x with | .sl sz l (.own g) => l ≠ [] ∧ K ⟨AD s.e d (.sl sz l .ro), s.n, upd s.H g none⟩ | _ => False
 | .mkmap kk => ∀ g, s.n ≤ g → K ⟨AD s.e d (.mp g), g + 1, upd s.H g (some (.map kk []))⟩
 | .mset kk m k v => Ds kk d K s (ev s.e k) (ev s.e v) (ev s.e m)
 | .mksl el b z x y => N5 el b z d K s (ev s.e x) (ev s.e y)
 | .rng x => Ra d K s (ev s.e x)
 | .nxt x => Rk d K s (ev s.e x)
 | .call f xs => CallK P f (xs.map (ev s.e)) d K s
 | .updn u x => K1 (Bp P s.H u (ev s.e x)) fun v => K ⟨AD s.e d v, s.n, s.H⟩
 | .ust e x n => K1 (DQ e (ev s.e x) (ev s.e n)) fun v => K ⟨AD s.e d v, s.n, s.H⟩
 | .callp f xs => CallP P f (xs.map (ev s.e)) d K s
 | .callv x xs => match ev s.e x with | .fn f a b => Ec P f = true ∧ CallK P f (a ++ xs.map (ev s.e) ++ b) d K s | _ => False
 | op => K1 (pe op s.e s.H) fun v => K ⟨AD s.e d v, s.n, s.H⟩
def awO (P : Program) (o : AOper) (K : AS → Prop) (s : AS) : Prop :=
 match o.guard with
 | none => AF P o.dst o.op K s
 | some (t, want) => match get s.e t with
  | .bool b => (b = want → AF P o.dst o.op K s) ∧ (b ≠ want → K ⟨AD s.e o.dst .und, s.n, s.H⟩)
  | .und => K ⟨AD s.e o.dst .und, s.n, s.H⟩
  | _ => False
def awOps (P : Program) : List AOper → (AS → Prop) → AS → Prop
 | [], K, s => K s
 | o :: os, K, s => awO P o (awOps P os K) s
def AU : List Nat → A3 → A3
 | [], H => H
 | g :: gs, H => fun k => if k = g then none else AU gs H k
def gsC : AV → Option (List Nat) → Option (List Nat)
 | .ptr g _, some gs => some (g :: gs)
 | _, _ => none
def Rm (e : AH) : List Nat → Option (List Nat)
 | [] => some []
 | t :: ts => gsC (get e t) (Rm e ts)
def Vi (gs : List Nat) : AV → Prop
 | .ptr g _ => g ∈ gs
 | _ => False
def V5 (lo : Nat) (gs : List Nat) : AV → Prop
 | .ptr g _ => g < lo ∧ g ∉ gs
 | _ => False
def V8 (lo : Nat) (gs : List Nat) : AV → Prop
 | .ptr g _ => lo ≤ g ∨ g ∈ gs
 | _ => False
def JO (m : Mode) (lo : Nat) (gs : List Nat) (x : Opd) (v : AV) : Prop := match m with
 | .late => Vi gs v
 | .last q => (match x with | .t i => (i = q → V5 lo gs v) ∧ (i ≠ q → V8 lo gs v) | .c _ => False)
 | _ => True
def Ox (gs : List Nat) (sh : Cm) (x : Opd) (g : Option (Nat × Bool)) (e : AH) (H : A3) : Option AV := match g with
 | none => pe (.load sh x) e (AU gs H)
 | some (t, want) => match get e t with
  | .bool b => if b = want then pe (.load sh x) e (AU gs H) else some .und
  | .und => some .und
  | _ => none
def AObj.seen : AObj → Bool
 | .cells _ _ | .grow _ _ | .map _ _ => true
 | _ => false
def KeepM (gs : List Nat) (H H' : A3) : Prop := ∀ k ob, ob.seen = true → AU gs H k = some ob → AU gs H' k = some ob
def KM (gs : List Nat) (H : A3) (K : AS → Prop) : AS → Prop := fun s' => KeepM gs H s'.H → K s'
def KC (gs : List Nat) (H : A3) (K : AS → Prop) : AS → Prop := fun s' => KeepM gs H s'.H ∧ K s'
def JW (gs : List Nat) : AV → Prop
 | .slg _ g _ => g ∈ gs
 | _ => True
def FreeH (H : A3) : Prop := ∀ m : Nat, ∃ g, m ≤ g ∧ H g = none
theorem FreeH.upd {H : A3} (h : FreeH H) (g : Nat) (o : Option AObj) : FreeH (upd H g o) := fun m => by
 obtain ⟨k, h1, h2⟩ := h (max m (g + 1))
 exact ⟨k, by omega, by simp only [Go.Proofs.YtnfjgphfaemjcaaGreatDoor.upd]; rw [if_neg (by omega)]; exact h2⟩
theorem FreeH.of {H : A3} {n : Nat} (h : ∀ g, n ≤ g → H g = none) : FreeH H := fun m => ⟨max m n, by omega, h _ (by omega)⟩
def newK (m : Mode) (lo : Nat) (s : AS) (K : Nat → Nat → Prop) : Prop := match m with
 | .free => lo ≤ s.n ∧ FreeH s.H ∧ ∀ g n', lo ≤ g → s.H g = none → s.n ≤ n' → g < n' → K g n'
 | .refs => lo ≤ s.n ∧ FreeH s.H ∧ ∀ g n', lo ≤ g → s.H g = none → s.n ≤ n' → g < n' → K g n'
 | .copy => lo ≤ s.n ∧ FreeH s.H ∧ ∀ g n', lo ≤ g → s.H g = none → s.n ≤ n' → g < n' → K g n'
 | _ => ∀ g, s.n ≤ g → s.H g = none → K g (g + 1)
theorem newK.mono {m : Mode} {lo : Nat} {s : AS} {K K' : Nat → Nat → Prop} (h : newK m lo s K) (hk : ∀ g n', s.H g = none → K g n' → K' g n') : newK m lo s K' := by
 unfold newK at h ⊢
 split at h
 ·exact ⟨h.1, h.2.1, fun g n' h1 h2 h3 h4 => hk g n' h2 (h.2.2 g n' h1 h2 h3 h4)⟩
 ·exact ⟨h.1, h.2.1, fun g n' h1 h2 h3 h4 => hk g n' h2 (h.2.2 g n' h1 h2 h3 h4)⟩
 ·exact ⟨h.1, h.2.1, fun g n' h1 h2 h3 h4 => hk g n' h2 (h.2.2 g n' h1 h2 h3 h4)⟩
 ·exact fun g h1 h2 => hk g _ h2 (h g h1 h2)
def hM (m : Mode) (H : A3) : A3 := match m with
 | .refs => fun _ => none
 | _ => H
def exK (gs : List Nat) (d : Option Nat) (K : AS → Prop) (s : AS) : Prop :=
 ∀ m : Nat, ∃ r n' H', KeepM gs s.H H' ∧ (∀ k ob, k < m → ob.seen = true → AU gs H' k = some ob → AU gs s.H k = some ob) ∧ K ⟨AD s.e d r, n', H'⟩
theorem exK.mono {gs : List Nat} {d : Option Nat} {K K' : AS → Prop} {s : AS} (h : exK gs d K s) (hk : ∀ s, K s → K' s) : exK gs d K' s := fun m => by
 obtain ⟨r, n', H', h1, h2, h3⟩ := h m
 exact ⟨r, n', H', h1, h2, hk _ h3⟩
def A6d (P : Program) (f : Nat) (args : List AV) (sz : Nat) (l : List AV) (el : TypeId) : Prop := ∀ n H, ACalls P f args n H fun r n' H' => (l = [] ∧ r = .sl 0 [] .nil ∧ n' = n ∧ H' = H) ∨ ∃ g, n ≤ g ∧ g < n' ∧ r = .sl sz l (.own g) ∧ H' = upd H g (some (.row el l.length))
def cpyK (P : Program) (lo : Nat) (d : Option Nat) (f : Nat) (args : List AV) (K : AS → Prop) (s : AS) : Prop :=
 lo ≤ s.n ∧ FreeH s.H ∧ ∃ sz l el, A6d P f args sz l el ∧ (l = [] → K ⟨AD s.e d (.sl 0 [] .nil), s.n, s.H⟩) ∧ ∀ g n', lo ≤ g → s.H g = none → s.n ≤ n' → g < n' → K ⟨AD s.e d (.sl sz l (.own g)), n', upd s.H g (some (.row el l.length))⟩
theorem cpyK.mono {P : Program} {lo : Nat} {d : Option Nat} {f : Nat} {args : List AV} {K K' : AS → Prop} {s : AS} (h : cpyK P lo d f args K s) (hk : ∀ s, K s → K' s) : cpyK P lo d f args K' s := by
 obtain ⟨hlo, hf, sz, l, el, hc, h0, h1⟩ := h
 exact ⟨hlo, hf, sz, l, el, hc, fun hl => hk _ (h0 hl), fun g n' q1 q2 q3 q4 => hk _ (h1 g n' q1 q2 q3 q4)⟩
def exM (P : Program) (m : Mode) (lo : Nat) (gs : List Nat) (d : Option Nat) (f : Nat) (args : List AV) (K : AS → Prop) (s : AS) (A : Prop) : Prop := match m with
 | .early => exK gs d K s ∧ A
 | .copy => cpyK P lo d f args K s
 | _ => A
def freeM (m : Mode) (lo : Nat) (s : AS) (A : Prop) : Prop := match m with
 | .free => (lo ≤ s.n ∧ FreeH s.H) ∧ A
 | _ => A
theorem exM.map {P : Program} {m : Mode} {lo : Nat} {gs : List Nat} {d : Option Nat} {f : Nat} {args args' : List AV} {K K' : AS → Prop} {s s' : AS} {A A' : Prop} (h : exM P m lo gs d f args K s A) (hk : exK gs d K s → exK gs d K' s') (hc : cpyK P lo d f args K s → cpyK P lo d f args' K' s') (ha : A → A') : exM P m lo gs d f args' K' s' A' := by
 cases m <;> first | exact ⟨hk h.1, ha h.2⟩ | exact ha h | exact hc h
theorem freeM.map {m : Mode} {lo : Nat} {s s' : AS} {A A' : Prop} (h : freeM m lo s A) (hn : s'.n = s.n) (hH : s'.H = s.H) (ha : A → A') : freeM m lo s' A' := by
 cases m <;> first | exact ⟨by rw [hn, hH]; exact h.1, ha h.2⟩ | exact ha h
theorem freeM.get {m : Mode} {lo : Nat} {s : AS} {A : Prop} (h : freeM m lo s A) : A := by
 cases m <;> first | exact h.2 | exact h
def awOM (P : Program) (m : Mode) (lo : Nat) (gs : List Nat) (o : AOper) (K : AS → Prop) (s : AS) : Prop :=
 match o with
 | ⟨d, .load sh x, g⟩ => K1 (Ox gs sh x g s.e (hM m s.H)) fun v => K ⟨AD s.e d v, s.n, s.H⟩
 | ⟨d, .alloc t z, none⟩ => ones z ∧ newK m lo s (fun g n' => K ⟨AD s.e d (.ptr g 0), n', upd s.H g (some (.cells t z))⟩)
 | ⟨d, .box t sh x, none⟩ => (ev s.e x).fits sh = true ∧ ones (ev s.e x).cells ∧ newK m lo s (fun g n' => K ⟨AD s.e d (.ptr g 0), n', upd s.H g (some (.cells t (ev s.e x).cells))⟩)
 | ⟨d, .store sh x v, none⟩ => JO m lo gs x (ev s.e x) ∧ AF P d (.store sh x v) K s
 | ⟨d, .bsl t sh xs, none⟩ => (∀ x ∈ xs, (ev s.e x).fits sh = true ∧ ones (ev s.e x).cells) ∧ newK m lo s (fun g n' => K ⟨AD s.e d (.sl (B6 sh) (xs.map (ev s.e)) (.own g)), n', upd s.H g (some (.row t xs.length))⟩)
 | ⟨d, .mget kk z ok mp k, none⟩ => K1 (pe (.mget kk z ok mp k) s.e (AU gs s.H)) fun v => K ⟨AD s.e d v, s.n, s.H⟩
 | ⟨d, .app t sz b x y, none⟩ => freeM m lo s (JW gs (ev s.e x) ∧ AF P d (.app t sz b x y) (KM gs s.H K) s)
 | ⟨d, .call f xs, none⟩ => exM P m lo gs d f (xs.map (ev s.e)) K s (AF P d (.call f xs) (KC gs s.H K) s)
 | o => awO P o K s
def A7 (P : Program) (m : Mode) (lo : Nat) (gs : List Nat) : List AOper → (AS → Prop) → AS → Prop
 | [], K, s => K s
 | o :: os, K, s => awOM P m lo gs o (A7 P m lo gs os K) s
def dryK (m : Mode) (K : AS → Prop) : AS → Prop := match m with
 | .early => fun s => (∃ k, s.n ≤ k ∧ s.H k ≠ none) ∨ K s
 | _ => K
theorem dryK.of {m : Mode} {K : AS → Prop} {s : AS} (h : K s) : dryK m K s := by
 cases m <;> first | exact h | exact .inr h
def gsM (P : Program) (m : Mode) (gs : List Nat) (ops : List AOper) (K : AS → Prop) (s : AS) : Prop := ∃ ms : List Nat, A7 P m s.n (ms ++ gs) ops (dryK m K) s
def gsK (P : Program) (m : Mode) (o : Option (List Nat)) (ops : List AOper) (K : AS → Prop) (s : AS) : Prop :=
 match o with
 | some gs => gsM P m gs ops K s
 | none => False
def guardK (want : Bool) (A B : Prop) : AV → Prop
 | .bool b => (b = want → A) ∧ (b ≠ want → B)
 | .und => B
 | _ => False
def Er (e : AH) : List AOper → AH
 | [] => e
 | o :: os => Er (AD e o.dst .und) os
def Ed (e : AH) : List AOper → AH
 | [] => e
 | o :: os => Ed (AD e o.dst .any) os
def DF : List AOper → AH → A3 → Option AH
 | [], e, _ => some e
 | o :: os, e, H => match pe o.op e H with
  | some v => DF os (AD e o.dst v) H
  | none => none
def Qt (want : Bool) (x : Nat) : AV → Option AH → Option AV
 | .bool b, some e' => match get e' x with
  | .bool b' => some (.bool (if want then b && b' else b || b'))
  | _ => none
 | .bool b, none => if b = want then none else some (.bool (!want))
 | _, _ => none
def AT (P : Program) : List Seg → (AS → Prop) → AS → Prop
 | [], K, s => K s
 | ⟨none, ops, _⟩ :: l, K, s => awOps P ops (AT P l K) s
 | ⟨some (t, want), ops, some (d, x)⟩ :: l, K, s => K1 (Qt want x (get s.e t) (DF ops s.e s.H)) fun v => AT P l K ⟨put (Ed s.e ops) d v, s.n, s.H⟩
 | ⟨some (t, want), ops, none⟩ :: l, K, s => guardK want (awOps P ops (AT P l K) s) (AT P l K ⟨Er s.e ops, s.n, s.H⟩) (get s.e t)
def Ef (X : AS → Prop) (Q : AExit → AS → Prop) : AExit → AS → Prop
 | .normal, s => X s
 | e, s => Q e s
def FS (id : Nat) (Q : AExit → AS → Prop) : AExit → AS → Prop
 | .exit i, s => if i = id then Q .normal s else Q (.exit i) s
 | e, s => Q e s
def EO (A B : Prop) : AV → Prop
 | .bool b => (b = true → A) ∧ (b = false → B)
 | .ub => A ∧ B
 | _ => False
def D9 (e : AH) (ks : List Nat) : AH := ks.map fun k => (k, get e k)
def PI (ks : List Nat) (Q : AExit → AS → Prop) : AExit → AS → Prop
 | .normal, s => Q .normal ⟨D9 s.e ks, s.n, s.H⟩
 | e, s => Q e s
def LoopK (B : (AExit → AS → Prop) → AS → Prop) (Q : AExit → AS → Prop) (s : AS) : Prop := ∀ X : AS → Prop, (∀ s, B (Ef X Q) s → X s) → X s
def aw (P : Program) : ACode → (AExit → AS → Prop) → AS → Prop
 | .skip, Q, s => Q .normal s
 | .reg ops, Q, s => awOps P ops (Q .normal) s
 | .regD m S ops, Q, s => gsK P m (Rm s.e S) ops (Q .normal) s
 | .segs l, Q, s => AT P l (Q .normal) s
 | .seq a b, Q, s => aw P a (Ef (aw P b Q) Q) s
 | .cond c a b, Q, s => EO (aw P a Q s) (aw P b Q s) (ev s.e c)
 | .block id c, Q, s => aw P c (FS id Q) s
 | .loop c, Q, s => LoopK (fun Q s => aw P c Q s) Q s
 | .exit id, Q, s => Q (.exit id) s
 | .ret, Q, s => Q .ret s
 | .bad, _, _ => False
 | .kp ks c, Q, s => aw P c Q ⟨D9 s.e ks, s.n, s.H⟩
 | .ke ks c, Q, s => aw P c (PI ks Q) s
 | .gh c, Q, s => aw P c Q s ∨ ∃ (ks : List Nat) (g e sz : Nat) (l : List AV), s.H g = some (.grow e (AG l)) ∧ BJ P e = sz ∧ 0 < sz ∧ (∀ x ∈ l, x.cells.length = sz) ∧ aw P c Q ⟨A07 g sz l s.e, s.n, NR ks g sz l s.H⟩
/-! ### more is asked of less -/
theorem K1.mono {o : Option AV} {k k' : AV → Prop} (h : K1 o k) (hk : ∀ v, k v → k' v) : K1 o k' := by
 cases o with
 | none => exact h
 | some v => exact hk v h
theorem CallK.mono {P : Program} {f : Nat} {args : List AV} {d : Option Nat} {K K' : AS → Prop} {s : AS} (h : CallK P f args d K s) (hk : ∀ s, K s → K' s) : CallK P f args d K' s := by
 obtain ⟨R, h1, h2⟩ := h
 exact ⟨R, h1, fun r n' H' h3 h4 h5 => hk _ (h2 r n' H' h3 h4 h5)⟩
theorem CallP.mono {P : Program} {f : Nat} {args : List AV} {d : Option Nat} {K K' : AS → Prop} {s : AS} (h : CallP P f args d K s) (hk : ∀ s, K s → K' s) : CallP P f args d K' s := by
 obtain ⟨args', v, h1, hs, h2⟩ := h
 exact ⟨args', v, h1, hs, hk _ h2⟩
theorem MY {e sz by_ : Nat} {d : Option Nat} {K K' : AS → Prop} {s : AS} {e' : AH} {x : AV} {m : List AV} (h : K4 e sz by_ d K s x m) (hk : ∀ r n' H', K ⟨AD s.e d r, n', H'⟩ → K' ⟨AD e' d r, n', H'⟩) : K4 e sz by_ d K' ⟨e', s.n, s.H⟩ x m := by
 unfold K4 at h ⊢
 split at h
 ·refine ⟨h.1, h.2.1, ?_⟩
  have h4 := h.2.2
  split at h4
  ·exact ⟨fun hm => hk _ _ _ (h4.1 hm), fun hm => (h4.2 hm).imp (fun h g hg => hk _ _ _ (h g hg)) (fun h g hg => hk _ _ _ (h g hg))⟩
  ·exact ⟨h4.1, h4.2.1, fun g n' h1 h2 h3 => hk _ _ _ (h4.2.2 g n' h1 h2 h3)⟩
  ·exact h4
 ·refine ⟨h.1, h.2.1, h.2.2.1, ?_⟩
  have h4 := h.2.2.2
  rename_i z0 g0 k0
  show M6 e sz by_ d K' ⟨e', s.n, s.H⟩ g0 k0 m (s.H g0)
  generalize s.H g0 = ob at h4 ⊢
  unfold M6 at h4 ⊢
  split at h4
  ·exact ⟨h4.1, h4.2.1, fun g n' h1 h2 h3 => hk _ _ _ (h4.2.2 g n' h1 h2 h3)⟩
  ·exact h4
 ·exact h
theorem RF {e sz by_ : Nat} {d : Option Nat} {K K' : AS → Prop} {s : AS} {x : AV} {m : List AV} (h : K4 e sz by_ d K s x m) (hk : ∀ s, K s → K' s) : K4 e sz by_ d K' s x m :=
 MY (e' := s.e) h fun _ _ _ h' => hk _ h'
theorem DT {P : Program} {d : Option Nat} {op : AOp} {K K' : AS → Prop} {s : AS} (h : AF P d op K s) (hk : ∀ s, K s → K' s) : AF P d op K' s := by
 cases op <;> simp only [AF] at h ⊢ <;> first
  | exact K1.mono h fun v hv => hk _ hv
  | exact ⟨h.1, fun g hg => hk _ (h.2 g hg)⟩
  | exact ⟨h.1, h.2.1, fun g hg => hk _ (h.2.2 g hg)⟩
  | exact h.mono hk
  | skip
 case store sh x v =>
  unfold Cz at h ⊢
  split at h
  ·split at h
   ·exact ⟨h.1, h.2.1, h.2.2.1, hk _ h.2.2.2⟩
   ·exact ⟨h.1, h.2.1, h.2.2.1, hk _ h.2.2.2⟩
   ·exact h
  ·exact h
 case app e sz by_ x y =>
  unfold appKS at h ⊢
  split at h
  ·obtain ⟨h1, m', h2, h3⟩ := h
   exact ⟨h1, m', h2, RF h3 hk⟩
  ·exact h
 case appB e by_ x y =>
  unfold QF at h ⊢
  split at h
  ·exact RF h hk
  ·exact h
 case s2b e x =>
  split at h
  ·exact ⟨h.1, fun n' hn => hk _ (h.2 n' hn)⟩
  ·exact h
 case s2s x =>
  split at h
  ·exact ⟨h.1, hk _ h.2⟩
  ·exact h
 case mkmap kk => exact fun g hg => hk _ (h g hg)
 case bsl e sh xs => exact ⟨h.1, h.2.imp (fun h g hg => hk _ (h g hg)) (fun h g hg => hk _ (h g hg))⟩
 case mset kk m k v =>
  unfold Ds at h ⊢
  split at h
  ·split at h
   ·exact ⟨h.1, h.2.1, hk _ h.2.2⟩
   ·exact h
  ·exact h
 case mksl el b z x y =>
  unfold N5 at h ⊢
  split at h
  ·exact ⟨h.1, h.2.1, h.2.2.1, h.2.2.2.1, fun g hg => hk _ (h.2.2.2.2 g hg)⟩
  ·exact h
 case rng x =>
  unfold Ra at h ⊢
  split at h
  ·split at h
   ·exact fun g hg => hk _ (h g hg)
   ·exact h
  ·exact h
 case nxt x =>
  unfold Rk at h ⊢
  split at h
  ·refine ⟨h.1, ?_⟩
   have h := h.2
   split at h
   ·split at h
    ·exact ⟨h.1, fun h0 => hk _ (h.2.1 h0), fun j hj k v hv => hk _ (h.2.2 j hj k v hv)⟩
    ·exact h
   ·exact h
  ·exact h
 case callv x xs =>
  split at h
  ·exact ⟨h.1, h.2.mono hk⟩
  ·exact h
theorem IJ {P : Program} {o : AOper} {K K' : AS → Prop} {s : AS} (h : awO P o K s) (hk : ∀ s, K s → K' s) : awO P o K' s := by
 unfold awO at h ⊢
 split at h
 ·exact DT h hk
 ·split at h
  ·exact ⟨fun hb => DT (h.1 hb) hk, fun hb => hk _ (h.2 hb)⟩
  ·exact hk _ h
  ·exact h
theorem Eu {P : Program} {os : List AOper} {K K' : AS → Prop} {s : AS} (h : awOps P os K s) (hk : ∀ s, K s → K' s) : awOps P os K' s := by
 induction os generalizing s with
 | nil => exact hk _ h
 | cons o os ih => exact IJ h fun s' h' => ih h'
theorem Mo {P : Program} {m : Mode} {lo : Nat} {gs : List Nat} {o : AOper} {K K' : AS → Prop} {s : AS} (h : awOM P m lo gs o K s) (hk : ∀ s, K s → K' s) : awOM P m lo gs o K' s := by
 unfold awOM at h ⊢
 split at h
 ·exact K1.mono h fun v hv => hk _ hv
 ·exact ⟨h.1, h.2.mono fun g n' _ h => hk _ h⟩
 ·exact ⟨h.1, h.2.1, h.2.2.mono fun g n' _ h => hk _ h⟩
 ·exact ⟨h.1, DT h.2 hk⟩
 ·exact ⟨h.1, h.2.mono fun g n' _ h => hk _ h⟩
 ·exact K1.mono h fun v hv => hk _ hv
 ·exact h.map rfl rfl fun h => ⟨h.1, DT h.2 fun s' h' hm => hk _ (h' hm)⟩
 ·exact h.map (fun h => h.mono hk) (fun h => h.mono hk) fun h => DT h fun s' h' => ⟨h'.1, hk _ h'.2⟩
 ·exact IJ h hk
theorem dryK.mono {m : Mode} {K K' : AS → Prop} {s : AS} (h : dryK m K s) (hk : ∀ s, K s → K' s) : dryK m K' s := by
 cases m <;> first | exact hk _ h | exact h.imp id (hk _)
theorem Gi {P : Program} {m : Mode} {lo : Nat} {gs : List Nat} {os : List AOper} {K K' : AS → Prop} {s : AS} (h : A7 P m lo gs os K s) (hk : ∀ s, K s → K' s) : A7 P m lo gs os K' s := by
 induction os generalizing s with
 | nil => exact hk _ h
 | cons o os ih => exact Mo h fun s' h' => ih h'
theorem gsK.mono {P : Program} {m : Mode} {o : Option (List Nat)} {os : List AOper} {K K' : AS → Prop} {s : AS} (h : gsK P m o os K s) (hk : ∀ s, K s → K' s) : gsK P m o os K' s := by
 cases o with
 | none => exact h
 | some gs => obtain ⟨ms, h⟩ := h; exact ⟨ms, Gi h fun s h => h.mono hk⟩
theorem guardK.mono {want : Bool} {A B A' B' : Prop} {v : AV} (h : guardK want A B v) (ha : A → A') (hb : B → B') : guardK want A' B' v := by
 unfold guardK at h ⊢
 split at h
 ·exact ⟨fun e => ha (h.1 e), fun e => hb (h.2 e)⟩
 ·exact hb h
 ·exact h
theorem NI {P : Program} {l : List Seg} {K K' : AS → Prop} {s : AS} (h : AT P l K s) (hk : ∀ s, K s → K' s) : AT P l K' s := by
 induction l generalizing s with
 | nil => exact hk _ h
 | cons o os ih =>
  obtain ⟨g, ops, pk⟩ := o
  cases g with
  | none => exact Eu h fun s' h' => ih h'
  | some gw =>
   cases pk with
   | none => exact guardK.mono h (fun h => Eu h fun s' h' => ih h') ih
   | some dx => exact K1.mono h fun v hv => ih hv
theorem P4 {P : Program} {c : ACode} {Q Q' : AExit → AS → Prop} {s : AS} (h : aw P c Q s) (hq : ∀ e s, Q e s → Q' e s) : aw P c Q' s := by
 induction c generalizing Q Q' s with
 | skip => exact hq _ _ h
 | reg ops => exact Eu h (hq _)
 | regD m S ops => exact gsK.mono h (hq _)
 | segs l => exact NI h (hq _)
 | seq a b iha ihb =>
  exact iha h fun e s' h' => by
   cases e with
   | normal => exact ihb h' hq
   | _ => exact hq _ _ h'
 | cond c a b iha ihb =>
  simp only [aw] at h ⊢
  unfold EO at h ⊢
  split at h
  ·exact ⟨fun hb => iha (h.1 hb) hq, fun hb => ihb (h.2 hb) hq⟩
  ·exact ⟨iha h.1 hq, ihb h.2 hq⟩
  ·exact h
 | block id c ih =>
  exact ih h fun e s' h' => by
   cases e with
   | exit i => simp only [FS] at h' ⊢; split <;> (rename_i hi; simp only [hi, if_true, if_false] at h'; exact hq _ _ h')
   | _ => exact hq _ _ h'
 | loop c ih =>
  exact fun X hX => h X fun s' h' => hX s' (ih h' fun e s'' h'' => by
   cases e with
   | normal => exact h''
   | _ => exact hq _ _ h'')
 | exit id => exact hq _ _ h
 | ret => exact hq _ _ h
 | bad => exact h
 | kp ks c ih => exact ih h hq
 | ke ks c ih =>
  exact ih h fun e s' h' => by
   cases e with
   | normal => exact hq _ _ h'
   | _ => exact hq _ _ h'
 | gh c ih => exact h.imp (fun h => ih h hq) fun ⟨ks, g, e, sz, l, h1, h2, h3, h4, h5⟩ => ⟨ks, g, e, sz, l, h1, h2, h3, h4, ih h5 hq⟩
theorem LoopK.round {P : Program} {c : ACode} {Q : AExit → AS → Prop} {s : AS} (h : aw P c (Ef (LoopK (fun Q s => aw P c Q s) Q) Q) s) : LoopK (fun Q s => aw P c Q s) Q s :=
 fun X hX => hX s (P4 h fun e s' h' => by
  cases e with
  | normal => exact h' X hX
  | _ => exact h')
theorem LoopK.inv {P : Program} {c : ACode} {Q : AExit → AS → Prop} {s : AS} (I : Nat → AS → Prop) (m : Nat) (h0 : I m s)
  (round : ∀ m s, I m s → aw P c (Ef (fun s' => ∃ m', m' < m ∧ I m' s') Q) s) : LoopK (fun Q s => aw P c Q s) Q s := by
 induction m using Nat.strongRecOn generalizing s with
 | _ m ih =>
  exact LoopK.round (P4 (round m s h0) fun e s' h' => by
   cases e with
   | normal => obtain ⟨m', hm, hi⟩ := h'; exact ih m' hm hi
   | _ => exact h')
theorem LoopK.go {P : Program} {c : ACode} {Q : AExit → AS → Prop} {s : AS} (I : Nat → AS → Prop) (m : Nat) (h0 : I m s)
  (round : ∀ m s, I m s → ∀ J : AS → Prop, (∀ m' s', m' < m → I m' s' → J s') → aw P c (Ef J Q) s) : LoopK (fun Q s => aw P c Q s) Q s :=
 LoopK.inv I m h0 fun m s hi => round m s hi _ fun m' s' h1 h2 => ⟨m', h1, h2⟩
def IH : String := match Extern.AbiNoEscape.rows with | x :: _ => x.1 | [] => ""
def cv0 : Value → Option AV
 | .bool b => some (.bool b)
 | .int k n => some (.int k n)
 | .string s => some (.str s.data.toList)
 | .slice none 0 0 => some (.sl 0 [] .nil)
 | .pointer none => some .np
 | .nilFunc => some .nfn
 | .map none => some .nmp
 | .nilIface => some .nif
 | _ => none
def cvL : List Value → Option (List AV)
 | [] => some []
 | v :: vs => match cv0 v, cvL vs with | some x, some xs => some (x :: xs) | _, _ => none
def cv : Value → Option AV
 | .agg cs => (cvL cs.toList).map .agg
 | v => cv0 v
def FF : Operand → Option Opd
 | .tmp t => some (.t t)
 | .const v => (cv v).map .c
 | .func f => some (.c (.fn f [] []))
 | .global _ => none
def Qb : List Operand → Option (List Opd)
 | [] => some []
 | x :: xs => match FF x, Qb xs with | some a, some as => some (a :: as) | _, _ => none
def Pr (P : Program) (k : TypeId) : Option (Option IntKind) := match P.underlying k with
 | some (.int kk) => some (some kk)
 | some .string => some none
 | _ => none
def shp (P : Program) (t : TypeId) : Option Cm :=
 match P.underlying t with
 | some (.struct _) | some (.array _ _) => some (some (BJ P t))
 | some _ => some none
 | none => none
def DS (P : Program) (t : TypeId) : Option Cm :=
 match shp P t with
 | some s => if B6 s = BJ P t ∧ 0 < BJ P t ∧ (P.info? t).isSome then some s else none
 | none => none
def zeroOf (P : Program) (t : TypeId) : Option (List AV) :=
 match (P.info? t).bind (·.zero) with
 | some z => cvL z.cells.toList
 | none => none
def PO (P : Program) (fields : Array Field) : List (Nat × Operand) → Option (List (Nat × Cm × Opd))
 | [] => some []
 | (i, x) :: ps => match fields[i]?, FF x, PO P fields ps with
  | some f, some a, some r => match DS P f.type with | some s => some ((f.offset, s, a) :: r) | none => none
  | _, _, _ => none
def Q1 (e : Cm) (size : Nat) : List (Nat × Operand) → Option (List (Nat × Cm × Opd))
 | [] => some []
 | (i, x) :: ps => match FF x, Q1 e size ps with
  | some a, some r => some ((i * size, e, a) :: r)
  | _, _ => none
def Kt (i : Nat) : List (Nat × Operand) → Option (List Opd)
 | [] => some []
 | (j, x) :: ps => if j = i then (match FF x, Kt (i + 1) ps with | some a, some r => some (a :: r) | _, _ => none) else none
def EU (P : Program) : Nat → List Field → Option (List FK)
 | _, [] => some []
 | i, f :: fs => if f.offset = i ∧ f.name ≠ "_" then
   (match P.underlying f.type, EU P (i + 1) fs with
   | some (.int _), some ks => some (.i :: ks)
   | some .bool, some ks => some (.b :: ks)
   | some .string, some ks => some (.s :: ks)
   | _, _ => none) else none
def Gm (P : Program) (t : TypeId) (fs : Array Field) : Option (List FK) :=
 if P.stoodInHeld t = false ∧ P.eqGuardType P.depth t = false then EU P 0 fs.toList else none
def Po : Option Operand → Option (Option Opd)
 | none => some none
 | some x => (FF x).map some
def A1o (P : Program) (u : TypeId) : Bool := match P.underlying u with | some .string => true | _ => false
def Hi (P : Program) : Builtin → List Operand → List TypeId → Option AOp
 | .len, [x], [t] => match P.underlying t, FF x with
  | some .string, some x => some (.lenS x)
  | some (.slice _), some x => some (.len x)
  | some (.array n _), some _ => some (.clen n)
  | _, _ => none
 | .append, [x, y], [t, u] => match P.underlying t, FF x, FF y with
  | some (.slice e), some x, some y => match P.info? e with
   | some i => if 0 < i.size ∧ (i.zero.map fun z => z.cells.size) = some i.size then (if u = t then some (.app e i.size i.bytes x y) else if A1o P u = true ∧ i.size = 1 then some (.appB e i.bytes x y) else none) else none
   | none => none
  | _, _, _ => none
 | .unsafeSliceData, [x], [t] => match P.underlying t, FF x with
  | some (.slice e), some x => some (.usd e x)
  | _, _ => none
 | .unsafeString, [x, n], [t, _] => match P.underlying t, FF x, FF n with
  | some (.pointer e), some x, some n => if P.cellsOf e = 1 ∧ (P.info? e).isSome then some (.ust e x n) else none
  | _, _, _ => none
 | .max, [x, y], [_, _] => match FF x, FF y with
  | some x, some y => some (.mm true x y)
  | _, _ => none
 | .min, [x, y], [_, _] => match FF x, FF y with
  | some x, some y => some (.mm false x y)
  | _, _ => none
 | _, _, _ => none
def Vg (P : Program) (ef : List Nat) (c : Call) : Option AOp :=
 match c.callee with
 | .value (.func f) => match Qb c.args.toList with
  | some xs => match P.funcs[f]? with
   | some fn => if fn.body.isSome && fn.name != "runtime.NumGoroutine" then some (if ef.contains f then .call f xs else .callp f xs) else (match xs with | [x] => if fn.body.isNone && fn.name == IH && fn.origin == "" then some (.mv x) else none | _ => none)
   | none => none
  | none => none
 | .value (.tmp t) => match Qb c.args.toList with | some xs => some (.callv (.t t) xs) | none => none
 | .builtin b => Hi P b c.args.toList c.argTypes.toList
 | _ => none
def SS (P : Program) (el : TypeId) (op : BinOp) (y : Operand) (x' y' : Opd) : Option AOp :=
 match op, y with
 | .eql, .const (.pointer none) => some (.eqp false x')
 | .neq, .const (.pointer none) => some (.eqp true x')
 | .eql, .tmp _ => if (P.info? el).isSome ∧ BJ P el ≠ 0 then some (.eqpp false x' y') else none
 | .neq, .tmp _ => if (P.info? el).isSome ∧ BJ P el ≠ 0 then some (.eqpp true x' y') else none
 | _, _ => none
def cOp (P : Program) (ef : List Nat) (op : Op) : Option AOp :=
 match op with
 | .move x | .assign x => (FF x).map .mv
 | .pick c a b => match FF c, FF a, FF b with | some c, some a, some b => some (.pick c a b) | _, _, _ => none
 | .alloc e => match zeroOf P e with | some z => some (.alloc e z) | none => none
 | .box e x => match DS P e, FF x with | some s, some x => some (.box e s x) | _, _ => none
 | .build t ps => match P.underlying t, zeroOf P t with
  | some (.struct fs), some z => if (fs.toList.mapM (fun f => (P.info? f.type).map fun i => (f.offset, i.size))).isSome then (PO P fs ps.toList).map (.build z) else none
  | some (.array _ e), some z => match DS P e with | some s => (Q1 s (BJ P e) ps.toList).map (.build z) | none => none
  | _, _ => none
 | .buildSlice t len ps => match P.underlying t with
  | some (.slice e) => match DS P e, Kt 0 ps.toList with
   | some s, some xs => if xs.length = len ∧ len * BJ P e ≤ 1000 ∧ (len = 0 ∨ ((P.info? e).bind (·.zero)).isSome) then some (.bsl e s xs) else none
   | _, _ => none
  | _ => none
 | .load t a => match DS P t, FF a with | some s, some a => some (.load s a) | _, _ => none
 | .store t a x => match DS P t, FF a, FF x with | some s, some a, some x => some (.store s a x) | _, _, _ => none
 | .nilCheck x => (FF x).map .nilck
 | .binOp op t x y _ => match FF x, FF y with
  | some x', some y' => match P.underlying t with
   | some (.int _) | some .string => some (.bin op x' y')
   | some .bool => match op with | .eql => some (.eqb false x' y') | .neq => some (.eqb true x' y') | _ => none
   | some (.slice _) => match op, y with | .eql, .const (.slice none 0 0) => some (.eqn false x') | .neq, .const (.slice none 0 0) => some (.eqn true x') | _, _ => none
   | some (.pointer el) => SS P el op y x' y'
   | some (.interface _) => match op, y with | .eql, .const .nilIface => some (.eqi false x') | .neq, .const .nilIface => some (.eqi true x') | _, _ => none
   | some (.struct fs) => match Gm P t fs, op with | some ks, .eql => some (.eqs ks false x' y') | some ks, .neq => some (.eqs ks true x' y') | _, _ => none
   | _ => none
  | _, _ => none
 | .unOp .neg _ x => (FF x).map .neg
 | .unOp .not _ x => (FF x).map .not
 | .convert src dst x => match FF x, P.underlying src, P.underlying dst with
  | some x, some (.int _), some (.int k) => some (.cvi k x)
  | some x, some (.int _), some .string => some (.r2s x)
  | some x, some (.slice e), some .string => match P.underlying e with | some (.int .u8) => some (.b2s x) | _ => none
  | some x, some (.pointer t), some .unsafePointer => if (P.info? t).isSome ∧ BJ P t ≠ 0 then some (.upc x) else none
  | some x, some .unsafePointer, some (.pointer u) => if (P.info? u).isSome ∧ BJ P u ≠ 0 then some (.updn u x) else none
  | some x, some .string, some (.slice e) => match P.underlying e with | some (.int .u8) => some (.s2b e x) | _ => none
  | some x, some (.slice e), some (.slice _) => match P.underlying e with | some (.int .u8) => if src = dst then some (.s2s x) else none | _ => none
  | _, _, _ => none
 | .makeMap t none => match P.underlying t with | some (.map k _) => (Pr P k).map .mkmap | _ => none
 | .lookup t x ix ok => match P.underlying t, FF x, FF ix with
  | some (.map k el), some x, some ix => match Pr P k, (P.info? el).bind (·.zero) with
   | some kk, some z => (cv z).map fun z => .mget kk z ok x ix
   | _, _ => none
  | _, _, _ => none
 | .mapUpdate t m k x | .insert t m k x => match P.underlying t, FF m, FF k, FF x with
  | some (.map kt _), some m, some k, some x => (Pr P kt).map fun kk => .mset kk m k x
  | _, _, _, _ => none
 | .makeFunc (.func f) a b => match Qb a.toList, Qb b.toList with | some a, some b => some (.mkfn f a b) | _, _ => none
 | .slice t x lo hi none => match P.underlying t, FF x, Po lo, Po hi with
  | some .string, some x, some lo, some hi => some (.cutS x lo hi)
  | some (.slice e), some x, some lo, some hi => if (P.info? e).isSome then some (.cut (BJ P e) x lo hi) else none
  | _, _, _, _ => none
 | .fieldAddr s x f => match P.underlying s, FF x with
  | some (.struct fs), some x => match fs[f]? with
   | some fd => match DS P fd.type with | some sh => some (.faddr x fd.offset sh) | none => none
   | none => none
  | _, _ => none
 | .field s x f => match P.underlying s, FF x with
  | some (.struct fs), some x => match fs[f]? with
   | some fd => match DS P fd.type with | some sh => some (.field x fd.offset sh) | none => none
   | none => none
  | _, _ => none
 | .indexAddr t x i => match P.underlying t, FF x, FF i with
  | some (.slice e), some x, some i => match DS P e with | some s => some (.iaddr (BJ P e) s x i) | none => none
  | some (.array len e), some x, some i => match DS P e with | some s => some (.aaddr len (BJ P e) s x i) | none => none
  | _, _, _ => none
 | .index t x i => match P.underlying t, FF x, FF i with
  | some .string, some x, some i => some (.sidx x i)
  | some (.array len e), some x, some i => match DS P e with | some s => some (.aidx len (BJ P e) s x i) | none => none
  | _, _, _ => none
 | .extract x i => (FF x).map fun x => .extr x i
 | .call c => Vg P ef c
 | .defer c => match c.callee with
  | .value (.tmp t) => (Qb c.args.toList).map (.dfr (.t t))
  | _ => none
 | .range t x => match P.underlying t, FF x with | some (.map _ _), some x => some (.rng x) | _, _ => none
 | .next x false => (FF x).map .nxt
 | .entry x => (FF x).map .ent
 | .makeSlice t l c => match P.underlying t, FF l, FF c with
  | some (.slice e), some x, some y => match zeroOf P e, P.info? e with
   | some [z], some i => if i.size = 1 then some (.mksl e i.bytes z x y) else none
   | _, _ => none
  | _, _, _ => none
 | _ => none
def A1j (nt : Nat) : Option Nat → Bool
 | some d => decide (d < nt)
 | none => true
def IL (P : Program) (ef : List Nat) (ops : Array Oper) (nt : Nat) (o : Oper) : Option AOper :=
 match cOp P ef o.op with
 | some op => if A1j nt o.dst = true then
  (match o.guard with
  | none => some ⟨o.dst, op, none⟩
  | some (j, want) => match (ops[j]?).bind (·.dst) with
   | some t => some ⟨o.dst, op, some (t, want)⟩
   | none => none) else none
 | none => some ⟨none, .nope, none⟩
def Dz (P : Program) (ef : List Nat) (ops : Array Oper) (nt : Nat) : List Oper → Option (List AOper)
 | [] => some []
 | o :: os => match IL P ef ops nt o, Dz P ef ops nt os with | some a, some as => some (a :: as) | _, _ => none
inductive Cls where | pure | rd | eff
def AOp.cls : AOp → Cls
 | .load _ _ | .upc _ | .updn _ _ | .usd _ _ | .mget _ _ _ _ _ | .ent _ => .rd
 | .alloc _ _ | .box _ _ _ | .store _ _ _ | .bsl _ _ _ | .app _ _ _ _ _ | .appB _ _ _ _ | .s2b _ _ | .s2s _ | .mkmap _ | .mset _ _ _ _ | .mksl _ _ _ _ _ | .rng _ | .nxt _ | .call _ _ | .callv _ _ => .eff
 | _ => .pure
def Cls.comm : Cls → Cls → Bool
 | .pure, _ => true
 | .rd, .pure | .rd, .rd => true
 | _, _ => false
def Opd.use : Opd → List Nat
 | .t i => [i]
 | .c _ => []
def A2w : Option Opd → List Nat
 | some x => x.use
 | none => []
def Qi : List Opd → List Nat
 | [] => []
 | x :: xs => x.use ++ Qi xs
def Zq : List (Nat × Cm × Opd) → List Nat
 | [] => []
 | x :: xs => x.2.2.use ++ Zq xs
def AOp.uses : AOp → List Nat
 | .mv x | .neg x | .not x | .cvi _ x | .faddr x _ _ | .field x _ _ | .len x | .lenS x | .extr x _ | .nilck x | .load _ x | .b2s x | .r2s x | .box _ _ x | .s2b _ x | .s2s x | .eqn _ x | .eqp _ x | .eqi _ x | .upc x | .updn _ x | .usd _ x | .rng x | .nxt x | .ent x => x.use
 | .pick c a b => c.use ++ a.use ++ b.use
 | .bin _ x y | .eqpp _ x y | .ust _ x y | .eqs _ _ x y | .eqb _ x y | .iaddr _ _ x y | .aaddr _ _ _ x y | .sidx x y | .aidx _ _ _ x y | .mm _ x y | .store _ x y | .app _ _ _ x y | .appB _ _ x y | .mksl _ _ _ x y => x.use ++ y.use
 | .mkfn _ a b => Qi a ++ Qi b
 | .cut _ x lo hi | .cutS x lo hi => x.use ++ A2w lo ++ A2w hi
 | .mget _ _ _ x y => x.use ++ y.use
 | .mset _ m k v => m.use ++ k.use ++ v.use
 | .clen _ | .alloc _ _ | .mkmap _ | .nope => []
 | .build _ ps => Zq ps
 | .bsl _ _ xs | .call _ xs | .callp _ xs => Qi xs
 | .callv f xs => f.use ++ Qi xs
 | .dfr f xs => f.use ++ Qi xs
def AOper.uses (o : AOper) : List Nat := o.op.uses ++ (match o.guard with | some (t, _) => [t] | none => [])
def D7 (x y : AOper) : Bool :=
 (match x.dst with | some d => !y.uses.contains d && (match y.dst with | some d' => d != d' | none => true) | none => true) &&
 (match y.dst with | some d => !x.uses.contains d | none => true)
def U7 (P : Program) (ef : List Nat) (ops : Array Oper) (nt : Nat) : Bool :=
 let b := Region.before ops
 P.follows .mixedOrders &&
 ops.toList.zipIdx.all (fun (o, i) => o.after.all fun e => !Region.binds .any e || decide (e.on < i)) &&
 ops.toList.zipIdx.all fun (y, j) => ops.toList.zipIdx.all fun (x, i) =>
  decide (j ≤ i) || (b.getD j 0).testBit i ||
   (match IL P ef ops nt x, IL P ef ops nt y with | some a, some c => D7 a c && a.op.cls.comm c.op.cls | _, _ => false)
def AOp.pureC (op : AOp) : Bool := match op.cls with | .pure => true | _ => false
def AOp.calcC (op : AOp) : Bool := match op with
 | .callp _ _ => false
 | op => op.pureC
def AOper.late (md : Mode) (x y : AOper) : Bool := match x, y with
 | ⟨_, .load _ _, _⟩, ⟨_, .alloc _ _, none⟩ => true
 | ⟨_, .load _ _, _⟩, ⟨_, .box _ _ _, none⟩ => true
 | ⟨_, .load _ _, _⟩, ⟨_, .store _ _ _, none⟩ => (match md with | .late => true | .refs => true | _ => false)
 | ⟨_, .load _ _, _⟩, ⟨_, .bsl _ _ _, none⟩ => true
 | ⟨_, .load _ _, _⟩, ⟨_, .app _ _ _ _ _, none⟩ => true
 | ⟨_, .load _ _, _⟩, ⟨_, .call _ _, none⟩ => true
 | ⟨_, .mget _ _ _ _ _, none⟩, ⟨_, .alloc _ _, none⟩ => true
 | ⟨_, .mget _ _ _ _ _, none⟩, ⟨_, .store _ _ _, none⟩ => (match md with | .late => true | _ => false)
 | ⟨_, .mget _ _ _ _ _, none⟩, ⟨_, .bsl _ _ _, none⟩ => true
 | ⟨_, .mget _ _ _ _ _, none⟩, ⟨_, .app _ _ _ _ _, none⟩ => true
 | ⟨_, .mget _ _ _ _ _, none⟩, ⟨_, .call _ _, none⟩ => true
 | ⟨_, .store _ (.t i) _, none⟩, ⟨_, .store _ (.t j) _, none⟩ => (match md with | .last q => i != q && j == q | _ => false)
 | ⟨_, .alloc _ _, none⟩, ⟨_, .alloc _ _, none⟩ => (match md with | .free => true | .refs => true | _ => false)
 | ⟨_, .alloc _ _, none⟩, ⟨_, .bsl _ _ _, none⟩ => (match md with | .free => true | .refs => true | _ => false)
 | ⟨_, .bsl _ _ _, none⟩, ⟨_, .alloc _ _, none⟩ => (match md with | .free => true | .refs => true | _ => false)
 | ⟨_, .bsl _ _ _, none⟩, ⟨_, .bsl _ _ _, none⟩ => (match md with | .free => true | .refs => true | _ => false)
 | ⟨_, .alloc _ _, none⟩, ⟨_, .load _ _, _⟩ => (match md with | .free => true | _ => false)
 | ⟨_, .bsl _ _ _, none⟩, ⟨_, .load _ _, _⟩ => (match md with | .free => true | _ => false)
 | ⟨_, .store _ _ _, none⟩, y => y.op.pureC
 | ⟨_, .call _ _, none⟩, ⟨_, .load _ _, _⟩ => (match md with | .early => true | .copy => true | _ => false)
 | ⟨_, .call _ _, none⟩, ⟨_, .bsl _ _ _, none⟩ => (match md with | .copy => true | _ => false)
 | ⟨_, .call _ _, none⟩, y => y.op.calcC && (match md with | .early => true | .copy => true | _ => false)
 | ⟨_, .app _ _ _ _ _, none⟩, ⟨_, .load _ _, _⟩ => (match md with | .free => true | _ => false)
 | ⟨_, .app _ _ _ _ _, none⟩, ⟨_, .alloc _ _, none⟩ => (match md with | .free => true | _ => false)
 | ⟨_, .app _ _ _ _ _, none⟩, ⟨_, .bsl _ _ _, none⟩ => (match md with | .free => true | _ => false)
 | ⟨_, .app _ _ _ _ _, none⟩, y => y.op.calcC && (match md with | .free => true | _ => false)
 | ⟨_, .alloc _ _, none⟩, y => y.op.calcC && (match md with | .free => true | _ => false)
 | ⟨_, .bsl _ _ _, none⟩, y => y.op.calcC && (match md with | .free => true | _ => false)
 | _, _ => false
def Fj (P : Program) (ef : List Nat) (ops : Array Oper) (nt : Nat) (st : Mode) : Bool :=
 let b := Region.before ops
 P.follows .mixedOrders &&
 ops.toList.zipIdx.all (fun (o, i) => o.after.all fun e => !Region.binds .any e || decide (e.on < i)) &&
 ops.toList.zipIdx.all fun (y, j) => ops.toList.zipIdx.all fun (x, i) =>
  decide (j ≤ i) || (b.getD j 0).testBit i ||
   (match IL P ef ops nt x, IL P ef ops nt y with | some a, some c => D7 a c && (a.op.cls.comm c.op.cls || a.late st c) | _, _ => false)
def stT (all : List AOper) : List AOper → List Nat
 | [] => []
 | ⟨_, .store _ (.t q) _, none⟩ :: os => if all.all fun o => o.dst != some q then q :: stT all os else stT all os
 | _ :: os => stT all os
def Xz : List AOper → Nat
 | [] => 0
 | [⟨_, .store _ (.t q) _, none⟩] => q
 | _ :: os => Xz os
def RZ (P : Program) (ef : List Nat) (nt : Nat) (ops : Array Oper) (os : List AOper) : Option (Mode × List Nat) :=
 if Fj P ef ops nt .plain then some (.plain, []) else if Fj P ef ops nt .late then some (.late, stT os os) else if Fj P ef ops nt (.last (Xz os)) then some (.last (Xz os), []) else if Fj P ef ops nt .free then some (.free, []) else if Fj P ef ops nt .early then some (.early, []) else if Fj P ef ops nt .refs then some (.refs, []) else if Fj P ef ops nt .copy then some (.copy, []) else none
def AOp.isD : AOp → Bool
 | .dfr _ _ => true
 | _ => false
def A2o (os : List AOper) : Bool := os.any fun o => o.op.isD
def S9 (P : Program) (ef : List Nat) (nt : Nat) (ops : Array Oper) (draw : Bool) : Option ACode :=
 if draw && !U7 P ef ops nt then (Dz P ef ops nt ops.toList).map (fun os => match RZ P ef nt ops os with | some (m, S) => .regD m S os | none => .bad) else (Dz P ef ops nt ops.toList).map fun os => if draw && A2o os then .bad else .reg os
def Bx (P : Program) (ef : List Nat) (nt : Nat) : Code → Option ACode
 | .skip => some .skip
 | .region _ ops draw => S9 P ef nt ops draw
 | .seq a b => match Bx P ef nt a, Bx P ef nt b with | some a, some b => some (.seq a b) | _, _ => none
 | .cond c a b => match FF c, Bx P ef nt a, Bx P ef nt b with | some c, some a, some b => some (.cond c a b) | _, _, _ => none
 | .block id c => (Bx P ef nt c).map (.block id)
 | .loop c => (Bx P ef nt c).map .loop
 | .exit id => some (.exit id)
 | .ret => some .ret
 | _ => some .bad
def Seg.flat (s : Seg) : List AOper := match s.g with
 | none => s.ops
 | some gw => (s.ops.map fun o => { o with guard := some gw }) ++ (match s.pk with
  | none => []
  | some (d, x) => [⟨some d, if gw.2 then .pick (.t gw.1) (.t x) (.c (.bool false)) else .pick (.t gw.1) (.c (.bool true)) (.t x), none⟩])
def Seg.ok (s : Seg) : Bool := match s.g with
 | none => true
 | some gw => s.ops.all fun o => o.guard.isNone && o.dst != some gw.1
def Mt : List Seg → Bool
 | [] => true
 | s :: l => s.ok && (match s.g, s.pk with
  | some _, some _ => s.ops.all fun o => (match o.dst with
   | some t => !((l.flatMap Seg.flat).flatMap AOper.uses).contains t
   | none => true)
  | _, _ => true) && Mt l
def bare : ACode → ACode
 | .segs l => if Mt l then .reg (l.flatMap Seg.flat) else .kp [] .skip
 | .seq a b => .seq (bare a) (bare b)
 | .cond c a b => .cond c (bare a) (bare b)
 | .block id c => .block id (bare c)
 | .loop c => .loop (bare c)
 | .kp _ c => bare c
 | .ke _ c => bare c
 | .gh c => bare c
 | c => c
inductive ARes where | tmp (t : Nat) | cell (t : Nat) (s : Cm)
def JC (P : Program) : List ResultVar → Option (List ARes)
 | [] => some []
 | .tmp t :: rs => (JC P rs).map (.tmp t :: ·)
 | .cell t ty :: rs => match DS P ty, JC P rs with | some s, some r => some (.cell t s :: r) | _, _ => none
structure AFun where
 nargs : Nat
 nt : Nat
 res : List ARes
 code : ACode
def O7 (P : Program) (ef : List Nat) (fn : Func) : Option AFun :=
 match fn.body with
 | some c => match Bx P ef fn.ntmps c, JC P fn.results.toList with
  | some ac, some r => if fn.params.size + fn.nfree ≤ fn.ntmps then some ⟨fn.params.size + fn.nfree, fn.ntmps, r, ac⟩ else none
  | _, _ => none
 | none => none
end Go.Proofs.YtnfjgphfaemjcaaGreatDoor

/- How values in memory stand for plain data, and what stays so; no condition. -/
import Derived.Test.YtnmkpadgogbgkaaDoorAmDef
import Derived.Test.YtnmkpadgogbgkaaDoorAmTab
set_option linter.all false
set_option linter.unusedSimpArgs false
set_option linter.unusedVariables false
namespace Go.Proofs.YtnmkpadgogbgkaaDoor
open Go.RowKit

/-- cells that nothing turns any more; the capacities of the blocks of the call's own -/
structure Gh where
  I : Nat → Nat → Option Value
  cap : Nat → Option (TypeId × Nat)
structure Gh.Le (a b : Gh) : Prop where
  I : ∀ b' o v, a.I b' o = some v → b.I b' o = some v
  cap : ∀ g c, a.cap g = some c → b.cap g = some c
theorem Gh.Le.rfl_ (a : Gh) : a.Le a := ⟨fun _ _ _ h => h, fun _ _ h => h⟩
theorem Gh.Le.tr {a b c : Gh} (h : a.Le b) (k : b.Le c) : a.Le c := ⟨fun x y z h1 => k.I x y z (h.I x y z h1), fun x y h1 => k.cap x y (h.cap x y h1)⟩

def AV.one : AV → Bool
  | .agg _ | .tup _ | .dat _ _ | .any | .und => false
  | _ => true
def flatA (l : List AV) : List AV := l.flatMap AV.cells
def Sealed (G : Gh) (g off : Nat) (vs : List Value) : Prop := ∀ j u, vs[j]? = some u → G.I g (off + j) = some u
structure SlOk (sz : Nat) (l : List AV) (c : Nat) : Prop where
  cap : l.length ≤ c
  max : c ≤ maxLen
  pos : 0 < sz
  uni : ∀ x ∈ l, x.cells.length = sz
  one : ∀ x ∈ flatA l, x.one = true

mutual
inductive Rep (G : Gh) : Value → AV → Prop
  | any {v} : Rep G v .any
  | und : Rep G undef .und
  | bool {b} : Rep G (.bool b) (.bool b)
  | int {k n} : Rep G (.int k n) (.int k n)
  | str {s l} (h : s.data.toList = l) : Rep G (.string s) (.str l)
  | np : Rep G (.pointer none) .np
  | ptr {g o} : Rep G (.pointer (some ⟨g, o, none⟩)) (.ptr g o)
  | ref {g o vs x} (h : RepL G vs x.cells) (hs : Sealed G g o vs) (h1 : ∀ y ∈ x.cells, y.one = true) : Rep G (.pointer (some ⟨g, o, none⟩)) (.ref x)
  | slnil {sz} : Rep G (.slice none 0 0) (.sl sz [] .nil)
  | sl0 {A c sz} (h : c ≤ maxLen) : Rep G (.slice A 0 c) (.sl sz [] .ro)
  | slro {g off vs sz l c n} (h : RepL G vs (flatA l)) (hs : Sealed G g off vs) (ho : SlOk sz l c) (hn : n = l.length) : Rep G (.slice (some ⟨g, off, none⟩) n c) (.sl sz l .ro)
  | slown {g vs sz l c n e} (h : RepL G vs (flatA l)) (hs : Sealed G g 0 vs) (ho : SlOk sz l c) (hn : n = l.length) (hc : G.cap g = some (e, c)) : Rep G (.slice (some ⟨g, 0, none⟩) n c) (.sl sz l (.own g))
  | agg {vs cs} (h : RepL G vs cs) (h1 : ∀ x ∈ cs, x.one = true) : Rep G (.agg vs.toArray) (.agg cs)
  | fn {f a b as bs} (h : RepL G a as) (h' : RepL G b bs) : Rep G (.func (.func f) a.toArray b.toArray) (.fn f as bs)
  | nfn : Rep G .nilFunc .nfn
  | tup {vs l} (h : RepL G vs l) : Rep G (.tuple vs.toArray) (.tup l)
  | mp {g} : Rep G (.map (some g)) (.mp g)
  | nmp : Rep G (.map none) .nmp
  | ifc {t v x} (h : Rep G v x) : Rep G (.iface t v) (.ifc t x)
  | nif : Rep G .nilIface .nif
  | dat0 {A e} : Rep G (.pointer A) (.dat e [])
  | dat {g vs l e c} (h : RepL G vs (flatA l)) (hs : Sealed G g 0 vs) (hc : G.cap g = some (e, c)) : Rep G (.pointer (some ⟨g, 0, none⟩)) (.dat e l)
inductive RepL (G : Gh) : List Value → List AV → Prop
  | nil : RepL G [] []
  | cons {v x vs xs} (h : Rep G v x) (h' : RepL G vs xs) : RepL G (v :: vs) (x :: xs)
end

theorem Sealed.mono {G G' : Gh} (hl : G.Le G') {g off : Nat} {vs : List Value} (h : Sealed G g off vs) : Sealed G' g off vs := fun j u hu => hl.I _ _ _ (h j u hu)

mutual
theorem Rep.mono {G G' : Gh} (hl : G.Le G') : ∀ {v x}, Rep G v x → Rep G' v x
  | _, _, .any => .any
  | _, _, .und => .und
  | _, _, .bool => .bool
  | _, _, .int => .int
  | _, _, .str h => .str h
  | _, _, .np => .np
  | _, _, .ptr => .ptr
  | _, _, .ref h hs h1 => .ref (RepL.mono hl h) (hs.mono hl) h1
  | _, _, .slnil => .slnil
  | _, _, .sl0 h => .sl0 h
  | _, _, .slro h hs ho hn => .slro (RepL.mono hl h) (hs.mono hl) ho hn
  | _, _, .slown h hs ho hn hc => .slown (RepL.mono hl h) (hs.mono hl) ho hn (hl.cap _ _ hc)
  | _, _, .agg h h1 => .agg (RepL.mono hl h) h1
  | _, _, .fn h h' => .fn (RepL.mono hl h) (RepL.mono hl h')
  | _, _, .nfn => .nfn
  | _, _, .tup h => .tup (RepL.mono hl h)
  | _, _, .mp => .mp
  | _, _, .nmp => .nmp
  | _, _, .ifc h => .ifc (Rep.mono hl h)
  | _, _, .nif => .nif
  | _, _, .dat0 => .dat0
  | _, _, .dat h hs hc => .dat (RepL.mono hl h) (hs.mono hl) (hl.cap _ _ hc)
theorem RepL.mono {G G' : Gh} (hl : G.Le G') : ∀ {vs xs}, RepL G vs xs → RepL G' vs xs
  | _, _, .nil => .nil
  | _, _, .cons h h' => .cons (Rep.mono hl h) (RepL.mono hl h')
end

section
variable {G : Gh}
theorem RepL.len {vs : List Value} {xs : List AV} (h : RepL G vs xs) : vs.length = xs.length := by
  induction xs generalizing vs with
  | nil => cases h; rfl
  | cons x xs ih => cases h with | cons h h' => simp [ih h']
theorem RepL.at {vs : List Value} {xs : List AV} (h : RepL G vs xs) {i : Nat} {x : AV} (hx : xs[i]? = some x) : ∃ v, vs[i]? = some v ∧ Rep G v x := by
  induction xs generalizing vs i with
  | nil => simp at hx
  | cons y ys ih =>
    cases h with
    | cons h h' =>
      cases i with
      | zero => simp at hx; subst hx; exact ⟨_, rfl, h⟩
      | succ i => simp at hx; simpa using ih h' hx
theorem RepL.of {vs : List Value} {xs : List AV} (hl : vs.length = xs.length) (h : ∀ (i : Nat) (v : Value) (x : AV), vs[i]? = some v → xs[i]? = some x → Rep G v x) : RepL G vs xs := by
  induction xs generalizing vs with
  | nil => cases vs with | nil => exact .nil | cons _ _ => simp at hl
  | cons x xs ih =>
    cases vs with
    | nil => simp at hl
    | cons v vs => exact .cons (h 0 v x rfl rfl) (ih (by simpa using hl) fun i v' x' h1 h2 => h (i + 1) v' x' (by simpa using h1) (by simpa using h2))
theorem RepL.append {a b : List Value} {x y : List AV} (h : RepL G a x) (k : RepL G b y) : RepL G (a ++ b) (x ++ y) := by
  induction x generalizing a with
  | nil => cases h; exact k
  | cons _ _ ih => cases h with | cons h h' => exact .cons h (ih h')
theorem RepL.take {a : List Value} {x : List AV} (h : RepL G a x) (n : Nat) : RepL G (a.take n) (x.take n) := by
  induction x generalizing a n with
  | nil => cases h; simp; exact .nil
  | cons _ _ ih => cases h with | cons h h' => cases n with | zero => simp; exact .nil | succ n => simpa using .cons h (ih h' n)
theorem RepL.drop {a : List Value} {x : List AV} (h : RepL G a x) (n : Nat) : RepL G (a.drop n) (x.drop n) := by
  induction x generalizing a n with
  | nil => cases h; simp; exact .nil
  | cons _ _ ih => cases h with | cons h h' => cases n with | zero => simpa using .cons h h' | succ n => simpa using ih h' n
theorem RepL.map {f : Opd → Value} {g : Opd → AV} (l : List Opd) (h : ∀ o ∈ l, Rep G (f o) (g o)) : RepL G (l.map f) (l.map g) := by
  induction l with
  | nil => exact .nil
  | cons a l ih => exact .cons (h a List.mem_cons_self) (ih fun o ho => h o (List.mem_cons_of_mem _ ho))

/-- the cells of a value -/
theorem Rep.cells {v : Value} {x : AV} (h : Rep G v x) (h1 : ∀ y ∈ x.cells, y.one = true) : RepL G v.cells.toList x.cells := by
  cases h with
  | agg h _ => simpa [Value.cells, AV.cells] using h
  | any => exact absurd (h1 .any (by simp [AV.cells])) (by simp [AV.one])
  | und => exact absurd (h1 .und (by simp [AV.cells])) (by simp [AV.one])
  | tup => rename_i l _; exact absurd (h1 (.tup l) (by simp [AV.cells])) (by simp [AV.one])
  | dat0 => rename_i e; exact absurd (h1 (.dat e []) (by simp [AV.cells])) (by simp [AV.one])
  | dat => rename_i l e _ _ _ _; exact absurd (h1 (.dat e l) (by simp [AV.cells])) (by simp [AV.one])
  | _ => simp only [Value.cells, AV.cells]; exact .cons (by constructor <;> assumption) .nil
theorem Rep.one {v : Value} {x : AV} (h : Rep G v x) (h1 : x.one = true) : v.oneCell' = true := by
  cases h <;> first | rfl | (simp [AV.one] at h1)
theorem RepL.ones {vs : List Value} {xs : List AV} (h : RepL G vs xs) (h1 : ∀ x ∈ xs, x.one = true) : ∀ u ∈ vs, u.oneCell' = true := by
  induction xs generalizing vs with
  | nil => cases h; simp
  | cons x xs ih =>
    cases h with
    | cons h h' =>
      intro u hu
      rcases List.mem_cons.1 hu with rfl | hu
      · exact h.one (h1 _ List.mem_cons_self)
      · exact ih h' (fun y hy => h1 y (List.mem_cons_of_mem _ hy)) u hu
/-- whoever may append may read -/
theorem Rep.toRo {v : Value} {sz : Nat} {l : List AV} {t : Tok} (h : Rep G v (.sl sz l t)) : Rep G v (.sl sz l .ro) := by
  cases h with
  | slnil => exact .sl0 (by simp [maxLen])
  | sl0 h => exact .sl0 h
  | slro h hs ho hn => exact .slro h hs ho hn
  | slown h hs ho hn hc => exact .slro h hs ho hn

theorem simL_len : ∀ {l m : List AV}, simL l m → l.length = m.length
  | [], m, h => by simp only [simL] at h; subst h; rfl
  | x :: xs, m, h => by
    simp only [simL] at h
    obtain ⟨x', xs', rfl, _, h⟩ := h
    simp [simL_len h]
theorem simL_append : ∀ {a b a' b' : List AV}, simL a a' → simL b b' → simL (a ++ b) (a' ++ b')
  | [], b, a', b', h, k => by simp only [simL] at h; subst h; exact k
  | x :: xs, b, a', b', h, k => by
    simp only [simL] at h
    obtain ⟨x', xs', rfl, h1, h⟩ := h
    exact ⟨x', xs' ++ b', rfl, h1, simL_append h k⟩
theorem sim_cells {x y : AV} (h : simA x y) : simL x.cells y.cells := by
  cases x <;> simp only [simA] at h
  case agg l => obtain ⟨l', rfl, h⟩ := h; exact h
  case sl z l t => obtain ⟨z', l', t', rfl, h⟩ := h; exact ⟨_, [], rfl, ⟨z', l', t', rfl, h⟩, rfl⟩
  case tup l => obtain ⟨l', rfl, h⟩ := h; exact ⟨_, [], rfl, ⟨l', rfl, h⟩, rfl⟩
  case ref l => obtain ⟨l', rfl, h⟩ := h; exact ⟨_, [], rfl, ⟨l', rfl, h⟩, rfl⟩
  case ifc l => obtain ⟨l', rfl, h⟩ := h; exact ⟨_, [], rfl, ⟨l', rfl, h⟩, rfl⟩
  all_goals (subst h; exact simL_refl _)
theorem sim_one {x y : AV} (h : simA x y) : y.one = x.one := by
  cases x <;> simp only [simA] at h
  case agg l => obtain ⟨l', rfl, h⟩ := h; rfl
  case sl z l t => obtain ⟨z', l', t', rfl, h⟩ := h; rfl
  case tup l => obtain ⟨l', rfl, h⟩ := h; rfl
  case ref l => obtain ⟨l', rfl, h⟩ := h; rfl
  case ifc l => obtain ⟨l', rfl, h⟩ := h; rfl
  all_goals (subst h; rfl)
theorem sim_ones : ∀ {l m : List AV}, simL l m → (∀ x ∈ l, x.one = true) → ∀ x ∈ m, x.one = true
  | [], m, h, _ => by simp only [simL] at h; subst h; simp
  | x :: xs, m, h, h1 => by
    simp only [simL] at h
    obtain ⟨x', xs', rfl, hx, h⟩ := h
    intro y hy
    rcases List.mem_cons.1 hy with rfl | hy
    · rw [sim_one hx]; exact h1 _ List.mem_cons_self
    · exact sim_ones h (fun z hz => h1 z (List.mem_cons_of_mem _ hz)) y hy
theorem sim_uni {sz : Nat} : ∀ {l m : List AV}, simL l m → (∀ x ∈ l, x.cells.length = sz) → ∀ x ∈ m, x.cells.length = sz
  | [], m, h, _ => by simp only [simL] at h; subst h; simp
  | x :: xs, m, h, h1 => by
    simp only [simL] at h
    obtain ⟨x', xs', rfl, hx, h⟩ := h
    intro y hy
    rcases List.mem_cons.1 hy with rfl | hy
    · rw [← simL_len (sim_cells hx)]; exact h1 _ List.mem_cons_self
    · exact sim_uni h (fun z hz => h1 z (List.mem_cons_of_mem _ hz)) y hy
theorem sim_flat : ∀ {l m : List AV}, simL l m → simL (flatA l) (flatA m)
  | [], m, h => by simp only [simL] at h; subst h; exact simL_refl _
  | x :: xs, m, h => by
    simp only [simL] at h
    obtain ⟨x', xs', rfl, hx, h⟩ := h
    simp only [flatA, List.flatMap_cons]
    exact simL_append (sim_cells hx) (sim_flat h)
theorem SlOk.sim {sz : Nat} {l m : List AV} {c : Nat} (h : SlOk sz l c) (hs : simL l m) : SlOk sz m c :=
  ⟨by rw [← simL_len hs]; exact h.cap, h.max, h.pos, sim_uni hs h.uni, sim_ones (sim_flat hs) h.one⟩
mutual
theorem Rep.sim : ∀ {v x}, Rep G v x → ∀ {y}, simA x y → Rep G v y
  | _, _, .any, y, h => by simp only [simA] at h; subst h; exact .any
  | _, _, .und, y, h => by simp only [simA] at h; subst h; exact .und
  | _, _, .bool, y, h => by simp only [simA] at h; subst h; exact .bool
  | _, _, .int, y, h => by simp only [simA] at h; subst h; exact .int
  | _, _, .str k, y, h => by simp only [simA] at h; subst h; exact .str k
  | _, _, .np, y, h => by simp only [simA] at h; subst h; exact .np
  | _, _, .ptr, y, h => by simp only [simA] at h; subst h; exact .ptr
  | _, _, .ref k hs h1, y, h => by
    simp only [simA] at h
    obtain ⟨x', rfl, h⟩ := h
    exact .ref (RepL.sim k (sim_cells h)) hs (sim_ones (sim_cells h) h1)
  | _, _, .slnil, y, h => by
    simp only [simA, simL] at h
    obtain ⟨z', l', t', rfl, ht, hz, rfl⟩ := h
    rcases ht with rfl | rfl
    · exact .sl0 (by simp [maxLen])
    · exact .slnil
  | _, _, .sl0 hc, y, h => by
    simp only [simA, simL] at h
    obtain ⟨z', l', t', rfl, ht, hz, rfl⟩ := h
    rcases ht with rfl | rfl <;> exact .sl0 hc
  | _, _, .slro k hs ho hn, y, h => by
    simp only [simA] at h
    obtain ⟨z', l', t', rfl, ht, hz, h⟩ := h
    have ht : t' = .ro := by rcases ht with rfl | rfl <;> rfl
    subst ht
    rcases hz with rfl | ⟨rfl, _⟩
    · exact .slro (RepL.sim k (sim_flat h)) hs (ho.sim h) (by rw [← simL_len h]; exact hn)
    · simp only [simL] at h; subst h; subst hn; exact .sl0 ho.max
  | _, _, .slown k hs ho hn hc, y, h => by
    simp only [simA] at h
    obtain ⟨z', l', t', rfl, ht, hz, h⟩ := h
    rcases hz with rfl | ⟨rfl, rfl⟩
    · rcases ht with rfl | rfl
      · exact .slro (RepL.sim k (sim_flat h)) hs (ho.sim h) (by rw [← simL_len h]; exact hn)
      · exact .slown (RepL.sim k (sim_flat h)) hs (ho.sim h) (by rw [← simL_len h]; exact hn) hc
    · simp only [simL] at h; subst h; subst hn; exact .sl0 ho.max
  | _, _, .agg k h1, y, h => by
    simp only [simA] at h
    obtain ⟨l', rfl, h⟩ := h
    exact .agg (RepL.sim k h) (sim_ones h h1)
  | _, _, .fn k k', y, h => by simp only [simA] at h; subst h; exact .fn k k'
  | _, _, .nfn, y, h => by simp only [simA] at h; subst h; exact .nfn
  | _, _, .tup k, y, h => by
    simp only [simA] at h
    obtain ⟨l', rfl, h⟩ := h
    exact .tup (RepL.sim k h)
  | _, _, .mp, y, h => by simp only [simA] at h; subst h; exact .mp
  | _, _, .nmp, y, h => by simp only [simA] at h; subst h; exact .nmp
  | _, _, .ifc k, y, h => by
    simp only [simA] at h
    obtain ⟨l', rfl, h⟩ := h
    exact .ifc (Rep.sim k h)
  | _, _, .nif, y, h => by simp only [simA] at h; subst h; exact .nif
  | _, _, .dat0, y, h => by simp only [simA] at h; subst h; exact .dat0
  | _, _, .dat k hs hc, y, h => by simp only [simA] at h; subst h; exact .dat k hs hc
theorem RepL.sim : ∀ {vs xs}, RepL G vs xs → ∀ {ys}, simL xs ys → RepL G vs ys
  | _, _, .nil, ys, h => by simp only [simL] at h; subst h; exact .nil
  | _, _, .cons k k', ys, h => by
    simp only [simL] at h
    obtain ⟨x', xs', rfl, hx, h⟩ := h
    exact .cons (Rep.sim k hx) (RepL.sim k' h)
end
end
end Go.Proofs.YtnmkpadgogbgkaaDoor

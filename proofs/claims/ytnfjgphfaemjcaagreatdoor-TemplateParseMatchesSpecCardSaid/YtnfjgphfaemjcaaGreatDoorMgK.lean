/- Calls on constants: operations that only compute do alike on values that are alike but for the names of blocks; no condition. -/
import Derived.Test.YtnfjgphfaemjcaaGreatDoorMgJ
set_option linter.all false
set_option maxHeartbeats 1000000
namespace Go.Proofs.YtnfjgphfaemjcaaGreatDoor
def JF : Opd → Bool
 | .t _ => true
 | .c v => Lk v
def okO : Option Opd → Bool
 | some x => JF x
 | none => true
def AOp.okc : AOp → Bool
 | .mv x | .neg x | .not x | .cvi _ x | .faddr x _ _ | .field x _ _ | .len x | .lenS x | .extr x _ | .nilck x | .load _ x | .b2s x | .r2s x | .box _ _ x | .s2b _ x | .s2s x | .eqn _ x | .eqp _ x | .eqi _ x | .upc x | .updn _ x | .usd _ x | .rng x | .ent x => JF x
 | .pick c a b => JF c && (JF a && JF b)
 | .bin _ x y | .eqpp _ x y | .ust _ x y | .eqs _ _ x y | .eqb _ x y | .iaddr _ _ x y | .aaddr _ _ _ x y | .sidx x y | .aidx _ _ _ x y | .mm _ x y | .store _ x y | .app _ _ _ x y | .appB _ _ x y => JF x && JF y
 | .mksl _ _ z x y | .mget _ z _ x y => Lk z && (JF x && JF y)
 | .mkfn _ a b => a.all JF && b.all JF
 | .cut _ x lo hi | .cutS x lo hi => JF x && (okO lo && okO hi)
 | .mset _ m k v => JF m && (JF k && JF v)
 | .clen _ | .mkmap _ => true
 | .alloc _ z => IN z
 | .build z ps => IN z && ps.all fun p => JF p.2.2
 | .bsl _ _ xs | .call _ xs | .callp _ xs => xs.all JF
 | .callv f xs => JF f && xs.all JF
 | _ => false
def HeapR (r : List Nat) (h H : A3) : Prop := ∀ g ob, h g = some ob → ∃ g' ob', r[g]? = some g' ∧ H g' = some ob' ∧ RnO r ob ob'
section
variable {r : List Nat} {e e' : AH} {h H : A3}
theorem HeapR.at_ (hh : HeapR r h H) {g g' : Nat} {ob : AObj} (h1 : r[g]? = some g') (h2 : h g = some ob) : ∃ ob', H g' = some ob' ∧ RnO r ob ob' := by
 obtain ⟨a, ob', e1, e2, e3⟩ := hh g ob h2
 rw [h1] at e1; injection e1 with e1; subst e1
 exact ⟨ob', e2, e3⟩
theorem AM (he : ∀ i, Rn r (get e i) (get e' i)) {x : Opd} (hx : JF x = true) : Rn r (ev e x) (ev e' x) := by
 cases x with
 | t i => exact he i
 | c v => exact Rn.of_nid hx
theorem II (he : ∀ i, Rn r (get e i) (get e' i)) {l : List Opd} (hx : l.all JF = true) : RnL r (l.map (ev e)) (l.map (ev e')) :=
 RnL.mp fun x hm => AM he (List.all_eq_true.1 hx x hm)
theorem Rl (hh : HeapR r h H) {x y v : AV} {s : Cm} (hx : Rn r x y) (k : Ap h s x = some v) : ∃ u, Ap H s y = some u ∧ Rn r v u := by
 unfold Ap at k
 split at k
 ·rename_i g o
  simp only [Rn] at hx; obtain ⟨g', rfl, hg⟩ := hx
  split at k
  ·rename_i t cs hc
   obtain ⟨ob, h1, h2⟩ := hh.at_ hg hc
   simp only [RnO] at h2; obtain ⟨ds, rfl, h3⟩ := h2
   obtain ⟨u, h4, h5⟩ := h3.part k
   exact ⟨u, by simp only [Ap, h1, h4], h5⟩
  ·rename_i t cs hc
   obtain ⟨ob, h1, h2⟩ := hh.at_ hg hc
   simp only [RnO] at h2; obtain ⟨ds, rfl, h3⟩ := h2
   obtain ⟨u, h4, h5⟩ := h3.part k
   exact ⟨u, by simp only [Ap, h1, h4], h5⟩
  ·cases k
 ·simp only [Rn] at hx; obtain ⟨x', rfl, hx⟩ := hx
  split at k
  ·rename_i hf
   injection k with k; subst k
   exact ⟨x', if_pos (hx.fits hf), hx⟩
  ·cases k
 ·cases k
theorem RO {op : BinOp} {k : IntKind} {a b : Int} {v : AV} (h : E6 op k a b = some v) : Lk v = true := by
 unfold E6 at h
 split at h <;> first
  | (split at h <;> first | (cases h; done) | (injection h with h; subst h; rfl))
  | cases h
theorem Uc {op : BinOp} {k : IntKind} {a b : Int} {v : AV} (h : D8 op k a b = some v) : Lk v = true := by
 unfold D8 at h
 split at h <;> first
  | exact RO h
  | (injection h with h; subst h; rfl)
  | (split at h <;> first | (cases h; done) | (injection h with h; subst h; rfl))
  | cases h
theorem Uy {op : BinOp} {a b : List UInt8} {v : AV} (h : CE op a b = some v) : Lk v = true := by
 unfold CE at h
 split at h <;> first
  | (injection h with h; subst h; rfl)
  | (split at h <;> first | (cases h; done) | (injection h with h; subst h; rfl))
  | cases h
theorem A27 {op : BinOp} {a b a' b' v : AV} (ha : Rn r a a') (hb : Rn r b b') (k : Da op a b = some v) : Da op a' b' = some v ∧ Lk v = true := by
 unfold Da at k
 split at k
 ·simp only [Rn] at ha hb; subst ha; subst hb
  split at k
  ·rename_i hk; exact ⟨by simp only [Da, if_pos hk, k], Uc k⟩
  ·rename_i hk; exact ⟨by simp only [Da, if_neg hk, k], RO k⟩
 ·simp only [Rn] at ha hb; subst ha; subst hb
  exact ⟨k, Uy k⟩
 ·cases k
theorem Uj (he : ∀ i, Rn r (get e i) (get e' i)) {lo hi : Option Opd} (h1 : okO lo = true) (h2 : okO hi = true) {n : Nat} {p : Nat × Nat} (k : EV (lo.map (ev e)) (hi.map (ev e)) n = some p) : EV (lo.map (ev e')) (hi.map (ev e')) n = some p := by
 have hl : ∀ {x : Option Opd}, okO x = true → (x.map (ev e) = none ∧ x.map (ev e') = none) ∨ ∃ a b, x.map (ev e) = some a ∧ x.map (ev e') = some b ∧ Rn r a b := by
  intro x hx
  cases x with
  | none => exact .inl ⟨rfl, rfl⟩
  | some x => exact .inr ⟨_, _, rfl, rfl, AM he hx⟩
 have ha := hl h1
 have hb := hl h2
 generalize lo.map (ev e) = a at *
 generalize hi.map (ev e) = b at *
 generalize lo.map (ev e') = a' at *
 generalize hi.map (ev e') = b' at *
 have int : ∀ {x y : AV}, Rn r x y → (∃ k n, x = .int k n) → y = x := by
  rintro x y hxy ⟨k, n, rfl⟩; simpa only [Rn] using hxy
 unfold EV at k
 split at k
 ·rename_i h' l' e1 e2
  have hb' : b' = b := by
   rcases hb with ⟨rfl, rfl⟩ | ⟨x, y, rfl, rfl, hxy⟩
   ·rfl
   ·rw [int hxy]; split at e1 <;> simp_all
  have ha' : a' = a := by
   rcases ha with ⟨rfl, rfl⟩ | ⟨x, y, rfl, rfl, hxy⟩
   ·rfl
   ·rw [int hxy]; split at e2 <;> simp_all
  subst ha'; subst hb'
  unfold EV
  rw [e1, e2]; exact k
 ·cases k
theorem DX {α β : Type} {f : α → β} {o : Option α} {v : β} (h : o.map f = some v) : ∃ a, o = some a ∧ f a = v := Option.map_eq_some_iff.1 h
theorem A1m (he : ∀ i, Rn r (get e i) (get e' i)) (hh : HeapR r h H) {op : AOp} (ho : op.okc = true) {v : AV} (k : pe op e h = some v) : ∃ u, pe op e' H = some u ∧ Rn r v u := by
 cases op <;> simp only [AOp.okc, Bool.and_eq_true, Bool.false_eq_true] at ho <;> simp only [pe] at k ⊢ <;> try (cases k; done)
 case mv x => injection k with k; subst k; exact ⟨_, rfl, AM he ho⟩
 case pick c a b =>
  have h1 := AM he ho.1; have h2 := AM he ho.2.1; have h3 := AM he ho.2.2
  generalize ev e c = c1 at *; generalize ev e' c = c2 at *
  split at k
  ·simp only [Rn] at h1; subst h1
   injection k with k; subst k
   exact ⟨_, rfl, by split <;> assumption⟩
  ·cases k
 case bin o x y =>
  obtain ⟨h1, h2⟩ := A27 (AM he ho.1) (AM he ho.2) k
  exact ⟨v, h1, Rn.of_nid h2⟩
 case eqs ks ng x y =>
  have h1 := AM he ho.1; have h2 := AM he ho.2
  generalize ev e x = c1 at *; generalize ev e' x = c2 at *
  generalize ev e y = d1 at *; generalize ev e' y = d2 at *
  split at k
  ·simp only [Rn] at h1 h2
   obtain ⟨l, rfl, h1⟩ := h1; obtain ⟨m, rfl, h2⟩ := h2
   obtain ⟨t, k1, rfl⟩ := DX k
   simp only [SM h1 h2 k1, Option.map_some]; exact ⟨_, rfl, rfl⟩
  ·cases k
 case eqb ng x y =>
  have h1 := AM he ho.1; have h2 := AM he ho.2
  generalize ev e x = c1 at *; generalize ev e' x = c2 at *
  generalize ev e y = d1 at *; generalize ev e' y = d2 at *
  split at k
  ·simp only [Rn] at h1 h2; subst h1; subst h2
   injection k with k; subst k
   exact ⟨_, rfl, by simp only [Rn]⟩
  ·cases k
 case eqn ng x =>
  have h1 := AM he ho
  generalize ev e x = c1 at *; generalize ev e' x = c2 at *
  unfold H9 at k
  split at k
  ·simp only [Rn, RnL, RnT] at h1; obtain ⟨l, t, rfl, rfl, rfl⟩ := h1
   injection k with k; subst k; exact ⟨_, rfl, by simp only [Rn]⟩
  ·obtain ⟨t, k1, rfl⟩ := DX k
   unfold isNil at k1
   split at k1
   ·simp only [Rn, RnT] at h1; obtain ⟨l, t, rfl, h1, rfl⟩ := h1
    injection k1 with k1; subst k1
    refine ⟨.bool (if ng then !true else true), ?_, rfl⟩
    cases l <;> rfl
   ·rename_i t hnil _
    simp only [Rn, RnL] at h1; obtain ⟨l, t', rfl, ⟨x', xs', rfl, _⟩, ht⟩ := h1
    injection k1 with k1; subst k1
    refine ⟨.bool (if ng then !false else false), ?_, rfl⟩
    cases t <;> simp only [RnT] at ht
    ·exact absurd rfl hnil
    ·subst ht; rfl
    ·obtain ⟨g', rfl, _⟩ := ht; rfl
   ·simp only [Rn, RnL, RnT] at h1; obtain ⟨l, t, rfl, rfl, g', rfl, _⟩ := h1
    injection k1 with k1; subst k1
    exact ⟨.bool (if ng then !false else false), rfl, rfl⟩
   ·cases k1
 case eqp ng x =>
  have h1 := AM he ho
  generalize ev e x = c1 at *; generalize ev e' x = c2 at *
  obtain ⟨t, k1, rfl⟩ := DX k
  unfold Cu at k1
  split at k1
  ·simp only [Rn] at h1; subst h1; injection k1 with k1; subst k1; exact ⟨_, rfl, by simp only [Rn]⟩
  ·simp only [Rn] at h1; obtain ⟨g, rfl, _⟩ := h1; injection k1 with k1; subst k1; exact ⟨_, rfl, by simp only [Rn]⟩
  ·cases k1
 case eqi ng x =>
  have h1 := AM he ho
  generalize ev e x = c1 at *; generalize ev e' x = c2 at *
  obtain ⟨t, k1, rfl⟩ := DX k
  unfold D4 at k1
  split at k1
  ·simp only [Rn] at h1; subst h1; injection k1 with k1; subst k1; exact ⟨_, rfl, by simp only [Rn]⟩
  ·simp only [Rn] at h1; obtain ⟨g, rfl, _⟩ := h1; injection k1 with k1; subst k1; exact ⟨_, rfl, by simp only [Rn]⟩
  ·cases k1
 case neg x | not x | cvi _ x | lenS x | r2s x =>
  have h1 := AM he ho
  generalize ev e x = c1 at *; generalize ev e' x = c2 at *
  split at k
  ·simp only [Rn] at h1; subst h1
   injection k with k; subst k
   exact ⟨_, rfl, by simp only [Rn]⟩
  ·cases k
 case mkfn f a b =>
  injection k with k; subst k
  exact ⟨_, rfl, _, _, rfl, II he ho.1, II he ho.2⟩
 case cutS x lo hi =>
  have h1 := AM he ho.1
  generalize ev e x = c1 at *; generalize ev e' x = c2 at *
  unfold EN at k
  split at k
  ·simp only [Rn] at h1; subst h1
   obtain ⟨p, k1, rfl⟩ := DX k
   simp only [EN, Uj he ho.2.1 ho.2.2 k1, Option.map_some]; exact ⟨_, rfl, rfl⟩
  ·cases k
 case cut sz x lo hi =>
  have h1 := AM he ho.1
  generalize ev e x = c1 at *; generalize ev e' x = c2 at *
  unfold Ha at k
  split at k
  ·rename_i z xs t
   simp only [Rn] at h1; obtain ⟨l, t', rfl, h1, _⟩ := h1
   split at k
   ·rename_i hz
    obtain ⟨p, k1, rfl⟩ := DX k
    have hz' : z = sz ∨ l = [] := hz.imp id fun hz => by subst hz; simpa only [RnL] using h1
    refine ⟨_, by simp only [Ha, if_pos hz', h1.len, Uj he ho.2.1 ho.2.2 k1, Option.map_some], _, _, rfl, (h1.tk _).dp _, rfl⟩
   ·cases k
  ·rename_i z g m
   simp only [Rn] at h1; obtain ⟨g', rfl, h1⟩ := h1
   split at k
   ·rename_i hz
    obtain ⟨p, k1, k2⟩ := Option.bind_eq_some_iff.1 k
    dsimp only at k2
    split at k2
    ·rename_i hl
     injection k2 with k2; subst k2
     refine ⟨.slg sz g' p.2, ?_, g', rfl, h1⟩
     simp only [Ha, if_pos hz, Uj he ho.2.1 ho.2.2 k1, Option.bind_some, if_pos hl]
    ·cases k2
   ·cases k
  ·cases k
 case faddr x off s =>
  have h1 := AM he ho
  generalize ev e x = c1 at *; generalize ev e' x = c2 at *
  unfold Gz at k
  split at k
  ·simp only [Rn] at h1; obtain ⟨g, rfl, h1⟩ := h1
   injection k with k; subst k; exact ⟨_, rfl, _, rfl, h1⟩
  ·simp only [Rn] at h1; obtain ⟨y, rfl, l, rfl, h1⟩ := h1
   obtain ⟨p, k1, rfl⟩ := DX k
   obtain ⟨u, h2, h3⟩ := h1.part k1
   exact ⟨_, by simp only [Gz, h2, Option.map_some], _, rfl, h3⟩
  ·cases k
 case field x off s =>
  have h1 := AM he ho
  generalize ev e x = c1 at *; generalize ev e' x = c2 at *
  split at k
  ·simp only [Rn] at h1; obtain ⟨l, rfl, h1⟩ := h1; exact h1.part k
  ·cases k
 case iaddr sz s x i =>
  have h1 := AM he ho.1; have h2 := AM he ho.2
  generalize ev e x = c1 at *; generalize ev e' x = c2 at *
  generalize ev e i = d1 at *; generalize ev e' i = d2 at *
  unfold Cy at k
  split at k
  ·simp only [Rn] at h1 h2; obtain ⟨l, t, rfl, h1, _⟩ := h1; subst h2
   split at k
   ·rename_i hz
    split at k
    ·rename_i y hy
     obtain ⟨y', h3, h4⟩ := h1.at_ hy
     split at k
     ·rename_i hf
      injection k with k; subst k
      refine ⟨.ref y', ?_, y', rfl, h4⟩
      simp only [Cy, if_pos hz, h3, if_pos (h4.fits hf)]
     ·cases k
    ·cases k
   ·cases k
  ·simp only [Rn] at h1 h2; obtain ⟨g, rfl, h1⟩ := h1; subst h2
   split at k
   ·rename_i hz
    injection k with k; subst k
    exact ⟨_, by simp only [Cy, if_pos hz], _, rfl, h1⟩
   ·cases k
  ·simp only [Rn] at h1 h2; obtain ⟨g, rfl, h1⟩ := h1; subst h2
   split at k
   ·rename_i hz
    injection k with k; subst k
    exact ⟨_, by simp only [Cy, if_pos hz], _, rfl, h1⟩
   ·cases k
  ·cases k
 case aaddr len sz s x i =>
  have h1 := AM he ho.1; have h2 := AM he ho.2
  generalize ev e x = c1 at *; generalize ev e' x = c2 at *
  generalize ev e i = d1 at *; generalize ev e' i = d2 at *
  unfold Gc at k
  split at k
  ·simp only [Rn] at h1 h2; obtain ⟨g, rfl, h1⟩ := h1; subst h2
   split at k
   ·rename_i hz
    injection k with k; subst k
    exact ⟨_, by simp only [Gc, if_pos hz], _, rfl, h1⟩
   ·cases k
  ·simp only [Rn] at h1 h2; obtain ⟨y, rfl, l, rfl, h1⟩ := h1; subst h2
   split at k
   ·rename_i hz
    obtain ⟨p, k1, rfl⟩ := DX k
    obtain ⟨u, h2, h3⟩ := h1.part k1
    exact ⟨_, by simp only [Gc, if_pos hz, h2, Option.map_some], _, rfl, h3⟩
   ·cases k
  ·cases k
 case sidx x i =>
  have h1 := AM he ho.1; have h2 := AM he ho.2
  generalize ev e x = c1 at *; generalize ev e' x = c2 at *
  generalize ev e i = d1 at *; generalize ev e' i = d2 at *
  split at k
  ·simp only [Rn] at h1 h2; subst h1; subst h2
   split at k
   ·rename_i hz
    obtain ⟨p, k1, rfl⟩ := DX k
    simp only [if_pos hz, k1, Option.map_some]; exact ⟨_, rfl, rfl⟩
   ·cases k
  ·cases k
 case aidx len sz s x i =>
  have h1 := AM he ho.1; have h2 := AM he ho.2
  generalize ev e x = c1 at *; generalize ev e' x = c2 at *
  generalize ev e i = d1 at *; generalize ev e' i = d2 at *
  split at k
  ·simp only [Rn] at h1 h2; obtain ⟨l, rfl, h1⟩ := h1; subst h2
   split at k
   ·rename_i hz
    obtain ⟨u, h2, h3⟩ := h1.part k
    exact ⟨u, by simp only [if_pos hz, h2], h3⟩
   ·cases k
  ·cases k
 case len x =>
  have h1 := AM he ho
  generalize ev e x = c1 at *; generalize ev e' x = c2 at *
  split at k
  ·simp only [Rn] at h1; obtain ⟨l, t, rfl, h1, _⟩ := h1
   injection k with k; subst k; exact ⟨_, rfl, by simp only [Rn, h1.len]⟩
  ·simp only [Rn] at h1; obtain ⟨l, rfl, h1⟩ := h1
   injection k with k; subst k; exact ⟨_, rfl, by simp only [Rn]⟩
  ·simp only [Rn] at h1; obtain ⟨l, rfl, h1⟩ := h1
   injection k with k; subst k; exact ⟨_, rfl, by simp only [Rn]⟩
  ·cases k
 case clen n => injection k with k; subst k; exact ⟨_, rfl, by simp only [Rn]⟩
 case extr x i =>
  have h1 := AM he ho
  generalize ev e x = c1 at *; generalize ev e' x = c2 at *
  split at k
  ·simp only [Rn] at h1; obtain ⟨l, rfl, h1⟩ := h1; exact h1.at_ k
  ·cases k
 case nilck x =>
  have h1 := AM he ho
  generalize ev e x = c1 at *; generalize ev e' x = c2 at *
  split at k
  ·have h2 := h1; simp only [Rn] at h1; obtain ⟨g, rfl, h1⟩ := h1; injection k with k; subst k; exact ⟨_, rfl, h2⟩
  ·have h2 := h1; simp only [Rn] at h1; obtain ⟨g, rfl, h1⟩ := h1; injection k with k; subst k; exact ⟨_, rfl, h2⟩
  ·rename_i f a b
   have h2 := h1; simp only [Rn] at h1; obtain ⟨a', b', rfl, h1, _⟩ := h1
   split at k
   ·rename_i hz
    injection k with k; subst k
    have : a' = [] := by
     rw [List.isEmpty_iff] at hz; subst hz; simpa only [RnL] using h1
    subst this
    exact ⟨_, rfl, h2⟩
   ·cases k
  ·cases k
 case load s x => exact Rl hh (AM he ho) k
 case build z ps =>
  split at k
  ·rename_i hb
   injection k with k; subst k
   have hp : RnL r (ps.map fun p => ev e p.2.2) (ps.map fun p => ev e' p.2.2) := RnL.mp fun p hm => AM he (List.all_eq_true.1 ho.2 p hm)
   have hb' := Pp (r := r) (qs := ps.map fun p => (p.1, p.2.1, ev e' p.2.2)) (by simp) (by simpa [List.map_map, Function.comp_def] using hp) hb
   refine ⟨_, if_pos hb', _, rfl, So (RnL.of_nid ho.1) (by simp) (by simpa [List.map_map, Function.comp_def] using hp) (by simpa [List.all_map, Function.comp_def] using M1 hb)⟩
  ·cases k
 case mm mx x y =>
  have h1 := AM he ho.1; have h2 := AM he ho.2
  generalize ev e x = c1 at *; generalize ev e' x = c2 at *
  generalize ev e y = d1 at *; generalize ev e' y = d2 at *
  split at k
  ·simp only [Rn] at h1 h2; subst h1; subst h2
   split at k
   ·rename_i hz
    injection k with k; subst k; exact ⟨_, if_pos hz, rfl⟩
   ·cases k
  ·cases k
 case b2s x =>
  have h1 := AM he ho
  generalize ev e x = c1 at *; generalize ev e' x = c2 at *
  split at k
  ·simp only [Rn] at h1; obtain ⟨l, t, rfl, h1, _⟩ := h1
   obtain ⟨p, k1, rfl⟩ := DX k
   simp only [PC h1 k1, Option.map_some]; exact ⟨_, rfl, rfl⟩
  ·cases k
 case upc x =>
  have h1 := AM he ho
  generalize ev e x = c1 at *; generalize ev e' x = c2 at *
  unfold E5 at k
  split at k
  ·have h2 := h1; simp only [Rn] at h1; obtain ⟨g, rfl, h1⟩ := h1
   split at k
   ·rename_i t cs hc
    obtain ⟨ob, h3, h4⟩ := hh.at_ h1 hc
    simp only [RnO] at h4; obtain ⟨ds, rfl, h4⟩ := h4
    split at k
    ·rename_i hz
     injection k with k; subst k
     exact ⟨_, by simp only [E5, h3, h4.len, if_pos hz], h2⟩
    ·cases k
   ·cases k
  ·cases k
 case eqpp ng x y =>
  have h1 := AM he ho.1; have h2 := AM he ho.2
  generalize ev e x = c1 at *; generalize ev e' x = c2 at *
  generalize ev e y = d1 at *; generalize ev e' y = d2 at *
  split at k
  ·simp only [Rn] at h1 h2; obtain ⟨g, rfl, h1⟩ := h1; obtain ⟨g', rfl, h2⟩ := h2
   split at k
   ·rename_i hz
    subst hz
    rw [h1] at h2; injection h2 with h2; subst h2
    injection k with k; subst k
    exact ⟨_, if_pos rfl, rfl⟩
   ·cases k
  ·cases k
 case mget kk z ok m x =>
  have h1 := AM he ho.2.1; have h2 := AM he ho.2.2
  generalize ev e m = c1 at *; generalize ev e' m = c2 at *
  generalize ev e x = d1 at *; generalize ev e' x = d2 at *
  have key : ∀ {x y : AV}, Rn r x y → BN kk x = true → y = x := by
   intro x y hxy hk
   cases kk <;> cases x <;> simp [BN] at hk <;> simpa only [Rn] using hxy
  have hz := Rn.of_nid (r := r) ho.1
  unfold DY at k
  split at k
  ·simp only [Rn] at h1; obtain ⟨g, rfl, h1⟩ := h1
   split at k
   ·rename_i kk' es hc
    obtain ⟨ob, h3, h4⟩ := hh.at_ h1 hc
    simp only [RnO] at h4; obtain ⟨fs, rfl, h4⟩ := h4
    split at k
    ·rename_i hk
     have hk2 := key h2 hk.2; subst hk2
     injection k with k; subst k
     simp only [DY, h3, if_pos hk]
     refine ⟨_, rfl, ?_⟩
     rcases h4.find (k := d2) with ⟨a, b⟩ | ⟨x, y, a, b, c⟩
     ·rw [a, b]; cases ok
      ·exact hz
      ·exact ⟨_, rfl, _, _, rfl, hz, _, _, rfl, rfl, rfl⟩
     ·rw [a, b]; cases ok
      ·exact c
      ·exact ⟨_, rfl, _, _, rfl, c, _, _, rfl, rfl, rfl⟩
    ·cases k
   ·cases k
  ·simp only [Rn] at h1; subst h1
   split at k
   ·rename_i hk
    have hk2 := key h2 hk; subst hk2
    injection k with k; subst k
    simp only [DY, if_pos hk]
    refine ⟨_, rfl, ?_⟩
    cases ok
    ·exact hz
    ·exact ⟨_, rfl, _, _, rfl, hz, _, _, rfl, rfl, rfl⟩
   ·cases k
  ·cases k
 case ent x =>
  have h1 := AM he ho
  generalize ev e x = c1 at *; generalize ev e' x = c2 at *
  unfold Gt at k
  split at k
  ·simp only [Rn] at h1; obtain ⟨g, rfl, h1⟩ := h1
   split at k
   ·rename_i ho0
    split at k
    ·rename_i m len left j hc
     obtain ⟨ob, h3, h4⟩ := hh.at_ h1 hc
     simp only [RnO] at h4; obtain ⟨m', left', rfl, h4, _⟩ := h4
     split at k
     ·rename_i kk es hm
      obtain ⟨ob, h5, h6⟩ := hh.at_ h4 hm
      simp only [RnO] at h6; obtain ⟨fs, rfl, h6⟩ := h6
      split at k
      ·rename_i hz
       obtain ⟨⟨k1, v1⟩, k2, rfl⟩ := DX k
       obtain ⟨u, h7, h8, h9⟩ := h6.at_ k2
       simp only [Gt, if_pos ho0, h3, h5, h6.len, if_pos hz, h7, Option.map_some]
       exact ⟨_, rfl, _, rfl, _, _, rfl, Rn.of_nid h9, _, _, rfl, h8, rfl⟩
      ·cases k
     ·cases k
    ·cases k
   ·cases k
  ·cases k
 case usd t x =>
  have h1 := AM he ho
  generalize ev e x = c1 at *; generalize ev e' x = c2 at *
  unfold E7 at k
  split at k
  ·simp only [Rn, RnL, RnT] at h1; obtain ⟨l, t, rfl, rfl, rfl⟩ := h1
   injection k with k; subst k; exact ⟨_, rfl, [], rfl, rfl⟩
  ·rename_i z y l g
   simp only [Rn, RnL, RnT] at h1; obtain ⟨l', t', rfl, ⟨y', ys', rfl, h1, h2⟩, g', rfl, h3⟩ := h1
   split at k
   ·rename_i t2 m hc
    obtain ⟨ob, h4, h5⟩ := hh.at_ h3 hc
    simp only [RnO] at h5; subst h5
    split at k
    ·rename_i hz
     injection k with k; subst k
     exact ⟨_, by simp only [E7, h4, if_pos hz], _, rfl, _, _, rfl, h1, h2⟩
    ·cases k
   ·cases k
  ·cases k
end
mutual
def weak : AV → AV
 | .sl z l t => .sl z (HI l) (match t with | .own _ => .ro | t => t)
 | .agg l => .agg (HI l)
 | .tup l => .tup (HI l)
 | .ref x => .ref (weak x)
 | .ifc t x => .ifc t (weak x)
 | x => x
def HI : List AV → List AV
 | [] => []
 | x :: xs => weak x :: HI xs
end
mutual
theorem Lu : ∀ x : AV, A4 x (weak x)
 | .sl z l t => ⟨z, HI l, _, rfl, by cases t <;> simp, .inl rfl, HH l⟩
 | .agg l => ⟨_, rfl, HH l⟩
 | .tup l => ⟨_, rfl, HH l⟩
 | .ref x => ⟨_, rfl, Lu x⟩
 | .ifc _ x => ⟨_, rfl, Lu x⟩
 | .bool _ | .int _ _ | .str _ | .ptr _ _ | .np | .fn _ _ _ | .nfn | .mp _ | .nmp | .slm _ _ _ _ | .slg _ _ _ | .ub | .nif | .dat _ _ | .any | .und => rfl
theorem HH : ∀ l : List AV, A5 l (HI l)
 | [] => rfl
 | x :: xs => ⟨_, _, rfl, Lu x, HH xs⟩
end
mutual
theorem Se {r : List Nat} : ∀ {x y : AV}, Rn r x y → Rn r (weak x) (weak y)
 | .sl z l t, y, h => by
  simp only [Rn] at h; obtain ⟨l', t', rfl, a, b⟩ := h
  refine ⟨_, _, rfl, M7 a, ?_⟩
  cases t <;> simp only [RnT] at b
  ·subst b; rfl
  ·subst b; rfl
  ·obtain ⟨g, rfl, _⟩ := b; rfl
 | .agg _, _, h | .tup _, _, h => by simp only [Rn] at h; obtain ⟨l, rfl, a⟩ := h; exact ⟨_, rfl, M7 a⟩
 | .ref _, _, h | .ifc _ _, _, h => by simp only [Rn] at h; obtain ⟨l, rfl, a⟩ := h; exact ⟨_, rfl, Se a⟩
 | .ptr _ _, _, h | .mp _, _, h | .slm _ _ _ _, _, h | .slg _ _ _, _, h | .dat _ _, _, h => by have k := h; simp only [Rn] at h; obtain ⟨l, rfl, a⟩ := h; exact k
 | .fn _ _ _, _, h => by have k := h; simp only [Rn] at h; obtain ⟨l, _, rfl, a⟩ := h; exact k
 | .any, _, _ => by simp only [weak, Rn]
 | .bool _, _, h | .int _ _, _, h | .str _, _, h | .np, _, h | .nfn, _, h | .nmp, _, h | .ub, _, h | .nif, _, h | .und, _, h => by simp only [Rn] at h; subst h; rfl
theorem M7 {r : List Nat} : ∀ {x y : List AV}, RnL r x y → RnL r (HI x) (HI y)
 | [], _, h => by simp only [RnL] at h; subst h; rfl
 | _ :: _, _, h => by simp only [RnL] at h; obtain ⟨x, l, rfl, a, b⟩ := h; exact ⟨_, _, rfl, Se a, M7 b⟩
end
abbrev XH := List (Nat × AObj)
def AO : XH → Nat → Option AObj
 | [], _ => none
 | x :: l, k => match Nat.beq k x.1 with | true => some x.2 | false => AO l k
def L7 : XH → Nat → AObj → XH
 | [], _, _ => []
 | x :: l, k, o => match Nat.beq k x.1 with | true => (k, o) :: l | false => x :: L7 l k o
def G9 : XH → Nat → XH
 | [], _ => []
 | x :: l, k => match Nat.beq k x.1 with | true => G9 l k | false => x :: G9 l k
theorem A2u {a b : Nat} (h : a ≠ b) : Nat.beq a b = false := Bool.eq_false_iff.2 fun e => h (Nat.eq_of_beq_eq_true e)
theorem C3 (g k : Nat) (o : AObj) (l : XH) : AO ((g, o) :: l) k = if k = g then some o else AO l k := by
 simp only [AO]
 by_cases h : k = g
 ·subst h; simp
 ·rw [if_neg h]; have : Nat.beq k g = false := A2u h
  rw [this]
theorem Q6 {l : XH} {g : Nat} {o : AObj} {x : AObj} (h : AO l g = some x) (k : Nat) : AO (L7 l g o) k = if k = g then some o else AO l k := by
 induction l with
 | nil => simp [AO] at h
 | cons y l ih =>
  obtain ⟨a, b⟩ := y
  rw [C3] at h
  simp only [L7]
  by_cases hg : g = a
  ·subst hg
   simp only [Nat.beq_refl, C3]
   split <;> rfl
  ·have : Nat.beq g a = false := A2u hg
   rw [if_neg hg] at h
   rw [this]; simp only [C3, ih h]
   by_cases hk : k = a
   ·subst hk; rw [if_pos rfl, if_neg (fun e => hg e.symm), if_pos rfl]
   ·simp only [if_neg hk]
theorem IE (l : XH) (g k : Nat) : AO (G9 l g) k = if k = g then none else AO l k := by
 induction l with
 | nil => simp [G9, AO]
 | cons y l ih =>
  obtain ⟨a, b⟩ := y
  simp only [G9]
  by_cases hg : g = a
  ·subst hg
   simp only [Nat.beq_refl, ih, C3]
   split
   ·rfl
   ·rfl
  ·have : Nat.beq g a = false := A2u hg
   rw [this]; simp only [C3, ih]
   by_cases hk : k = a
   ·subst hk; rw [if_pos rfl, if_neg (fun e => hg e.symm), if_pos rfl]
   ·simp only [if_neg hk]
theorem Pv {l : XH} {g : Nat} {o : AObj} (h : AO l g = some o) : (g, o) ∈ l := by
 induction l with
 | nil => simp [AO] at h
 | cons y l ih =>
  obtain ⟨a, b⟩ := y
  rw [C3] at h
  split at h
  ·rename_i hg; subst hg; injection h with h; subst h; exact List.mem_cons_self
  ·exact List.mem_cons_of_mem _ (ih h)
structure ES where
 e : AH
 k : Nat
 h : XH
structure XP where
 P : Program
 ef : List Nat
 mb : Nat → Bool
 mt : Nat → Bool
 orc : Nat → List AV → Option AV
 fz : Nat → Bool
 gt : Nat → Bool := fun _ => false
 gh : Nat → List Nat := fun _ => []
def Yl (l : List Nat) (ops : List AOper) : Bool := ops.any fun o => match o.op with
 | .call f _ | .callp f _ => l.any fun g => Nat.beq g f
 | _ => false
def UU (l : List Nat) : ACode → ACode
 | .reg ops => match Yl l ops with | true => .gh (.reg ops) | false => .reg ops
 | .regD m S ops => match Yl l ops with | true => .gh (.regD m S ops) | false => .regD m S ops
 | .seq a b => .seq (UU l a) (UU l b)
 | .cond c a b => .cond c (UU l a) (UU l b)
 | .block id c => .block id (UU l c)
 | .loop c => .loop (UU l c)
 | c => c
def ghF (l : List Nat) (c : ACode) : ACode := match l with
 | [] => c
 | l => UU l c
theorem GQ (l : List Nat) : ∀ c : ACode, bare (UU l c) = bare c
 | .reg ops => by simp only [UU]; split <;> rfl
 | .regD m S ops => by simp only [UU]; split <;> rfl
 | .seq a b => by simp only [UU, bare, GQ l a, GQ l b]
 | .cond c a b => by simp only [UU, bare, GQ l a, GQ l b]
 | .block id c => by simp only [UU, bare, GQ l c]
 | .loop c => by simp only [UU, bare, GQ l c]
 | .skip | .segs _ | .exit _ | .ret | .bad | .kp _ _ | .ke _ _ | .gh _ => by simp only [UU]
theorem Y2 (l : List Nat) (c : ACode) : bare (ghF l c) = bare c := by
 unfold ghF
 split
 ·rfl
 ·exact GQ _ c
abbrev XF := ACode → ES → Option (AExit × ES)
def pX (e : AH) (d : Option Nat) (v : AV) : AH := match d with | some t => EW e t v | none => e
def Tp (X : XP) (f : Nat) : Option AFun := match X.P.funcs[f]? with | some fn => (match O7 X.P X.ef fn with | some c => some ⟨c.nargs, c.nt, c.res, ghF (X.gh f) c.code⟩ | none => none) | none => none
def A17 : Bool → Nat → List AV → AV
 | true, sz, cs => .agg (cs.take sz)
 | false, _, cs => cs.headD .any
def Dy (b : Bool) (sz : Nat) : Nat → List AV → List AV
 | 0, _ => []
 | n + 1, cs => A17 b sz cs :: Dy b sz n (cs.drop sz)
mutual
def A5h : AV → Option (Nat × Nat × Nat)
 | .slg s g k => some (s, g, k)
 | .agg l | .tup l => YP l
 | _ => none
def YP : List AV → Option (Nat × Nat × Nat)
 | [] => none
 | x :: xs => match A5h x with | some p => some p | none => YP xs
end
mutual
def JT (h : XH) : AV → Bool
 | .slg _ g _ => (match AO h g with | some _ => true | none => false)
 | .agg l | .tup l => Mh h l
 | _ => true
def Mh (h : XH) : List AV → Bool
 | [] => true
 | x :: xs => JT h x && Mh h xs
end
mutual
def Ys (h : XH) : AV → AV
 | .slg s g k => match AO h g with | some _ => .slg s g k | none => .any
 | .agg l => .agg (clL h l)
 | .tup l => .tup (clL h l)
 | x => x
def clL (h : XH) : List AV → List AV
 | [] => []
 | x :: xs => Ys h x :: clL h xs
end
def clO (h : XH) : AObj → AObj
 | .cells e cs => .cells e (clL h cs)
 | .grow e cs => .grow e (clL h cs)
 | o => o
def YF (X : XP) : XH → Option Nat
 | [] => none
 | (g, .grow e cs) :: l => match X.gt e && (YP cs).isNone with | true => some g | false => YF X l
 | _ :: l => YF X l
def YB (X : XP) (s : ES) : Option ES := match YF X s.h with
 | none => none
 | some g => match AO s.h g with
  | some (.grow e cs) => match shp X.P e with
   | some sh => match decide (0 < BJ X.P e) && (decide (cs.length = cs.length / BJ X.P e * BJ X.P e) && ((sh.isSome || decide (BJ X.P e = 1)) && cs.all AV.one)) with
    | true => some ⟨s.e.map fun x => (x.1, Dg g (BJ X.P e) (Dy sh.isSome (BJ X.P e) (cs.length / BJ X.P e) cs) (Ys s.h x.2)), s.k, (G9 s.h g).map fun x => (x.1, PG g (BJ X.P e) (Dy sh.isSome (BJ X.P e) (cs.length / BJ X.P e) cs) (clO s.h x.2))⟩
    | false => none
   | none => none
  | _ => none
def ZE (P : Program) (v : AV) (h : XH) : Option (AV × XH) := match A5h v with
 | none => none
 | some (sz, g, k) => match AO h g with
  | some (.grow e cs) => match shp P e with
   | some s => match decide (BJ P e = sz) && (decide (0 < sz) && (decide (cs.length = k * sz) && ((s.isSome || decide (sz = 1)) && (cs.all AV.one && JT h v)))) with
    | true => some (Dg g sz (Dy s.isSome sz k cs) v, G9 h g)
    | false => none
   | none => none
  | _ => none
def Wt (P : Program) : Nat → AV → XH → AV × XH
 | 0, v, h => (v, h)
 | n + 1, v, h => match ZE P v h with | some (v', h') => Wt P n v' h' | none => (v, h)
def VI (X : XP) (ih : XF) (f : Nat) (av : List AV) (k : Nat) (h : XH) : Option (AV × Nat × XH) :=
 match Tp X f with
 | some c => match Nat.beq av.length c.nargs with
  | true => match ih c.code ⟨E3 av, k, h⟩ with
   | some (.exit _, _) => none
   | some (_, s) => match BS ⟨s.e, 0, AO s.h⟩ c.res with | some v => some (v, s.k, s.h) | none => none
   | none => none
  | false => none
 | none => none
def Qx (ih : XF) : Nat → ACode → ES → Option (AExit × ES × Option (AV × List AV))
 | 0, _, _ => none
 | m + 1, .seq a b, s => match Tq a with
  | some (pre, x, xs) => match JF x && xs.all JF with
   | true => match ih (.reg pre) s with
    | some (.normal, s1) => match ev s1.e x with
     | .fn f u v => match ih b s1 with
      | some (y, s2) => some (y, s2, some (.fn f u v, xs.map (ev s1.e)))
      | none => none
     | _ => none
    | _ => none
   | false => none
  | none => match ih a s with
   | some (.normal, s1) => Qx ih m b s1
   | some (y, s1) => some (y, s1, none)
   | none => none
 | _ + 1, .kp _ _, _ => none
 | _ + 1, c, s => match ih c s with
  | some (y, s1) => some (y, s1, none)
  | none => none
def A3f (X : XP) (ih : XF) (res : List ARes) (s : ES) (xs : List AV) : AV → Option (AV × Nat × XH)
 | .fn f u v => match Ec X.P f with
  | true => match Tp X f with
   | some c => match Nat.beq (u ++ xs ++ v).length c.nargs with
    | true => match ih c.code ⟨E3 (u ++ xs ++ v), s.k, s.h⟩ with
     | some (.exit _, _) => none
     | some (_, s2) => match BS ⟨s2.e, 0, AO s2.h⟩ c.res with
      | some _ => match BS ⟨s.e, 0, AO s2.h⟩ res with
       | some w => some (w, s2.k, s2.h)
       | none => none
      | none => none
     | none => none
    | false => none
   | none => none
  | false => none
 | _ => none
def US (X : XP) (ih : XF) (f : Nat) (av : List AV) (k : Nat) (h : XH) : Option (AV × Nat × XH) :=
 match Tp X f with
 | some c => match Nat.beq av.length c.nargs with
  | true => match Qx ih 100 c.code ⟨E3 av, k, h⟩ with
   | some (.exit _, _, _) => none
   | some (_, s, some (fv, xs)) => A3f X ih c.res s xs fv
   | some (_, s, none) => match BS ⟨s.e, 0, AO s.h⟩ c.res with | some v => some (v, s.k, s.h) | none => none
   | none => none
  | false => none
 | none => none
def NG (X : XP) (ih : XF) (f : Nat) (av : List AV) (k : Nat) (h : XH) : Option (AV × Nat × XH) :=
 match VI X ih f av k h with
 | some (v, k, h) => match X.fz f with
  | true => some ((Wt X.P 9 v h).1, k, (Wt X.P 9 v h).2)
  | false => some (v, k, h)
 | none => US X ih f av k h
def IT (s : ES) (d : Option Nat) (v : Nat → AV) (ob : AObj) : Option ES := some ⟨pX s.e d (v s.k), s.k + 1, (s.k, ob) :: s.h⟩
def PX (l : List AV) : Bool := l.all AV.one
def Zn (a b by_ : Nat) : Bool := decide ((a + b) * by_ ≤ 140737488355328) && decide (a + b ≤ maxLen)
def ZK (X : XP) (el sz by_ : Nat) (d : Option Nat) (s : ES) (m : List AV) : AV → Option ES
 | .sl z l t => match Zn l.length m.length by_ with
  | true => match t with
   | .nil => match m with
    | [] => some ⟨pX s.e d (.sl sz [] .nil), s.k, s.h⟩
    | _ :: _ => match X.mt el && m.all SY with
     | true => IT s d (fun g => .slg sz g m.length) (.grow el (AG m))
     | false => IT s d (fun g => .sl sz m (.own g)) (.row el m.length)
   | .own g0 => match AO s.h g0 with
    | some (.row e' n) => match decide (z = sz) && (decide (e' = el) && decide (n = l.length)) with
     | true => IT ⟨s.e, s.k, G9 s.h g0⟩ d (fun g => .sl sz (l ++ m) (.own g)) (.row el (l.length + m.length))
     | false => none
    | _ => none
   | .ro => none
  | false => none
 | .slg z g0 k => match Zn k m.length by_ with
  | true => match AO s.h g0 with
   | some (.grow e' cs) => match decide (z = sz) && (decide (e' = el) && (decide (cs.length = k * sz) && m.all SY)) with
    | true => IT ⟨s.e, s.k, G9 s.h g0⟩ d (fun g => .slg sz g (k + m.length)) (.grow el (cs ++ AG m))
    | false => none
   | _ => none
  | false => none
 | _ => none
def A2n (s : ES) (d : Option Nat) (sh : Cm) (v : AV) : AV → Option ES
 | .ptr g o => match v.fits sh && PX v.cells with
  | true => match AO s.h g with
   | some (.cells t cs) => match decide (o + v.cells.length ≤ cs.length) with | true => some ⟨pX s.e d .any, s.k, L7 s.h g (.cells t (splice cs o v.cells))⟩ | false => none
   | some (.grow t cs) => match decide (o + v.cells.length ≤ cs.length) with | true => some ⟨pX s.e d .any, s.k, L7 s.h g (.grow t (splice cs o v.cells))⟩ | false => none
   | _ => none
  | false => none
 | _ => none
def Si (s : ES) (d : Option Nat) : Option AV → Option ES
 | some v => some ⟨pX s.e d v, s.k, s.h⟩
 | none => none
def HJ (X : XP) (ih : XF) (d : Option Nat) (op : AOp) (s : ES) : Option ES :=
 match op with
 | .alloc t z => match PX z with | true => IT s d (fun g => .ptr g 0) (.cells t z) | false => none
 | .box t sh x => match (ev s.e x).fits sh && PX (ev s.e x).cells with | true => IT s d (fun g => .ptr g 0) (.cells t (ev s.e x).cells) | false => none
 | .store sh x v => A2n s d sh (ev s.e v) (ev s.e x)
 | .bsl t sh xs => match (xs.map (ev s.e)).all fun x => x.fits sh && PX x.cells with
  | true => match X.mb t with
   | true => IT s d (fun g => .slm (B6 sh) g 0 xs.length) (.cells t (AG (xs.map (ev s.e))))
   | false => IT s d (fun g => .sl (B6 sh) (xs.map (ev s.e)) (.own g)) (.row t xs.length)
  | false => none
 | .app t sz b x y => match ev s.e y with
  | .sl z m _ => match Nat.beq z sz || m.isEmpty with | true => ZK X t sz b d s m (ev s.e x) | false => none
  | _ => none
 | .appB t b x y => match ev s.e y with | .str u => ZK X t 1 b d s (Co u) (ev s.e x) | _ => none
 | .s2b _ x => match ev s.e x with
  | .str b => match decide (b.length ≤ maxLen) with | true => some ⟨pX s.e d (.sl 1 (b.map fun u => .int .u8 u.toNat) .ro), s.k, s.h⟩ | false => none
  | _ => none
 | .s2s x => match ev s.e x with
  | .sl sz (y :: l) (.own g) => match AO s.h g with | some (.row _ _) => some ⟨pX s.e d (.sl sz (y :: l) .ro), s.k, G9 s.h g⟩ | _ => none
  | _ => none
 | .mkmap kk => IT s d .mp (.map kk [])
 | .mset kk m k v => match ev s.e m with
  | .mp g => match AO s.h g with
   | some (.map kk' es) => match decide (kk' = kk) && BN kk (ev s.e k) with | true => some ⟨pX s.e d .any, s.k, L7 s.h g (.map kk (C0 (ev s.e k) (ev s.e v) es))⟩ | false => none
   | _ => none
  | _ => none
 | .mksl el b z x y => match ev s.e x, ev s.e y with
  | .int _ a, .int _ c => match decide (a = c) && (decide (0 ≤ a) && (decide ((b : Int) * a ≤ 281474976710656) && decide (a ≤ maxLen))) with
   | true => IT s d (fun g => .slm 1 g 0 a.toNat) (.cells el (List.replicate a.toNat z))
   | false => none
  | _, _ => none
 | .call f xs => match (match IN (xs.map (ev s.e)) with | true => X.orc f (xs.map (ev s.e)) | false => none) with
  | some v => some ⟨pX s.e d v, s.k, s.h⟩
  | none => match NG X ih f (xs.map (ev s.e)) s.k s.h with | some (v, k, h) => some ⟨pX s.e d v, k, h⟩ | none => none
 | .callp f xs => match IN (HI (xs.map (ev s.e))) with
  | true => match X.orc f (HI (xs.map (ev s.e))) with
   | some v => some ⟨pX s.e d v, s.k, s.h⟩
   | none => match NG X ih f (HI (xs.map (ev s.e))) 0 [] with
    | some (v, _, _) => match Lk (weak v) with | true => some ⟨pX s.e d (weak v), s.k, s.h⟩ | false => none
    | none => none
  | false => none
 | .callv x xs => match ev s.e x with
  | .fn f a b => match Ec X.P f with
   | true => match NG X ih f (a ++ xs.map (ev s.e) ++ b) s.k s.h with | some (v, k, h) => some ⟨pX s.e d v, k, h⟩ | none => none
   | false => none
  | _ => none
 | .updn u x => Si s d (Bp X.P (AO s.h) u (ev s.e x))
 | .ust t x n => Si s d (DQ t (ev s.e x) (ev s.e n))
 | .rng x => match ev s.e x with
  | .mp m => match AO s.h m with
   | some (.map _ es) => IT s d (fun g => .ptr g 0) (.iter m es.length (List.range es.length) none)
   | _ => none
  | _ => none
 | .nxt _ => none
 | op => Si s d (pe op s.e (AO s.h))
def Tr (X : XP) (ih : XF) (d : Option Nat) (op : AOp) (s : ES) : Option ES :=
 match op.okc with
 | false => none
 | true => HJ X ih d op s
def UG (X : XP) (ih : XF) (o : AOper) (s : ES) : Option ES :=
 match o.guard with
 | none => Tr X ih o.dst o.op s
 | some (t, want) => match get s.e t with
  | .bool b => match decide (b = want) with | true => Tr X ih o.dst o.op s | false => some ⟨pX s.e o.dst .und, s.k, s.h⟩
  | .und => some ⟨pX s.e o.dst .und, s.k, s.h⟩
  | _ => none
def Wq (X : XP) (ih : XF) : List AOper → ES → Option ES
 | [], s => some s
 | o :: os, s => match UG X ih o s with | some s => Wq X ih os s | none => none
/-! regions in any order -/
def mX (h0 : XH) (gs : List Nat) (h : XH) : A3 := fun g => match AO h0 g with | some _ => (match gs.contains g with | true => none | false => AO h g) | none => none
def lvX (h0 : XH) (gs : List Nat) (sh : Cm) (x : Opd) (g : Option (Nat × Bool)) (s : ES) : Option AV := match g with
 | none => Ap (mX h0 gs s.h) sh (ev s.e x)
 | some (t, want) => match get s.e t with
  | .bool b => match decide (b = want) with | true => Ap (mX h0 gs s.h) sh (ev s.e x) | false => some .und
  | .und => some .und
  | _ => none
def stM (m : Mode) (h0 : XH) (gs nw : List Nat) (x : Opd) (v : AV) : Bool := match m with
 | .late => (match v with | .ptr g _ => gs.contains g | _ => false)
 | .last q => (match x, v with
  | .t i, .ptr g _ => if i = q then (AO h0 g).isSome && !gs.contains g else gs.contains g || nw.contains g
  | _, _ => false)
 | _ => true
def A2v (gs : List Nat) : AV → Bool
 | .slg _ g _ => gs.contains g
 | _ => true
def Vv (gs : List Nat) (h h' : XH) : Bool := h.all fun x => gs.contains x.1 || !x.2.seen || (match AO h' x.1 with | some o => eqO x.2 o | none => false)
def ZB (h h' : XH) : List Nat := (h.filter fun x => x.2.seen && !(match AO h' x.1 with | some o => eqO x.2 o | none => false)).map (·.1)
def N7 (X : XP) (ih : XF) (m : Mode) (h0 : XH) (gs nw : List Nat) (o : AOper) (s : ES) : Option ES :=
 match o with
 | ⟨d, .load sh x, g⟩ => match JF x with | true => Si s d (lvX (match m with | .refs => [] | _ => h0) gs sh x g s) | false => none
 | ⟨d, .store sh x v, none⟩ => match stM m h0 gs nw x (ev s.e x) with | true => Tr X ih d (.store sh x v) s | false => none
 | ⟨d, .bsl t sh xs, none⟩ => match X.mb t with | false => Tr X ih d (.bsl t sh xs) s | true => none
 | ⟨d, .mget kk z ok mp k, none⟩ => match (AOp.mget kk z ok mp k).okc with | true => Si s d (pe (.mget kk z ok mp k) s.e (mX h0 gs s.h)) | false => none
 | ⟨d, .app t sz b x y, none⟩ => match A2v gs (ev s.e x) with | true => Tr X ih d (.app t sz b x y) s | false => none
 | ⟨d, .call f xs, none⟩ => match m with
  | .early => none
  | .copy => none
  | _ => match Tr X ih d (.call f xs) s with | some s' => (match Vv gs s.h s'.h with | true => some s' | false => none) | none => none
 | o => UG X ih o s
def nwX (o : AOper) (S S' : ES) (nw : List Nat) : List Nat := match o with
 | ⟨_, .alloc _ _, none⟩ => S.k :: nw
 | ⟨_, .app _ _ _ x _, none⟩ => (match ev S.e x, Nat.beq S'.k (S.k + 1) with
  | .sl _ _ .nil, true | .slg _ _ _, true => S.k :: nw
  | _, _ => nw)
 | _ => nw
def V3 (X : XP) (ih : XF) (m : Mode) (h0 : XH) (gs : List Nat) : List Nat → List AOper → ES → Option ES
 | _, [], s => some s
 | nw, o :: os, s => match N7 X ih m h0 gs nw o s with | some s' => V3 X ih m h0 gs (nwX o s s' nw) os s' | none => none
def gsX (h : XH) (e : AH) : List Nat → Option (List Nat)
 | [] => some []
 | t :: ts => match get e t, gsX h e ts with
  | .ptr g _, some gs => (match AO h g with | some _ => some (g :: gs) | none => none)
  | _, _ => none
def A4q (q : Nat) (e : AH) (gs : List Nat) : List Nat := match get e q with
 | .ptr g _ => gs.filter fun k => !Nat.beq k g
 | _ => gs
def A4f (X : XP) (ih : XF) (m : Mode) (S : List Nat) (ops : List AOper) (s : ES) : Option ES :=
 match gsX s.h s.e S with
 | none => none
 | some gs => match V3 X ih m s.h gs [] ops s with
  | some s' => some s'
  | none => match Wq X ih ops s with
   | none => none
   | some s1 => V3 X ih m s.h ((match m with | .last q => A4q q s1.e (ZB s.h s1.h) | _ => ZB s.h s1.h) ++ gs) [] ops s
/-! rounds over a map: at most one entry makes a difference -/
def wrC : ACode → List Nat
 | .reg ops | .regD _ _ ops => ops.filterMap (·.dst)
 | .seq a b | .cond _ a b => wrC a ++ wrC b
 | .block _ c | .loop c => wrC c
 | _ => []
def anyW (W : List Nat) (e : AH) : AH := e.filter fun p => !W.contains p.1
def W9 (e e1 : AH) : Bool := e.all fun p => Mj p.2 (get e1 p.1)
def A1i (h h1 : XH) : Bool := h.all fun p => match AO h1 p.1 with | some o => eqO p.2 o | none => false
def Yx (ih : XF) (c : ACode) (t it m j : Nat) (s : ES) : Option (AExit × ES) :=
 match AO s.h m with
 | some (.map _ es) => match es[j]? with
  | some x => ih c ⟨EW s.e t (.tup [.bool true, x.1, x.2]), s.k, (it, .iter m es.length [] (some j)) :: s.h⟩
  | none => none
 | _ => none
def QV (ih : XF) (c : ACode) (t it m : Nat) (s : ES) (j : Nat) : Bool := match Yx ih c t it m j s with | some (.normal, s1) => W9 s.e s1.e && A1i s.h s1.h | _ => false
def X4 (ih : XF) (c : ACode) (t : Nat) (s : ES) : Option (AExit × ES) := match ih c ⟨EW s.e t (.tup [.bool false]), s.k, s.h⟩ with
 | some (.normal, _) => none
 | o => o
def Te (W : List Nat) (x : Opd) (it m len : Nat) (s : ES) : Option ES := match ev (anyW W s.e) x, AO s.h it, AO (G9 s.h it) m with
 | .ptr it' 0, some _, some (.map _ es) => match Nat.beq it' it && Nat.beq es.length len with | true => some ⟨anyW W s.e, s.k, G9 s.h it⟩ | false => none
 | _, _, _ => none
def A3b (ih : XF) (c : ACode) (W : List Nat) (t : Nat) (x : Opd) (s : ES) : Option (AExit × ES) :=
 match ev s.e x with
 | .ptr it _ => match AO s.h it with
  | some (.iter m len left none) => match decide (left = List.range len) with
   | true => match Te W x it m len s with
    | some s0 => match left.filter fun j => !QV ih c t it m s0 j with
     | [] => X4 ih c t s0
     | [j] => match Yx ih c t it m j s0 with
      | some (.normal, s1) => match Te W x it m len s1 with
       | some s2 => match (left.erase j).all fun j => QV ih c t it m s2 j with
        | true => X4 ih c t s2
        | false => none
       | none => none
      | _ => none
     | _ => none
    | none => none
   | false => none
  | _ => none
 | _ => none
def A4k : ACode → Option (Nat × Opd × List AOper × ACode)
 | .seq (.reg (⟨some t, .nxt x, none⟩ :: ops)) c2 => some (t, x, ops, c2)
 | _ => none
theorem A06 {c : ACode} {p : Nat × Opd × List AOper × ACode} (h : A4k c = some p) : c = .seq (.reg (⟨some p.1, .nxt p.2.1, none⟩ :: p.2.2.1)) p.2.2.2 := by
 unfold A4k at h
 split at h
 ·injection h with h; subst h; rfl
 ·cases h
def G6 (X : XP) (ih : XF) : XF := fun c s => match c with
 | .skip => some (.normal, s)
 | .reg ops => match Wq X ih ops s with | some s' => some (.normal, s') | none => none
 | .regD m S ops => match A4f X ih m S ops s with | some s' => some (.normal, s') | none => none
 | .seq a b => match ih a s with | some (.normal, s') => ih b s' | o => o
 | .cond c a b => match JF c with
  | true => (match ev s.e c with | .bool true => ih a s | .bool false => ih b s | _ => none)
  | false => none
 | .block id c => match ih c s with
  | some (.exit i, s') => (match Nat.beq i id with | true => some (.normal, s') | false => some (.exit i, s'))
  | o => o
 | .loop c => match A4k c with
  | some (t, x, ops, c2) => (match JF x with | true => A3b ih (.seq (.reg ops) c2) (t :: (ops.filterMap (·.dst) ++ wrC c2)) t x s | false => none)
  | none => match ih c s with | some (.normal, s') => ih (.loop c) s' | o => o
 | .exit id => some (.exit id, s)
 | .ret => some (.ret, s)
 | .gh c => match YB X s with | some s' => ih c s' | none => ih c s
 | _ => none
def Xd (X : XP) : Nat → XF
 | 0 => fun _ _ => none
 | n + 1 => G6 X (Xd X n)
abbrev EnvR (r : List Nat) (e e' : AH) : Prop := ∀ i, Rn r (get e i) (get e' i)
def Mw : AObj → Bool
 | .iter _ _ _ (some _) => true
 | _ => false
structure SimH (r : List Nat) (n0 : Nat) (H0 : A3) (k : Nat) (h : XH) (n : Nat) (H : A3) : Prop where
 len : k = r.length
 hp : HeapR r (AO h) H
 lo : ∀ g ob a, AO h g = some ob → r[g]? = some a → n0 ≤ a ∧ a < n ∧ (H0 a = none ∨ Mw ob = true)
 inj : ∀ g1 g2 o1 o2 a, AO h g1 = some o1 → AO h g2 = some o2 → r[g1]? = some a → r[g2]? = some a → g1 = g2
 fr0 : ∀ a, a < n0 → H a = H0 a
 fr : ∀ a ob, H0 a = some ob → H a = some ob
 n0n : n0 ≤ n
 van : ∀ a, n ≤ a → H a = none
section
variable {r : List Nat} {n0 k n n' : Nat} {H0 H : A3} {h : XH}
theorem SimH.new (s : SimH r n0 H0 k h n H) {g : Nat} (hg : H g = none) (h0 : n0 ≤ g) (hn : n ≤ n') (hl : g < n') {ob ob' : AObj} (ho : RnO (r ++ [g]) ob ob') : SimH (r ++ [g]) n0 H0 (k + 1) ((k, ob) :: h) n' (upd H g (some ob')) := by
 have hk : (r ++ [g])[k]? = some g := by rw [s.len]; simp
 have old : ∀ {g1 o1}, g1 ≠ k → AO ((k, ob) :: h) g1 = some o1 → AO h g1 = some o1 := fun hne e => by rw [C3, if_neg hne] at e; exact e
 have img : ∀ {g1 o1 a}, AO h g1 = some o1 → (r ++ [g])[g1]? = some a → r[g1]? = some a ∧ ∃ o2, H a = some o2 ∧ RnO r o1 o2 := fun e1 e2 => by
  obtain ⟨a', o2, e3, e4, e5⟩ := s.hp _ _ e1
  rw [Ex.app r [g] _ _ e3] at e2; injection e2 with e2; subst e2
  exact ⟨e3, o2, e4, e5⟩
 have hH0 : H0 g = none := by
  cases e : H0 g with
  | none => rfl
  | some x => rw [s.fr _ _ e] at hg; cases hg
 refine ⟨by simp [s.len], ?_, ?_, ?_, ?_, ?_, by have := s.n0n; omega, ?_⟩
 ·intro g1 o1 e
  by_cases hne : g1 = k
  ·subst hne
   rw [C3, if_pos rfl] at e; injection e with e; subst e
   exact ⟨g, ob', hk, AN _ _ _, ho⟩
  ·obtain ⟨a, o2, e3, e4, e5⟩ := s.hp _ _ (old hne e)
   exact ⟨a, o2, Ex.app r [g] _ _ e3, by rw [upd_ne (by rintro rfl; rw [hg] at e4; cases e4)]; exact e4, e5.mono (Ex.app r [g])⟩
 ·intro g1 o1 a e e2
  by_cases hne : g1 = k
  ·subst hne; rw [hk] at e2; injection e2 with e2; subst e2; exact ⟨h0, hl, .inl hH0⟩
  ·obtain ⟨e3, _⟩ := img (old hne e) e2
   obtain ⟨a1, a2, a3⟩ := s.lo _ _ _ (old hne e) e3
   exact ⟨a1, by omega, a3⟩
 ·intro g1 g2 o1 o2 a e1 e2 e3 e4
  by_cases h1 : g1 = k <;> by_cases h2 : g2 = k
  ·rw [h1, h2]
  ·subst h1; rw [hk] at e3; injection e3 with e3; subst e3
   obtain ⟨_, o, e5, _⟩ := img (old h2 e2) e4; rw [hg] at e5; cases e5
  ·subst h2; rw [hk] at e4; injection e4 with e4; subst e4
   obtain ⟨_, o, e5, _⟩ := img (old h1 e1) e3; rw [hg] at e5; cases e5
  ·exact s.inj _ _ _ _ a (old h1 e1) (old h2 e2) (img (old h1 e1) e3).1 (img (old h2 e2) e4).1
 ·intro a ha; rw [upd_ne (by omega)]; exact s.fr0 a ha
 ·intro a o e; rw [upd_ne (by rintro rfl; rw [hH0] at e; cases e)]; exact s.fr a o e
 ·intro a ha; rw [upd_ne (by omega)]; exact s.van a (by omega)
theorem SimH.set (s : SimH r n0 H0 k h n H) {g a : Nat} {o ob ob' : AObj} (hg : AO h g = some o) (ha : r[g]? = some a) (ho : RnO r ob ob') (hi : Mw o = false := by rfl) : SimH r n0 H0 k (L7 h g ob) n (upd H a (some ob')) := by
 obtain ⟨l1, l2, l3⟩ := s.lo _ _ _ hg ha
 replace l3 := l3.resolve_right (by rw [hi]; simp)
 have live : ∀ {g1 o1}, AO (L7 h g ob) g1 = some o1 → ∃ o2, AO h g1 = some o2 := fun e => by
  rw [Q6 hg] at e; split at e
  ·rename_i e1; subst e1; exact ⟨o, hg⟩
  ·exact ⟨_, e⟩
 refine ⟨s.len, ?_, ?_, ?_, ?_, ?_, s.n0n, ?_⟩
 ·intro g1 o1 e
  rw [Q6 hg] at e
  split at e
  ·rename_i e1; subst e1; injection e with e; subst e
   exact ⟨a, ob', ha, AN _ _ _, ho⟩
  ·rename_i hne
   obtain ⟨a1, o2, e3, e4, e5⟩ := s.hp _ _ e
   exact ⟨a1, o2, e3, by rw [upd_ne (by rintro rfl; exact hne (s.inj _ _ _ _ _ e hg e3 ha))]; exact e4, e5⟩
 ·intro g1 o1 a1 e e2
  by_cases h1 : g1 = g
  ·subst h1; rw [ha] at e2; injection e2 with e2; subst e2; exact ⟨l1, l2, .inl l3⟩
  ·rw [Q6 hg, if_neg h1] at e; exact s.lo _ _ _ e e2
 ·intro g1 g2 o1 o2 a1 e1 e2 e3 e4; obtain ⟨_, e5⟩ := live e1; obtain ⟨_, e6⟩ := live e2; exact s.inj _ _ _ _ _ e5 e6 e3 e4
 ·intro a1 h1; rw [upd_ne (by omega)]; exact s.fr0 a1 h1
 ·intro a1 o1 e; rw [upd_ne (by rintro rfl; rw [l3] at e; cases e)]; exact s.fr a1 o1 e
 ·intro a1 h1; rw [upd_ne (by omega)]; exact s.van a1 h1
theorem SimH.del (s : SimH r n0 H0 k h n H) {g a : Nat} {o : AObj} (hg : AO h g = some o) (ha : r[g]? = some a) (hi : Mw o = false := by rfl) : SimH r n0 H0 k (G9 h g) n (upd H a none) := by
 obtain ⟨l1, l2, l3⟩ := s.lo _ _ _ hg ha
 replace l3 := l3.resolve_right (by rw [hi]; simp)
 have live : ∀ {g1 o1}, AO (G9 h g) g1 = some o1 → g1 ≠ g ∧ AO h g1 = some o1 := fun e => by
  rw [IE] at e; split at e
  ·cases e
  ·rename_i e1; exact ⟨e1, e⟩
 refine ⟨s.len, ?_, ?_, ?_, ?_, ?_, s.n0n, ?_⟩
 ·intro g1 o1 e
  obtain ⟨hne, e⟩ := live e
  obtain ⟨a1, o2, e3, e4, e5⟩ := s.hp _ _ e
  exact ⟨a1, o2, e3, by rw [upd_ne (by rintro rfl; exact hne (s.inj _ _ _ _ _ e hg e3 ha))]; exact e4, e5⟩
 ·intro g1 o1 a1 e e2; exact s.lo _ _ _ (live e).2 e2
 ·intro g1 g2 o1 o2 a1 e1 e2 e3 e4; exact s.inj _ _ _ _ _ (live e1).2 (live e2).2 e3 e4
 ·intro a1 h1; rw [upd_ne (by omega)]; exact s.fr0 a1 h1
 ·intro a1 o1 e; rw [upd_ne (by rintro rfl; rw [l3] at e; cases e)]; exact s.fr a1 o1 e
 ·intro a1 h1; rw [upd_ne (by omega)]; exact s.van a1 h1
theorem SimH.up (s : SimH r n0 H0 k h n H) (hn : n ≤ n') : SimH r n0 H0 k h n' H :=
 ⟨s.len, s.hp, fun g ob a e1 e2 => by obtain ⟨a1, a2, a3⟩ := s.lo g ob a e1 e2; exact ⟨a1, by omega, a3⟩, s.inj, s.fr0, s.fr, by have := s.n0n; omega, fun a ha => s.van a (by omega)⟩
theorem SimH.base (s : SimH r n0 H0 k h n H) : ∃ H1, SimH r n0 H1 k h n H ∧ (∀ a ob, H0 a = some ob → H1 a = some ob) ∧ (∀ a, a < n0 → H1 a = H0 a) ∧ ∀ a ob, H a = some ob → (∃ g o, AO h g = some o ∧ r[g]? = some a ∧ Mw o = false) ∨ H1 a = some ob := by
 classical
 refine ⟨fun a => if ∃ g o, AO h g = some o ∧ r[g]? = some a ∧ Mw o = false then none else H a, ⟨s.len, s.hp, ?_, s.inj, ?_, ?_, s.n0n, s.van⟩, ?_, ?_, ?_⟩
 ·intro g ob a e1 e2
  obtain ⟨a1, a2, a3⟩ := s.lo g ob a e1 e2
  refine ⟨a1, a2, ?_⟩
  cases e3 : Mw ob with
  | true => exact .inr rfl
  | false => exact .inl (if_pos ⟨g, ob, e1, e2, e3⟩)
 ·intro a ha; rw [if_neg]; rintro ⟨g, o, e1, e2, _⟩; have := (s.lo g o a e1 e2).1; omega
 ·intro a ob e; split at e
  ·cases e
  ·exact e
 ·intro a ob e; dsimp only; rw [if_neg]
  ·exact s.fr a ob e
  ·rintro ⟨g, o, e1, e2, e3⟩
   rcases (s.lo g o a e1 e2).2.2 with h1 | h1
   ·rw [h1] at e; cases e
   ·rw [h1] at e3; cases e3
 ·intro a ha; dsimp only; rw [if_neg, s.fr0 a ha]; rintro ⟨g, o, e1, e2, _⟩; have := (s.lo g o a e1 e2).1; omega
 ·intro a ob e
  by_cases hx : ∃ g o, AO h g = some o ∧ r[g]? = some a ∧ Mw o = false
  ·exact .inl hx
  ·exact .inr (by dsimp only; rw [if_neg hx]; exact e)
theorem SimH.unbase {H1 : A3} (s : SimH r n0 H1 k h n H) (h1 : ∀ a ob, H0 a = some ob → H1 a = some ob) (h2 : ∀ a, a < n0 → H1 a = H0 a) : SimH r n0 H0 k h n H :=
 ⟨s.len, s.hp, fun g ob a e1 e2 => ⟨(s.lo g ob a e1 e2).1, (s.lo g ob a e1 e2).2.1, (s.lo g ob a e1 e2).2.2.imp (fun h => Option.eq_none_iff_forall_ne_some.2 fun x e => by have := h1 _ _ e; rw [h] at this; cases this) id⟩, s.inj, fun a ha => (s.fr0 a ha).trans (h2 a ha), fun a ob e => s.fr a ob (h1 a ob e), s.n0n, s.van⟩
theorem SimH.drop (s : SimH r n0 H0 k h n H) (g : Nat) : SimH r n0 H0 k (G9 h g) n H := by
 have live : ∀ {g1 o1}, AO (G9 h g) g1 = some o1 → AO h g1 = some o1 := fun e => by
  rw [IE] at e; split at e
  ·cases e
  ·exact e
 exact ⟨s.len, fun g1 o1 e => s.hp _ _ (live e), fun g1 o1 a e => s.lo _ _ _ (live e), fun g1 g2 o1 o2 a e1 e2 => s.inj _ _ _ _ _ (live e1) (live e2), s.fr0, s.fr, s.n0n, s.van⟩
theorem SimH.track (s : SimH r n0 H0 k h n H) {g a : Nat} (ha : r[g]? = some a) (hu : ∀ g1 o, AO h g1 = some o → r[g1]? ≠ some a) (h1 : n0 ≤ a) (h2 : a < n) (h3 : H0 a = none) {ob ob' : AObj} (ho : RnO r ob ob') : SimH r n0 H0 k ((g, ob) :: h) n (upd H a (some ob')) := by
 have old : ∀ {g1 o1}, g1 ≠ g → AO ((g, ob) :: h) g1 = some o1 → AO h g1 = some o1 := fun hne e => by rw [C3, if_neg hne] at e; exact e
 refine ⟨s.len, ?_, ?_, ?_, ?_, ?_, s.n0n, ?_⟩
 ·intro g1 o1 e
  by_cases hne : g1 = g
  ·subst hne
   rw [C3, if_pos rfl] at e; injection e with e; subst e
   exact ⟨a, ob', ha, AN _ _ _, ho⟩
  ·obtain ⟨b, o2, e3, e4, e5⟩ := s.hp _ _ (old hne e)
   exact ⟨b, o2, e3, by rw [upd_ne (by rintro rfl; exact hu _ _ (old hne e) e3)]; exact e4, e5⟩
 ·intro g1 o1 b e e2
  by_cases hne : g1 = g
  ·subst hne; rw [ha] at e2; injection e2 with e2; subst e2; exact ⟨h1, h2, .inl h3⟩
  ·exact s.lo _ _ _ (old hne e) e2
 ·intro g1 g2 o1 o2 b e1 e2 e3 e4
  by_cases q1 : g1 = g <;> by_cases q2 : g2 = g
  ·rw [q1, q2]
  ·subst q1; rw [ha] at e3; injection e3 with e3; subst e3; exact absurd e4 (hu _ _ (old q2 e2))
  ·subst q2; rw [ha] at e4; injection e4 with e4; subst e4; exact absurd e3 (hu _ _ (old q1 e1))
  ·exact s.inj _ _ _ _ b (old q1 e1) (old q2 e2) e3 e4
 ·intro b hb; rw [upd_ne (by omega)]; exact s.fr0 b hb
 ·intro b o e; rw [upd_ne (by rintro rfl; rw [h3] at e; cases e)]; exact s.fr b o e
 ·intro b hb; rw [upd_ne (by omega)]; exact s.van b hb
end
theorem Xv (e : AH) (t : Nat) (v : AV) (i : Nat) : get (EW e t v) i = if t = i then v else get e i := by
 induction e with
 | nil => simp [EW, get]
 | cons x e ih =>
  obtain ⟨a, b⟩ := x
  simp only [EW]
  split
  ·rename_i h; subst h; by_cases h1 : a = i <;> simp [get, h1]
  ·rename_i h
   simp only [get, ih]
   split
   ·rename_i h1; subst h1; rw [if_neg (fun e => h e.symm)]
   ·rfl
theorem EnvR.put {r : List Nat} {e e' : AH} (he : EnvR r e e') {v v' : AV} (hv : Rn r v v') (d : Option Nat) : EnvR r (pX e d v) (AD e' d v') := by
 intro i
 rw [AL]
 cases d with
 | none => simpa [pX] using he i
 | some t =>
  simp only [pX, Xv, Option.some.injEq]
  split
  ·exact hv
  ·exact he i
theorem EnvR.mono {r r' : List Nat} (hx : Ex r r') {e e' : AH} (he : EnvR r e e') : EnvR r' e e' := fun i => (he i).mono hx
def Dr (X : XP) (ih : XF) : Prop := ∀ c S x S', ih c S = some (x, S') → ∀ (r : List Nat) (n0 : Nat) (H0 : A3) (s : AS) (Q : AExit → AS → Prop), EnvR r S.e s.e → SimH r n0 H0 S.k S.h s.n s.H →
 (∀ r' s', Ex r r' → s.n ≤ s'.n → EnvR r' S'.e s'.e → SimH r' n0 H0 S'.k S'.h s'.n s'.H → Q x s') → aw X.P c Q s
def I5 (X : XP) : Prop := ∀ f l v, X.orc f l = some v → APure X.P f l v ∧ Lk v = true
theorem Jk {P : Program} {ef : List Nat} {nt : Nat} : ∀ (c : Code) {ac : ACode}, Bx P ef nt c = some ac → bare ac = ac
 | .skip, _, h => by simp only [Bx, Option.some.injEq] at h; subst h; rfl
 | .region id ops draw, _, h => by
  simp only [Bx] at h
  rcases C1 h with ⟨os, rfl⟩ | ⟨m, S, os, rfl⟩ | rfl <;> rfl
 | .seq a b, _, h => by
  simp only [Bx] at h
  split at h
  ·rename_i x y h1 h2; injection h with h; subst h; simp only [bare, Jk a h1, Jk b h2]
  ·cases h
 | .cond c a b, _, h => by
  simp only [Bx] at h
  split at h
  ·rename_i z x y h0 h1 h2; injection h with h; subst h; simp only [bare, Jk a h1, Jk b h2]
  ·cases h
 | .block id c, _, h => by
  simp only [Bx] at h
  obtain ⟨x, h1, rfl⟩ := DX h
  simp only [bare, Jk c h1]
 | .loop c, _, h => by
  simp only [Bx] at h
  obtain ⟨x, h1, rfl⟩ := DX h
  simp only [bare, Jk c h1]
 | .exit id, _, h => by simp only [Bx, Option.some.injEq] at h; subst h; rfl
 | .ret, _, h => by simp only [Bx, Option.some.injEq] at h; subst h; rfl
 | .scope _, _, h | .rangeFunc _ _ _ _, _, h | .refuse _, _, h | .label _, _, h | .goto _, _, h => by simp only [Bx, Option.some.injEq] at h; subst h; rfl
theorem Pj {X : XP} {f : Nat} {c : AFun} (h : Tp X f = some c) : ∃ fn, X.P.funcs[f]? = some fn ∧ (O7 X.P X.ef fn).map (fun x => (x.nargs, x.nt, x.res, x.code)) = some (c.nargs, c.nt, c.res, bare c.code) := by
 unfold Tp at h
 split at h
 ·rename_i fn hf
  split at h
  ·rename_i c0 h0
   injection h with h; subst h
   refine ⟨fn, hf, ?_⟩
   rw [h0]
   simp only [Option.map_some, Option.some.injEq, Prod.mk.injEq, true_and, Y2]
   unfold O7 at h0
   split at h0
   ·split at h0
    ·rename_i ac r hc hr
     split at h0
     ·injection h0 with h0; subst h0; exact (Jk _ hc).symm
     ·cases h0
    ·cases h0
   ·cases h0
  ·cases h
 ·cases h
section
variable {r : List Nat} {n0 : Nat} {H0 : A3} {X : XP} {ih : XF} {S S' : ES} {s : AS} {d : Option Nat}
theorem VE {e e' : AH} {h H : A3} {n n' : Nat} (he : EnvR r e e') (hh : HeapR r h H) : ∀ {l : List ARes} {xs : List AV}, Cw ⟨e, n, h⟩ l = some xs → ∃ ys, Cw ⟨e', n', H⟩ l = some ys ∧ RnL r xs ys
 | [], _, k => by simp only [Cw, Option.some.injEq] at k; subst k; exact ⟨[], rfl, rfl⟩
 | a :: l, _, k => by
  simp only [Cw] at k
  split at k
  ·rename_i x xs h1 h2
   injection k with k; subst k
   obtain ⟨ys, h3, h4⟩ := VE (n' := n') he hh h2
   have h5 : ∃ y, G7 ⟨e', n', H⟩ a = some y ∧ Rn r x y := by
    cases a with
    | tmp t => simp only [G7, Option.some.injEq] at h1 ⊢; subst h1; exact ⟨_, rfl, he t⟩
    | cell t sh => simp only [G7] at h1 ⊢; exact Rl hh (he t) h1
   obtain ⟨y, h5, h6⟩ := h5
   exact ⟨y :: ys, by simp only [Cw, h5, h3], y, ys, rfl, h6, h4⟩
  ·cases k
theorem Lp {e e' : AH} {h H : A3} {n n' : Nat} (he : EnvR r e e') (hh : HeapR r h H) {l : List ARes} {v : AV} (k : BS ⟨e, n, h⟩ l = some v) : ∃ u, BS ⟨e', n', H⟩ l = some u ∧ Rn r v u := by
 unfold BS at k ⊢
 split at k
 ·rename_i x hx
  injection k with k; subst k
  obtain ⟨ys, h1, h2⟩ := VE (n' := n') he hh hx
  simp only [RnL] at h2; obtain ⟨y, _, rfl, h2, rfl⟩ := h2
  exact ⟨y, by simp only [h1], h2⟩
 ·rename_i xs hne hx
  injection k with k; subst k
  obtain ⟨ys, h1, h2⟩ := VE (n' := n') he hh hx
  refine ⟨.tup ys, ?_, ys, rfl, h2⟩
  simp only [h1]
  have hl := h2.len
  match ys, hl with
  | [], _ => rfl
  | [y], hl =>
   match xs, hl with
   | [x], _ => exact absurd rfl (hne x)
  | _ :: _ :: _, _ => rfl
 ·cases k
theorem Ou {l l' : List AV} (h : RnL r l l') : EnvR r (E3 l) (E3 l') := by
 intro i
 have h1 := Lv l i 0
 have h2 := Lv l' i 0
 simp only [Nat.zero_le, if_true, Nat.sub_zero] at h1 h2
 show Rn r (get ((l.zipIdx 0).map fun x => (x.2, x.1)) i) (get ((l'.zipIdx 0).map fun x => (x.2, x.1)) i)
 rw [h1, h2]
 cases e : l[i]? with
 | none => simp [Rn]
 | some x => obtain ⟨y, e1, e2⟩ := h.at_ e; rw [e1]; exact e2
theorem Wk (hi : Dr X ih) {f : Nat} {l l' : List AV} {k k' n : Nat} {h h' : XH} {H : A3} {v : AV} (hc : VI X ih f l k h = some (v, k', h')) (hs : SimH r n0 H0 k h n H) (ha : RnL r l l') :
  ACalls X.P f l' n H fun u n' H' => ∃ r', Ex r r' ∧ SimH r' n0 H0 k' h' n' H' ∧ Rn r' v u := by
 unfold VI at hc
 split at hc
 ·rename_i c hl
  obtain ⟨fn, hf, hcf⟩ := Pj hl
  split at hc
  ·rename_i hb
   have hlen : l'.length = c.nargs := by rw [ha.len]; exact Nat.eq_of_beq_eq_true hb
   have fin' : ∀ (x : AExit) (s1 : ES), ih c.code ⟨E3 l, k, h⟩ = some (x, s1) → (∀ i, x ≠ .exit i) → BS ⟨s1.e, 0, AO s1.h⟩ c.res = some v → s1.k = k' → s1.h = h' → ACalls X.P f l' n H fun u n' H' => ∃ r', Ex r r' ∧ SimH r' n0 H0 k' h' n' H' ∧ Rn r' v u := by
    intro x s1 hx hne hv e1 e2
    subst e1; subst e2
    refine AK hf hcf hlen fun _ => hi _ _ _ _ hx r n0 H0 ⟨E3 l', n, H⟩ _ (Ou ha) hs fun r' s' hex hle he hs' => ?_
    obtain ⟨u, h1, h2⟩ := Lp (n' := s'.n) he hs'.hp hv
    have : ∃ r n' H', (∃ x, BS s' c.res = some x ∧ A4 x r) ∧ n ≤ n' ∧ n' ≤ s'.n ∧ (∀ k, n' ≤ k → H' k = none) ∧ SameB n' H' s'.H ∧ ∃ r', Ex _ r' ∧ SimH r' n0 H0 s1.k s1.h n' H' ∧ Rn r' v r := ⟨u, s'.n, s'.H, ⟨u, h1, A1 u⟩, hle, Nat.le_refl _, hs'.van, SameB.rfl_ _ _, r', hex, hs', h2⟩
    cases x with
    | normal => exact this
    | ret => exact this
    | exit i => exact absurd rfl (hne i)
   split at hc
   ·cases hc
   ·rename_i x s1 hne hx
    split at hc
    ·rename_i v' hv
     injection hc with hc; injection hc with e0 hc; injection hc with e1 e2; subst e0
     exact fin' x s1 hx hne hv e1 e2
    ·cases hc
   ·cases hc
  ·cases hc
 ·cases hc
mutual
theorem Ru {g a sz : Nat} {l l' : List AV} (hl : RnL r l l') (ha : r[g]? = some a) {h : XH} (hi : ∀ g' o, AO h g' = some o → r[g']? = some a → g' = g) : ∀ {x y : AV}, JT h x = true → Rn r x y → Rn r (Dg g sz l x) (Dg a sz l' y)
 | .slg s' g' k, y, hv, hx => by
  simp only [JT] at hv
  simp only [Rn] at hx; obtain ⟨b, rfl, hb⟩ := hx
  simp only [Dg, hl.len]
  by_cases hg : g' = g
  ·subst hg
   rw [ha] at hb; injection hb with hb; subst hb
   simp only [true_and]
   split
   ·exact ⟨l', .ro, rfl, hl, rfl⟩
   ·exact ⟨_, rfl, ha⟩
  ·have hba : b ≠ a := by
    rintro rfl
    split at hv
    ·rename_i o ho; exact hg (hi _ _ ho hb)
    ·cases hv
   simp only [hg, hba, false_and, and_false, if_false]
   exact ⟨_, rfl, hb⟩
 | .agg cs, y, hv, hx => by simp only [JT] at hv; simp only [Rn] at hx; obtain ⟨ds, rfl, hx⟩ := hx; exact ⟨_, rfl, P1 hl ha hi hv hx⟩
 | .tup cs, y, hv, hx => by simp only [JT] at hv; simp only [Rn] at hx; obtain ⟨ds, rfl, hx⟩ := hx; exact ⟨_, rfl, P1 hl ha hi hv hx⟩
 | .any, _, _, _ => by simp only [Dg, Rn]
 | .sl _ _ _, _, _, hx | .fn _ _ _, _, _, hx => by have k := hx; simp only [Rn] at hx; obtain ⟨_, _, rfl, _⟩ := hx; exact k
 | .ptr _ _, _, _, hx | .mp _, _, _, hx | .slm _ _ _ _, _, _, hx | .dat _ _, _, _, hx | .ref _, _, _, hx | .ifc _ _, _, _, hx => by have k := hx; simp only [Rn] at hx; obtain ⟨_, rfl, _⟩ := hx; exact k
 | .bool _, _, _, hx | .int _ _, _, _, hx | .str _, _, _, hx | .np, _, _, hx | .nfn, _, _, hx | .nmp, _, _, hx | .ub, _, _, hx | .nif, _, _, hx | .und, _, _, hx => by simp only [Rn] at hx; subst hx; simp only [Dg, Rn]
theorem P1 {g a sz : Nat} {l l' : List AV} (hl : RnL r l l') (ha : r[g]? = some a) {h : XH} (hi : ∀ g' o, AO h g' = some o → r[g']? = some a → g' = g) : ∀ {x y : List AV}, Mh h x = true → RnL r x y → RnL r (Gv g sz l x) (Gv a sz l' y)
 | [], _, _, hx => by simp only [RnL] at hx; subst hx; rfl
 | _ :: _, _, hv, hx => by
  simp only [Mh, Bool.and_eq_true] at hv
  simp only [RnL] at hx; obtain ⟨x, xs, rfl, h1, h2⟩ := hx
  exact ⟨_, _, rfl, Ru hl ha hi hv.1 h1, P1 hl ha hi hv.2 h2⟩
end
theorem PE {b : Bool} {sz : Nat} : ∀ {n : Nat} {cs ds : List AV}, RnL r cs ds → RnL r (Dy b sz n cs) (Dy b sz n ds)
 | 0, _, _, _ => rfl
 | n + 1, cs, ds, h => by
  refine ⟨_, _, rfl, ?_, PE (h.dp sz)⟩
  cases b
  ·cases cs with
   | nil => simp only [RnL] at h; subst h; simp [A17, Rn]
   | cons x xs => simp only [RnL] at h; obtain ⟨y, ys, rfl, h1, _⟩ := h; exact h1
  ·exact ⟨_, rfl, h.tk sz⟩
theorem XJ {x : AV} (h : x.one = true) : x.cells = [x] := by cases x <;> first | rfl | cases h
theorem Kd {b : Bool} {sz : Nat} (hb : b = true ∨ sz = 1) : ∀ {n : Nat} {cs : List AV}, cs.length = n * sz → ones cs → AG (Dy b sz n cs) = cs ∧ ∀ x ∈ Dy b sz n cs, x.cells.length = sz
 | 0, cs, h, _ => by
  have : cs = [] := List.length_eq_zero_iff.1 (by simpa using h)
  subst this; exact ⟨rfl, by simp [Dy]⟩
 | n + 1, cs, h, h1 => by
  rw [Nat.succ_mul] at h
  obtain ⟨e1, e2⟩ := Kd hb (n := n) (cs := cs.drop sz) (by simp; omega) fun x hx => h1 x (List.mem_of_mem_drop hx)
  have hd : (A17 b sz cs).cells = cs.take sz := by
   cases b
   ·have := hb.resolve_left (by simp)
    subst this
    cases cs with
    | nil => simp at h
    | cons x xs => simp only [A17, List.headD_cons, List.take_succ_cons, List.take_zero]; exact XJ (h1 x List.mem_cons_self)
   ·rfl
  refine ⟨?_, fun x hx => ?_⟩
  ·simp only [Dy, AG, List.flatMap_cons] at e1 ⊢
   rw [e1, hd, List.take_append_drop]
  ·simp only [Dy, List.mem_cons] at hx
   rcases hx with rfl | hx
   ·rw [hd]; simp; omega
   ·exact e2 x hx
abbrev NA (r : List Nat) (n0 : Nat) (H0 : A3) (k : Nat) (h : XH) (v : AV) : Gk := fun u n' H' => ∃ r', Ex r r' ∧ SimH r' n0 H0 k h n' H' ∧ Rn r' v u
theorem Zv {f k n : Nat} {l : List AV} {h h' : XH} {H : A3} {v v' : AV} (hc : ACalls X.P f l n H (NA r n0 H0 k h v)) (hf : ZE X.P v h = some (v', h')) : ACalls X.P f l n H (NA r n0 H0 k h' v') := by
 unfold ZE at hf
 split at hf
 ·cases hf
 ·rename_i sz g j _
  split at hf
  ·rename_i e cs hg
   split at hf
   ·rename_i s hsh
    split at hf
    ·rename_i hz
     simp only [Bool.and_eq_true, decide_eq_true_eq, Bool.or_eq_true] at hz
     obtain ⟨z1, z2, z3, z4, z5, z6⟩ := hz
     injection hf with hf; injection hf with e1 e2; subst e1; subst e2
     refine hc.frz fun u n' H' _ ⟨r', hx, hs, hv⟩ => ?_
     obtain ⟨a, ob, q1, q2, q3⟩ := hs.hp g _ hg
     simp only [RnO] at q3; obtain ⟨ds, rfl, q3⟩ := q3
     obtain ⟨c1, c2⟩ := Kd (b := s.isSome) z4 (n := j) (cs := ds) (by rw [q3.len]; exact z3) (q3.ones fun x hx => List.all_eq_true.1 z5 x hx)
     exact ⟨a, e, sz, Dy s.isSome sz j ds, by rw [c1]; exact q2, z1, z2, c2, r', hx, hs.del hg q1, Ru (PE q3) q1 (fun g' o p1 p2 => hs.inj _ _ _ _ _ p1 hg p2 q1) z6 hv⟩
    ·cases hf
   ·cases hf
  ·cases hf
theorem WF {f k n : Nat} {l : List AV} {H : A3} : ∀ (m : Nat) {h : XH} {v : AV}, ACalls X.P f l n H (NA r n0 H0 k h v) → ACalls X.P f l n H (NA r n0 H0 k (Wt X.P m v h).2 (Wt X.P m v h).1)
 | 0, _, _, hc => hc
 | m + 1, h, v, hc => by
  simp only [Wt]
  split
  ·rename_i v' h' e; exact WF m (Zv hc e)
  ·exact hc
def A4y (r : List Nat) (n0 : Nat) (H0 : A3) (S' : ES) (s : AS) (r' : List Nat) (s' : AS) : Prop := Ex r r' ∧ s.n ≤ s'.n ∧ EnvR r' S'.e s'.e ∧ SimH r' n0 H0 S'.k S'.h s'.n s'.H
theorem SK (hi : Dr X ih) : ∀ (m : Nat) (c : ACode) (S : ES) (x : AExit) (S' : ES) (p : Option (AV × List AV)), Qx ih m c S = some (x, S', p) → ∀ (r : List Nat) (s : AS) (Q : AExit → AS → Prop), EnvR r S.e s.e → SimH r n0 H0 S.k S.h s.n s.H →
  (p = none → ∀ r' s', A4y r n0 H0 S' s r' s' → Q x s') → (∀ fv xs, p = some (fv, xs) → ∀ r' s' fv' xs', A4y r n0 H0 S' s r' s' → Rn r' fv fv' → RnL r' xs xs' → Zf X.P fv' xs' Q x s') → XO X.P c Q s
 | 0, _, _, _, _, _, h, _, _, _, _, _, _, _ => by simp [Qx] at h
 | m + 1, c, S, x, S', p, h, r, s, Q, hE, hs, h1, h2 => by
  have plain : (∀ Q s, XO X.P c Q s = aw X.P c Q s) → (match ih c S with | some (y, s1) => some (y, s1, none) | none => none) = some (x, S', p) → XO X.P c Q s := by
   intro he hc
   rw [he]
   split at hc
   ·rename_i y s1 hy
    simp only [Option.some.injEq, Prod.mk.injEq] at hc
    obtain ⟨rfl, rfl, rfl⟩ := hc
    exact hi _ _ _ _ hy r n0 H0 s Q hE hs fun r' s' a b c d => h1 rfl r' s' ⟨a, b, c, d⟩
   ·cases hc
  cases c with
  | seq a b =>
   unfold Qx at h
   unfold XO
   cases hl : Tq a with
   | some px =>
    obtain ⟨pre, o, xs⟩ := px
    rw [hl] at h
    dsimp only at h ⊢
    split at h
    ·rename_i hok
     rw [Bool.and_eq_true] at hok
     split at h
     ·rename_i s1 hr1
      split at h
      ·rename_i f u v hev
       split at h
       ·rename_i y s2 hr2
        simp only [Option.some.injEq, Prod.mk.injEq] at h
        obtain ⟨rfl, rfl, rfl⟩ := h
        have := hi _ _ _ _ hr1 r n0 H0 s (fun e s1 => match e with | .normal => (∃ f u v, ev s1.e o = .fn f u v) ∧ aw X.P b (Zf X.P (ev s1.e o) (xs.map (ev s1.e)) Q) s1 | _ => False) hE hs (fun r' s' a1 a2 a3 a4 => by
         have hx := AM a3 hok.1
         have hxs := II a3 hok.2
         rw [hev] at hx
         have hx0 := hx
         simp only [Rn] at hx0
         obtain ⟨u', v', e1, _, _⟩ := hx0
         refine ⟨⟨f, u', v', e1⟩, ?_⟩
         exact hi _ _ _ _ hr2 r' n0 H0 s' _ a3 a4 fun r2 s2 b1 b2 b3 b4 => h2 _ _ rfl r2 s2 _ _ ⟨a1.tr b1, Nat.le_trans a2 b2, b3, b4⟩ (hx.mono b1) (hxs.mono b1))
        exact this
       ·cases h
      ·cases h
     ·cases h
    ·cases h
   | none =>
    rw [hl] at h
    dsimp only at h ⊢
    split at h
    ·rename_i s1 hr1
     refine hi _ _ _ _ hr1 r n0 H0 s _ hE hs fun r' s' a1 a2 a3 a4 => ?_
     exact SK hi m b s1 x S' p h r' s' Q a3 a4 (fun e r2 s2 q => h1 e r2 s2 ⟨a1.tr q.1, Nat.le_trans a2 q.2.1, q.2.2⟩) fun fv xs e r2 s2 fv' xs' q => h2 fv xs e r2 s2 fv' xs' ⟨a1.tr q.1, Nat.le_trans a2 q.2.1, q.2.2⟩
    ·rename_i y s1 hne hr1
     simp only [Option.some.injEq, Prod.mk.injEq] at h
     obtain ⟨rfl, rfl, rfl⟩ := h
     refine hi _ _ _ _ hr1 r n0 H0 s _ hE hs fun r' s' a1 a2 a3 a4 => ?_
     cases y with
     | normal => first | exact absurd hr1 (hne _) | exact (hne rfl).elim | exact (hne _ rfl).elim | exact (hne s1).elim | exact (hne _ hr1).elim
     | exit i => exact h1 rfl r' s' ⟨a1, a2, a3, a4⟩
     | ret => exact h1 rfl r' s' ⟨a1, a2, a3, a4⟩
    ·cases h
  | kp ks c => unfold Qx at h; cases h
  | skip => exact plain (fun _ _ => rfl) h
  | segs l => exact plain (fun _ _ => rfl) h
  | reg l => exact plain (fun _ _ => rfl) h
  | regD m S l => exact plain (fun _ _ => rfl) h
  | cond c x y => exact plain (fun _ _ => rfl) h
  | block i c => exact plain (fun _ _ => rfl) h
  | loop c => exact plain (fun _ _ => rfl) h
  | exit i => exact plain (fun _ _ => rfl) h
  | ret => exact plain (fun _ _ => rfl) h
  | bad => exact plain (fun _ _ => rfl) h
  | ke ks c => exact plain (fun _ _ => rfl) h
  | gh c => exact plain (fun _ _ => rfl) h
theorem ZR (hi : Dr X ih) {res : List ARes} {S1 : ES} {xs xs' : List AV} {fv fv' w : AV} {k' n : Nat} {h' : XH} (hc : A3f X ih res S1 xs fv = some (w, k', h')) {r r' : List Nat} {s' : AS} (hex : Ex r r') (hn : n ≤ s'.n) (hE : EnvR r' S1.e s'.e) (hs : SimH r' n0 H0 S1.k S1.h s'.n s'.H) (hfv : Rn r' fv fv') (hxs : RnL r' xs xs') :
  Za X.P xs' (fun n' H' => fin (NA r n0 H0 k' h' w) n res .ret ⟨s'.e, n', H'⟩) s'.n s'.H fv' := by
 unfold A3f at hc
 split at hc
 ·rename_i f u v
  simp only [Rn] at hfv
  obtain ⟨u', v', rfl, hu, hv⟩ := hfv
  split at hc
  ·rename_i hcb
   split at hc
   ·rename_i c hl
    obtain ⟨fn, hf, hcf⟩ := Pj hl
    split at hc
    ·rename_i hb
     have hargs := (hu.app hxs).app hv
     have hlen : (u' ++ xs' ++ v').length = c.nargs := by rw [hargs.len]; exact Nat.eq_of_beq_eq_true hb
     split at hc
     ·cases hc
     ·rename_i y s2 hne hx
      split at hc
      ·rename_i v2 hv2
       split at hc
       ·rename_i w' hw
        injection hc with hc; injection hc with e0 hc; injection hc with e1 e2
        subst e0; subst e1; subst e2
        refine ⟨hcb, fun n' H' => ∃ r2, Ex r' r2 ∧ SimH r2 n0 H0 s2.k s2.h n' H', T3 hf hcf hlen fun _ => hi _ _ _ _ hx r' n0 H0 ⟨E3 (u' ++ xs' ++ v'), s'.n, s'.H⟩ _ (Ou hargs) hs fun r2 s3 a1 a2 a3 a4 => ?_, ?_⟩
        ·obtain ⟨z, h1, h2⟩ := Lp (n' := s3.n) a3 a4.hp hv2
         have : ∃ r n' H', (∃ x, BS s3 c.res = some x ∧ A4 x r) ∧ s'.n ≤ n' ∧ n' ≤ s3.n ∧ (∀ k, n' ≤ k → H' k = none) ∧ SameB n' H' s3.H ∧ ∃ r2, Ex r' r2 ∧ SimH r2 n0 H0 s2.k s2.h n' H' := ⟨z, s3.n, s3.H, ⟨z, h1, A1 z⟩, a2, Nat.le_refl _, a4.van, SameB.rfl_ _ _, r2, a1, a4⟩
         cases y with
         | normal => exact this
         | ret => exact this
         | exit i => exact (hne i rfl).elim
        ·rintro n' H' hn' hv' ⟨r2, b1, b2⟩
         obtain ⟨z, h1, h2⟩ := Lp (n' := n') (hE.mono b1) b2.hp hw
         exact ⟨z, n', H', ⟨z, h1, A1 z⟩, Nat.le_trans hn hn', Nat.le_refl _, b2.van, SameB.rfl_ _ _, r2, hex.tr b1, b2, h2⟩
       ·cases hc
      ·cases hc
     ·cases hc
    ·cases hc
   ·cases hc
  ·cases hc
 ·cases hc
theorem YU (hi : Dr X ih) {f : Nat} {l l' : List AV} {k k' n : Nat} {h h' : XH} {H : A3} {v : AV} (hc : US X ih f l k h = some (v, k', h')) (hs : SimH r n0 H0 k h n H) (ha : RnL r l l') : ACalls X.P f l' n H (NA r n0 H0 k' h' v) := by
 unfold US at hc
 split at hc
 ·rename_i c hl
  obtain ⟨fn, hf, hcf⟩ := Pj hl
  split at hc
  ·rename_i hb
   have hlen : l'.length = c.nargs := by rw [ha.len]; exact Nat.eq_of_beq_eq_true hb
   split at hc
   ·cases hc
   ·rename_i y s1 fv xs hne hr1
    refine JP hf hcf hlen fun _ => SK hi _ _ _ _ _ _ hr1 r ⟨E3 l', n, H⟩ _ (Ou ha) hs (fun e => by cases e) fun fv2 xs2 e r' s' fv' xs' q hfv hxs => ?_
    injection e with e; injection e with e1 e2
    subst e1; subst e2
    have key := ZR hi hc q.1 q.2.1 q.2.2.1 q.2.2.2 hfv hxs
    cases y with
    | normal => exact key
    | ret => exact key
    | exit i => exact (hne i rfl).elim
   ·rename_i y s1 hne hr1
    split at hc
    ·rename_i v' hv
     injection hc with hc; injection hc with e0 hc; injection hc with e1 e2
     subst e0; subst e1; subst e2
     refine JP hf hcf hlen fun _ => SK hi _ _ _ _ _ _ hr1 r ⟨E3 l', n, H⟩ _ (Ou ha) hs (fun _ r' s' q => ?_) fun fv2 xs2 e => by cases e
     obtain ⟨a1, a2, a3, a4⟩ := q
     obtain ⟨u, h1, h2⟩ := Lp (n' := s'.n) a3 a4.hp hv
     have : ∃ w n' H', (∃ x, BS s' c.res = some x ∧ A4 x w) ∧ n ≤ n' ∧ n' ≤ s'.n ∧ (∀ k, n' ≤ k → H' k = none) ∧ SameB n' H' s'.H ∧ NA r n0 H0 s1.k s1.h v' w n' H' := ⟨u, s'.n, s'.H, ⟨u, h1, A1 u⟩, a2, Nat.le_refl _, a4.van, SameB.rfl_ _ _, r', a1, a4, h2⟩
     cases y with
     | normal => exact this
     | ret => exact this
     | exit i => exact (hne i rfl).elim
    ·cases hc
   ·cases hc
  ·cases hc
 ·cases hc
theorem Su (hi : Dr X ih) {f : Nat} {l l' : List AV} {k k' n : Nat} {h h' : XH} {H : A3} {v : AV} (hc : NG X ih f l k h = some (v, k', h')) (hs : SimH r n0 H0 k h n H) (ha : RnL r l l') : ACalls X.P f l' n H (NA r n0 H0 k' h' v) := by
 unfold NG at hc
 split at hc
 ·rename_i v0 k0 h0 h1
  have h2 := Wk hi h1 hs ha
  split at hc
  ·injection hc with hc; injection hc with e1 hc; injection hc with e2 e3
   subst e1; subst e2; subst e3
   exact WF 9 h2
  ·injection hc with hc; injection hc with e1 hc; injection hc with e2 e3
   subst e1; subst e2; subst e3
   exact h2
 ·exact YU hi hc hs ha
theorem ACalls.simX {P : Program} {f n : Nat} {args : List AV} {H : A3} {R R' : Gk} (h : ACalls P f args n H R) (k : ∀ u n' H', R u n' H' → ∃ u', A4 u u' ∧ R' u' n' H') : ACalls P f args n H R' :=
 fun hs w0 G w vs hl hr hv => (h hs w0 G w vs hl hr hv).mono fun e w' ⟨v, r, G', n', H', e1, e2, e3, e4, e5, e6⟩ => by
  obtain ⟨u', h1, h2⟩ := k r n' H' e2
  exact ⟨v, u', G', n', H', e1, h2, e3.sim h1, e4, e5, e6⟩
theorem pure_ok (hi : Dr X ih) {f k' : Nat} {l : List AV} {h' : XH} {v : AV} (hc : NG X ih f l 0 [] = some (v, k', h')) (hl : IN l = true) (hv : Lk (weak v) = true) : APure X.P f l (weak v) := by
 intro n H hz
 have hs : SimH [] n H 0 [] n H := ⟨rfl, fun g ob e => by simp [AO] at e, fun g ob a e => by simp [AO] at e, fun g1 g2 o1 o2 a e => by simp [AO] at e, fun _ _ => rfl, fun _ _ e => e, Nat.le_refl _, hz⟩
 refine (((Su hi hc hs (RnL.of_nid hl)).simX (R' := fun u n' H' => u = weak v ∧ SameB n H H') fun u n' H' ⟨r', _, hs', hu⟩ => ⟨weak u, Lu u, Rn.eq_nid hv (Se hu), hs'.fr0⟩).forget fun u n' H' _ ⟨h1, h2⟩ => ⟨h2, h1, rfl, rfl⟩) hz
end
section
variable {r : List Nat} {n0 : Nat} {H0 : A3} {X : XP} {ih : XF} {S S' : ES} {s : AS} {d : Option Nat} {K : AS → Prop}
abbrev Goes (r : List Nat) (n0 : Nat) (H0 : A3) (S' : ES) (s : AS) (K : AS → Prop) : Prop := ∀ r' s', Ex r r' → s.n ≤ s'.n → EnvR r' S'.e s'.e → SimH r' n0 H0 S'.k S'.h s'.n s'.H → K s'
theorem QM {o : Option AV} {o' : Option AV} (hE : EnvR r S.e s.e) (hs : SimH r n0 H0 S.k S.h s.n s.H) (h : Si S d o = some S') (ho : ∀ v, o = some v → ∃ u, o' = some u ∧ Rn r v u) (hk : Goes r n0 H0 S' s K) : K1 o' fun v => K ⟨AD s.e d v, s.n, s.H⟩ := by
 cases o with
 | none => cases h
 | some v =>
  obtain ⟨u, rfl, h2⟩ := ho v rfl
  simp only [Si, Option.some.injEq] at h; subst h
  exact hk r _ (Ex.rfl_ r) (Nat.le_refl _) (hE.put h2 d) hs
theorem SQ {v : Nat → AV} {v' : Nat → AV} {ob : AObj} {ob' : AObj} (hE : EnvR r S.e s.e) (hs : SimH r n0 H0 S.k S.h s.n s.H) (h : IT S d v ob = some S') (hv : ∀ g, (r ++ [g])[S.k]? = some g → Rn (r ++ [g]) (v S.k) (v' g)) (ho : ∀ g, RnO (r ++ [g]) ob ob')
  (g n' : Nat) (hg : s.H g = none) (h0 : n0 ≤ g) (hn : s.n ≤ n') (hl : g < n') (hk : (r ++ [g])[S.k]? = some g → EnvR (r ++ [g]) S'.e (AD s.e d (v' g)) → SimH (r ++ [g]) n0 H0 S'.k S'.h n' (upd s.H g (some ob')) → K ⟨AD s.e d (v' g), n', upd s.H g (some ob')⟩) : K ⟨AD s.e d (v' g), n', upd s.H g (some ob')⟩ := by
 simp only [IT, Option.some.injEq] at h; subst h
 have hgk : (r ++ [g])[S.k]? = some g := by rw [hs.len]; simp
 exact hk hgk ((hE.mono (Ex.app r [g])).put (hv g hgk) d) (hs.new hg h0 hn hl (ho g))
def A1r (r r' : List Nat) (S : ES) (s : AS) : AV → Prop
 | .sl _ _ .nil => ∀ b, r'[S.k]? = some b → s.n ≤ b
 | .slg _ g0 _ => ∀ b, r'[S.k]? = some b → s.n ≤ b ∨ r[g0]? = some b
 | _ => True
theorem Rf {v : Nat → AV} {v' : Nat → AV} {ob : AObj} {ob' : AObj} (hE : EnvR r S.e s.e) (hs : SimH r n0 H0 S.k S.h s.n s.H) (h : IT S d v ob = some S') (hv : ∀ g, (r ++ [g])[S.k]? = some g → Rn (r ++ [g]) (v S.k) (v' g)) (ho : ∀ g, RnO (r ++ [g]) ob ob') (hk : Goes r n0 H0 S' s K)
  (g n' : Nat) (hg : s.H g = none) (h0 : n0 ≤ g) (hn : s.n ≤ n') (hl : g < n') : K ⟨AD s.e d (v' g), n', upd s.H g (some ob')⟩ := by
 simp only [IT, Option.some.injEq] at h; subst h
 exact hk (r ++ [g]) _ (Ex.app r [g]) hn ((hE.mono (Ex.app r [g])).put (hv g (by rw [hs.len]; simp)) d) (hs.new hg h0 hn hl (ho g))
theorem Hs {v : Nat → AV} {v' : Nat → AV} {ob : AObj} {ob' : AObj} (hE : EnvR r S.e s.e) (hs : SimH r n0 H0 S.k S.h s.n s.H) (h : IT S d v ob = some S') (hv : ∀ g, (r ++ [g])[S.k]? = some g → Rn (r ++ [g]) (v S.k) (v' g)) (ho : ∀ g, RnO (r ++ [g]) ob ob') (hk : Goes r n0 H0 S' s K)
  (g : Nat) (hg : s.n ≤ g) : K ⟨AD s.e d (v' g), g + 1, upd s.H g (some ob')⟩ :=
 Rf hE hs h hv ho hk g (g + 1) (hs.van g hg) (by have := hs.n0n; omega) (by omega) (by omega)
theorem GO {l : List AV} (h : PX l = true) : ones l := fun x hx => List.all_eq_true.1 h x hx
theorem YV {el sz by_ : Nat} {m m' : List AV} {x x' : AV} (hE : EnvR r S.e s.e) (hs : SimH r n0 H0 S.k S.h s.n s.H) (h : ZK X el sz by_ d S m x = some S') (hx : Rn r x x') (hm : RnL r m m') (hk : ∀ r' s', Ex r r' → s.n ≤ s'.n → EnvR r' S'.e s'.e → SimH r' n0 H0 S'.k S'.h s'.n s'.H → A1r r r' S s x → K s') : K4 el sz by_ d K s x' m' := by
 unfold ZK at h
 split at h
 ·rename_i z l t
  simp only [Rn] at hx; obtain ⟨l', t', rfl, h1, h2⟩ := hx
  split at h
  ·rename_i hsp
   simp only [Zn, Bool.and_eq_true, decide_eq_true_eq] at hsp
   refine ⟨by rw [h1.len, hm.len]; exact hsp.1, by rw [h1.len, hm.len]; exact hsp.2, ?_⟩
   split at h
   ·simp only [RnT] at h2; subst h2
    split at h
    ·simp only [RnL] at hm; subst hm
     injection h with h; subst h
     exact ⟨fun _ => hk r _ (Ex.rfl_ r) (Nat.le_refl _) (hE.put (v := .sl sz [] .nil) (v' := .sl sz [] .nil) (Rn.of_nid rfl) d) hs (fun b e => by rw [hs.len] at e; simp at e), fun e => absurd rfl e⟩
    ·rename_i y ys
     have hne : m' ≠ [] := by simp only [RnL] at hm; obtain ⟨_, _, rfl, _⟩ := hm; simp
     refine ⟨fun e => absurd e hne, fun _ => ?_⟩
     split at h
     ·rename_i ha
      simp only [Bool.and_eq_true] at ha
      exact .inr fun g hg => SQ (v' := fun g => .slg sz g m'.length) hE hs h (fun g e => ⟨g, by rw [hm.len], e⟩) (fun g => ⟨_, rfl, (hm.mono (Ex.app r [g])).flat ha.2⟩) g (g + 1) (hs.van g hg) (by have := hs.n0n; omega) (by omega) (by omega) fun e1 e2 e3 => hk (r ++ [g]) ⟨_, _, _⟩ (Ex.app r [g]) (by show s.n ≤ g + 1; omega) e2 e3 fun b e => by rw [e1] at e; injection e with e; omega
     ·exact .inl fun g hg => SQ (v' := fun g => .sl sz m' (.own g)) hE hs h (fun g e => ⟨m', .own g, rfl, hm.mono (Ex.app r [g]), g, rfl, e⟩) (fun g => by simp only [RnO, hm.len]) g (g + 1) (hs.van g hg) (by have := hs.n0n; omega) (by omega) (by omega) fun e1 e2 e3 => hk (r ++ [g]) ⟨_, _, _⟩ (Ex.app r [g]) (by show s.n ≤ g + 1; omega) e2 e3 fun b e => by rw [e1] at e; injection e with e; omega
   ·rename_i g0
    simp only [RnT] at h2; obtain ⟨a, rfl, h2⟩ := h2
    split at h
    ·rename_i e' n hg0
     split at h
     ·rename_i hc
      simp only [Bool.and_eq_true, decide_eq_true_eq] at hc
      obtain ⟨rfl, rfl, rfl⟩ := hc
      obtain ⟨ob, h3, h4⟩ := hs.hp.at_ h2 hg0
      simp only [RnO] at h4; subst h4
      refine ⟨rfl, by rw [h3, h1.len], fun g n' hg hn hl => ?_⟩
      have hs2 := hs.del hg0 h2
      have hl0 := hs.lo _ _ _ hg0 h2
      refine Rf (S := ⟨S.e, S.k, G9 S.h g0⟩) (s := ⟨s.e, s.n, upd s.H a none⟩) (v' := fun g => .sl z (l' ++ m') (.own g)) hE hs2 h (fun g e => ⟨_, .own g, rfl, (h1.app hm).mono (Ex.app r [g]), g, rfl, e⟩) (fun g => by simp only [RnO, hm.len, h1.len]) (fun r' s' q1 q2 q3 q4 => hk r' s' q1 q2 q3 q4 trivial) g n' ?_ ?_ hn hl
      ·show upd s.H a none g = none
       rcases hg with rfl | hg
       ·exact AN _ _ _
       ·rw [upd_ne (by omega)]; exact hs.van g hg
      ·have := hs.n0n; omega
     ·cases h
    ·cases h
   ·cases h
  ·cases h
 ·rename_i z g0 k
  simp only [Rn] at hx; obtain ⟨a, rfl, h2⟩ := hx
  split at h
  ·rename_i hsp
   simp only [Zn, Bool.and_eq_true, decide_eq_true_eq] at hsp
   split at h
   ·rename_i e' cs hg0
    split at h
    ·rename_i hc
     simp only [Bool.and_eq_true, decide_eq_true_eq] at hc
     obtain ⟨rfl, rfl, hc, hn⟩ := hc
     obtain ⟨ob, h3, h4⟩ := hs.hp.at_ h2 hg0
     simp only [RnO] at h4; obtain ⟨ds, rfl, h4⟩ := h4
     refine ⟨rfl, by rw [hm.len]; exact hsp.1, by rw [hm.len]; exact hsp.2, ?_⟩
     rw [h3]
     refine ⟨rfl, by rw [h4.len]; exact hc, fun g n' hg hn' hl => ?_⟩
     have hs2 := hs.del hg0 h2
     have hl0 := hs.lo _ _ _ hg0 h2
     refine SQ (S := ⟨S.e, S.k, G9 S.h g0⟩) (s := ⟨s.e, s.n, upd s.H a none⟩) (v' := fun g => .slg z g (k + m'.length)) hE hs2 h (fun g e => ⟨g, by rw [hm.len], e⟩) (fun g => ⟨_, rfl, (h4.app (hm.flat hn)).mono (Ex.app r [g])⟩) g n' ?_ ?_ hn' hl fun e1 e2 e3 => hk (r ++ [g]) ⟨_, _, _⟩ (Ex.app r [g]) hn' e2 e3 fun b e => by rw [e1] at e; injection e with e; subst e; exact hg.elim (fun e => .inr (by rw [e]; exact h2)) .inl
     ·show upd s.H a none g = none
      rcases hg with rfl | hg
      ·exact AN _ _ _
      ·rw [upd_ne (by omega)]; exact hs.van g hg
     ·have := hs.n0n; omega
    ·cases h
   ·cases h
  ·cases h
 ·cases h
theorem Qq {cs ds v u : List AV} {o : Nat} (h : RnL r cs ds) (k : RnL r v u) : RnL r (splice cs o v) (splice ds o u) := by
 unfold splice
 rw [k.len]; exact ((h.tk o).app k).app (h.dp _)
theorem A21 {sh : Cm} {v v' x x' : AV} (hE : EnvR r S.e s.e) (hs : SimH r n0 H0 S.k S.h s.n s.H) (h : A2n S d sh v x = some S') (hx : Rn r x x') (hv : Rn r v v') (hk : Goes r n0 H0 S' s K) : Cz sh d K s v' x' := by
 unfold A2n at h
 split at h
 ·rename_i g o
  simp only [Rn] at hx; obtain ⟨a, rfl, hx⟩ := hx
  split at h
  ·rename_i hf
   simp only [Bool.and_eq_true] at hf
   have hc := hv.cells (ER hf.1)
   have h1 := hv.fits hf.1
   have h2 := hc.ones (GO hf.2)
   split at h
   ·rename_i t cs hg
    obtain ⟨ob, h3, h4⟩ := hs.hp.at_ hx hg
    simp only [RnO] at h4; obtain ⟨ds, rfl, h4⟩ := h4
    split at h
    ·rename_i hl
     rw [decide_eq_true_eq] at hl
     injection h with h; subst h
     simp only [Cz, h3]
     exact ⟨h1, h2, by rw [hc.len, h4.len]; exact hl, hk r _ (Ex.rfl_ r) (Nat.le_refl _) (hE.put (by simp only [Rn]) d) (hs.set hg hx ⟨_, rfl, Qq h4 hc⟩)⟩
    ·cases h
   ·rename_i t cs hg
    obtain ⟨ob, h3, h4⟩ := hs.hp.at_ hx hg
    simp only [RnO] at h4; obtain ⟨ds, rfl, h4⟩ := h4
    split at h
    ·rename_i hl
     rw [decide_eq_true_eq] at hl
     injection h with h; subst h
     simp only [Cz, h3]
     exact ⟨h1, h2, by rw [hc.len, h4.len]; exact hl, hk r _ (Ex.rfl_ r) (Nat.le_refl _) (hE.put (by simp only [Rn]) d) (hs.set hg hx ⟨_, rfl, Qq h4 hc⟩)⟩
    ·cases h
   ·cases h
  ·cases h
 ·cases h
theorem WE (hi : Dr X ih) {f k' : Nat} {l l' : List AV} {v : AV} {h' : XH} (hE : EnvR r S.e s.e) (hs : SimH r n0 H0 S.k S.h s.n s.H) (hc : NG X ih f l S.k S.h = some (v, k', h')) (ha : RnL r l l') (hk : Goes r n0 H0 ⟨pX S.e d v, k', h'⟩ s K) : CallK X.P f l' d K s :=
 ⟨_, Su hi hc hs ha, fun u n' H' hn hz ⟨r', hx, hs', hv⟩ => hk r' _ hx hn ((hE.mono hx).put hv d) hs'⟩
theorem A08 {h H : A3} {u : TypeId} {x y v : AV} {P : Program} (hh : HeapR r h H) (hx : Rn r x y) (k : Bp P h u x = some v) : ∃ w, Bp P H u y = some w ∧ Rn r v w := by
 unfold Bp at k
 split at k
 ·rename_i g o
  have h2 := hx; simp only [Rn] at hx; obtain ⟨a, rfl, hx⟩ := hx
  split at k
  ·rename_i e cs hg
   obtain ⟨ob, h3, h4⟩ := hh.at_ hx hg
   simp only [RnO] at h4; obtain ⟨ds, rfl, h4⟩ := h4
   split at k
   ·rename_i hz
    injection k with k; subst k
    exact ⟨_, by simp only [Bp, h3, h4.len, if_pos hz], h2⟩
   ·cases k
  ·cases k
 ·cases k
theorem A35 {e : TypeId} {x y x' y' v : AV} (hx : Rn r x x') (hy : Rn r y y') (k : DQ e x y = some v) : ∃ w, DQ e x' y' = some w ∧ Rn r v w := by
 unfold DQ at k
 split at k
 ·rename_i e' l n
  simp only [Rn] at hx hy; obtain ⟨l', rfl, hx⟩ := hx; subst hy
  split at k
  ·rename_i hz
   obtain ⟨b, k1, rfl⟩ := DX k
   have hz' : e' = e ∧ n = (l'.length : Int) ∧ l'.length ≤ KA ∧ l'.all QX = true := ⟨hz.1, by rw [hx.len]; exact hz.2.1, by rw [hx.len]; exact hz.2.2.1, A5z hx hz.2.2.2⟩
   simp only [DQ, if_pos hz', PC hx k1, Option.map_some]
   exact ⟨_, rfl, rfl⟩
  ·cases k
 ·cases k
theorem Td {t sz b : Nat} {x y : Opd} (hok : (AOp.app t sz b x y).okc = true) (hE : EnvR r S.e s.e) (hs : SimH r n0 H0 S.k S.h s.n s.H) (h : HJ X ih d (.app t sz b x y) S = some S') (hk : ∀ r' s', Ex r r' → s.n ≤ s'.n → EnvR r' S'.e s'.e → SimH r' n0 H0 S'.k S'.h s'.n s'.H → A1r r r' S s (ev S.e x) → K s') : AF X.P d (.app t sz b x y) K s := by
 simp only [HJ] at h
 simp only [AOp.okc, Bool.and_eq_true] at hok
 have hy := AM hE hok.2
 have hx := AM hE hok.1
 show appKS t sz b d K s (ev s.e x) (ev s.e y)
 split at h
 ·rename_i z m tk e
  rw [e] at hy
  simp only [Rn] at hy; obtain ⟨m', t', hy, hm, _⟩ := hy
  rw [hy]
  split at h
  ·rename_i hz
   refine ⟨?_, m', A0 _, YV hE hs h hx hm hk⟩
   rcases Bool.or_eq_true_iff.1 hz with hz | hz
   ·exact .inl (Nat.eq_of_beq_eq_true hz)
   ·rw [List.isEmpty_iff] at hz; subst hz; exact .inr (by simpa only [RnL] using hm)
  ·cases h
 ·cases h
theorem A22 (hi : Dr X ih) (horc : I5 X) {op : AOp} (hok : op.okc = true) (hE : EnvR r S.e s.e) (hs : SimH r n0 H0 S.k S.h s.n s.H) (h : HJ X ih d op S = some S') (hk : Goes r n0 H0 S' s K) : AF X.P d op K s := by
 have def_ : ∀ {o}, o = pe op s.e s.H → Si S d (pe op S.e (AO S.h)) = some S' → K1 o fun v => K ⟨AD s.e d v, s.n, s.H⟩ := fun e h => by
  subst e; exact QM hE hs h (fun v k => A1m hE hs.hp hok k) hk
 cases op
 case alloc t z =>
  simp only [HJ] at h
  split at h
  ·rename_i hz
   exact ⟨GO hz, fun g hg => Hs (v' := fun g => .ptr g 0) hE hs h (fun g e => ⟨g, rfl, e⟩) (fun g => ⟨_, rfl, RnL.of_nid hok⟩) hk g hg⟩
  ·cases h
 case box t sh x =>
  simp only [HJ] at h
  split at h
  ·rename_i hz
   simp only [Bool.and_eq_true] at hz
   have hx := AM hE hok
   have hc := hx.cells (ER hz.1)
   exact ⟨hx.fits hz.1, hc.ones (GO hz.2), fun g hg => Hs (v' := fun g => .ptr g 0) hE hs h (fun g e => ⟨g, rfl, e⟩) (fun g => ⟨_, rfl, hc.mono (Ex.app r [g])⟩) hk g hg⟩
  ·cases h
 case store sh x v =>
  simp only [AOp.okc, Bool.and_eq_true] at hok
  exact A21 hE hs h (AM hE hok.1) (AM hE hok.2) hk
 case bsl t sh xs =>
  simp only [HJ] at h
  have hx := II hE (l := xs) hok
  split at h
  ·rename_i hz
   have hz' : ∀ x ∈ xs, (ev S.e x).fits sh = true ∧ PX (ev S.e x).cells = true := by
    intro x hx
    have := List.all_eq_true.1 hz _ (List.mem_map_of_mem hx)
    simpa only [Bool.and_eq_true] using this
   refine ⟨fun x hx => ?_, ?_⟩
   ·obtain ⟨h1, h2⟩ := hz' x hx
    have h3 := AM hE (List.all_eq_true.1 hok x hx)
    exact ⟨h3.fits h1, (h3.cells (ER h1)).ones (GO h2)⟩
   ·split at h
    ·have hn : (xs.map (ev S.e)).all SY = true := by
      rw [List.all_eq_true]; intro y hy
      obtain ⟨x, hx, rfl⟩ := List.mem_map.1 hy
      exact ER (hz' x hx).1
     exact .inr fun g hg => Hs (v' := fun g => .slm (B6 sh) g 0 xs.length) hE hs h (fun g e => ⟨g, rfl, e⟩) (fun g => ⟨_, rfl, (hx.mono (Ex.app r [g])).flat hn⟩) hk g hg
    ·exact .inl fun g hg => Hs (v' := fun g => .sl (B6 sh) (xs.map (ev s.e)) (.own g)) hE hs h (fun g e => ⟨_, .own g, rfl, hx.mono (Ex.app r [g]), g, rfl, e⟩) (fun g => rfl) hk g hg
  ·cases h
 case app t sz b x y =>
  exact Td hok hE hs h fun r' s' q1 q2 q3 q4 _ => hk r' s' q1 q2 q3 q4
 case appB t b x y =>
  simp only [HJ] at h
  simp only [AOp.okc, Bool.and_eq_true] at hok
  have hy := AM hE hok.2
  have hx := AM hE hok.1
  show QF t b d K s (ev s.e x) (ev s.e y)
  split at h
  ·rename_i u e
   rw [e] at hy
   simp only [Rn] at hy
   rw [hy]
   exact YV hE hs h hx (RnL.mp (f := fun u : UInt8 => AV.int .u8 u.toNat) fun u _ => by simp only [Rn]) fun r' s' q1 q2 q3 q4 _ => hk r' s' q1 q2 q3 q4
  ·cases h
 case s2b t x =>
  simp only [HJ] at h
  have hx := AM hE hok
  show (match ev s.e x with | .str b => _ | _ => False)
  split at h
  ·rename_i b e
   rw [e] at hx
   simp only [Rn] at hx
   rw [hx]
   split at h
   ·rename_i hz
    injection h with h; subst h
    exact ⟨of_decide_eq_true hz, fun n' hn => hk r ⟨_, n', _⟩ (Ex.rfl_ r) hn (hE.put (v := .sl 1 (b.map fun u => .int .u8 u.toNat) .ro) (v' := .sl 1 (b.map fun u => .int .u8 u.toNat) .ro) ⟨_, .ro, rfl, RnL.mp (f := fun u : UInt8 => AV.int .u8 u.toNat) fun u _ => by simp only [Rn], rfl⟩ d) (hs.up hn)⟩
   ·cases h
  ·cases h
 case s2s x =>
  simp only [HJ] at h
  have hx := AM hE hok
  show (match ev s.e x with | .sl sz l (.own g) => _ | _ => False)
  split at h
  ·rename_i sz y l g e
   rw [e] at hx
   simp only [Rn, RnT] at hx; obtain ⟨l', t', hx, hl, a, rfl, ha⟩ := hx
   rw [hx]
   split at h
   ·rename_i ob hg
    injection h with h; subst h
    refine ⟨fun e => ?_, hk r ⟨_, _, _⟩ (Ex.rfl_ r) (Nat.le_refl _) (hE.put (v := .sl sz (y :: l) .ro) (v' := .sl sz l' .ro) ⟨l', .ro, rfl, hl, rfl⟩ d) (hs.del hg ha)⟩
    have := hl.len; rw [e] at this; simp at this
   ·cases h
  ·cases h
 case mkmap kk => exact fun g hg => Hs (v' := .mp) hE hs h (fun g e => ⟨g, rfl, e⟩) (fun g => ⟨_, rfl, rfl⟩) hk g hg
 case mset kk m k v =>
  simp only [HJ] at h
  simp only [AOp.okc, Bool.and_eq_true] at hok
  have h1 := AM hE hok.1
  have h2 := AM hE hok.2.1
  have h3 := AM hE hok.2.2
  show Ds kk d K s (ev s.e k) (ev s.e v) (ev s.e m)
  split at h
  ·rename_i g e
   rw [e] at h1
   simp only [Rn] at h1; obtain ⟨a, h1, ha⟩ := h1
   rw [h1]
   split at h
   ·rename_i kk' es hg
    obtain ⟨ob, h4, h5⟩ := hs.hp.at_ ha hg
    simp only [RnO] at h5; obtain ⟨fs, rfl, h5⟩ := h5
    split at h
    ·rename_i hz
     simp only [Bool.and_eq_true, decide_eq_true_eq] at hz
     obtain ⟨rfl, hz⟩ := hz
     have key : ev s.e k = ev S.e k ∧ Lk (ev S.e k) = true := by
      revert h2 hz
      generalize ev S.e k = p; generalize ev s.e k = q
      intro h2 hz
      cases kk' <;> cases p <;> simp [BN] at hz <;> exact ⟨by simpa only [Rn] using h2, rfl⟩
     injection h with h; subst h
     simp only [Ds, h4, key.1]
     exact ⟨trivial, hz, hk r ⟨_, _, _⟩ (Ex.rfl_ r) (Nat.le_refl _) (hE.put (by simp only [Rn]) d) (hs.set hg ha ⟨_, rfl, h5.set key.2 h3⟩)⟩
    ·cases h
   ·cases h
  ·cases h
 case mksl el b z x y =>
  simp only [HJ] at h
  simp only [AOp.okc, Bool.and_eq_true] at hok
  have h1 := AM hE hok.2.1
  have h2 := AM hE hok.2.2
  show N5 el b z d K s (ev s.e x) (ev s.e y)
  split at h
  ·rename_i k1 a k2 c e1 e2
   rw [e1] at h1; rw [e2] at h2
   simp only [Rn] at h1 h2
   rw [h1, h2]
   split at h
   ·rename_i hz
    simp only [Bool.and_eq_true, decide_eq_true_eq] at hz
    exact ⟨hz.1, hz.2.1, hz.2.2.1, hz.2.2.2, fun g hg => Hs (v' := fun g => .slm 1 g 0 a.toNat) hE hs h (fun g e => ⟨g, rfl, e⟩) (fun g => ⟨_, rfl, RnL.of_nid (by
     have : ∀ n, IN (List.replicate n z) = true := fun n => by induction n with | zero => rfl | succ n ih => simp only [List.replicate_succ, IN, ih, hok.1, Bool.and_self]
     exact this _)⟩) hk g hg⟩
   ·cases h
  ·cases h
 case rng x =>
  simp only [HJ] at h
  have hx := AM hE hok
  show Ra d K s (ev s.e x)
  split at h
  ·rename_i m e
   rw [e] at hx
   simp only [Rn] at hx; obtain ⟨a, hx, ha⟩ := hx
   rw [hx]
   split at h
   ·rename_i kk es hm
    obtain ⟨ob, h4, h5⟩ := hs.hp.at_ ha hm
    simp only [RnO] at h5; obtain ⟨fs, rfl, h5⟩ := h5
    simp only [Ra, h4]
    exact fun g hg => Hs (v' := fun g => .ptr g 0) hE hs h (fun g e => ⟨g, rfl, e⟩) (fun g => ⟨a, _, by rw [h5.len], Ex.app r [g] _ _ ha, fun _ => rfl⟩) hk g hg
   ·cases h
  ·cases h
 case nxt x => cases h
 case call f xs =>
  simp only [HJ] at h
  have hx := II hE (l := xs) hok
  show CallK X.P f (xs.map (ev s.e)) d K s
  split at h
  ·rename_i v e
   injection h with h; subst h
   split at e
   ·rename_i hn
    obtain ⟨hp, hv⟩ := horc _ _ _ e
    rw [hx.eq_nid hn]
    exact ⟨_, hp s.n s.H, fun u n' H' _ _ ⟨e1, e2, e3⟩ => by subst e1; subst e2; subst e3; exact hk r _ (Ex.rfl_ r) (Nat.le_refl _) (hE.put (Rn.of_nid hv) d) hs⟩
   ·cases e
  ·split at h
   ·rename_i v k h' hc
    injection h with h; subst h
    exact WE hi hE hs hc hx hk
   ·cases h
 case callp f xs =>
  simp only [HJ] at h
  have hx := II hE (l := xs) hok
  split at h
  ·rename_i hn
   have hw := M7 hx
   have hw' := hw.eq_nid hn
   have fin' : ∀ v, APure X.P f (HI (xs.map (ev S.e))) v → Lk v = true → (⟨pX S.e d v, S.k, S.h⟩ : ES) = S' → AF X.P d (.callp f xs) K s := by
    rintro v hp hv rfl
    exact ⟨HI (xs.map (ev S.e)), v, hp, by rw [← hw']; exact HH _, hk r ⟨_, _, _⟩ (Ex.rfl_ r) (Nat.le_refl _) (hE.put (Rn.of_nid hv) d) hs⟩
   split at h
   ·rename_i v e
    injection h with h
    obtain ⟨hp, hv⟩ := horc _ _ _ e
    exact fin' v hp hv h
   ·split at h
    ·rename_i v _ _ hc
     split at h
     ·rename_i hv
      injection h with h
      exact fin' _ (pure_ok hi hc hn hv) hv h
     ·cases h
    ·cases h
  ·cases h
 case callv x xs =>
  simp only [HJ] at h
  simp only [AOp.okc, Bool.and_eq_true] at hok
  have h1 := AM hE hok.1
  have hx := II hE hok.2
  show (match ev s.e x with | .fn f a b => _ | _ => False)
  split at h
  ·rename_i f a b e
   rw [e] at h1
   simp only [Rn] at h1; obtain ⟨a', b', h1, h2, h3⟩ := h1
   rw [h1]
   split at h
   ·rename_i hc
    split at h
    ·rename_i v k h' hcx
     injection h with h; subst h
     exact ⟨hc, WE hi hE hs hcx ((h2.app hx).app h3) hk⟩
    ·cases h
   ·cases h
  ·cases h
 case updn u x => exact QM hE hs h (fun v k => A08 hs.hp (AM hE hok) k) hk
 case ust t x m =>
  simp only [AOp.okc, Bool.and_eq_true] at hok
  exact QM hE hs h (fun v k => A35 (AM hE hok.1) (AM hE hok.2) k) hk
 all_goals exact def_ rfl h
theorem VR (hi : Dr X ih) (horc : I5 X) {op : AOp} (hE : EnvR r S.e s.e) (hs : SimH r n0 H0 S.k S.h s.n s.H) (h : Tr X ih d op S = some S') (hk : Goes r n0 H0 S' s K) : AF X.P d op K s := by
 unfold Tr at h
 split at h
 ·cases h
 ·rename_i hok; exact A22 hi horc hok hE hs h hk
theorem VW (hi : Dr X ih) (horc : I5 X) {o : AOper} (hE : EnvR r S.e s.e) (hs : SimH r n0 H0 S.k S.h s.n s.H) (h : UG X ih o S = some S') (hk : Goes r n0 H0 S' s K) : awO X.P o K s := by
 unfold UG at h
 unfold awO
 split at h
 ·rename_i hg; rw [hg]; exact VR hi horc hE hs h hk
 ·rename_i t want hg
  rw [hg]
  have ht := hE t
  have skip_ : some (⟨pX S.e o.dst .und, S.k, S.h⟩ : ES) = some S' → K ⟨AD s.e o.dst .und, s.n, s.H⟩ := fun h => by
   injection h with h; subst h
   exact hk r ⟨_, _, _⟩ (Ex.rfl_ r) (Nat.le_refl _) (hE.put (by simp only [Rn]) _) hs
  simp only
  split at h
  ·rename_i b e
   rw [e] at ht; simp only [Rn] at ht; rw [ht]
   split at h
   ·rename_i hb
    exact ⟨fun _ => VR hi horc hE hs h hk, fun hne => absurd (of_decide_eq_true hb) hne⟩
   ·rename_i hb
    exact ⟨fun he => absurd he (of_decide_eq_false hb), fun _ => skip_ h⟩
  ·rename_i e
   rw [e] at ht; simp only [Rn] at ht; rw [ht]
   exact skip_ h
  ·cases h
theorem Y1 (hi : Dr X ih) (horc : I5 X) : ∀ {l : List AOper} {r : List Nat} {S : ES} {s : AS}, EnvR r S.e s.e → SimH r n0 H0 S.k S.h s.n s.H → Wq X ih l S = some S' → Goes r n0 H0 S' s K → awOps X.P l K s
 | [], r, S, s, hE, hs, h, hk => by
  simp only [Wq, Option.some.injEq] at h; subst h
  exact hk r s (Ex.rfl_ r) (Nat.le_refl _) hE hs
 | o :: os, r, S, s, hE, hs, h, hk => by
  simp only [Wq] at h
  split at h
  ·rename_i S1 h1
   exact VW hi horc hE hs h1 fun r1 s1 hx hn hE1 hs1 => Y1 hi horc hE1 hs1 h fun r2 s2 hx2 hn2 => hk r2 s2 (hx.tr hx2) (Nat.le_trans hn hn2)
  ·cases h
end
end Go.Proofs.YtnfjgphfaemjcaaGreatDoor

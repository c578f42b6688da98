/- Calls on constants: regions in any order, and code as a whole; no condition. -/
import Derived.Test.YtnfjgphfaemjcaaGreatDoorMgK
import Derived.Test.YtnfjgphfaemjcaaGreatDoorMgC
import Derived.Test.YtnfjgphfaemjcaaGreatDoorRows
import Derived.ProofKit
import Derived.OpenShut
import Derived.Deep.Slices
import Derived.Deep.Fields
set_option linter.all false
namespace Go.Proofs.YtnfjgphfaemjcaaGreatDoor
def Vc (r : List Nat) (g : Nat) : Nat := (r[g]?).getD 0
structure RegF (r : List Nat) (h0 : XH) (gs nw gs' : List Nat) (lo : Nat) : Prop where
 old : ∀ g ob, AO h0 g = some ob → ∃ a, r[g]? = some a ∧ a < lo ∧ (g ∉ gs → a ∉ gs')
 got : ∀ g, g ∈ gs → ∃ a, r[g]? = some a ∧ a ∈ gs'
 new_ : ∀ g, g ∈ nw → ∃ a, r[g]? = some a ∧ (lo ≤ a ∨ a ∈ gs')
theorem RegF.mono {r r' : List Nat} {h0 : XH} {gs nw gs' : List Nat} {lo : Nat} (hx : Ex r r') (h : RegF r h0 gs nw gs' lo) : RegF r' h0 gs nw gs' lo :=
 ⟨fun g ob e => by obtain ⟨a, h1, h2⟩ := h.old g ob e; exact ⟨a, hx _ _ h1, h2⟩, fun g e => by obtain ⟨a, h1, h2⟩ := h.got g e; exact ⟨a, hx _ _ h1, h2⟩, fun g e => by obtain ⟨a, h1, h2⟩ := h.new_ g e; exact ⟨a, hx _ _ h1, h2⟩⟩
theorem R5 {gs : List Nat} {H : A3} {a : Nat} (h : a ∉ gs) : AU gs H a = H a := by
 induction gs with
 | nil => rfl
 | cons g gs ih =>
  simp only [List.mem_cons, not_or] at h
  rw [IS, if_neg h.1, ih h.2]
theorem UW {gs : List Nat} {H : A3} {a : Nat} {ob : AObj} (h : AU gs H a = some ob) : a ∉ gs ∧ H a = some ob := by
 induction gs with
 | nil => exact ⟨by simp, h⟩
 | cons g gs ih =>
  rw [IS] at h
  split at h
  ·cases h
  ·rename_i hne
   obtain ⟨h1, h2⟩ := ih h
   exact ⟨by simp [hne, h1], h2⟩
section
variable {r : List Nat} {n0 : Nat} {H0 : A3} {X : XP} {ih : XF} {S S' : ES} {s : AS} {K : AS → Prop} {m : Mode} {h0 : XH} {gs nw gs' : List Nat} {lo : Nat}
theorem Ve (R : RegF r h0 gs nw gs' lo) {h : XH} {H : A3} (hh : HeapR r (AO h) H) : HeapR r (mX h0 gs h) (AU gs' H) := by
 intro g ob e
 unfold mX at e
 split at e
 ·rename_i o ho
  split at e
  ·cases e
  ·rename_i hc
   have hc' : g ∉ gs := by simpa using hc
   obtain ⟨a, h1, _, h2⟩ := R.old g o ho
   obtain ⟨a', ob', h3, h4, h5⟩ := hh g ob e
   rw [h1] at h3; injection h3 with h3; subst h3
   exact ⟨a, ob', h1, by rw [R5 (h2 hc')]; exact h4, h5⟩
 ·cases e
theorem Y4 {H : A3} (hm : HeapR r (mX h0 gs S.h) (AU gs' H)) (hE : EnvR r S.e s.e) {sh : Cm} {x : Opd} {g : Option (Nat × Bool)} (hx : JF x = true) {v : AV} (k : lvX h0 gs sh x g S = some v) : ∃ u, Ox gs' sh x g s.e H = some u ∧ Rn r v u := by
 have hl : ∀ {v}, Ap (mX h0 gs S.h) sh (ev S.e x) = some v → ∃ u, pe (.load sh x) s.e (AU gs' H) = some u ∧ Rn r v u := fun k => Rl hm (AM hE hx) k
 unfold lvX at k
 unfold Ox
 split at k
 ·exact hl k
 ·rename_i t want
  have ht := hE t
  simp only
  split at k
  ·rename_i b e
   rw [e] at ht; simp only [Rn] at ht; rw [ht]
   split at k
   ·rename_i hb; simp only [if_pos (of_decide_eq_true hb)]; exact hl k
   ·rename_i hb; injection k with k; subst k; simp only [if_neg (of_decide_eq_false hb)]; exact ⟨_, rfl, by simp only [Rn]⟩
  ·rename_i e
   rw [e] at ht; simp only [Rn] at ht; rw [ht]
   injection k with k; subst k; exact ⟨_, rfl, by simp only [Rn]⟩
  ·cases k
theorem A69 (R : RegF r h0 gs nw gs' lo) (hE : EnvR r S.e s.e) (hs : SimH r n0 H0 S.k S.h s.n s.H) {sh : Cm} {x : Opd} {g : Option (Nat × Bool)} (hx : JF x = true) {v : AV} (k : lvX (match m with | .refs => [] | _ => h0) gs sh x g S = some v) : ∃ u, Ox gs' sh x g s.e (hM m s.H) = some u ∧ Rn r v u := by
 cases m <;> first
  | exact Y4 (Ve R hs.hp) hE hx k
  | exact Y4 (h0 := []) (gs := gs) (fun g ob (e : mX [] gs S.h g = some ob) => by cases e) hE hx k
theorem A4s (R : RegF r h0 gs nw gs' lo) (hE : EnvR r S.e s.e) {x : Opd} (h : stM m h0 gs nw x (ev S.e x) = true) (hx : JF x = true) : JO m lo gs' x (ev s.e x) := by
 have h1 := AM hE hx
 unfold stM at h
 unfold JO
 split at h
 ·split at h
  ·rename_i g o e
   rw [e] at h1; simp only [Rn] at h1; obtain ⟨a, h1, h2⟩ := h1
   rw [h1]
   obtain ⟨b, h3, h4⟩ := R.got g (by simpa using h)
   rw [h2] at h3; injection h3 with h3; subst h3
   exact h4
  ·cases h
 ·split at h
  ·rename_i q i g o e
   rw [e] at h1; simp only [Rn] at h1; obtain ⟨a, h1, h2⟩ := h1
   simp only [h1]
   split at h
   ·rename_i hq
    simp only [Bool.and_eq_true, Option.isSome_iff_exists] at h
    obtain ⟨⟨ob, h5⟩, h6⟩ := h
    obtain ⟨b, h3, h4, h7⟩ := R.old g ob h5
    rw [h2] at h3; injection h3 with h3; subst h3
    exact ⟨fun _ => ⟨h4, h7 (by simpa using h6)⟩, fun hne => absurd hq hne⟩
   ·rename_i hq
    refine ⟨fun e => absurd e hq, fun _ => ?_⟩
    rcases Bool.or_eq_true_iff.1 h with h | h
    ·obtain ⟨b, h3, h4⟩ := R.got g (by simpa using h)
     rw [h2] at h3; injection h3 with h3; subst h3
     exact .inr h4
    ·obtain ⟨b, h3, h4⟩ := R.new_ g (by simpa using h)
     rw [h2] at h3; injection h3 with h3; subst h3
     exact h4
  ·cases h
 ·split <;> first | trivial | (rename_i h1 h2; exact absurd rfl h1) | (rename_i h1 h2; exact absurd rfl (h2 _)) 
theorem S8 {n' : Nat} {F : Nat → Nat → Prop} (hlo : lo ≤ s.n) (h0 : n0 ≤ lo) (hv : ∀ a, s.n ≤ a → s.H a = none) (hF : ∀ g n', lo ≤ g → s.H g = none → n0 ≤ g → s.n ≤ n' → g < n' → F g n') : newK m lo s F := by
 unfold newK
 split
 ·exact ⟨hlo, FreeH.of hv, fun g n' h1 h2 h3 h4 => hF g n' h1 h2 (by omega) h3 h4⟩
 ·exact ⟨hlo, FreeH.of hv, fun g n' h1 h2 h3 h4 => hF g n' h1 h2 (by omega) h3 h4⟩
 ·exact ⟨hlo, FreeH.of hv, fun g n' h1 h2 h3 h4 => hF g n' h1 h2 (by omega) h3 h4⟩
 ·exact fun g h1 h2 => hF g (g + 1) (by omega) h2 (by omega) (by omega) (by omega)
theorem A0u {r' : List Nat} {k k' n n' : Nat} {h h' : XH} {H H' H1 : A3} (R : RegF r h0 gs nw gs' lo) (hs : SimH r n0 H1 k h n H) (hx : Ex r r') (hs' : SimH r' n0 H1 k' h' n' H') (hk : Vv gs h h' = true) (hb : ∀ a ob, H a = some ob → (∃ g o, AO h g = some o ∧ r[g]? = some a ∧ Mw o = false) ∨ H1 a = some ob) : KeepM gs' H H' := by
 intro a ob hse e
 obtain ⟨h1, h2⟩ := UW e
 rw [R5 h1]
 rcases hb a ob h2 with ⟨g, o, h3, h4, _⟩ | h3
 ·have h5 := List.all_eq_true.1 hk _ (Pv h3)
  simp only [Bool.or_eq_true] at h5
  obtain ⟨ob', h6, h7⟩ := hs.hp.at_ h4 h3
  rw [h2] at h6; injection h6 with h6; subst h6
  rcases h5 with (h5 | h5) | h5
  ·obtain ⟨b, h8, h9⟩ := R.got g (by simpa using h5)
   rw [h4] at h8; injection h8 with h8; subst h8
   exact absurd h9 h1
  ·exfalso
   cases o <;> simp [AObj.seen] at h5 <;> simp only [RnO] at h7
   ·subst h7; simp [AObj.seen] at hse
   ·obtain ⟨_, _, rfl, _⟩ := h7; simp [AObj.seen] at hse
  ·split at h5
   ·rename_i o' h8
    obtain ⟨ob2, h9, h10⟩ := hs'.hp.at_ (hx _ _ h4) h8
    rw [h9, RnO.one_ hx h5 h7 h10]
   ·cases h5
 ·exact hs'.fr a ob h3
theorem Wo (hi : Dr X ih) (horc : I5 X) {d : Option Nat} {f : Nat} {xs : List Opd} (R : RegF r h0 gs nw gs' lo) (hE : EnvR r S.e s.e) (hs : SimH r n0 H0 S.k S.h s.n s.H) (h : Tr X ih d (.call f xs) S = some S') (hkp : Vv gs S.h S'.h = true) (hk : Goes r n0 H0 S' s K) : AF X.P d (.call f xs) (KC gs' s.H K) s := by
 obtain ⟨H1, b1, b2, b3, b4⟩ := hs.base
 exact VR (H0 := H1) hi horc hE b1 h fun r' s' hx hn hE' hs' => ⟨A0u R b1 hx hs' hkp b4, hk r' s' hx hn hE' (hs'.unbase b2 b3)⟩
theorem YK (hi : Dr X ih) (horc : I5 X) {o : AOper} (R : RegF r h0 gs nw gs' lo) (hlo : lo ≤ s.n) (h0n : n0 ≤ lo) (hE : EnvR r S.e s.e) (hs : SimH r n0 H0 S.k S.h s.n s.H) (h : N7 X ih m h0 gs nw o S = some S')
  (hk : ∀ r' s', Ex r r' → s.n ≤ s'.n → EnvR r' S'.e s'.e → SimH r' n0 H0 S'.k S'.h s'.n s'.H → RegF r' h0 gs (nwX o S S' nw) gs' lo → K s') : awOM X.P m lo gs' o K s := by
 obtain ⟨d, op, gd⟩ := o
 have same : nwX ⟨d, op, gd⟩ S S' nw = nw → Goes r n0 H0 S' s K := fun e r' s' hx hn hE' hs' => hk r' s' hx hn hE' hs' (by rw [e]; exact R.mono hx)
 have dflt : nwX ⟨d, op, gd⟩ S S' nw = nw → UG X ih ⟨d, op, gd⟩ S = some S' → awO X.P ⟨d, op, gd⟩ K s := fun e h => VW hi horc hE hs h (same e)
 cases op
 case load sh x =>
  simp only [N7] at h
  split at h
  ·rename_i hx
   exact QM hE hs h (fun v k => A69 R hE hs hx k) (same rfl)
  ·cases h
 case alloc t z =>
  cases gd with
  | some g => exact dflt rfl h
  | none =>
   have h' : Tr X ih d (.alloc t z) S = some S' := h
   unfold Tr at h'
   split at h'
   ·cases h'
   ·rename_i hok
    simp only [HJ] at h'
    split at h'
    ·rename_i hz
     refine ⟨GO hz, S8 (n' := 0) hlo h0n hs.van fun g n' hg hg2 hg3 hn hl => ?_⟩
     simp only [IT, Option.some.injEq] at h'; subst h'
     have hgk : (r ++ [g])[S.k]? = some g := by rw [hs.len]; simp
     refine hk (r ++ [g]) ⟨_, _, _⟩ (Ex.app r [g]) hn ((hE.mono (Ex.app r [g])).put (v := .ptr S.k 0) (v' := .ptr g 0) ⟨g, rfl, hgk⟩ d) (hs.new hg2 hg3 hn hl ⟨_, rfl, RnL.of_nid hok⟩) ?_
     have R' := R.mono (Ex.app r [g])
     exact ⟨R'.old, R'.got, fun k hk => by
      rcases List.mem_cons.1 hk with rfl | hk
      ·exact ⟨g, hgk, .inl hg⟩
      ·exact R'.new_ k hk⟩
    ·cases h'
 case box t sh x =>
  cases gd with
  | some g => exact dflt rfl h
  | none =>
   have h' : Tr X ih d (.box t sh x) S = some S' := h
   unfold Tr at h'
   split at h'
   ·cases h'
   ·rename_i hok
    simp only [HJ] at h'
    split at h'
    ·rename_i hz
     simp only [Bool.and_eq_true] at hz
     have hx := AM hE hok
     have hc := hx.cells (ER hz.1)
     exact ⟨hx.fits hz.1, hc.ones (GO hz.2), S8 (n' := 0) hlo h0n hs.van fun g n' hg hg2 hg3 hn hl => Rf (v' := fun g => .ptr g 0) hE hs h' (fun g e => ⟨g, rfl, e⟩) (fun g => ⟨_, rfl, hc.mono (Ex.app r [g])⟩) (same rfl) g n' hg2 hg3 hn hl⟩
    ·cases h'
 case store sh x v =>
  cases gd with
  | some g => exact dflt rfl h
  | none =>
   simp only [N7] at h
   split at h
   ·rename_i hst
    have hx : JF x = true := by
     unfold Tr at h
     split at h
     ·cases h
     ·rename_i hok; simp only [AOp.okc, Bool.and_eq_true] at hok; exact hok.1
    exact ⟨A4s R hE hst hx, VR hi horc hE hs h (same rfl)⟩
   ·cases h
 case bsl t sh xs =>
  cases gd with
  | some g => exact dflt rfl h
  | none =>
   simp only [N7] at h
   split at h
   ·rename_i hmt
    unfold Tr at h
    split at h
    ·cases h
    ·rename_i hok
     have hx := II hE (l := xs) hok
     simp only [HJ, hmt] at h
     split at h
     ·rename_i hz
      have hz' : ∀ x ∈ xs, (ev S.e x).fits sh = true ∧ PX (ev S.e x).cells = true := by
       intro x hx
       have := List.all_eq_true.1 hz _ (List.mem_map_of_mem hx)
       simpa only [Bool.and_eq_true] using this
      refine ⟨fun x hx => ?_, S8 (n' := 0) hlo h0n hs.van fun g n' hg hg2 hg3 hn hl => ?_⟩
      ·obtain ⟨h1, h2⟩ := hz' x hx
       have h3 := AM hE (List.all_eq_true.1 hok x hx)
       exact ⟨h3.fits h1, (h3.cells (ER h1)).ones (GO h2)⟩
      ·exact Rf (v' := fun g => .sl (B6 sh) (xs.map (ev s.e)) (.own g)) hE hs h (fun g e => ⟨_, .own g, rfl, hx.mono (Ex.app r [g]), g, rfl, e⟩) (fun g => rfl) (same rfl) g n' hg2 hg3 hn hl
     ·cases h
   ·cases h
 case mget kk z ok mp k =>
  cases gd with
  | some g => exact dflt rfl h
  | none =>
   simp only [N7] at h
   split at h
   ·rename_i hok
    exact QM hE hs h (fun v k => A1m hE (Ve R hs.hp) hok k) (same rfl)
   ·cases h
 case app t sz b x y =>
  cases gd with
  | some g => exact dflt rfl h
  | none =>
   simp only [N7] at h
   split at h
   ·rename_i hsl
    unfold Tr at h
    split at h
    ·cases h
    ·rename_i hok
     have hx : Rn r (ev S.e x) (ev s.e x) := by simp only [AOp.okc, Bool.and_eq_true] at hok; exact AM hE hok.1
     have goalM : (JW gs' (ev s.e x) ∧ AF X.P d (.app t sz b x y) (KM gs' s.H K) s) → awOM X.P m lo gs' ⟨d, .app t sz b x y, none⟩ K s := fun h => by
      cases m <;> first | exact ⟨⟨hlo, FreeH.of hs.van⟩, h⟩ | exact h
     refine goalM ⟨?_, Td hok hE hs h fun r' s' q1 q2 q3 q4 q5 => KM.of (hk r' s' q1 q2 q3 q4 ?_)⟩
     ·have h' := h
      simp only [HJ] at h'
      split at h'
      ·split at h'
       ·unfold ZK at h'
        split at h'
        ·rename_i e; rw [e] at hx; simp only [Rn] at hx; obtain ⟨_, _, hx, _⟩ := hx; rw [hx]; trivial
        ·rename_i z g k e; rw [e] at hx hsl; simp only [Rn] at hx; obtain ⟨a, hx, ha⟩ := hx; rw [hx]
         obtain ⟨b, h3, h4⟩ := R.got g (by simpa [A2v] using hsl)
         rw [ha] at h3; injection h3 with h3; subst h3
         exact h4
        ·cases h'
       ·cases h'
      ·cases h'
     ·have R' := R.mono q1
      have hnew : Nat.beq S'.k (S.k + 1) = true → ∃ b, r'[S.k]? = some b := fun e => by
       have e := Nat.eq_of_beq_eq_true e
       have := q4.len
       exact ⟨_, List.getElem?_eq_getElem (by omega)⟩
      refine ⟨R'.old, R'.got, fun k hk' => ?_⟩
      simp only [nwX] at hk'
      split at hk'
      ·rename_i e1 e2
       rcases List.mem_cons.1 hk' with rfl | hk'
       ·obtain ⟨b, hb⟩ := hnew e2
        rw [e1] at q5
        exact ⟨b, hb, .inl (Nat.le_trans hlo (q5 b hb))⟩
       ·exact R'.new_ k hk'
      ·rename_i z g0 k0 e1 e2
       rcases List.mem_cons.1 hk' with rfl | hk'
       ·obtain ⟨b, hb⟩ := hnew e2
        rw [e1] at q5 hsl
        refine ⟨b, hb, (q5 b hb).imp (Nat.le_trans hlo) fun e => ?_⟩
        obtain ⟨a, h3, h4⟩ := R.got g0 (by simpa [A2v] using hsl)
        rw [e] at h3; injection h3 with h3; subst h3
        exact h4
       ·exact R'.new_ k hk'
      ·exact R'.new_ k hk'
   ·cases h
 case call f xs =>
  cases gd with
  | some g => exact dflt rfl h
  | none =>
   have key : (match Tr X ih d (.call f xs) S with | some s' => (match Vv gs S.h s'.h with | true => some s' | false => none) | none => none) = some S' → AF X.P d (.call f xs) (KC gs' s.H K) s := fun h => by
    split at h
    ·rename_i S1 h1
     split at h
     ·rename_i hkp
      injection h with h; subst h
      exact Wo hi horc R hE hs h1 hkp (same rfl)
     ·cases h
    ·cases h
   simp only [N7] at h
   cases m <;> first | (cases h; done) | exact key h
 all_goals exact dflt rfl h
theorem Vk (hi : Dr X ih) (horc : I5 X) (h0n : n0 ≤ lo) : ∀ {l : List AOper} {r : List Nat} {nw : List Nat} {S : ES} {s : AS}, RegF r h0 gs nw gs' lo → lo ≤ s.n → EnvR r S.e s.e → SimH r n0 H0 S.k S.h s.n s.H → V3 X ih m h0 gs nw l S = some S' → Goes r n0 H0 S' s K → A7 X.P m lo gs' l K s
 | [], r, nw, S, s, _, _, hE, hs, h, hk => by
  simp only [V3, Option.some.injEq] at h; subst h
  exact hk r s (Ex.rfl_ r) (Nat.le_refl _) hE hs
 | o :: os, r, nw, S, s, R, hlo, hE, hs, h, hk => by
  simp only [V3] at h
  split at h
  ·rename_i S1 h1
   exact YK hi horc R hlo h0n hE hs h1 fun r1 s1 hx hn hE1 hs1 R1 => Vk hi horc h0n R1 (Nat.le_trans hlo hn) hE1 hs1 h fun r2 s2 hx2 hn2 => hk r2 s2 (hx.tr hx2) (Nat.le_trans hn hn2)
  ·cases h
theorem ZM (hE : EnvR r S.e s.e) (hs : SimH r n0 H0 S.k S.h s.n s.H) : ∀ {T : List Nat} {gs : List Nat}, gsX S.h S.e T = some gs → Rm s.e T = some (gs.map (Vc r)) ∧ ∀ g ∈ gs, ∃ o, AO S.h g = some o
 | [], _, h => by simp only [gsX, Option.some.injEq] at h; subst h; exact ⟨rfl, by simp⟩
 | t :: ts, _, h => by
  simp only [gsX] at h
  split at h
  ·rename_i g o gs1 e h1
   split at h
   ·rename_i ob hg
    injection h with h; subst h
    obtain ⟨h2, h3⟩ := ZM hE hs h1
    have ht := hE t
    rw [e] at ht; simp only [Rn] at ht; obtain ⟨a, ht, ha⟩ := ht
    refine ⟨by simp only [Rm, h2, ht, gsC, List.map_cons, Vc, ha, Option.getD_some], fun k hk => ?_⟩
    rcases List.mem_cons.1 hk with rfl | hk
    ·exact ⟨ob, hg⟩
    ·exact h3 k hk
   ·cases h
  ·cases h
theorem A0c (hs : SimH r n0 H0 S.k S.h s.n s.H) {gs : List Nat} (hg : ∀ g ∈ gs, ∃ o, AO S.h g = some o) : RegF r S.h gs [] (gs.map (Vc r)) s.n := by
 have im : ∀ g o, AO S.h g = some o → r[g]? = some (Vc r g) := fun g o e => by
  obtain ⟨a, _, h1, _⟩ := hs.hp g o e
  simp [Vc, h1]
 refine ⟨fun g ob e => ⟨_, im g ob e, (hs.lo _ _ _ e (im g ob e)).2.1, fun hne hm => ?_⟩, fun g hm => ?_, by simp⟩
 ·obtain ⟨g2, h2, h3⟩ := List.mem_map.1 hm
  obtain ⟨o, h4⟩ := hg g2 h2
  have := hs.inj _ _ _ _ _ e h4 (im g ob e) (by rw [← h3]; exact im g2 o h4)
  subst this; exact hne h2
 ·obtain ⟨o, h4⟩ := hg g hm
  exact ⟨_, im g o h4, List.mem_map_of_mem hm⟩
theorem Wh {h h' : XH} {g : Nat} (hu : ∀ x ∈ h, AO h x.1 ≠ none) (k : g ∈ ZB h h') : ∃ o, AO h g = some o := by
 unfold ZB at k
 obtain ⟨x, h1, rfl⟩ := List.mem_map.1 k
 have := hu x (List.mem_filter.1 h1).1
 exact Option.ne_none_iff_exists'.1 this
theorem U2 {h : XH} : ∀ x ∈ h, AO h x.1 ≠ none := by
 induction h with
 | nil => simp
 | cons y l ih =>
  obtain ⟨a, b⟩ := y
  intro x hx
  rw [C3]
  split
  ·simp
  ·rename_i hne
   rcases List.mem_cons.1 hx with rfl | hx
   ·exact absurd rfl hne
   ·exact ih x hx
theorem A2l (hi : Dr X ih) (horc : I5 X) {T : List Nat} {ops : List AOper} (hE : EnvR r S.e s.e) (hs : SimH r n0 H0 S.k S.h s.n s.H) (h : A4f X ih m T ops S = some S') (hk : Goes r n0 H0 S' s K) : gsK X.P m (Rm s.e T) ops K s := by
 unfold A4f at h
 split at h
 ·cases h
 ·rename_i gs hg
  obtain ⟨h1, h2⟩ := ZM hE hs hg
  rw [h1]
  have main : ∀ ms, (∀ g ∈ ms, ∃ o, AO S.h g = some o) → V3 X ih m S.h (ms ++ gs) [] ops S = some S' → gsM X.P m (gs.map (Vc r)) ops K s := fun ms hm h => by
   refine ⟨ms.map (Vc r), ?_⟩
   rw [← List.map_append]
   exact Vk hi horc hs.n0n (A0c hs fun g hg => (List.mem_append.1 hg).elim (hm g) (h2 g)) (Nat.le_refl _) hE hs h (fun r1 s1 q1 q2 q3 q4 => .of (hk r1 s1 q1 q2 q3 q4))
  split at h
  ·rename_i s1 h3
   injection h with h; subst h
   exact main [] (by simp) h3
  ·split at h
   ·cases h
   ·rename_i s1 h4
    refine main _ (fun g hg => ?_) h
    have hg' : g ∈ ZB S.h s1.h := by
     split at hg
     ·unfold A4q at hg
      split at hg
      ·exact (List.mem_filter.1 hg).1
      ·exact hg
     ·exact hg
    exact Wh U2 hg'
theorem Xw (W : List Nat) (e : AH) (i : Nat) : get (anyW W e) i = .any ∨ get (anyW W e) i = get e i := by
 induction e with
 | nil => exact .inl rfl
 | cons p e ih =>
  obtain ⟨k, v⟩ := p
  unfold anyW at ih ⊢
  rw [List.filter_cons]
  split
  ·simp only [get]
   split
   ·exact .inr rfl
   ·exact ih
  ·rename_i hc
   by_cases hk : k = i
   ·subst hk
    refine .inl ?_
    have hc' : k ∈ W := by simpa using hc
    clear hc ih
    induction e with
    | nil => rfl
    | cons q e ih =>
     obtain ⟨k', v'⟩ := q
     rw [List.filter_cons]
     split
     ·rename_i h1
      simp only [get]
      rw [if_neg]
      ·exact ih
      ·rintro rfl; simp [hc'] at h1
     ·exact ih
   ·simp only [get, if_neg hk]; exact ih
theorem EnvR.anyW {e e' : AH} (W : List Nat) (h : EnvR r e e') : EnvR r (anyW W e) e' := fun i => by
 rcases Xw W e i with h1 | h1 <;> rw [h1]
 ·simp only [Rn]
 ·exact h i
theorem WX {e e1 : AH} (h : W9 e e1 = true) (i : Nat) : get e i = .any ∨ Mj (get e i) (get e1 i) = true := by
 induction e with
 | nil => exact .inl rfl
 | cons p e ih =>
  obtain ⟨k, v⟩ := p
  simp only [W9, List.all_cons, Bool.and_eq_true] at h
  simp only [get]
  split
  ·rename_i hk; subst hk; exact .inr h.1
  ·exact ih h.2
structure ItS (r : List Nat) (n0 : Nat) (H0 : A3) (S : ES) (it a m' len : Nat) (left : List Nat) (s : AS) : Prop where
 hE : EnvR r S.e s.e
 hs : SimH r n0 H0 S.k S.h s.n s.H
 hit : ∃ cur, s.H a = some (.iter m' len left cur)
 hr : r[it]? = some a
 hu : ∀ g o, AO S.h g = some o → r[g]? ≠ some a
 ha : n0 ≤ a ∧ a < s.n ∧ H0 a = none
section
variable {it a m m' len t : Nat} {left : List Nat} {kk : Option IntKind} {es : List (AV × AV)} {c : ACode} {Q : AExit → AS → Prop}
theorem VG (hi : Dr X ih) (I : ItS r n0 H0 S it a m' len left s) (hm : r[m]? = some m') (hmS : AO S.h m = some (.map kk es)) (hl : es.length = len) {j : Nat} {y : AExit} {s1 : ES} (h : Yx ih c t it m j S = some (y, s1)) {k v : AV} {fs : List (AV × AV)} (hf : s.H m' = some (.map kk fs)) (hj : fs[j]? = some (k, v))
  (hk : ∀ r' s', Ex r r' → s.n ≤ s'.n → EnvR r' s1.e s'.e → SimH r' n0 H0 s1.k s1.h s'.n s'.H → s'.H a = some (.iter m' len (left.erase j) (some j)) → Q y s') : aw X.P c Q ⟨AD s.e (some t) (.tup [.bool true, k, v]), s.n, upd s.H a (some (.iter m' len (left.erase j) (some j)))⟩ := by
 unfold Yx at h
 rw [hmS] at h
 simp only at h
 split at h
 ·rename_i x hx
  obtain ⟨k1, v1⟩ := x
  obtain ⟨ob, h1, h2⟩ := I.hs.hp.at_ hm hmS
  rw [hf] at h1; injection h1 with h1; subst h1
  simp only [RnO] at h2; obtain ⟨fs', e, h2⟩ := h2
  injection e with _ e; subst e
  obtain ⟨u, h3, h4, h5⟩ := h2.at_ hx
  rw [hj] at h3; injection h3 with h3; injection h3 with h3 h6; subst h3; subst h6
  have T := I.hs.track I.hr I.hu I.ha.1 I.ha.2.1 I.ha.2.2 (ob := .iter m es.length [] (some j)) (ob' := .iter m' len (left.erase j) (some j)) ⟨m', _, by rw [hl], hm, fun e => by cases e⟩
  obtain ⟨H1, b1, b2, b3, b4⟩ := T.base
  have hE' : EnvR r (EW S.e t (.tup [.bool true, k, v1])) (AD s.e (some t) (.tup [.bool true, k, v])) := I.hE.put (d := some t) (v := .tup [.bool true, k, v1]) (v' := .tup [.bool true, k, v]) ⟨_, rfl, _, _, rfl, rfl, _, _, rfl, Rn.of_nid h5, _, _, rfl, h4, rfl⟩
  refine hi _ _ _ _ h r n0 H1 ⟨_, _, _⟩ Q hE' b1 fun r' s' hx hn hE2 hs2 => hk r' s' hx hn hE2 (hs2.unbase b2 b3) ?_
  refine hs2.fr _ _ ?_
  rcases b4 a _ (AN _ _ _) with ⟨g, o, q1, q2, q3⟩ | q
  ·exfalso
   rw [C3] at q1
   split at q1
   ·injection q1 with q1; subst q1; simp [Mw] at q3
   ·exact I.hu _ _ q1 q2
  ·exact q
 ·cases h
theorem XS (I : ItS r n0 H0 S it a m' len left s) {S1 : ES} (he : W9 S.e S1.e = true) (hh : A1i S.h S1.h = true) {j : Nat} {r' : List Nat} {s' : AS} (hx : Ex r r') (hn : s.n ≤ s'.n) (hE : EnvR r' S1.e s'.e) (hs : SimH r' n0 H0 S1.k S1.h s'.n s'.H) (hi : s'.H a = some (.iter m' len (left.erase j) (some j))) : ItS r n0 H0 S it a m' len (left.erase j) s' := by
 refine ⟨fun i => ?_, ⟨I.hs.len, fun g o e => ?_, fun g o b e1 e2 => ?_, I.hs.inj, hs.fr0, hs.fr, hs.n0n, hs.van⟩, ⟨_, hi⟩, I.hr, I.hu, I.ha.1, by have := I.ha.2.1; omega, I.ha.2.2⟩
 ·rcases WX he i with h | h
  ·rw [h]; simp only [Rn]
  ·rw [Rn.one_ hx h (I.hE i) (hE i)]; exact I.hE i
 ·obtain ⟨b, ob, h1, h2, h3⟩ := I.hs.hp g o e
  have h4 := List.all_eq_true.1 hh _ (Pv e)
  simp only at h4
  split at h4
  ·rename_i o1 h5
   obtain ⟨ob1, h6, h7⟩ := hs.hp.at_ (hx _ _ h1) h5
   have := RnO.one_ hx h4 h3 h7
   subst this
   exact ⟨b, ob1, h1, h6, h3⟩
  ·cases h4
 ·obtain ⟨q1, q2, q3⟩ := I.hs.lo g o b e1 e2; exact ⟨q1, by omega, q3⟩
theorem Ue {P : Program} {x : Opd} {cur : Option Nat} {ops : List AOper} {c2 : ACode} {fs : List (AV × AV)} (hx : ev s.e x = .ptr a 0) (hit : s.H a = some (.iter m' len left cur)) (hm : s.H m' = some (.map kk fs)) (hl : fs.length = len)
  (h0 : left = [] → aw P (.seq (.reg ops) c2) Q ⟨AD s.e (some t) (.tup [.bool false]), s.n, s.H⟩)
  (h1 : ∀ j ∈ left, ∀ k v, fs[j]? = some (k, v) → aw P (.seq (.reg ops) c2) Q ⟨AD s.e (some t) (.tup [.bool true, k, v]), s.n, upd s.H a (some (.iter m' len (left.erase j) (some j)))⟩) : aw P (.seq (.reg (⟨some t, .nxt x, none⟩ :: ops)) c2) Q s := by
 show Rk (some t) _ s (ev s.e x)
 rw [hx]
 simp only [Rk, hit, hm]
 exact ⟨trivial, hl, h0, h1⟩
theorem Yy (hi : Dr X ih) (I : ItS r n0 H0 S it a m' len left s) {y : AExit} {S2 : ES} (h : X4 ih c t S = some (y, S2)) {Y : AS → Prop} (hk : ∀ r' s', Ex r r' → s.n ≤ s'.n → EnvR r' S2.e s'.e → SimH r' n0 H0 S2.k S2.h s'.n s'.H → Q y s') : aw X.P c (Ef Y Q) ⟨AD s.e (some t) (.tup [.bool false]), s.n, s.H⟩ := by
 unfold X4 at h
 split at h
 ·cases h
 ·rename_i o hne
  refine hi _ _ _ _ h r n0 H0 ⟨_, _, _⟩ _ (I.hE.put (d := some t) (v := .tup [.bool false]) (v' := .tup [.bool false]) (Rn.of_nid rfl)) I.hs fun r' s' hx hn hE hs => ?_
  cases y with
  | normal => exact absurd h (hne _)
  | exit i => exact hk r' s' hx hn hE hs
  | ret => exact hk r' s' hx hn hE hs
theorem UP (I : ItS r n0 H0 S it a m' len left s) (hm : r[m]? = some m') (hmS : AO S.h m = some (.map kk es)) : ∃ fs, s.H m' = some (.map kk fs) ∧ fs.length = es.length := by
 obtain ⟨ob, h1, h2⟩ := I.hs.hp.at_ hm hmS
 simp only [RnO] at h2; obtain ⟨fs, rfl, h2⟩ := h2
 exact ⟨fs, h1, h2.len⟩
theorem Vw (hi : Dr X ih) {x : Opd} {ops : List AOper} {c2 : ACode} (hxc : JF x = true) (hx : ev S.e x = .ptr it 0) (hm : r[m]? = some m') (hmS : AO S.h m = some (.map kk es)) (hl : es.length = len) {y : AExit} {S2 : ES} (hend : X4 ih (.seq (.reg ops) c2) t S = some (y, S2)) {Y : AS → Prop}
  (hY : ∀ s, aw X.P (.seq (.reg (⟨some t, .nxt x, none⟩ :: ops)) c2) (Ef Y Q) s → Y s) {nS : Nat} (hk : ∀ r' s', Ex r r' → nS ≤ s'.n → EnvR r' S2.e s'.e → SimH r' n0 H0 S2.k S2.h s'.n s'.H → Q y s') :
  ∀ (N : Nat) (left : List Nat) (s : AS), left.length ≤ N → (∀ j ∈ left, QV ih (.seq (.reg ops) c2) t it m S j = true) → ItS r n0 H0 S it a m' len left s → nS ≤ s.n → Y s := by
 intro N
 induction N with
 | zero =>
  intro left s hN hneu I hn
  have : left = [] := List.length_eq_zero_iff.1 (by omega)
  subst this
  obtain ⟨cur, hit⟩ := I.hit
  obtain ⟨fs, hf, hfl⟩ := UP I hm hmS
  have hxa := AM I.hE hxc; rw [hx] at hxa; simp only [Rn] at hxa; obtain ⟨a', hxa, ha'⟩ := hxa
  rw [I.hr] at ha'; injection ha' with ha'; subst ha'
  exact hY s (Ue hxa hit hf (by rw [hfl, hl]) (fun _ => Yy hi I hend fun r' s' q1 q2 => hk r' s' q1 (Nat.le_trans hn q2)) (by simp))
 | succ N ihN =>
  intro left s hN hneu I hn
  obtain ⟨cur, hit⟩ := I.hit
  obtain ⟨fs, hf, hfl⟩ := UP I hm hmS
  have hxa := AM I.hE hxc; rw [hx] at hxa; simp only [Rn] at hxa; obtain ⟨a', hxa, ha'⟩ := hxa
  rw [I.hr] at ha'; injection ha' with ha'; subst ha'
  refine hY s (Ue hxa hit hf (by rw [hfl, hl]) (fun _ => Yy hi I hend fun r' s' q1 q2 => hk r' s' q1 (Nat.le_trans hn q2)) fun j hj k v hkv => ?_)
  have hnj := hneu j hj
  unfold QV at hnj
  split at hnj
  ·rename_i s1 h1
   rw [Bool.and_eq_true] at hnj
   refine VG hi I hm hmS hl h1 hf hkv fun r' s' q1 q2 q3 q4 q5 => ?_
   refine ihN (left.erase j) s' ?_ (fun j' hj' => hneu j' (List.mem_of_mem_erase hj')) (XS I hnj.1 hnj.2 q1 q2 q3 q4 q5) (Nat.le_trans hn q2)
   rw [List.length_erase_of_mem hj]; omega
  ·cases hnj
theorem A0z (hi : Dr X ih) {x : Opd} {ops : List AOper} {c2 : ACode} {W : List Nat} (hxc : JF x = true) (hx : ev S.e x = .ptr it 0) (hm : r[m]? = some m') (hmS : AO S.h m = some (.map kk es)) (hl : es.length = len) {j0 : Nat} {S1 S2 : ES} (hrnd : Yx ih (.seq (.reg ops) c2) t it m j0 S = some (.normal, S1)) (hhd : Te W x it m len S1 = some S2)
  {y : AExit} {S3 : ES} (hend : X4 ih (.seq (.reg ops) c2) t S2 = some (y, S3)) {Y : AS → Prop}
  (hY : ∀ s, aw X.P (.seq (.reg (⟨some t, .nxt x, none⟩ :: ops)) c2) (Ef Y Q) s → Y s) {nS : Nat} (hk : ∀ r' s', Ex r r' → nS ≤ s'.n → EnvR r' S3.e s'.e → SimH r' n0 H0 S3.k S3.h s'.n s'.H → Q y s') :
  ∀ (N : Nat) (left : List Nat) (s : AS), left.length ≤ N → left.Nodup → j0 ∈ left → (∀ j ∈ left, j ≠ j0 → QV ih (.seq (.reg ops) c2) t it m S j = true ∧ QV ih (.seq (.reg ops) c2) t it m S2 j = true) → ItS r n0 H0 S it a m' len left s → nS ≤ s.n → Y s := by
 intro N
 induction N with
 | zero =>
  intro left s hN hd hj0
  have : left = [] := List.length_eq_zero_iff.1 (by omega)
  subst this
  simp at hj0
 | succ N ihN =>
  intro left s hN hd hj0 hneu I hn
  obtain ⟨cur, hit⟩ := I.hit
  obtain ⟨fs, hf, hfl⟩ := UP I hm hmS
  have hxa := AM I.hE hxc; rw [hx] at hxa; simp only [Rn] at hxa; obtain ⟨a', hxa, ha'⟩ := hxa
  rw [I.hr] at ha'; injection ha' with ha'; subst ha'
  refine hY s (Ue hxa hit hf (by rw [hfl, hl]) (fun e => by subst e; simp at hj0) fun j hj k v hkv => ?_)
  by_cases hjj : j = j0
  ·subst hjj
   refine VG hi I hm hmS hl hrnd hf hkv fun r' s' q1 q2 q3 q4 q5 => ?_
   unfold Te at hhd
   split at hhd
   ·rename_i it' o kk' es' g1 g2 g3
    split at hhd
    ·rename_i hb
     rw [Bool.and_eq_true] at hb
     have e1 := Nat.eq_of_beq_eq_true hb.1
     subst e1
     injection hhd with hhd; subst hhd
     have hr' := q1 _ _ I.hr
     refine Vw (r := r') (S := ⟨anyW W S1.e, S1.k, G9 S1.h it'⟩) (m := m) (m' := m') (a := a) hi hxc g1 (q1 _ _ hm) g3 (Nat.eq_of_beq_eq_true hb.2) hend hY (nS := nS) (fun r2 s2 p1 p2 => hk r2 s2 (q1.tr p1) p2) (left.erase j).length (left.erase j) s' (Nat.le_refl _) (fun j' hj' => (hneu j' (List.mem_of_mem_erase hj') (fun e => by subst e; exact hd.not_mem_erase hj')).2) ⟨q3.anyW W, q4.drop it', ⟨_, q5⟩, hr', fun g o p1 p2 => ?_, I.ha.1, by have := I.ha.2.1; omega, I.ha.2.2⟩ (Nat.le_trans hn q2)
     rw [IE] at p1
     split at p1
     ·cases p1
     ·rename_i hne; exact hne (q4.inj _ _ _ _ _ p1 g2 p2 hr')
    ·cases hhd
   ·cases hhd
  ·have hnj := (hneu j hj hjj).1
   unfold QV at hnj
   split at hnj
   ·rename_i s1 h1
    rw [Bool.and_eq_true] at hnj
    refine VG hi I hm hmS hl h1 hf hkv fun r' s' q1 q2 q3 q4 q5 => ?_
    refine ihN (left.erase j) s' ?_ (hd.erase j) ((List.mem_erase_of_ne (Ne.symm hjj)).2 hj0) (fun j' hj' => hneu j' (List.mem_of_mem_erase hj')) (XS I hnj.1 hnj.2 q1 q2 q3 q4 q5) (Nat.le_trans hn q2)
    rw [List.length_erase_of_mem hj]; omega
   ·cases hnj
end
theorem Zs (hi : Dr X ih) {x : Opd} {ops : List AOper} {c2 : ACode} {W : List Nat} {t : Nat} (hxc : JF x = true) {y : AExit} {Q : AExit → AS → Prop} (hE : EnvR r S.e s.e) (hs : SimH r n0 H0 S.k S.h s.n s.H) (h : A3b ih (.seq (.reg ops) c2) W t x S = some (y, S')) (hk : Goes r n0 H0 S' s (Q y)) : aw X.P (.loop (.seq (.reg (⟨some t, .nxt x, none⟩ :: ops)) c2)) Q s := by
 intro Y hY
 unfold A3b at h
 split at h
 ·rename_i it o e0
  split at h
  ·rename_i m len left hit
   split at h
   ·rename_i hleft
    have hleft := of_decide_eq_true hleft
    split at h
    ·rename_i S0 hhd
     unfold Te at hhd
     split at hhd
     ·rename_i it' ob kk es g1 g2 g3
      split at hhd
      ·rename_i hb
       rw [Bool.and_eq_true] at hb
       have e1 := Nat.eq_of_beq_eq_true hb.1
       subst e1
       injection hhd with hhd; subst hhd
       obtain ⟨a, ob1, q1, q2, q3⟩ := hs.hp _ _ hit
       simp only [RnO] at q3; obtain ⟨m', left', rfl, q4, q5⟩ := q3
       have q5 := q5 trivial; subst q5
       obtain ⟨l1, l2, l3⟩ := hs.lo _ _ _ hit q1
       have I : ItS r n0 H0 ⟨anyW W S.e, S.k, G9 S.h it'⟩ it' a m' len left' s := ⟨hE.anyW W, hs.drop it', ⟨_, q2⟩, q1, fun g o p1 p2 => by
        rw [IE] at p1
        split at p1
        ·cases p1
        ·rename_i hne; exact hne (hs.inj _ _ _ _ _ p1 hit p2 q1), l1, l2, l3.resolve_right (by simp [Mw])⟩
       have hlen := Nat.eq_of_beq_eq_true hb.2
       split at h
       ·rename_i hflt
        exact Vw hi hxc g1 q4 g3 hlen h hY (nS := s.n) hk left'.length left' s (Nat.le_refl _) (fun j hj => by
         have := List.filter_eq_nil_iff.1 hflt j hj
         simpa using this) I (Nat.le_refl _)
       ·rename_i j0 hflt
        split at h
        ·rename_i S1 hrnd
         split at h
         ·rename_i S2 hhd2
          split at h
          ·rename_i hall
           have hj0 : j0 ∈ left' := by
            have : j0 ∈ left'.filter fun j => !QV ih (.seq (.reg ops) c2) t it' m ⟨anyW W S.e, S.k, G9 S.h it'⟩ j := by rw [hflt]; simp
            exact (List.mem_filter.1 this).1
           refine A0z hi hxc g1 q4 g3 hlen hrnd hhd2 h hY (nS := s.n) hk left'.length left' s (Nat.le_refl _) (by rw [hleft]; exact List.nodup_range) hj0 (fun j hj hne => ⟨?_, List.all_eq_true.1 hall j ((List.mem_erase_of_ne hne).2 hj)⟩) I (Nat.le_refl _)
           cases hn : QV ih (.seq (.reg ops) c2) t it' m ⟨anyW W S.e, S.k, G9 S.h it'⟩ j with
           | true => rfl
           | false =>
            have : j ∈ left'.filter fun j => !QV ih (.seq (.reg ops) c2) t it' m ⟨anyW W S.e, S.k, G9 S.h it'⟩ j := List.mem_filter.2 ⟨hj, by rw [hn]; rfl⟩
            rw [hflt] at this; simp at this; exact absurd this hne
          ·cases h
         ·cases h
        ·cases h
       ·cases h
      ·cases hhd
     ·cases hhd
    ·cases h
   ·cases h
  ·cases h
 ·cases h
mutual
theorem YO {h : XH} : ∀ {x y : AV}, Rn r x y → Rn r (Ys h x) y
 | .slg _ _ _, y, k => by
  simp only [Ys]
  split
  ·exact k
  ·simp only [Rn]
 | .agg l, y, k => by simp only [Rn] at k; obtain ⟨l', rfl, k⟩ := k; exact ⟨_, rfl, ST k⟩
 | .tup l, y, k => by simp only [Rn] at k; obtain ⟨l', rfl, k⟩ := k; exact ⟨_, rfl, ST k⟩
 | .sl _ _ _, _, k | .fn _ _ _, _, k | .ptr _ _, _, k | .mp _, _, k | .slm _ _ _ _, _, k | .dat _ _, _, k | .ref _, _, k | .ifc _ _, _, k | .any, _, k | .bool _, _, k | .int _ _, _, k | .str _, _, k | .np, _, k | .nfn, _, k | .nmp, _, k | .ub, _, k | .nif, _, k | .und, _, k => k
theorem ST {h : XH} : ∀ {x y : List AV}, RnL r x y → RnL r (clL h x) y
 | [], _, k => k
 | _ :: _, _, k => by simp only [RnL] at k; obtain ⟨x, xs, rfl, h1, h2⟩ := k; exact ⟨x, xs, rfl, YO h1, ST h2⟩
end
mutual
theorem Tk {h : XH} : ∀ x : AV, JT h (Ys h x) = true
 | .slg _ g _ => by
  simp only [Ys]
  cases e : AO h g with
  | none => rfl
  | some o => simp only [JT, e]
 | .agg l => by simp only [Ys, JT, MA l]
 | .tup l => by simp only [Ys, JT, MA l]
 | .sl _ _ _ | .fn _ _ _ | .ptr _ _ | .mp _ | .slm _ _ _ _ | .dat _ _ | .ref _ | .ifc _ _ | .any | .bool _ | .int _ _ | .str _ | .np | .nfn | .nmp | .ub | .nif | .und => rfl
theorem MA {h : XH} : ∀ l : List AV, Mh h (clL h l) = true
 | [] => rfl
 | x :: xs => by simp only [clL, Mh, Tk x, MA xs, Bool.and_self]
end
theorem Z4 (F : AObj → AObj) (l : XH) (k : Nat) : AO (l.map fun x => (x.1, F x.2)) k = (AO l k).map F := by
 induction l with
 | nil => rfl
 | cons y l ih =>
  obtain ⟨a, b⟩ := y
  simp only [List.map_cons, C3, ih]
  split <;> rfl
theorem Vo (F : AV → AV) (hF : F .any = .any) (e : AH) (t : Nat) : get (e.map fun x => (x.1, F x.2)) t = F (get e t) := by
 induction e with
 | nil => simp only [List.map_nil, get, hF]
 | cons y e ih =>
  obtain ⟨a, b⟩ := y
  simp only [List.map_cons, get, ih]
  split <;> rfl
theorem ZX {g sz : Nat} {l : List AV} {h : XH} (o : AObj) : Mw (PG g sz l (clO h o)) = Mw o := by cases o <;> rfl
theorem YT {r : List Nat} {o o' : AObj} (hi : Mw o = true) (h : RnO r o o') (g sz : Nat) (l : List AV) : PG g sz l o' = o' := by
 cases o <;> first | cases hi | skip
 simp only [RnO] at h
 obtain ⟨_, _, rfl, _⟩ := h
 rfl
theorem A0t (hE : EnvR r S.e s.e) (hs : SimH r n0 H0 S.k S.h s.n s.H) (h : YB X S = some S') : ∃ (ks : List Nat) (a e sz : Nat) (l : List AV), s.H a = some (.grow e (AG l)) ∧ BJ X.P e = sz ∧ 0 < sz ∧ (∀ x ∈ l, x.cells.length = sz) ∧ EnvR r S'.e (A07 a sz l s.e) ∧ SimH r n0 H0 S'.k S'.h s.n (NR ks a sz l s.H) := by
 unfold YB at h
 split at h
 ·cases h
 ·rename_i g _
  split at h
  ·rename_i e cs hg
   split at h
   ·rename_i sh hsh
    split at h
    ·rename_i hz
     simp only [Bool.and_eq_true, decide_eq_true_eq, Bool.or_eq_true] at hz
     obtain ⟨z2, z3, z4, z5⟩ := hz
     injection h with h; subst h
     obtain ⟨a, ob, q1, q2, q3⟩ := hs.hp g _ hg
     simp only [RnO] at q3; obtain ⟨ds, rfl, q3⟩ := q3
     generalize hsz : BJ X.P e = sz at *
     generalize hj : cs.length / sz = j at *
     obtain ⟨c1, c2⟩ := Kd (b := sh.isSome) z4 (n := j) (cs := ds) (by rw [q3.len]; exact z3) (q3.ones fun x hx => List.all_eq_true.1 z5 x hx)
     have hch : RnL r (Dy sh.isSome sz j cs) (Dy sh.isSome sz j ds) := PE q3
     generalize Dy sh.isSome sz j cs = L at *
     generalize Dy sh.isSome sz j ds = L' at *
     have hinj : ∀ g' o, AO S.h g' = some o → r[g']? = some a → g' = g := fun g' o p1 p2 => hs.inj _ _ _ _ _ p1 hg p2 q1
     have fv : ∀ {x y : AV}, Rn r x y → Rn r (Dg g sz L (Ys S.h x)) (Dg a sz L' y) := fun k => Ru hch q1 hinj (Tk _) (YO k)
     have fl : ∀ {x y : List AV}, RnL r x y → RnL r (Gv g sz L (clL S.h x)) (Gv a sz L' y) := fun k => P1 hch q1 hinj (MA _) (ST k)
     have fo : ∀ {x y : AObj}, RnO r x y → RnO r (PG g sz L (clO S.h x)) (PG a sz L' y) := fun {x y} k => by
      cases x <;> simp only [RnO] at k
      ·obtain ⟨c, rfl, k⟩ := k; exact ⟨_, rfl, fl k⟩
      ·subst k; rfl
      ·have k' := k; obtain ⟨c, rfl, k⟩ := k; exact k'
      ·have k' := k; obtain ⟨c, d, rfl, k⟩ := k; exact k'
      ·obtain ⟨c, rfl, k⟩ := k; exact ⟨_, rfl, fl k⟩
     have hla := hs.lo _ _ _ hg q1
     have hnm : ∀ k, k ∈ S.h.map (fun x => Vc r x.1) → ∃ g1 o1 o2, AO S.h g1 = some o1 ∧ r[g1]? = some k ∧ s.H k = some o2 ∧ RnO r o1 o2 := fun k hk => by
      obtain ⟨x, hx, rfl⟩ := List.mem_map.1 hk
      obtain ⟨o1, ho⟩ := Option.ne_none_iff_exists'.1 (U2 x hx)
      obtain ⟨b, o2, p1, p2, p3⟩ := hs.hp _ _ ho
      have hb : Vc r x.1 = b := by simp [Vc, p1]
      rw [hb]
      exact ⟨x.1, o1, o2, ho, p1, p2, p3⟩
     have live : ∀ {g1 o1}, AO ((G9 S.h g).map fun x => (x.1, PG g sz L (clO S.h x.2))) g1 = some o1 → ∃ o0, g1 ≠ g ∧ AO S.h g1 = some o0 ∧ o1 = PG g sz L (clO S.h o0) := fun {g1 o1} e => by
      rw [Z4 (fun o => PG g sz L (clO S.h o)), IE] at e
      split at e
      ·cases e
      ·rename_i hne
       obtain ⟨o0, p1, p2⟩ := Option.map_eq_some_iff.1 e
       exact ⟨o0, hne, p1, p2.symm⟩
     refine ⟨S.h.map (fun x => Vc r x.1), a, e, sz, L', by rw [c1]; exact q2, hsz, z2, c2, fun t => ?_, ?_⟩
     ·show Rn r (get (S.e.map fun x => (x.1, Dg g sz L (Ys S.h x.2))) t) (get (s.e.map fun x => (x.1, Dg a sz L' x.2)) t)
      rw [Vo (fun v => Dg g sz L (Ys S.h v)) rfl, Vo (fun v => Dg a sz L' v) rfl]
      exact fv (hE t)
     ·refine ⟨hs.len, fun g1 o1 e1 => ?_, fun g1 o1 a1 e1 e2 => ?_, fun g1 g2 o1 o2 a1 e1 e2 e3 e4 => ?_, fun a1 h1 => ?_, fun a1 o1 h1 => ?_, hs.n0n, fun a1 h1 => ?_⟩
      ·obtain ⟨o0, hne, p1, rfl⟩ := live e1
       obtain ⟨b, o2, p2, p3, p4⟩ := hs.hp _ _ p1
       refine ⟨b, _, p2, ?_, fo p4⟩
       have hba : b ≠ a := by rintro rfl; exact hne (hinj _ _ p1 p2)
       have hm : b ∈ S.h.map (fun x => Vc r x.1) := by
        refine List.mem_map.2 ⟨(g1, o0), Pv p1, ?_⟩
        simp [Vc, p2]
       simp only [NR, if_neg hba, if_pos hm, p3, Option.map_some]
      ·obtain ⟨o0, hne, p1, rfl⟩ := live e1
       rw [ZX]
       exact hs.lo _ _ _ p1 e2
      ·obtain ⟨o0, _, p1, rfl⟩ := live e1
       obtain ⟨o3, _, p2, rfl⟩ := live e2
       exact hs.inj _ _ _ _ _ p1 p2 e3 e4
      ·have hne : a1 ≠ a := by rintro rfl; omega
       have hm : a1 ∉ S.h.map (fun x => Vc r x.1) := fun hm => by
        obtain ⟨g1, o1, o2, p1, p2, _, _⟩ := hnm _ hm
        have := (hs.lo _ _ _ p1 p2).1
        omega
       simp only [NR, if_neg hne, if_neg hm]
       exact hs.fr0 a1 h1
      ·have hne : a1 ≠ a := by
        rintro rfl
        rcases hla.2.2 with h2 | h2
        ·rw [h1] at h2; cases h2
        ·cases h2
       have hH := hs.fr a1 o1 h1
       simp only [NR, if_neg hne]
       split
       ·rename_i hm
        obtain ⟨g1, o2, o3, p1, p2, p3, p4⟩ := hnm _ hm
        rw [hH] at p3; injection p3 with p3; subst p3
        rcases (hs.lo _ _ _ p1 p2).2.2 with h2 | h2
        ·rw [h1] at h2; cases h2
        ·rw [hH, Option.map_some, YT h2 p4]
       ·exact hH
      ·have hH := hs.van a1 h1
       simp only [NR, hH, Option.map_none]
       split
       ·rfl
       ·split <;> rfl
    ·cases h
   ·cases h
  ·cases h
theorem Y7 (hi : Dr X ih) (horc : I5 X) : Dr X (G6 X ih) := by
 intro c S x S' h r n0 H0 s Q hE hs hk
 cases c with
 | skip => simp only [G6, Option.some.injEq, Prod.mk.injEq] at h; obtain ⟨rfl, rfl⟩ := h; exact hk r s (Ex.rfl_ r) (Nat.le_refl _) hE hs
 | exit id => simp only [G6, Option.some.injEq, Prod.mk.injEq] at h; obtain ⟨rfl, rfl⟩ := h; exact hk r s (Ex.rfl_ r) (Nat.le_refl _) hE hs
 | ret => simp only [G6, Option.some.injEq, Prod.mk.injEq] at h; obtain ⟨rfl, rfl⟩ := h; exact hk r s (Ex.rfl_ r) (Nat.le_refl _) hE hs
 | reg ops =>
  simp only [G6] at h
  split at h
  ·rename_i s1 h1
   simp only [Option.some.injEq, Prod.mk.injEq] at h; obtain ⟨rfl, rfl⟩ := h
   exact Y1 hi horc hE hs h1 hk
  ·cases h
 | regD m T ops =>
  simp only [G6] at h
  split at h
  ·rename_i s1 h1
   simp only [Option.some.injEq, Prod.mk.injEq] at h; obtain ⟨rfl, rfl⟩ := h
   exact A2l hi horc hE hs h1 hk
  ·cases h
 | seq a b =>
  simp only [G6] at h
  split at h
  ·rename_i s1 h1
   exact hi _ _ _ _ h1 r n0 H0 s _ hE hs fun r' s' hx hn hE' hs' => hi _ _ _ _ h r' n0 H0 s' _ hE' hs' fun r2 s2 hx2 hn2 => hk r2 s2 (hx.tr hx2) (Nat.le_trans hn hn2)
  ·rename_i o hne
   refine hi _ _ _ _ h r n0 H0 s _ hE hs fun r' s' hx hn hE' hs' => ?_
   cases x with
   | normal => exact absurd h (hne _)
   | exit i => exact hk r' s' hx hn hE' hs'
   | ret => exact hk r' s' hx hn hE' hs'
 | cond c a b =>
  simp only [G6] at h
  split at h
  ·rename_i hc
   have hx := AM hE hc
   show EO (aw X.P a Q s) (aw X.P b Q s) (ev s.e c)
   split at h
   ·rename_i e; rw [e] at hx; simp only [Rn] at hx; rw [hx]
    exact ⟨fun _ => hi _ _ _ _ h r n0 H0 s _ hE hs hk, fun e => by cases e⟩
   ·rename_i e; rw [e] at hx; simp only [Rn] at hx; rw [hx]
    exact ⟨fun e => (by cases e), fun _ => hi _ _ _ _ h r n0 H0 s _ hE hs hk⟩
   ·cases h
  ·cases h
 | block id c =>
  simp only [G6] at h
  split at h
  ·rename_i i s1 h1
   refine hi _ _ _ _ h1 r n0 H0 s _ hE hs fun r' s' hx hn hE' hs' => ?_
   show FS id Q (.exit i) s'
   rw [JB]
   split at h
   ·rename_i hb
    simp only [Option.some.injEq, Prod.mk.injEq] at h; obtain ⟨rfl, rfl⟩ := h
    rw [if_pos (Nat.eq_of_beq_eq_true hb)]; exact hk r' s' hx hn hE' hs'
   ·rename_i hb
    simp only [Option.some.injEq, Prod.mk.injEq] at h; obtain ⟨rfl, rfl⟩ := h
    rw [if_neg (Nat.ne_of_beq_eq_false hb)]; exact hk r' s' hx hn hE' hs'
  ·rename_i o hne
   refine hi _ _ _ _ h r n0 H0 s _ hE hs fun r' s' hx hn hE' hs' => ?_
   cases x with
   | exit i => exact absurd h (hne _ _)
   | normal => exact hk r' s' hx hn hE' hs'
   | ret => exact hk r' s' hx hn hE' hs'
 | loop c =>
  simp only [G6] at h
  split at h
  ·rename_i t x' ops c2 hc
   have := A06 hc
   subst this
   split at h
   ·rename_i hxc; exact Zs hi hxc hE hs h hk
   ·cases h
  intro Y hY
  apply hY
  split at h
  ·rename_i s1 h1
   refine hi _ _ _ _ h1 r n0 H0 s _ hE hs fun r' s' hx hn hE' hs' => ?_
   exact hi _ _ _ _ h r' n0 H0 s' Q hE' hs' (fun r2 s2 hx2 hn2 => hk r2 s2 (hx.tr hx2) (Nat.le_trans hn hn2)) Y hY
  ·rename_i o hne
   refine hi _ _ _ _ h r n0 H0 s _ hE hs fun r' s' hx hn hE' hs' => ?_
   cases x with
   | normal => exact absurd h (hne _)
   | exit i => exact hk r' s' hx hn hE' hs'
   | ret => exact hk r' s' hx hn hE' hs'
 | segs l => cases h
 | bad => cases h
 | kp ks c => cases h
 | ke ks c => cases h
 | gh c =>
  simp only [G6] at h
  split at h
  ·rename_i S1 h1
   obtain ⟨ks, a, e, sz, l, q1, q2, q3, q4, q5, q6⟩ := A0t hE hs h1
   exact .inr ⟨ks, a, e, sz, l, q1, q2, q3, q4, hi _ _ _ _ h r n0 H0 _ Q q5 q6 fun r' s' hx hn hE' hs' => hk r' s' hx hn hE' hs'⟩
  ·exact .inl (hi _ _ _ _ h r n0 H0 s Q hE hs hk)
theorem Vy (horc : I5 X) : ∀ n, Dr X (Xd X n)
 | 0 => fun _ _ _ _ h => by cases h
 | n + 1 => Y7 (Vy horc n) horc
theorem run_pure (horc : I5 X) (n : Nat) {f : Nat} {l : List AV} {v : AV} (h : (match NG X (Xd X n) f l 0 [] with | some (v', _, _) => Mj (weak v') v | none => false) = true) (hl : IN l = true) (hv : Lk v = true) : APure X.P f l v := by
 split at h
 ·rename_i v' k h' hc
  have := QB h
  subst this
  exact pure_ok (Vy horc n) hc hl hv
 ·cases h
end
variable {w : World}
abbrev PB := List (Nat × List AV × AV)
def A16 : PB → Nat → List AV → Option AV
 | [], _, _ => none
 | p :: T, f, l => match Nat.beq p.1 f && W4 p.2.1 l with | true => some p.2.2 | false => A16 T f l
def YI (P : Program) : PB → Prop
 | [] => True
 | p :: T => APure P p.1 p.2.1 p.2.2 ∧ Lk p.2.2 = true ∧ YI P T
theorem W8 {P : Program} {ef : List Nat} {mb mt fz gt : Nat → Bool} {gh : Nat → List Nat} : ∀ {T : PB}, YI P T → I5 ⟨P, ef, mb, mt, A16 T, fz, gt, gh⟩
 | [], _, _, _, _, h => by cases h
 | p :: T, hT, f, l, v, h => by
  simp only [A16] at h
  split at h
  ·rename_i hb
   rw [Bool.and_eq_true] at hb
   injection h with h; subst h
   rw [← Nat.eq_of_beq_eq_true hb.1, ← IC hb.2]
   exact ⟨hT.1, hT.2.1⟩
  ·exact W8 (ef := ef) (mb := mb) (mt := mt) (fz := fz) (gt := gt) (gh := gh) hT.2.2 f l v h
open Go.ChangeShapes Go.WideShapes Go.ChangeAt Go.RowKit Go.Deep
section
variable {H : Type} {enc : TypeId × Value → H} {P : Program}
theorem JY (hl : laidOutB P = true) {W W' : World} (hb : Ext W W') (sp : Nat → Bool) : ∀ {ts : List TypeId} {vs : List Value} {ds : List (DataW H)} {ps : List MemPlace}, (∀ t ∈ ts, P.readableRec t = true ∧ t < P.types.size) →
  DataW.TrodAll enc P W 0 (fun _ => true) true ts vs ds ps → (∀ p ∈ ps, p.block < W.heap.size) → (∀ p ∈ ps, sp p.block = true) → DataW.TrodAll enc P W' 0 sp true ts vs ds ps
 | [], _, _, _, _, h, _, _ => by
  obtain ⟨rfl, rfl, rfl⟩ := trodAll_nil h
  exact trodAll_mk0
 | t :: ts, _, _, _, ht, h, hlt, hsp => by
  obtain ⟨v, vs, d, ds, p, q, rfl, rfl, rfl, h1, h2⟩ := trodAll_cons h
  have h3 := ht t List.mem_cons_self
  refine trodAll_cons_mk (WideElems.Trod_stays hl h3.1 h3.2 h1 (fun x hx => Below.same hb (hlt x (List.mem_append_left _ hx))) (fun x hx => hsp x (List.mem_append_left _ hx))) ?_
  exact JY hl hb sp (fun u hu => ht u (List.mem_cons_of_mem _ hu)) h2 (fun x hx => hlt x (List.mem_append_right _ hx)) (fun x hx => hsp x (List.mem_append_right _ hx))
theorem MK {f : Func} {s : ChangeSpec} {W W' : World} {args : Array Value} {ds gs : List (DataW H)} {before : List MemPlace} {tb : TypeId}
  (hW : DataW.Whole enc P f.params.toList s.vars false W args.toList ds gs before) (hv : s.vars = []) (hl : laidOutB P = true) (hr : ∀ t ∈ f.params.toList, P.readableRec t = true ∧ t < P.types.size)
  (hres : f.resultTypes = #[tb]) (htb : P.underlying tb = some .bool) (h1 : (s.fn H ds).results = [.lit (.bool true)]) (h2 : (s.fn H ds).args = ds) (h3 : (s.fn H ds).vars = []) (hb : Ext W W') :
  s.post enc P f false true false false W args (.bool true) W' := by
 have hlt : ∀ p ∈ before, p.block < W.heap.size := fun p hp => hW.lt p hp
 have hW' := hW
 obtain ⟨p, q, hA, hV, rfl, _, _⟩ := hW
 rw [hv] at hV
 obtain ⟨rfl, rfl⟩ := trodVars_none hV
 refine ⟨ds, [], p ++ [], [], p, [], hW', ?_, ?_, ?_, ?_, fun h => by cases h⟩
 ·rw [List.append_nil, h1, hres]
  exact trodAll_mk1 (shut_bool htb true)
 ·rw [List.append_nil, h2]
  exact JY hl hb _ hr hA (fun x hx => hlt x (by simpa using hx)) (fun x hx => by simpa using hlt x (by simpa using hx))
 ·rw [List.append_nil, h3, hv]; rfl
 ·exact Below.frame hb _
end
def ghW (w : World) : Gh := ⟨fun b o => w.cell? ⟨b, o, none⟩, fun _ => none⟩
theorem Wr (P : Program) (w : World) : Rel0 P w (ghW w) w.heap.size (fun _ => none) w :=
 ⟨Ext.rfl_ w, Nat.le_refl _, Nat.le_refl _, fun _ _ _ h => h, (fun _ _ _ h => by cases h), (fun _ _ _ h => by cases h), (fun _ _ h => by cases h)⟩
theorem IW {P : Program} {f : Nat} {args : List AV} {vs : List Value} (hl : Laid w) (h : APure P f args (.bool true)) (hr : RepL (ghW w) vs args) : Calls P f vs.toArray w fun e w' => e = .returned (.bool true) ∧ Ext w w' := by
 refine (h w.heap.size (fun _ => none) (fun _ _ => rfl) w (ghW w) w vs hl (Wr P w) hr).mono ?_
 rintro e w' ⟨v, r, G', n', H', rfl, ⟨rfl, _, _⟩, hv, _, _, h0⟩
 cases hv
 exact ⟨rfl, h0.ext⟩
section
variable {H : Type} {enc : TypeId × Value → H} {P : Program}
def A2d {α : Type} (P : Program) (w : World) (e : TypeId) (en : α → AV) (Wa : α → Prop) (q : α → Nat) (cs : List Value) (d : DataW H) (a : α) : Prop :=
 RepL (ghW w) cs (en a).cells ∧ ((∀ y ∈ d.weights P e, y ≤ reachBytes) → Wa a) ∧ q a ≤ Rows.uptoBulk d
theorem We {base : Nat} {spare : Nat → Bool} {held : Bool} {t : TypeId} {fuel : Nat} {cs : List Value} {x : DataW H × List MemPlace} (ht : P.underlying t = some .string)
  (h : DataW.trod enc P w base spare held fuel t cs = some x) : ∃ a : List UInt8, A2d P w t AV.str (fun a => a.length ≤ reachBytes) (fun a => a.length + 1) cs x.1 a := by
 obtain ⟨s, rfl, hx, hs⟩ := DataW.trod_string ht h
 refine ⟨s.data.toList, .cons (.str rfl) .nil, fun hw => ?_, ?_⟩
 ·rw [hx] at hw
  simpa [DataW.weights] using hw
 ·rw [hx]; simp [Rows.uptoBulk]
end
end Go.Proofs.YtnfjgphfaemjcaaGreatDoor

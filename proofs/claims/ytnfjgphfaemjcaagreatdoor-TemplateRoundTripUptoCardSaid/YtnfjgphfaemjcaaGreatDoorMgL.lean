/- Calls on constants: regions in any order, and code as a whole; no condition. -/
import Derived.Test.YtnfjgphfaemjcaaGreatDoorMgK
import Derived.Test.YtnfjgphfaemjcaaGreatDoorMgC
import Derived.Test.YtnfjgphfaemjcaaGreatDoorRows
import Derived.ProofKit
import Derived.OpenShut
import Derived.Deep.Slices
import Derived.Deep.Fields
set_option linter.all false
set_option linter.unusedSimpArgs false
set_option linter.unusedVariables false
namespace Go.Proofs.YtnfjgphfaemjcaaGreatDoor
def Sw (r : List Nat) (g : Nat) : Nat := (r[g]?).getD 0
structure RegF (r : List Nat) (h0 : XH) (gs nw gs' : List Nat) (lo : Nat) : Prop where
 old : ∀ g ob, AX h0 g = some ob → ∃ a, r[g]? = some a ∧ a < lo ∧ (g ∉ gs → a ∉ gs')
 got : ∀ g, g ∈ gs → ∃ a, r[g]? = some a ∧ a ∈ gs'
 new_ : ∀ g, g ∈ nw → ∃ a, r[g]? = some a ∧ (lo ≤ a ∨ a ∈ gs')
theorem RegF.mono {r r' : List Nat} {h0 : XH} {gs nw gs' : List Nat} {lo : Nat} (hx : Ex r r') (h : RegF r h0 gs nw gs' lo) : RegF r' h0 gs nw gs' lo :=
 ⟨fun g ob e => by obtain ⟨a, h1, h2⟩ := h.old g ob e; exact ⟨a, hx _ _ h1, h2⟩, fun g e => by obtain ⟨a, h1, h2⟩ := h.got g e; exact ⟨a, hx _ _ h1, h2⟩, fun g e => by obtain ⟨a, h1, h2⟩ := h.new_ g e; exact ⟨a, hx _ _ h1, h2⟩⟩
theorem O1 {gs : List Nat} {H : A2} {a : Nat} (h : a ∉ gs) : AZ gs H a = H a := by
 induction gs with
 | nil => rfl
 | cons g gs ih =>
  simp only [List.mem_cons, not_or] at h
  rw [HM, if_neg h.1, ih h.2]
theorem Ra {gs : List Nat} {H : A2} {a : Nat} {ob : AObj} (h : AZ gs H a = some ob) : a ∉ gs ∧ H a = some ob := by
 induction gs with
 | nil => exact ⟨by simp, h⟩
 | cons g gs ih =>
  rw [HM] at h
  split at h
  ·cases h
  ·rename_i hne
   obtain ⟨h1, h2⟩ := ih h
   exact ⟨by simp [hne, h1], h2⟩
section
variable {r : List Nat} {n0 : Nat} {H0 : A2} {X : XP} {ih : XF} {S S' : ES} {s : AS} {K : AS → Prop} {m : Mode} {h0 : XH} {gs nw gs' : List Nat} {lo : Nat}
theorem Sh (R : RegF r h0 gs nw gs' lo) {h : XH} {H : A2} (hh : HeapR r (AX h) H) : HeapR r (mX h0 gs h) (AZ gs' H) := by
 intro g ob e
 unfold mX at e
 split at e
 ·rename_i o ho
  split at e
  ·cases e
  ·rename_i hc
   have hc' : g ∉ gs := by simpa using hc
   obtain ⟨a, h1, _, h2⟩ := R.old g o ho
   obtain ⟨a', ob', h3, h4, h5⟩ := hh g ob e
   rw [h1] at h3; injection h3 with h3; subst h3
   exact ⟨a, ob', h1, by rw [O1 (h2 hc')]; exact h4, h5⟩
 ·cases e
theorem UT {H : A2} (hm : HeapR r (mX h0 gs S.h) (AZ gs' H)) (hE : EnvR r S.e s.e) {sh : Ar} {x : Opd} {g : Option (Nat × Bool)} (hx : Gf x = true) {v : AV} (k : Zx h0 gs sh x g S = some v) : ∃ u, Kw gs' sh x g s.e H = some u ∧ Rn r v u := by
 have hl : ∀ {v}, Am (mX h0 gs S.h) sh (ev S.e x) = some v → ∃ u, pe (.load sh x) s.e (AZ gs' H) = some u ∧ Rn r v u := fun k => OV hm (AU hE hx) k
 unfold Zx at k
 unfold Kw
 split at k
 ·exact hl k
 ·rename_i t want
  have ht := hE t
  simp only
  split at k
  ·rename_i b e
   rw [e] at ht; simp only [Rn] at ht; rw [ht]
   split at k
   ·rename_i hb; simp only [if_pos (of_decide_eq_true hb)]; exact hl k
   ·rename_i hb; injection k with k; subst k; simp only [if_neg (of_decide_eq_false hb)]; exact ⟨_, rfl, by simp only [Rn]⟩
  ·rename_i e
   rw [e] at ht; simp only [Rn] at ht; rw [ht]
   injection k with k; subst k; exact ⟨_, rfl, by simp only [Rn]⟩
  ·cases k
theorem ZS (R : RegF r h0 gs nw gs' lo) (hE : EnvR r S.e s.e) (hs : SimH r n0 H0 S.k S.h s.n s.H) {sh : Ar} {x : Opd} {g : Option (Nat × Bool)} (hx : Gf x = true) {v : AV} (k : Zx (match m with | .refs => [] | _ => h0) gs sh x g S = some v) : ∃ u, Kw gs' sh x g s.e (hM m s.H) = some u ∧ Rn r v u := by
 cases m <;> first
  | exact UT (Sh R hs.hp) hE hx k
  | exact UT (h0 := []) (gs := gs) (fun g ob (e : mX [] gs S.h g = some ob) => by cases e) hE hx k
theorem Zn (R : RegF r h0 gs nw gs' lo) (hE : EnvR r S.e s.e) {x : Opd} (h : stM m h0 gs nw x (ev S.e x) = true) (hx : Gf x = true) : Gs m lo gs' x (ev s.e x) := by
 have h1 := AU hE hx
 unfold stM at h
 unfold Gs
 split at h
 ·split at h
  ·rename_i g o e
   rw [e] at h1; simp only [Rn] at h1; obtain ⟨a, h1, h2⟩ := h1
   rw [h1]
   obtain ⟨b, h3, h4⟩ := R.got g (by simpa using h)
   rw [h2] at h3; injection h3 with h3; subst h3
   exact h4
  ·cases h
 ·split at h
  ·rename_i q i g o e
   rw [e] at h1; simp only [Rn] at h1; obtain ⟨a, h1, h2⟩ := h1
   simp only [h1]
   split at h
   ·rename_i hq
    simp only [Bool.and_eq_true, Option.isSome_iff_exists] at h
    obtain ⟨⟨ob, h5⟩, h6⟩ := h
    obtain ⟨b, h3, h4, h7⟩ := R.old g ob h5
    rw [h2] at h3; injection h3 with h3; subst h3
    exact ⟨fun _ => ⟨h4, h7 (by simpa using h6)⟩, fun hne => absurd hq hne⟩
   ·rename_i hq
    refine ⟨fun e => absurd e hq, fun _ => ?_⟩
    rcases Bool.or_eq_true_iff.1 h with h | h
    ·obtain ⟨b, h3, h4⟩ := R.got g (by simpa using h)
     rw [h2] at h3; injection h3 with h3; subst h3
     exact .inr h4
    ·obtain ⟨b, h3, h4⟩ := R.new_ g (by simpa using h)
     rw [h2] at h3; injection h3 with h3; subst h3
     exact h4
  ·cases h
 ·split <;> first | trivial | (rename_i h1 h2; exact absurd rfl h1) | (rename_i h1 h2; exact absurd rfl (h2 _)) 
theorem PB {n' : Nat} {F : Nat → Nat → Prop} (hlo : lo ≤ s.n) (h0 : n0 ≤ lo) (hv : ∀ a, s.n ≤ a → s.H a = none) (hF : ∀ g n', lo ≤ g → s.H g = none → n0 ≤ g → s.n ≤ n' → g < n' → F g n') : newK m lo s F := by
 unfold newK
 split
 ·exact ⟨hlo, FreeH.of hv, fun g n' h1 h2 h3 h4 => hF g n' h1 h2 (by omega) h3 h4⟩
 ·exact ⟨hlo, FreeH.of hv, fun g n' h1 h2 h3 h4 => hF g n' h1 h2 (by omega) h3 h4⟩
 ·exact ⟨hlo, FreeH.of hv, fun g n' h1 h2 h3 h4 => hF g n' h1 h2 (by omega) h3 h4⟩
 ·exact fun g h1 h2 => hF g (g + 1) (by omega) h2 (by omega) (by omega) (by omega)
theorem WF {r' : List Nat} {k k' n n' : Nat} {h h' : XH} {H H' H1 : A2} (R : RegF r h0 gs nw gs' lo) (hs : SimH r n0 H1 k h n H) (hx : Ex r r') (hs' : SimH r' n0 H1 k' h' n' H') (hk : Sd gs h h' = true) (hb : ∀ a ob, H a = some ob → (∃ g o, AX h g = some o ∧ r[g]? = some a ∧ IY o = false) ∨ H1 a = some ob) : KeepM gs' H H' := by
 intro a ob hse e
 obtain ⟨h1, h2⟩ := Ra e
 rw [O1 h1]
 rcases hb a ob h2 with ⟨g, o, h3, h4, _⟩ | h3
 ·have h5 := List.all_eq_true.1 hk _ (L9 h3)
  simp only [Bool.or_eq_true] at h5
  obtain ⟨ob', h6, h7⟩ := hs.hp.at_ h4 h3
  rw [h2] at h6; injection h6 with h6; subst h6
  rcases h5 with (h5 | h5) | h5
  ·obtain ⟨b, h8, h9⟩ := R.got g (by simpa using h5)
   rw [h4] at h8; injection h8 with h8; subst h8
   exact absurd h9 h1
  ·exfalso
   cases o <;> simp [AObj.seen] at h5 <;> simp only [RnO] at h7
   ·subst h7; simp [AObj.seen] at hse
   ·obtain ⟨_, _, rfl, _⟩ := h7; simp [AObj.seen] at hse
  ·split at h5
   ·rename_i o' h8
    obtain ⟨ob2, h9, h10⟩ := hs'.hp.at_ (hx _ _ h4) h8
    rw [h9, RnO.one_ hx h5 h7 h10]
   ·cases h5
 ·exact hs'.fr a ob h3
theorem TN (hi : Cd X ih) (horc : Fy X) {d : Option Nat} {f : Nat} {xs : List Opd} (R : RegF r h0 gs nw gs' lo) (hE : EnvR r S.e s.e) (hs : SimH r n0 H0 S.k S.h s.n s.H) (h : Pg X ih d (.call f xs) S = some S') (hkp : Sd gs S.h S'.h = true) (hk : Goes r n0 H0 S' s K) : AE X.P d (.call f xs) (KC gs' s.H K) s := by
 obtain ⟨H1, b1, b2, b3, b4⟩ := hs.base
 exact Ss (H0 := H1) hi horc hE b1 h fun r' s' hx hn hE' hs' => ⟨WF R b1 hx hs' hkp b4, hk r' s' hx hn hE' (hs'.unbase b2 b3)⟩
theorem UP (hi : Cd X ih) (horc : Fy X) {o : AOper} (R : RegF r h0 gs nw gs' lo) (hlo : lo ≤ s.n) (h0n : n0 ≤ lo) (hE : EnvR r S.e s.e) (hs : SimH r n0 H0 S.k S.h s.n s.H) (h : Kl X ih m h0 gs nw o S = some S')
  (hk : ∀ r' s', Ex r r' → s.n ≤ s'.n → EnvR r' S'.e s'.e → SimH r' n0 H0 S'.k S'.h s'.n s'.H → RegF r' h0 gs (ZW o S S' nw) gs' lo → K s') : awOM X.P m lo gs' o K s := by
 obtain ⟨d, op, gd⟩ := o
 have same : ZW ⟨d, op, gd⟩ S S' nw = nw → Goes r n0 H0 S' s K := fun e r' s' hx hn hE' hs' => hk r' s' hx hn hE' hs' (by rw [e]; exact R.mono hx)
 have dflt : ZW ⟨d, op, gd⟩ S S' nw = nw → PX X ih ⟨d, op, gd⟩ S = some S' → awO X.P ⟨d, op, gd⟩ K s := fun e h => SI hi horc hE hs h (same e)
 cases op
 case load sh x =>
  simp only [Kl] at h
  split at h
  ·rename_i hx
   exact LK hE hs h (fun v k => ZS R hE hs hx k) (same rfl)
  ·cases h
 case alloc t z =>
  cases gd with
  | some g => exact dflt rfl h
  | none =>
   have h' : Pg X ih d (.alloc t z) S = some S' := h
   unfold Pg at h'
   split at h'
   ·cases h'
   ·rename_i hok
    simp only [FP] at h'
    split at h'
    ·rename_i hz
     refine ⟨EQ hz, PB (n' := 0) hlo h0n hs.van fun g n' hg hg2 hg3 hn hl => ?_⟩
     simp only [GJ, Option.some.injEq] at h'; subst h'
     have hgk : (r ++ [g])[S.k]? = some g := by rw [hs.len]; simp
     refine hk (r ++ [g]) ⟨_, _, _⟩ (Ex.app r [g]) hn ((hE.mono (Ex.app r [g])).put (v := .ptr S.k 0) (v' := .ptr g 0) ⟨g, rfl, hgk⟩ d) (hs.new hg2 hg3 hn hl ⟨_, rfl, RnL.of_nid hok⟩) ?_
     have R' := R.mono (Ex.app r [g])
     exact ⟨R'.old, R'.got, fun k hk => by
      rcases List.mem_cons.1 hk with rfl | hk
      ·exact ⟨g, hgk, .inl hg⟩
      ·exact R'.new_ k hk⟩
    ·cases h'
 case box t sh x =>
  cases gd with
  | some g => exact dflt rfl h
  | none =>
   have h' : Pg X ih d (.box t sh x) S = some S' := h
   unfold Pg at h'
   split at h'
   ·cases h'
   ·rename_i hok
    simp only [FP] at h'
    split at h'
    ·rename_i hz
     simp only [Bool.and_eq_true] at hz
     have hx := AU hE hok
     have hc := hx.cells (D3 hz.1)
     exact ⟨hx.fits hz.1, hc.ones (EQ hz.2), PB (n' := 0) hlo h0n hs.van fun g n' hg hg2 hg3 hn hl => PT (v' := fun g => .ptr g 0) hE hs h' (fun g e => ⟨g, rfl, e⟩) (fun g => ⟨_, rfl, hc.mono (Ex.app r [g])⟩) (same rfl) g n' hg2 hg3 hn hl⟩
    ·cases h'
 case store sh x v =>
  cases gd with
  | some g => exact dflt rfl h
  | none =>
   simp only [Kl] at h
   split at h
   ·rename_i hst
    have hx : Gf x = true := by
     unfold Pg at h
     split at h
     ·cases h
     ·rename_i hok; simp only [AOp.okc, Bool.and_eq_true] at hok; exact hok.1
    exact ⟨Zn R hE hst hx, Ss hi horc hE hs h (same rfl)⟩
   ·cases h
 case bsl t sh xs =>
  cases gd with
  | some g => exact dflt rfl h
  | none =>
   simp only [Kl] at h
   split at h
   ·rename_i hmt
    unfold Pg at h
    split at h
    ·cases h
    ·rename_i hok
     have hx := GG hE (l := xs) hok
     simp only [FP, hmt] at h
     split at h
     ·rename_i hz
      have hz' : ∀ x ∈ xs, (ev S.e x).fits sh = true ∧ L4 (ev S.e x).cells = true := by
       intro x hx
       have := List.all_eq_true.1 hz _ (List.mem_map_of_mem hx)
       simpa only [Bool.and_eq_true] using this
      refine ⟨fun x hx => ?_, PB (n' := 0) hlo h0n hs.van fun g n' hg hg2 hg3 hn hl => ?_⟩
      ·obtain ⟨h1, h2⟩ := hz' x hx
       have h3 := AU hE (List.all_eq_true.1 hok x hx)
       exact ⟨h3.fits h1, (h3.cells (D3 h1)).ones (EQ h2)⟩
      ·exact PT (v' := fun g => .sl (Ao sh) (xs.map (ev s.e)) (.own g)) hE hs h (fun g e => ⟨_, .own g, rfl, hx.mono (Ex.app r [g]), g, rfl, e⟩) (fun g => rfl) (same rfl) g n' hg2 hg3 hn hl
     ·cases h
   ·cases h
 case mget kk z ok mp k =>
  cases gd with
  | some g => exact dflt rfl h
  | none =>
   simp only [Kl] at h
   split at h
   ·rename_i hok
    exact LK hE hs h (fun v k => XK hE (Sh R hs.hp) hok k) (same rfl)
   ·cases h
 case app t sz b x y =>
  cases gd with
  | some g => exact dflt rfl h
  | none =>
   simp only [Kl] at h
   split at h
   ·rename_i hsl
    unfold Pg at h
    split at h
    ·cases h
    ·rename_i hok
     have hx : Rn r (ev S.e x) (ev s.e x) := by simp only [AOp.okc, Bool.and_eq_true] at hok; exact AU hE hok.1
     have goalM : (Ki gs' (ev s.e x) ∧ AE X.P d (.app t sz b x y) (KM gs' s.H K) s) → awOM X.P m lo gs' ⟨d, .app t sz b x y, none⟩ K s := fun h => by
      cases m <;> first | exact ⟨⟨hlo, FreeH.of hs.van⟩, h⟩ | exact h
     refine goalM ⟨?_, Qv hok hE hs h fun r' s' q1 q2 q3 q4 q5 => KM.of (hk r' s' q1 q2 q3 q4 ?_)⟩
     ·have h' := h
      simp only [FP] at h'
      split at h'
      ·split at h'
       ·unfold Uw at h'
        split at h'
        ·rename_i e; rw [e] at hx; simp only [Rn] at hx; obtain ⟨_, _, hx, _⟩ := hx; rw [hx]; trivial
        ·rename_i z g k e; rw [e] at hx hsl; simp only [Rn] at hx; obtain ⟨a, hx, ha⟩ := hx; rw [hx]
         obtain ⟨b, h3, h4⟩ := R.got g (by simpa [Yd] using hsl)
         rw [ha] at h3; injection h3 with h3; subst h3
         exact h4
        ·cases h'
       ·cases h'
      ·cases h'
     ·have R' := R.mono q1
      have hnew : Nat.beq S'.k (S.k + 1) = true → ∃ b, r'[S.k]? = some b := fun e => by
       have e := Nat.eq_of_beq_eq_true e
       have := q4.len
       exact ⟨_, List.getElem?_eq_getElem (by omega)⟩
      refine ⟨R'.old, R'.got, fun k hk' => ?_⟩
      simp only [ZW] at hk'
      split at hk'
      ·rename_i e1 e2
       rcases List.mem_cons.1 hk' with rfl | hk'
       ·obtain ⟨b, hb⟩ := hnew e2
        rw [e1] at q5
        exact ⟨b, hb, .inl (Nat.le_trans hlo (q5 b hb))⟩
       ·exact R'.new_ k hk'
      ·rename_i z g0 k0 e1 e2
       rcases List.mem_cons.1 hk' with rfl | hk'
       ·obtain ⟨b, hb⟩ := hnew e2
        rw [e1] at q5 hsl
        refine ⟨b, hb, (q5 b hb).imp (Nat.le_trans hlo) fun e => ?_⟩
        obtain ⟨a, h3, h4⟩ := R.got g0 (by simpa [Yd] using hsl)
        rw [e] at h3; injection h3 with h3; subst h3
        exact h4
       ·exact R'.new_ k hk'
      ·exact R'.new_ k hk'
   ·cases h
 case call f xs =>
  cases gd with
  | some g => exact dflt rfl h
  | none =>
   have key : (match Pg X ih d (.call f xs) S with | some s' => (match Sd gs S.h s'.h with | true => some s' | false => none) | none => none) = some S' → AE X.P d (.call f xs) (KC gs' s.H K) s := fun h => by
    split at h
    ·rename_i S1 h1
     split at h
     ·rename_i hkp
      injection h with h; subst h
      exact TN hi horc R hE hs h1 hkp (same rfl)
     ·cases h
    ·cases h
   simp only [Kl] at h
   cases m <;> first | (cases h; done) | exact key h
 all_goals exact dflt rfl h
theorem SK (hi : Cd X ih) (horc : Fy X) (h0n : n0 ≤ lo) : ∀ {l : List AOper} {r : List Nat} {nw : List Nat} {S : ES} {s : AS}, RegF r h0 gs nw gs' lo → lo ≤ s.n → EnvR r S.e s.e → SimH r n0 H0 S.k S.h s.n s.H → Rm X ih m h0 gs nw l S = some S' → Goes r n0 H0 S' s K → A4 X.P m lo gs' l K s
 | [], r, nw, S, s, _, _, hE, hs, h, hk => by
  simp only [Rm, Option.some.injEq] at h; subst h
  exact hk r s (Ex.rfl_ r) (Nat.le_refl _) hE hs
 | o :: os, r, nw, S, s, R, hlo, hE, hs, h, hk => by
  simp only [Rm] at h
  split at h
  ·rename_i S1 h1
   exact UP hi horc R hlo h0n hE hs h1 fun r1 s1 hx hn hE1 hs1 R1 => SK hi horc h0n R1 (Nat.le_trans hlo hn) hE1 hs1 h fun r2 s2 hx2 hn2 => hk r2 s2 (hx.tr hx2) (Nat.le_trans hn hn2)
  ·cases h
theorem Uu (hE : EnvR r S.e s.e) (hs : SimH r n0 H0 S.k S.h s.n s.H) : ∀ {T : List Nat} {gs : List Nat}, ZI S.h S.e T = some gs → OU s.e T = some (gs.map (Sw r)) ∧ ∀ g ∈ gs, ∃ o, AX S.h g = some o
 | [], _, h => by simp only [ZI, Option.some.injEq] at h; subst h; exact ⟨rfl, by simp⟩
 | t :: ts, _, h => by
  simp only [ZI] at h
  split at h
  ·rename_i g o gs1 e h1
   split at h
   ·rename_i ob hg
    injection h with h; subst h
    obtain ⟨h2, h3⟩ := Uu hE hs h1
    have ht := hE t
    rw [e] at ht; simp only [Rn] at ht; obtain ⟨a, ht, ha⟩ := ht
    refine ⟨by simp only [OU, h2, ht, Zv, List.map_cons, Sw, ha, Option.getD_some], fun k hk => ?_⟩
    rcases List.mem_cons.1 hk with rfl | hk
    ·exact ⟨ob, hg⟩
    ·exact h3 k hk
   ·cases h
  ·cases h
theorem Vw (hs : SimH r n0 H0 S.k S.h s.n s.H) {gs : List Nat} (hg : ∀ g ∈ gs, ∃ o, AX S.h g = some o) : RegF r S.h gs [] (gs.map (Sw r)) s.n := by
 have im : ∀ g o, AX S.h g = some o → r[g]? = some (Sw r g) := fun g o e => by
  obtain ⟨a, _, h1, _⟩ := hs.hp g o e
  simp [Sw, h1]
 refine ⟨fun g ob e => ⟨_, im g ob e, (hs.lo _ _ _ e (im g ob e)).2.1, fun hne hm => ?_⟩, fun g hm => ?_, by simp⟩
 ·obtain ⟨g2, h2, h3⟩ := List.mem_map.1 hm
  obtain ⟨o, h4⟩ := hg g2 h2
  have := hs.inj _ _ _ _ _ e h4 (im g ob e) (by rw [← h3]; exact im g2 o h4)
  subst this; exact hne h2
 ·obtain ⟨o, h4⟩ := hg g hm
  exact ⟨_, im g o h4, List.mem_map_of_mem hm⟩
theorem Tp {h h' : XH} {g : Nat} (hu : ∀ x ∈ h, AX h x.1 ≠ none) (k : g ∈ VQ h h') : ∃ o, AX h g = some o := by
 unfold VQ at k
 obtain ⟨x, h1, rfl⟩ := List.mem_map.1 k
 have := hu x (List.mem_filter.1 h1).1
 exact Option.ne_none_iff_exists'.1 this
theorem Pf {h : XH} : ∀ x ∈ h, AX h x.1 ≠ none := by
 induction h with
 | nil => simp
 | cons y l ih =>
  obtain ⟨a, b⟩ := y
  intro x hx
  rw [BP]
  split
  ·simp
  ·rename_i hne
   rcases List.mem_cons.1 hx with rfl | hx
   ·exact absurd rfl hne
   ·exact ih x hx
theorem Xw (hi : Cd X ih) (horc : Fy X) {T : List Nat} {ops : List AOper} (hE : EnvR r S.e s.e) (hs : SimH r n0 H0 S.k S.h s.n s.H) (h : Yl X ih m T ops S = some S') (hk : Goes r n0 H0 S' s K) : gsK X.P m (OU s.e T) ops K s := by
 unfold Yl at h
 split at h
 ·cases h
 ·rename_i gs hg
  obtain ⟨h1, h2⟩ := Uu hE hs hg
  rw [h1]
  have main : ∀ ms, (∀ g ∈ ms, ∃ o, AX S.h g = some o) → Rm X ih m S.h (ms ++ gs) [] ops S = some S' → Z0 X.P m (gs.map (Sw r)) ops K s := fun ms hm h => by
   refine ⟨ms.map (Sw r), ?_⟩
   rw [← List.map_append]
   exact SK hi horc hs.n0n (Vw hs fun g hg => (List.mem_append.1 hg).elim (hm g) (h2 g)) (Nat.le_refl _) hE hs h (fun r1 s1 q1 q2 q3 q4 => .of (hk r1 s1 q1 q2 q3 q4))
  split at h
  ·rename_i s1 h3
   injection h with h; subst h
   exact main [] (by simp) h3
  ·split at h
   ·cases h
   ·rename_i s1 h4
    refine main _ (fun g hg => ?_) h
    have hg' : g ∈ VQ S.h s1.h := by
     split at hg
     ·unfold Z9 at hg
      split at hg
      ·exact (List.mem_filter.1 hg).1
      ·exact hg
     ·exact hg
    exact Tp Pf hg'
theorem Va (W : List Nat) (e : AL) (i : Nat) : get (anyW W e) i = .any ∨ get (anyW W e) i = get e i := by
 induction e with
 | nil => exact .inl rfl
 | cons p e ih =>
  obtain ⟨k, v⟩ := p
  unfold anyW at ih ⊢
  rw [List.filter_cons]
  split
  ·simp only [get]
   split
   ·exact .inr rfl
   ·exact ih
  ·rename_i hc
   by_cases hk : k = i
   ·subst hk
    refine .inl ?_
    have hc' : k ∈ W := by simpa using hc
    clear hc ih
    induction e with
    | nil => rfl
    | cons q e ih =>
     obtain ⟨k', v'⟩ := q
     rw [List.filter_cons]
     split
     ·rename_i h1
      simp only [get]
      rw [if_neg]
      ·exact ih
      ·rintro rfl; simp [hc'] at h1
     ·exact ih
   ·simp only [get, if_neg hk]; exact ih
theorem EnvR.anyW {e e' : AL} (W : List Nat) (h : EnvR r e e') : EnvR r (anyW W e) e' := fun i => by
 rcases Va W e i with h1 | h1 <;> rw [h1]
 ·simp only [Rn]
 ·exact h i
theorem Tt {e e1 : AL} (h : SS e e1 = true) (i : Nat) : get e i = .any ∨ IS (get e i) (get e1 i) = true := by
 induction e with
 | nil => exact .inl rfl
 | cons p e ih =>
  obtain ⟨k, v⟩ := p
  simp only [SS, List.all_cons, Bool.and_eq_true] at h
  simp only [get]
  split
  ·rename_i hk; subst hk; exact .inr h.1
  ·exact ih h.2
structure ItS (r : List Nat) (n0 : Nat) (H0 : A2) (S : ES) (it a m' len : Nat) (left : List Nat) (s : AS) : Prop where
 hE : EnvR r S.e s.e
 hs : SimH r n0 H0 S.k S.h s.n s.H
 hit : ∃ cur, s.H a = some (.iter m' len left cur)
 hr : r[it]? = some a
 hu : ∀ g o, AX S.h g = some o → r[g]? ≠ some a
 ha : n0 ≤ a ∧ a < s.n ∧ H0 a = none
section
variable {it a m m' len t : Nat} {left : List Nat} {kk : Option IntKind} {es : List (AV × AV)} {c : ACode} {Q : AExit → AS → Prop}
theorem Rg (hi : Cd X ih) (I : ItS r n0 H0 S it a m' len left s) (hm : r[m]? = some m') (hmS : AX S.h m = some (.map kk es)) (hl : es.length = len) {j : Nat} {y : AExit} {s1 : ES} (h : UE ih c t it m j S = some (y, s1)) {k v : AV} {fs : List (AV × AV)} (hf : s.H m' = some (.map kk fs)) (hj : fs[j]? = some (k, v))
  (hk : ∀ r' s', Ex r r' → s.n ≤ s'.n → EnvR r' s1.e s'.e → SimH r' n0 H0 s1.k s1.h s'.n s'.H → s'.H a = some (.iter m' len (left.erase j) (some j)) → Q y s') : aw X.P c Q ⟨AB s.e (some t) (.tup [.bool true, k, v]), s.n, upd s.H a (some (.iter m' len (left.erase j) (some j)))⟩ := by
 unfold UE at h
 rw [hmS] at h
 simp only at h
 split at h
 ·rename_i x hx
  obtain ⟨k1, v1⟩ := x
  obtain ⟨ob, h1, h2⟩ := I.hs.hp.at_ hm hmS
  rw [hf] at h1; injection h1 with h1; subst h1
  simp only [RnO] at h2; obtain ⟨fs', e, h2⟩ := h2
  injection e with _ e; subst e
  obtain ⟨u, h3, h4, h5⟩ := h2.at_ hx
  rw [hj] at h3; injection h3 with h3; injection h3 with h3 h6; subst h3; subst h6
  have T := I.hs.track I.hr I.hu I.ha.1 I.ha.2.1 I.ha.2.2 (ob := .iter m es.length [] (some j)) (ob' := .iter m' len (left.erase j) (some j)) ⟨m', _, by rw [hl], hm, fun e => by cases e⟩
  obtain ⟨H1, b1, b2, b3, b4⟩ := T.base
  have hE' : EnvR r (Dx S.e t (.tup [.bool true, k, v1])) (AB s.e (some t) (.tup [.bool true, k, v])) := I.hE.put (d := some t) (v := .tup [.bool true, k, v1]) (v' := .tup [.bool true, k, v]) ⟨_, rfl, _, _, rfl, rfl, _, _, rfl, Rn.of_nid h5, _, _, rfl, h4, rfl⟩
  refine hi _ _ _ _ h r n0 H1 ⟨_, _, _⟩ Q hE' b1 fun r' s' hx hn hE2 hs2 => hk r' s' hx hn hE2 (hs2.unbase b2 b3) ?_
  refine hs2.fr _ _ ?_
  rcases b4 a _ (AY _ _ _) with ⟨g, o, q1, q2, q3⟩ | q
  ·exfalso
   rw [BP] at q1
   split at q1
   ·injection q1 with q1; subst q1; simp [IY] at q3
   ·exact I.hu _ _ q1 q2
  ·exact q
 ·cases h
theorem Vk (I : ItS r n0 H0 S it a m' len left s) {S1 : ES} (he : SS S.e S1.e = true) (hh : XS S.h S1.h = true) {j : Nat} {r' : List Nat} {s' : AS} (hx : Ex r r') (hn : s.n ≤ s'.n) (hE : EnvR r' S1.e s'.e) (hs : SimH r' n0 H0 S1.k S1.h s'.n s'.H) (hi : s'.H a = some (.iter m' len (left.erase j) (some j))) : ItS r n0 H0 S it a m' len (left.erase j) s' := by
 refine ⟨fun i => ?_, ⟨I.hs.len, fun g o e => ?_, fun g o b e1 e2 => ?_, I.hs.inj, hs.fr0, hs.fr, hs.n0n, hs.van⟩, ⟨_, hi⟩, I.hr, I.hu, I.ha.1, by have := I.ha.2.1; omega, I.ha.2.2⟩
 ·rcases Tt he i with h | h
  ·rw [h]; simp only [Rn]
  ·rw [Rn.one_ hx h (I.hE i) (hE i)]; exact I.hE i
 ·obtain ⟨b, ob, h1, h2, h3⟩ := I.hs.hp g o e
  have h4 := List.all_eq_true.1 hh _ (L9 e)
  simp only at h4
  split at h4
  ·rename_i o1 h5
   obtain ⟨ob1, h6, h7⟩ := hs.hp.at_ (hx _ _ h1) h5
   have := RnO.one_ hx h4 h3 h7
   subst this
   exact ⟨b, ob1, h1, h6, h3⟩
  ·cases h4
 ·obtain ⟨q1, q2, q3⟩ := I.hs.lo g o b e1 e2; exact ⟨q1, by omega, q3⟩
theorem RJ {P : Program} {x : Opd} {cur : Option Nat} {ops : List AOper} {c2 : ACode} {fs : List (AV × AV)} (hx : ev s.e x = .ptr a 0) (hit : s.H a = some (.iter m' len left cur)) (hm : s.H m' = some (.map kk fs)) (hl : fs.length = len)
  (h0 : left = [] → aw P (.seq (.reg ops) c2) Q ⟨AB s.e (some t) (.tup [.bool false]), s.n, s.H⟩)
  (h1 : ∀ j ∈ left, ∀ k v, fs[j]? = some (k, v) → aw P (.seq (.reg ops) c2) Q ⟨AB s.e (some t) (.tup [.bool true, k, v]), s.n, upd s.H a (some (.iter m' len (left.erase j) (some j)))⟩) : aw P (.seq (.reg (⟨some t, .nxt x, none⟩ :: ops)) c2) Q s := by
 show Of (some t) _ s (ev s.e x)
 rw [hx]
 simp only [Of, hit, hm]
 exact ⟨trivial, hl, h0, h1⟩
theorem V5 (hi : Cd X ih) (I : ItS r n0 H0 S it a m' len left s) {y : AExit} {S2 : ES} (h : TL ih c t S = some (y, S2)) {Y : AS → Prop} (hk : ∀ r' s', Ex r r' → s.n ≤ s'.n → EnvR r' S2.e s'.e → SimH r' n0 H0 S2.k S2.h s'.n s'.H → Q y s') : aw X.P c (DO Y Q) ⟨AB s.e (some t) (.tup [.bool false]), s.n, s.H⟩ := by
 unfold TL at h
 split at h
 ·cases h
 ·rename_i o hne
  refine hi _ _ _ _ h r n0 H0 ⟨_, _, _⟩ _ (I.hE.put (d := some t) (v := .tup [.bool false]) (v' := .tup [.bool false]) (Rn.of_nid rfl)) I.hs fun r' s' hx hn hE hs => ?_
  cases y with
  | normal => exact absurd h (hne _)
  | exit i => exact hk r' s' hx hn hE hs
  | ret => exact hk r' s' hx hn hE hs
theorem R9 (I : ItS r n0 H0 S it a m' len left s) (hm : r[m]? = some m') (hmS : AX S.h m = some (.map kk es)) : ∃ fs, s.H m' = some (.map kk fs) ∧ fs.length = es.length := by
 obtain ⟨ob, h1, h2⟩ := I.hs.hp.at_ hm hmS
 simp only [RnO] at h2; obtain ⟨fs, rfl, h2⟩ := h2
 exact ⟨fs, h1, h2.len⟩
theorem Sq (hi : Cd X ih) {x : Opd} {ops : List AOper} {c2 : ACode} (hxc : Gf x = true) (hx : ev S.e x = .ptr it 0) (hm : r[m]? = some m') (hmS : AX S.h m = some (.map kk es)) (hl : es.length = len) {y : AExit} {S2 : ES} (hend : TL ih (.seq (.reg ops) c2) t S = some (y, S2)) {Y : AS → Prop}
  (hY : ∀ s, aw X.P (.seq (.reg (⟨some t, .nxt x, none⟩ :: ops)) c2) (DO Y Q) s → Y s) {nS : Nat} (hk : ∀ r' s', Ex r r' → nS ≤ s'.n → EnvR r' S2.e s'.e → SimH r' n0 H0 S2.k S2.h s'.n s'.H → Q y s') :
  ∀ (N : Nat) (left : List Nat) (s : AS), left.length ≤ N → (∀ j ∈ left, MW ih (.seq (.reg ops) c2) t it m S j = true) → ItS r n0 H0 S it a m' len left s → nS ≤ s.n → Y s := by
 intro N
 induction N with
 | zero =>
  intro left s hN hneu I hn
  have : left = [] := List.length_eq_zero_iff.1 (by omega)
  subst this
  obtain ⟨cur, hit⟩ := I.hit
  obtain ⟨fs, hf, hfl⟩ := R9 I hm hmS
  have hxa := AU I.hE hxc; rw [hx] at hxa; simp only [Rn] at hxa; obtain ⟨a', hxa, ha'⟩ := hxa
  rw [I.hr] at ha'; injection ha' with ha'; subst ha'
  exact hY s (RJ hxa hit hf (by rw [hfl, hl]) (fun _ => V5 hi I hend fun r' s' q1 q2 => hk r' s' q1 (Nat.le_trans hn q2)) (by simp))
 | succ N ihN =>
  intro left s hN hneu I hn
  obtain ⟨cur, hit⟩ := I.hit
  obtain ⟨fs, hf, hfl⟩ := R9 I hm hmS
  have hxa := AU I.hE hxc; rw [hx] at hxa; simp only [Rn] at hxa; obtain ⟨a', hxa, ha'⟩ := hxa
  rw [I.hr] at ha'; injection ha' with ha'; subst ha'
  refine hY s (RJ hxa hit hf (by rw [hfl, hl]) (fun _ => V5 hi I hend fun r' s' q1 q2 => hk r' s' q1 (Nat.le_trans hn q2)) fun j hj k v hkv => ?_)
  have hnj := hneu j hj
  unfold MW at hnj
  split at hnj
  ·rename_i s1 h1
   rw [Bool.and_eq_true] at hnj
   refine Rg hi I hm hmS hl h1 hf hkv fun r' s' q1 q2 q3 q4 q5 => ?_
   refine ihN (left.erase j) s' ?_ (fun j' hj' => hneu j' (List.mem_of_mem_erase hj')) (Vk I hnj.1 hnj.2 q1 q2 q3 q4 q5) (Nat.le_trans hn q2)
   rw [List.length_erase_of_mem hj]; omega
  ·cases hnj
theorem We (hi : Cd X ih) {x : Opd} {ops : List AOper} {c2 : ACode} {W : List Nat} (hxc : Gf x = true) (hx : ev S.e x = .ptr it 0) (hm : r[m]? = some m') (hmS : AX S.h m = some (.map kk es)) (hl : es.length = len) {j0 : Nat} {S1 S2 : ES} (hrnd : UE ih (.seq (.reg ops) c2) t it m j0 S = some (.normal, S1)) (hhd : Qn W x it m len S1 = some S2)
  {y : AExit} {S3 : ES} (hend : TL ih (.seq (.reg ops) c2) t S2 = some (y, S3)) {Y : AS → Prop}
  (hY : ∀ s, aw X.P (.seq (.reg (⟨some t, .nxt x, none⟩ :: ops)) c2) (DO Y Q) s → Y s) {nS : Nat} (hk : ∀ r' s', Ex r r' → nS ≤ s'.n → EnvR r' S3.e s'.e → SimH r' n0 H0 S3.k S3.h s'.n s'.H → Q y s') :
  ∀ (N : Nat) (left : List Nat) (s : AS), left.length ≤ N → left.Nodup → j0 ∈ left → (∀ j ∈ left, j ≠ j0 → MW ih (.seq (.reg ops) c2) t it m S j = true ∧ MW ih (.seq (.reg ops) c2) t it m S2 j = true) → ItS r n0 H0 S it a m' len left s → nS ≤ s.n → Y s := by
 intro N
 induction N with
 | zero =>
  intro left s hN hd hj0
  have : left = [] := List.length_eq_zero_iff.1 (by omega)
  subst this
  simp at hj0
 | succ N ihN =>
  intro left s hN hd hj0 hneu I hn
  obtain ⟨cur, hit⟩ := I.hit
  obtain ⟨fs, hf, hfl⟩ := R9 I hm hmS
  have hxa := AU I.hE hxc; rw [hx] at hxa; simp only [Rn] at hxa; obtain ⟨a', hxa, ha'⟩ := hxa
  rw [I.hr] at ha'; injection ha' with ha'; subst ha'
  refine hY s (RJ hxa hit hf (by rw [hfl, hl]) (fun e => by subst e; simp at hj0) fun j hj k v hkv => ?_)
  by_cases hjj : j = j0
  ·subst hjj
   refine Rg hi I hm hmS hl hrnd hf hkv fun r' s' q1 q2 q3 q4 q5 => ?_
   unfold Qn at hhd
   split at hhd
   ·rename_i it' o kk' es' g1 g2 g3
    split at hhd
    ·rename_i hb
     rw [Bool.and_eq_true] at hb
     have e1 := Nat.eq_of_beq_eq_true hb.1
     subst e1
     injection hhd with hhd; subst hhd
     have hr' := q1 _ _ I.hr
     refine Sq (r := r') (S := ⟨anyW W S1.e, S1.k, E9 S1.h it'⟩) (m := m) (m' := m') (a := a) hi hxc g1 (q1 _ _ hm) g3 (Nat.eq_of_beq_eq_true hb.2) hend hY (nS := nS) (fun r2 s2 p1 p2 => hk r2 s2 (q1.tr p1) p2) (left.erase j).length (left.erase j) s' (Nat.le_refl _) (fun j' hj' => (hneu j' (List.mem_of_mem_erase hj') (fun e => by subst e; exact hd.not_mem_erase hj')).2) ⟨q3.anyW W, q4.drop it', ⟨_, q5⟩, hr', fun g o p1 p2 => ?_, I.ha.1, by have := I.ha.2.1; omega, I.ha.2.2⟩ (Nat.le_trans hn q2)
     rw [G5] at p1
     split at p1
     ·cases p1
     ·rename_i hne; exact hne (q4.inj _ _ _ _ _ p1 g2 p2 hr')
    ·cases hhd
   ·cases hhd
  ·have hnj := (hneu j hj hjj).1
   unfold MW at hnj
   split at hnj
   ·rename_i s1 h1
    rw [Bool.and_eq_true] at hnj
    refine Rg hi I hm hmS hl h1 hf hkv fun r' s' q1 q2 q3 q4 q5 => ?_
    refine ihN (left.erase j) s' ?_ (hd.erase j) ((List.mem_erase_of_ne (Ne.symm hjj)).2 hj0) (fun j' hj' => hneu j' (List.mem_of_mem_erase hj')) (Vk I hnj.1 hnj.2 q1 q2 q3 q4 q5) (Nat.le_trans hn q2)
    rw [List.length_erase_of_mem hj]; omega
   ·cases hnj
end
theorem WH (hi : Cd X ih) {x : Opd} {ops : List AOper} {c2 : ACode} {W : List Nat} {t : Nat} (hxc : Gf x = true) {y : AExit} {Q : AExit → AS → Prop} (hE : EnvR r S.e s.e) (hs : SimH r n0 H0 S.k S.h s.n s.H) (h : Y3 ih (.seq (.reg ops) c2) W t x S = some (y, S')) (hk : Goes r n0 H0 S' s (Q y)) : aw X.P (.loop (.seq (.reg (⟨some t, .nxt x, none⟩ :: ops)) c2)) Q s := by
 intro Y hY
 unfold Y3 at h
 split at h
 ·rename_i it o e0
  split at h
  ·rename_i m len left hit
   split at h
   ·rename_i hleft
    have hleft := of_decide_eq_true hleft
    split at h
    ·rename_i S0 hhd
     unfold Qn at hhd
     split at hhd
     ·rename_i it' ob kk es g1 g2 g3
      split at hhd
      ·rename_i hb
       rw [Bool.and_eq_true] at hb
       have e1 := Nat.eq_of_beq_eq_true hb.1
       subst e1
       injection hhd with hhd; subst hhd
       obtain ⟨a, ob1, q1, q2, q3⟩ := hs.hp _ _ hit
       simp only [RnO] at q3; obtain ⟨m', left', rfl, q4, q5⟩ := q3
       have q5 := q5 trivial; subst q5
       obtain ⟨l1, l2, l3⟩ := hs.lo _ _ _ hit q1
       have I : ItS r n0 H0 ⟨anyW W S.e, S.k, E9 S.h it'⟩ it' a m' len left' s := ⟨hE.anyW W, hs.drop it', ⟨_, q2⟩, q1, fun g o p1 p2 => by
        rw [G5] at p1
        split at p1
        ·cases p1
        ·rename_i hne; exact hne (hs.inj _ _ _ _ _ p1 hit p2 q1), l1, l2, l3.resolve_right (by simp [IY])⟩
       have hlen := Nat.eq_of_beq_eq_true hb.2
       split at h
       ·rename_i hflt
        exact Sq hi hxc g1 q4 g3 hlen h hY (nS := s.n) hk left'.length left' s (Nat.le_refl _) (fun j hj => by
         have := List.filter_eq_nil_iff.1 hflt j hj
         simpa using this) I (Nat.le_refl _)
       ·rename_i j0 hflt
        split at h
        ·rename_i S1 hrnd
         split at h
         ·rename_i S2 hhd2
          split at h
          ·rename_i hall
           have hj0 : j0 ∈ left' := by
            have : j0 ∈ left'.filter fun j => !MW ih (.seq (.reg ops) c2) t it' m ⟨anyW W S.e, S.k, E9 S.h it'⟩ j := by rw [hflt]; simp
            exact (List.mem_filter.1 this).1
           refine We hi hxc g1 q4 g3 hlen hrnd hhd2 h hY (nS := s.n) hk left'.length left' s (Nat.le_refl _) (by rw [hleft]; exact List.nodup_range) hj0 (fun j hj hne => ⟨?_, List.all_eq_true.1 hall j ((List.mem_erase_of_ne hne).2 hj)⟩) I (Nat.le_refl _)
           cases hn : MW ih (.seq (.reg ops) c2) t it' m ⟨anyW W S.e, S.k, E9 S.h it'⟩ j with
           | true => rfl
           | false =>
            have : j ∈ left'.filter fun j => !MW ih (.seq (.reg ops) c2) t it' m ⟨anyW W S.e, S.k, E9 S.h it'⟩ j := List.mem_filter.2 ⟨hj, by rw [hn]; rfl⟩
            rw [hflt] at this; simp at this; exact absurd this hne
          ·cases h
         ·cases h
        ·cases h
       ·cases h
      ·cases hhd
     ·cases hhd
    ·cases h
   ·cases h
  ·cases h
 ·cases h
mutual
theorem VJ {h : XH} : ∀ {x y : AV}, Rn r x y → Rn r (V6 h x) y
 | .slg _ _ _, y, k => by
  simp only [V6]
  split
  ·exact k
  ·simp only [Rn]
 | .agg l, y, k => by simp only [Rn] at k; obtain ⟨l', rfl, k⟩ := k; exact ⟨_, rfl, Oi k⟩
 | .tup l, y, k => by simp only [Rn] at k; obtain ⟨l', rfl, k⟩ := k; exact ⟨_, rfl, Oi k⟩
 | .sl _ _ _, _, k | .fn _ _ _, _, k | .ptr _ _, _, k | .mp _, _, k | .slm _ _ _ _, _, k | .dat _ _, _, k | .ref _, _, k | .ifc _ _, _, k | .any, _, k | .bool _, _, k | .int _ _, _, k | .str _, _, k | .np, _, k | .nfn, _, k | .nmp, _, k | .ub, _, k | .nif, _, k | .und, _, k => k
theorem Oi {h : XH} : ∀ {x y : List AV}, RnL r x y → RnL r (Vr h x) y
 | [], _, k => k
 | _ :: _, _, k => by simp only [RnL] at k; obtain ⟨x, xs, rfl, h1, h2⟩ := k; exact ⟨x, xs, rfl, VJ h1, Oi h2⟩
end
mutual
theorem Pb {h : XH} : ∀ x : AV, Gn h (V6 h x) = true
 | .slg _ g _ => by
  simp only [V6]
  cases e : AX h g with
  | none => rfl
  | some o => simp only [Gn, e]
 | .agg l => by simp only [V6, Gn, Hk l]
 | .tup l => by simp only [V6, Gn, Hk l]
 | .sl _ _ _ | .fn _ _ _ | .ptr _ _ | .mp _ | .slm _ _ _ _ | .dat _ _ | .ref _ | .ifc _ _ | .any | .bool _ | .int _ _ | .str _ | .np | .nfn | .nmp | .ub | .nif | .und => rfl
theorem Hk {h : XH} : ∀ l : List AV, Ik h (Vr h l) = true
 | [] => rfl
 | x :: xs => by simp only [Vr, Ik, Pb x, Hk xs, Bool.and_self]
end
theorem VW (F : AObj → AObj) (l : XH) (k : Nat) : AX (l.map fun x => (x.1, F x.2)) k = (AX l k).map F := by
 induction l with
 | nil => rfl
 | cons y l ih =>
  obtain ⟨a, b⟩ := y
  simp only [List.map_cons, BP, ih]
  split <;> rfl
theorem Sk (F : AV → AV) (hF : F .any = .any) (e : AL) (t : Nat) : get (e.map fun x => (x.1, F x.2)) t = F (get e t) := by
 induction e with
 | nil => simp only [List.map_nil, get, hF]
 | cons y e ih =>
  obtain ⟨a, b⟩ := y
  simp only [List.map_cons, get, ih]
  split <;> rfl
theorem X6 {g sz : Nat} {l : List AV} {h : XH} (o : AObj) : IY (M1 g sz l (Z2 h o)) = IY o := by cases o <;> rfl
theorem VM {r : List Nat} {o o' : AObj} (hi : IY o = true) (h : RnO r o o') (g sz : Nat) (l : List AV) : M1 g sz l o' = o' := by
 cases o <;> first | cases hi | skip
 simp only [RnO] at h
 obtain ⟨_, _, rfl, _⟩ := h
 rfl
theorem WR (hE : EnvR r S.e s.e) (hs : SimH r n0 H0 S.k S.h s.n s.H) (h : VC X S = some S') : ∃ (ks : List Nat) (a e sz : Nat) (l : List AV), s.H a = some (.grow e (AD l)) ∧ Aq X.P e = sz ∧ 0 < sz ∧ (∀ x ∈ l, x.cells.length = sz) ∧ EnvR r S'.e (Vy a sz l s.e) ∧ SimH r n0 H0 S'.k S'.h s.n (Ks ks a sz l s.H) := by
 unfold VC at h
 split at h
 ·cases h
 ·rename_i g _
  split at h
  ·rename_i e cs hg
   split at h
   ·rename_i sh hsh
    split at h
    ·rename_i hz
     simp only [Bool.and_eq_true, decide_eq_true_eq, Bool.or_eq_true] at hz
     obtain ⟨z2, z3, z4, z5⟩ := hz
     injection h with h; subst h
     obtain ⟨a, ob, q1, q2, q3⟩ := hs.hp g _ hg
     simp only [RnO] at q3; obtain ⟨ds, rfl, q3⟩ := q3
     generalize hsz : Aq X.P e = sz at *
     generalize hj : cs.length / sz = j at *
     obtain ⟨c1, c2⟩ := HL (b := sh.isSome) z4 (n := j) (cs := ds) (by rw [q3.len]; exact z3) (q3.ones fun x hx => List.all_eq_true.1 z5 x hx)
     have hch : RnL r (Ck sh.isSome sz j cs) (Ck sh.isSome sz j ds) := LZ q3
     generalize Ck sh.isSome sz j cs = L at *
     generalize Ck sh.isSome sz j ds = L' at *
     have hinj : ∀ g' o, AX S.h g' = some o → r[g']? = some a → g' = g := fun g' o p1 p2 => hs.inj _ _ _ _ _ p1 hg p2 q1
     have fv : ∀ {x y : AV}, Rn r x y → Rn r (Ca g sz L (V6 S.h x)) (Ca a sz L' y) := fun k => PM hch q1 hinj (Pb _) (VJ k)
     have fl : ∀ {x y : List AV}, RnL r x y → RnL r (F4 g sz L (Vr S.h x)) (F4 a sz L' y) := fun k => Kv hch q1 hinj (Hk _) (Oi k)
     have fo : ∀ {x y : AObj}, RnO r x y → RnO r (M1 g sz L (Z2 S.h x)) (M1 a sz L' y) := fun {x y} k => by
      cases x <;> simp only [RnO] at k
      ·obtain ⟨c, rfl, k⟩ := k; exact ⟨_, rfl, fl k⟩
      ·subst k; rfl
      ·have k' := k; obtain ⟨c, rfl, k⟩ := k; exact k'
      ·have k' := k; obtain ⟨c, d, rfl, k⟩ := k; exact k'
      ·obtain ⟨c, rfl, k⟩ := k; exact ⟨_, rfl, fl k⟩
     have hla := hs.lo _ _ _ hg q1
     have hnm : ∀ k, k ∈ S.h.map (fun x => Sw r x.1) → ∃ g1 o1 o2, AX S.h g1 = some o1 ∧ r[g1]? = some k ∧ s.H k = some o2 ∧ RnO r o1 o2 := fun k hk => by
      obtain ⟨x, hx, rfl⟩ := List.mem_map.1 hk
      obtain ⟨o1, ho⟩ := Option.ne_none_iff_exists'.1 (Pf x hx)
      obtain ⟨b, o2, p1, p2, p3⟩ := hs.hp _ _ ho
      have hb : Sw r x.1 = b := by simp [Sw, p1]
      rw [hb]
      exact ⟨x.1, o1, o2, ho, p1, p2, p3⟩
     have live : ∀ {g1 o1}, AX ((E9 S.h g).map fun x => (x.1, M1 g sz L (Z2 S.h x.2))) g1 = some o1 → ∃ o0, g1 ≠ g ∧ AX S.h g1 = some o0 ∧ o1 = M1 g sz L (Z2 S.h o0) := fun {g1 o1} e => by
      rw [VW (fun o => M1 g sz L (Z2 S.h o)), G5] at e
      split at e
      ·cases e
      ·rename_i hne
       obtain ⟨o0, p1, p2⟩ := Option.map_eq_some_iff.1 e
       exact ⟨o0, hne, p1, p2.symm⟩
     refine ⟨S.h.map (fun x => Sw r x.1), a, e, sz, L', by rw [c1]; exact q2, hsz, z2, c2, fun t => ?_, ?_⟩
     ·show Rn r (get (S.e.map fun x => (x.1, Ca g sz L (V6 S.h x.2))) t) (get (s.e.map fun x => (x.1, Ca a sz L' x.2)) t)
      rw [Sk (fun v => Ca g sz L (V6 S.h v)) rfl, Sk (fun v => Ca a sz L' v) rfl]
      exact fv (hE t)
     ·refine ⟨hs.len, fun g1 o1 e1 => ?_, fun g1 o1 a1 e1 e2 => ?_, fun g1 g2 o1 o2 a1 e1 e2 e3 e4 => ?_, fun a1 h1 => ?_, fun a1 o1 h1 => ?_, hs.n0n, fun a1 h1 => ?_⟩
      ·obtain ⟨o0, hne, p1, rfl⟩ := live e1
       obtain ⟨b, o2, p2, p3, p4⟩ := hs.hp _ _ p1
       refine ⟨b, _, p2, ?_, fo p4⟩
       have hba : b ≠ a := by rintro rfl; exact hne (hinj _ _ p1 p2)
       have hm : b ∈ S.h.map (fun x => Sw r x.1) := by
        refine List.mem_map.2 ⟨(g1, o0), L9 p1, ?_⟩
        simp [Sw, p2]
       simp only [Ks, if_neg hba, if_pos hm, p3, Option.map_some]
      ·obtain ⟨o0, hne, p1, rfl⟩ := live e1
       rw [X6]
       exact hs.lo _ _ _ p1 e2
      ·obtain ⟨o0, _, p1, rfl⟩ := live e1
       obtain ⟨o3, _, p2, rfl⟩ := live e2
       exact hs.inj _ _ _ _ _ p1 p2 e3 e4
      ·have hne : a1 ≠ a := by rintro rfl; omega
       have hm : a1 ∉ S.h.map (fun x => Sw r x.1) := fun hm => by
        obtain ⟨g1, o1, o2, p1, p2, _, _⟩ := hnm _ hm
        have := (hs.lo _ _ _ p1 p2).1
        omega
       simp only [Ks, if_neg hne, if_neg hm]
       exact hs.fr0 a1 h1
      ·have hne : a1 ≠ a := by
        rintro rfl
        rcases hla.2.2 with h2 | h2
        ·rw [h1] at h2; cases h2
        ·cases h2
       have hH := hs.fr a1 o1 h1
       simp only [Ks, if_neg hne]
       split
       ·rename_i hm
        obtain ⟨g1, o2, o3, p1, p2, p3, p4⟩ := hnm _ hm
        rw [hH] at p3; injection p3 with p3; subst p3
        rcases (hs.lo _ _ _ p1 p2).2.2 with h2 | h2
        ·rw [h1] at h2; cases h2
        ·rw [hH, Option.map_some, VM h2 p4]
       ·exact hH
      ·have hH := hs.van a1 h1
       simp only [Ks, hH, Option.map_none]
       split
       ·rfl
       ·split <;> rfl
    ·cases h
   ·cases h
  ·cases h
theorem Ua (hi : Cd X ih) (horc : Fy X) : Cd X (E3 X ih) := by
 intro c S x S' h r n0 H0 s Q hE hs hk
 cases c with
 | skip => simp only [E3, Option.some.injEq, Prod.mk.injEq] at h; obtain ⟨rfl, rfl⟩ := h; exact hk r s (Ex.rfl_ r) (Nat.le_refl _) hE hs
 | exit id => simp only [E3, Option.some.injEq, Prod.mk.injEq] at h; obtain ⟨rfl, rfl⟩ := h; exact hk r s (Ex.rfl_ r) (Nat.le_refl _) hE hs
 | ret => simp only [E3, Option.some.injEq, Prod.mk.injEq] at h; obtain ⟨rfl, rfl⟩ := h; exact hk r s (Ex.rfl_ r) (Nat.le_refl _) hE hs
 | reg ops =>
  simp only [E3] at h
  split at h
  ·rename_i s1 h1
   simp only [Option.some.injEq, Prod.mk.injEq] at h; obtain ⟨rfl, rfl⟩ := h
   exact VV hi horc hE hs h1 hk
  ·cases h
 | regD m T ops =>
  simp only [E3] at h
  split at h
  ·rename_i s1 h1
   simp only [Option.some.injEq, Prod.mk.injEq] at h; obtain ⟨rfl, rfl⟩ := h
   exact Xw hi horc hE hs h1 hk
  ·cases h
 | seq a b =>
  simp only [E3] at h
  split at h
  ·rename_i s1 h1
   exact hi _ _ _ _ h1 r n0 H0 s _ hE hs fun r' s' hx hn hE' hs' => hi _ _ _ _ h r' n0 H0 s' _ hE' hs' fun r2 s2 hx2 hn2 => hk r2 s2 (hx.tr hx2) (Nat.le_trans hn hn2)
  ·rename_i o hne
   refine hi _ _ _ _ h r n0 H0 s _ hE hs fun r' s' hx hn hE' hs' => ?_
   cases x with
   | normal => exact absurd h (hne _)
   | exit i => exact hk r' s' hx hn hE' hs'
   | ret => exact hk r' s' hx hn hE' hs'
 | cond c a b =>
  simp only [E3] at h
  split at h
  ·rename_i hc
   have hx := AU hE hc
   show DP (aw X.P a Q s) (aw X.P b Q s) (ev s.e c)
   split at h
   ·rename_i e; rw [e] at hx; simp only [Rn] at hx; rw [hx]
    exact ⟨fun _ => hi _ _ _ _ h r n0 H0 s _ hE hs hk, fun e => by cases e⟩
   ·rename_i e; rw [e] at hx; simp only [Rn] at hx; rw [hx]
    exact ⟨fun e => (by cases e), fun _ => hi _ _ _ _ h r n0 H0 s _ hE hs hk⟩
   ·cases h
  ·cases h
 | block id c =>
  simp only [E3] at h
  split at h
  ·rename_i i s1 h1
   refine hi _ _ _ _ h1 r n0 H0 s _ hE hs fun r' s' hx hn hE' hs' => ?_
   show Dv id Q (.exit i) s'
   rw [Hy]
   split at h
   ·rename_i hb
    simp only [Option.some.injEq, Prod.mk.injEq] at h; obtain ⟨rfl, rfl⟩ := h
    rw [if_pos (Nat.eq_of_beq_eq_true hb)]; exact hk r' s' hx hn hE' hs'
   ·rename_i hb
    simp only [Option.some.injEq, Prod.mk.injEq] at h; obtain ⟨rfl, rfl⟩ := h
    rw [if_neg (Nat.ne_of_beq_eq_false hb)]; exact hk r' s' hx hn hE' hs'
  ·rename_i o hne
   refine hi _ _ _ _ h r n0 H0 s _ hE hs fun r' s' hx hn hE' hs' => ?_
   cases x with
   | exit i => exact absurd h (hne _ _)
   | normal => exact hk r' s' hx hn hE' hs'
   | ret => exact hk r' s' hx hn hE' hs'
 | loop c =>
  simp only [E3] at h
  split at h
  ·rename_i t x' ops c2 hc
   have := Ws hc
   subst this
   split at h
   ·rename_i hxc; exact WH hi hxc hE hs h hk
   ·cases h
  intro Y hY
  apply hY
  split at h
  ·rename_i s1 h1
   refine hi _ _ _ _ h1 r n0 H0 s _ hE hs fun r' s' hx hn hE' hs' => ?_
   exact hi _ _ _ _ h r' n0 H0 s' Q hE' hs' (fun r2 s2 hx2 hn2 => hk r2 s2 (hx.tr hx2) (Nat.le_trans hn hn2)) Y hY
  ·rename_i o hne
   refine hi _ _ _ _ h r n0 H0 s _ hE hs fun r' s' hx hn hE' hs' => ?_
   cases x with
   | normal => exact absurd h (hne _)
   | exit i => exact hk r' s' hx hn hE' hs'
   | ret => exact hk r' s' hx hn hE' hs'
 | segs l => cases h
 | bad => cases h
 | kp ks c => cases h
 | ke ks c => cases h
 | gh c =>
  simp only [E3] at h
  split at h
  ·rename_i S1 h1
   obtain ⟨ks, a, e, sz, l, q1, q2, q3, q4, q5, q6⟩ := WR hE hs h1
   exact .inr ⟨ks, a, e, sz, l, q1, q2, q3, q4, hi _ _ _ _ h r n0 H0 _ Q q5 q6 fun r' s' hx hn hE' hs' => hk r' s' hx hn hE' hs'⟩
  ·exact .inl (hi _ _ _ _ h r n0 H0 s Q hE hs hk)
theorem Sz (horc : Fy X) : ∀ n, Cd X (Vh X n)
 | 0 => fun _ _ _ _ h => by cases h
 | n + 1 => Ua (Sz horc n) horc
theorem run_pure (horc : Fy X) (n : Nat) {f : Nat} {l : List AV} {v : AV} (h : (match KU X (Vh X n) f l 0 [] with | some (v', _, _) => IS (weak v') v | none => false) = true) (hl : G9 l = true) (hv : Hb v = true) : APure X.P f l v := by
 split at h
 ·rename_i v' k h' hc
  have := LV h
  subst this
  exact pure_ok (Sz horc n) hc hl hv
 ·cases h
end
abbrev Lp := List (Nat × List AV × AV)
def Wy : Lp → Nat → List AV → Option AV
 | [], _, _ => none
 | p :: T, f, l => match Nat.beq p.1 f && SP p.2.1 l with | true => some p.2.2 | false => Wy T f l
def VB (P : Program) : Lp → Prop
 | [] => True
 | p :: T => APure P p.1 p.2.1 p.2.2 ∧ Hb p.2.2 = true ∧ VB P T
theorem Sv {P : Program} {ef : List Nat} {mb mt fz gt : Nat → Bool} {gh : Nat → List Nat} : ∀ {T : Lp}, VB P T → Fy ⟨P, ef, mb, mt, Wy T, fz, gt, gh⟩
 | [], _, _, _, _, h => by cases h
 | p :: T, hT, f, l, v, h => by
  simp only [Wy] at h
  split at h
  ·rename_i hb
   rw [Bool.and_eq_true] at hb
   injection h with h; subst h
   rw [← Nat.eq_of_beq_eq_true hb.1, ← GH hb.2]
   exact ⟨hT.1, hT.2.1⟩
  ·exact Sv (ef := ef) (mb := mb) (mt := mt) (fz := fz) (gt := gt) (gh := gh) hT.2.2 f l v h
open Go.ChangeShapes Go.WideShapes Go.ChangeAt Go.RowKit Go.Deep
section
variable {H : Type} {enc : TypeId × Value → H} {P : Program}
theorem Gq (hl : laidOutB P = true) {W W' : World} (hb : Ext W W') (sp : Nat → Bool) : ∀ {ts : List TypeId} {vs : List Value} {ds : List (DataW H)} {ps : List MemPlace}, (∀ t ∈ ts, P.readableRec t = true ∧ t < P.types.size) →
  DataW.TrodAll enc P W 0 (fun _ => true) true ts vs ds ps → (∀ p ∈ ps, p.block < W.heap.size) → (∀ p ∈ ps, sp p.block = true) → DataW.TrodAll enc P W' 0 sp true ts vs ds ps
 | [], _, _, _, _, h, _, _ => by
  obtain ⟨rfl, rfl, rfl⟩ := trodAll_nil h
  exact trodAll_mk0
 | t :: ts, _, _, _, ht, h, hlt, hsp => by
  obtain ⟨v, vs, d, ds, p, q, rfl, rfl, rfl, h1, h2⟩ := trodAll_cons h
  have h3 := ht t List.mem_cons_self
  refine trodAll_cons_mk (WideElems.Trod_stays hl h3.1 h3.2 h1 (fun x hx => Below.same hb (hlt x (List.mem_append_left _ hx))) (fun x hx => hsp x (List.mem_append_left _ hx))) ?_
  exact Gq hl hb sp (fun u hu => ht u (List.mem_cons_of_mem _ hu)) h2 (fun x hx => hlt x (List.mem_append_right _ hx)) (fun x hx => hsp x (List.mem_append_right _ hx))
theorem LJ {f : Func} {s : ChangeSpec} {W W' : World} {args : Array Value} {ds gs : List (DataW H)} {before : List MemPlace} {tb : TypeId}
  (hW : DataW.Whole enc P f.params.toList s.vars false W args.toList ds gs before) (hv : s.vars = []) (hl : laidOutB P = true) (hr : ∀ t ∈ f.params.toList, P.readableRec t = true ∧ t < P.types.size)
  (hres : f.resultTypes = #[tb]) (htb : P.underlying tb = some .bool) (h1 : (s.fn H ds).results = [.lit (.bool true)]) (h2 : (s.fn H ds).args = ds) (h3 : (s.fn H ds).vars = []) (hb : Ext W W') :
  s.post enc P f false true false false W args (.bool true) W' := by
 have hlt : ∀ p ∈ before, p.block < W.heap.size := fun p hp => hW.lt p hp
 have hW' := hW
 obtain ⟨p, q, hA, hV, rfl, _, _⟩ := hW
 rw [hv] at hV
 obtain ⟨rfl, rfl⟩ := trodVars_none hV
 refine ⟨ds, [], p ++ [], [], p, [], hW', ?_, ?_, ?_, ?_, fun h => by cases h⟩
 ·rw [List.append_nil, h1, hres]
  exact trodAll_mk1 (shut_bool htb true)
 ·rw [List.append_nil, h2]
  exact Gq hl hb _ hr hA (fun x hx => hlt x (by simpa using hx)) (fun x hx => by simpa using hlt x (by simpa using hx))
 ·rw [List.append_nil, h3, hv]; rfl
 ·exact Below.frame hb _
theorem PE {w : World} {a : Addr} {v : Value} (h : w.cell? (a.add 0) = some v) : ∃ g off, a = ⟨g, off, none⟩ := by
 obtain ⟨g, off, spot⟩ := a
 cases spot with
 | none => exact ⟨g, off, rfl⟩
 | some s =>
  unfold Addr.add World.cell? at h
  simp at h
  split at h <;> cases h
theorem LC {w : World} {base : Nat} {spare : Nat → Bool} {held : Bool} {t e : TypeId} {fuel C : Nat} {v : Value} {x : DataW H × List MemPlace} (ht : P.underlying t = some (.slice e)) (hC : P.cellsOf e = C) (hC0 : 0 < C)
  (h : DataW.trod enc P w base spare held fuel t [v] = some x) :
  ∃ (n k : Nat) (X : Nat → List Value) (Y : Nat → DataW H × List MemPlace), Rd w C v n ((List.range n).flatMap X) ∧ (∀ i, i < n → (X i).length = C ∧ DataW.trod enc P w base spare held k e (X i) = some (Y i)) ∧ ((n = 0 ∧ x.1 = .nil) ∨ ∃ sp, x.1 = .slice ((List.range n).map fun i => (Y i).1) sp) := by
 rcases open_slice ht h with ⟨hv, hx⟩ | ⟨a, len, cap, m, n, D, Pl, hv, hb, hl, hm, hmm, hx, hi⟩
 ·injection hv with hv
  subst hv
  exact ⟨0, 0, fun _ => [], fun _ => (.nil, []), Rd.nil_ w C, fun i hi => by omega, .inl ⟨rfl, by rw [hx]⟩⟩
 ·injection hv with hv
  subst hv
  rw [hC] at hi
  have hlm : len ≤ m := by rw [hmm]; split <;> omega
  obtain ⟨X, hX⟩ := choose_lt (n := len) (p := fun i (cs : List Value) => w.cells? base (a.add (i * C)) C = some cs ∧ DataW.trod enc P w base spare held n e cs = some (D i, Pl i)) (fun i h => hi i (by omega))
  have hlen : ∀ i, i < len → (X i).length = C := fun i h => (World.cells?_some (hX i h).1).2.1
  have hflen : ∀ k, k ≤ len → ((List.range k).flatMap X).length = k * C := by
   intro k hk
   induction k with
   | zero => simp
   | succ k ih => rw [List.range_succ, List.flatMap_append, List.length_append, ih (by omega)]; simp [hlen k (by omega), Nat.add_mul]
  refine ⟨len, n, X, fun i => (D i, Pl i), ⟨some a, cap, rfl, hflen len (Nat.le_refl _), hl, hm, fun h0 => ?_⟩, fun i hi => ⟨hlen i hi, (hX i hi).2⟩, .inr ⟨_, by rw [hx]⟩⟩
  have hcell : ∀ i, i < len → ∀ j, j < C → w.cell? (a.add (i * C + j)) = (X i)[j]? := fun i hi' j hj => by
   have := (World.cells?_some (hX i hi').1).2.2 j hj
   rwa [Go.Deep.add_add] at this
  obtain ⟨g, off, rfl⟩ : ∃ g off, a = ⟨g, off, none⟩ := by
   have h1 := hcell 0 h0 0 hC0
   have h2 : (X 0)[0]? = some ((X 0)[0]'(by rw [hlen 0 h0]; exact hC0)) := List.getElem?_eq_getElem _
   rw [h2] at h1
   exact PE (by simpa using h1)
  refine ⟨g, off, rfl, fun j u hu => ?_⟩
  have hj : j < len * C := by
   have := (List.getElem?_eq_some_iff.1 hu).1
   rwa [hflen len (Nat.le_refl _)] at this
  have hdiv : j / C < len := Nat.div_lt_of_lt_mul (by rwa [Nat.mul_comm])
  have hmod := Nat.mod_lt j hC0
  have h1 := hcell (j / C) hdiv (j % C) hmod
  have hsplit : j / C * C + j % C = j := by rw [Nat.mul_comm]; exact Nat.div_add_mod j C
  rw [hsplit, addr_add] at h1
  rw [h1, ← hu]
  have AX : ∀ k, k ≤ len → j < k * C → ((List.range k).flatMap X)[j]? = (X (j / C))[j % C]? := by
   intro k hk hjk
   induction k with
   | zero => omega
   | succ k ih =>
    rw [List.range_succ, List.flatMap_append]
    by_cases hc : j < k * C
    ·rw [List.getElem?_append_left (by rw [hflen k (by omega)]; exact hc)]
     exact ih (by omega) hc
    ·rw [List.getElem?_append_right (by rw [hflen k (by omega)]; omega), hflen k (by omega)]
     have hq : j / C = k := by
      rw [Nat.add_mul] at hjk
      have h2 : k ≤ j / C := (Nat.le_div_iff_mul_le hC0).2 (by omega)
      have h3 : j / C < k + 1 := Nat.div_lt_of_lt_mul (by rw [Nat.mul_add]; rw [Nat.mul_comm C k]; omega)
      omega
     rw [hq]
     have hr : j - k * C = j % C := by rw [← hq]; omega
     rw [hr]
     simp
  exact (AX len (Nat.le_refl _) hj).symm
end
theorem Qq {H : Type} (l r : List (DataW H)) : Rows.uptoBulkAll (l ++ r) = Rows.uptoBulkAll l + Rows.uptoBulkAll r := by
 induction l with
 | nil => simp [Rows.uptoBulkAll]
 | cons x l ih => simp only [List.cons_append, Rows.uptoBulkAll, ih]; omega
theorem Ux {H : Type} (n : Nat) (f : Nat → DataW H) (g : Nat → Nat) (h : ∀ i, i < n → g i ≤ Rows.uptoBulk (f i)) : ((List.range n).map g).sum ≤ Rows.uptoBulkAll ((List.range n).map f) := by
 induction n with
 | zero => simp
 | succ n ih =>
  have := ih (fun i hi => h i (by omega))
  have := h n (by omega)
  rw [List.range_succ, List.map_append, List.map_append, Qq, List.sum_append]
  simp [Rows.uptoBulkAll]
  omega
theorem QV {H : Type} {P : Program} {e : TypeId} {l : List (DataW H)} {d : DataW H} (hd : d ∈ l) {y : Nat} (hy : y ∈ d.weights P e) : y ∈ DataW.weightsAll P e l := by
 induction l with
 | nil => cases hd
 | cons a l ih =>
  simp only [DataW.weightsAll, List.mem_append]
  rcases List.mem_cons.1 hd with rfl | hd
  ·exact .inl hy
  ·exact .inr (ih hd)
def R6 (w : World) : Gh := ⟨fun b o => w.cell? ⟨b, o, none⟩, fun _ => none⟩
theorem TT (P : Program) (w : World) : Rel0 P w (R6 w) w.heap.size (fun _ => none) w :=
 ⟨Ext.rfl_ w, Nat.le_refl _, Nat.le_refl _, fun _ _ _ h => h, (fun _ _ _ h => by cases h), (fun _ _ _ h => by cases h), (fun _ _ h => by cases h)⟩
theorem Il {P : Program} {f : Nat} {args : List AV} {vs : List Value} {w : World} (hl : Laid w) (h : APure P f args (.bool true)) (hr : RepL (R6 w) vs args) : Calls P f vs.toArray w fun e w' => e = .returned (.bool true) ∧ Ext w w' := by
 refine (h w.heap.size (fun _ => none) (fun _ _ => rfl) w (R6 w) w vs hl (TT P w) hr).mono ?_
 rintro e w' ⟨v, r, G', n', H', rfl, ⟨rfl, _, _⟩, hv, _, _, h0⟩
 cases hv
 exact ⟨rfl, h0.ext⟩
theorem OF {G : Gh} {n : Nat} {X : Nat → List Value} {l : Nat → AV} (h : ∀ i, i < n → RepL G (X i) (l i).cells) : RepL G ((List.range n).flatMap X) (AD ((List.range n).map l)) := by
 induction n with
 | zero => exact .nil
 | succ n ih =>
  rw [List.range_succ, List.flatMap_append, List.map_append]
  unfold AD
  rw [List.flatMap_append]
  exact (ih fun i hi => h i (by omega)).append (by simpa using h n (by omega))
theorem OC {w : World} {sz n : Nat} {v : Value} {xs : List Value} {l : List AV} (hr : Rd w sz v n xs) (hx : RepL (R6 w) xs (AD l)) (hl : l.length = n) (h0 : 0 < sz) (hu : ∀ x ∈ l, x.cells.length = sz) (h1 : ∀ x ∈ AD l, x.one = true) : Rep (R6 w) v (.sl sz l .ro) := by
 obtain ⟨A, c, rfl, hlen, hc, hm, hcell⟩ := hr
 rcases Nat.eq_zero_or_pos n with h | h
 ·subst h
  have : l = [] := List.length_eq_zero_iff.1 hl
  subst this
  exact .sl0 hm
 ·obtain ⟨g, off, rfl, hcs⟩ := hcell h
  exact .slro hx (fun j u hu => hcs j u hu) ⟨by omega, hm, h0, hu, h1⟩ hl.symm
section
variable {H : Type} {enc : TypeId × Value → H} {P : Program}
def OZ {α : Type} (P : Program) (w : World) (e : TypeId) (en : α → AV) (Wa : α → Prop) (q : α → Nat) (cs : List Value) (d : DataW H) (a : α) : Prop :=
 RepL (R6 w) cs (en a).cells ∧ ((∀ y ∈ d.weights P e, y ≤ reachBytes) → Wa a) ∧ q a ≤ Rows.uptoBulk d
theorem open_list {α : Type} [Inhabited α] {w : World} {base : Nat} {spare : Nat → Bool} {held : Bool} {t e : TypeId} {fuel C : Nat} {v : Value} {x : DataW H × List MemPlace} (en : α → AV) (Wa : α → Prop) (q : α → Nat)
  (ht : P.underlying t = some (.slice e)) (hC : P.cellsOf e = C) (hC0 : 0 < C) (hu : ∀ a, (en a).cells.length = C ∧ ∀ y ∈ (en a).cells, y.one = true)
  (he : ∀ k cs y, cs.length = C → DataW.trod enc P w base spare held k e cs = some y → ∃ a, OZ P w e en Wa q cs y.1 a)
  (h : DataW.trod enc P w base spare held fuel t [v] = some x) : ∃ l : List α, OZ P w t (fun l : List α => .sl C (l.map en) .ro) (fun l => l.length * P.bytesOf e ≤ reachBytes ∧ ∀ a ∈ l, Wa a) (fun l => (l.map q).sum + 1) [v] x.1 l := by
 obtain ⟨n, k, X, Y, hr, hX, hY⟩ := LC ht hC hC0 h
 obtain ⟨f, hf⟩ := choose_lt (n := n) (p := fun i a => OZ P w e en Wa q (X i) (Y i).1 a) (fun i hi => he k (X i) (Y i) (hX i hi).1 (hX i hi).2)
 have hlen : ((List.range n).map f).length = n := by simp
 refine ⟨(List.range n).map f, .cons (OC hr ?_ (by simp) hC0 ?_ ?_) .nil, fun hw => ?_, ?_⟩
 ·rw [List.map_map]
  exact OF fun i hi => (hf i hi).1
 ·intro y hy
  obtain ⟨a, _, rfl⟩ := List.mem_map.1 hy
  exact (hu a).1
 ·intro y hy
  obtain ⟨z, hz, hy⟩ := List.mem_flatMap.1 hy
  obtain ⟨a, _, rfl⟩ := List.mem_map.1 hz
  exact (hu a).2 y hy
 ·rcases hY with ⟨h0, h1⟩ | ⟨sp, h1⟩
  ·subst h0; simp
  ·rw [h1] at hw
   simp only [DataW.weights, ht, List.mem_cons, List.mem_append, List.length_map, List.length_range] at hw
   refine ⟨?_, fun a ha => ?_⟩
   ·have := hw _ (.inl rfl)
    rw [hlen]
    exact Nat.le_trans (Nat.mul_le_mul_right _ (Nat.le_add_right _ _)) this
   ·obtain ⟨i, hi, rfl⟩ := List.mem_map.1 ha
    have hi' : i < n := List.mem_range.1 hi
    exact (hf i hi').2.1 fun y hy => hw y (.inr (.inl (QV (List.mem_map.2 ⟨i, hi, rfl⟩) hy)))
 ·rcases hY with ⟨h0, h1⟩ | ⟨sp, h1⟩
  ·subst h0; rw [h1]; simp [Rows.uptoBulk]
  ·rw [h1]
   have := Ux n (fun i => (Y i).1) (fun i => q (f i)) (fun i hi => (hf i hi).2.2)
   simp only [Rows.uptoBulk, List.map_map]
   have e : (q ∘ f) = fun i => q (f i) := rfl
   rw [e]; omega
theorem OJ {w : World} {base : Nat} {spare : Nat → Bool} {held : Bool} {t : TypeId} {fuel : Nat} {cs : List Value} {x : DataW H × List MemPlace} (ht : P.underlying t = some .string)
  (h : DataW.trod enc P w base spare held fuel t cs = some x) : ∃ a : List UInt8, OZ P w t AV.str (fun a => a.length ≤ reachBytes) (fun a => a.length + 1) cs x.1 a := by
 obtain ⟨s, rfl, hx, hs⟩ := DataW.trod_string ht h
 refine ⟨s.data.toList, .cons (.str rfl) .nil, fun hw => ?_, ?_⟩
 ·rw [hx] at hw
  simpa [DataW.weights] using hw
 ·rw [hx]; simp [Rows.uptoBulk]
end
end Go.Proofs.YtnfjgphfaemjcaaGreatDoor

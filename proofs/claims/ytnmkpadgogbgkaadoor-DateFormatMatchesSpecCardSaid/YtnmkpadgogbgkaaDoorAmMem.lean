/- Memory of a call's own while it runs: what is made, turned, appended to; no condition. -/
import Derived.Test.YtnmkpadgogbgkaaDoorAmFun
set_option linter.all false
set_option linter.unusedSimpArgs false
set_option linter.unusedVariables false
namespace Go.Proofs.YtnmkpadgogbgkaaDoor

/-- nothing lies from n on -/
def Sup (n : Nat) (H : AHeap) : Prop := ∀ k, n ≤ k → H k = none
/-- the call has made memory, and has not turned what was there -/
structure Mem (n0 : Nat) (H0 : AHeap) (n : Nat) (H : AHeap) : Prop where
  le : n0 ≤ n
  sup : Sup n H
  same : SameB n0 H0 H
/-- a slice of the call's own that reads as l: nil, or with a row to which may be appended -/
def OwnS (n0 : Nat) (H : AHeap) (el sz : Nat) (x : AV) (l : List AV) : Prop :=
  (l = [] ∧ ∃ z, x = .sl z [] .nil) ∨ ∃ g, x = .sl sz l (.own g) ∧ H g = some (.row el l.length) ∧ n0 ≤ g
/-- it is not the row of that slice -/
def notRow (x : AV) (k : Nat) : Prop := ∀ sz l, x ≠ .sl sz l (.own k)

theorem Mem.refl {n : Nat} {H : AHeap} (h : ∀ k, n ≤ k → H k = none) : Mem n H n H := ⟨Nat.le_refl _, h, SameB.rfl_ _ _⟩
section
variable {n0 n : Nat} {H0 H : AHeap}
theorem Mem.lt (h : Mem n0 H0 n H) {g : Nat} {ob : AObj} (hg : H g = some ob) : g < n := by
  rcases Nat.lt_or_ge g n with h1 | h1
  · exact h1
  · rw [h.sup g h1] at hg; cases hg
theorem Sup.lt {g : Nat} {ob : AObj} (h : Sup n H) (hg : H g = some ob) : g < n := by
  rcases Nat.lt_or_ge g n with h1 | h1
  · exact h1
  · rw [h g h1] at hg; cases hg
theorem Mem.alloc (h : Mem n0 H0 n H) {g : Nat} (hg : n ≤ g) (ob : AObj) : Mem n0 H0 (g + 1) (upd H g (some ob)) := by
  have := h.le
  refine ⟨by omega, fun k hk => ?_, h.same.upd (by omega) _⟩
  rw [upd_ne (by omega)]; exact h.sup k (by omega)
theorem Mem.set (h : Mem n0 H0 n H) {g : Nat} {ob : AObj} (hg : H g = some ob) (hn : n0 ≤ g) (x : Option AObj) : Mem n0 H0 n (upd H g x) := by
  have hl := h.lt hg
  refine ⟨h.le, fun k hk => ?_, h.same.upd hn _⟩
  rw [upd_ne (by omega)]; exact h.sup k hk
theorem Mem.tr (h : Mem n0 H0 n H) {n' : Nat} {H' : AHeap} (k : Mem n H n' H') : Mem n0 H0 n' H' :=
  ⟨Nat.le_trans h.le k.le, k.sup, fun j hj => (k.same j (Nat.lt_of_lt_of_le hj h.le)).trans (h.same j hj)⟩
theorem Mem.fin {v : AV} {res : List ARes} {e : AEnv} (h : Mem n0 H0 n H) (h1 : ∃ x, resOf ⟨e, n, H⟩ res = some x ∧ simA x v) : finP v n0 H0 res .ret ⟨e, n, H⟩ := ⟨h1, h.le, h.same⟩
theorem OwnS.nil (z : Nat) (el sz : Nat) : OwnS n0 H el sz (.sl z [] .nil) [] := .inl ⟨rfl, z, rfl⟩
theorem OwnS.own {el sz g : Nat} {l : List AV} (h : H g = some (.row el l.length)) (hn : n0 ≤ g) : OwnS n0 H el sz (.sl sz l (.own g)) l := .inr ⟨g, rfl, h, hn⟩
/-- the slice stays, if its row does -/
theorem OwnS.keep {el sz : Nat} {x : AV} {l : List AV} {H' : AHeap} (h : OwnS n0 H el sz x l) (hk : ∀ g e m, H g = some (.row e m) → H' g = some (.row e m)) : OwnS n0 H' el sz x l := by
  rcases h with h | ⟨g, h1, h2, h3⟩
  · exact .inl h
  · exact .inr ⟨g, h1, hk _ _ _ h2, h3⟩
/-- a slice that grows -/
theorem app_any {el sz by_ : Nat} {d : Option Nat} {e : AEnv} {K : AS → Prop} {x : AV} {l m m' : List AV} {z : Nat} {t : Tok} (hz : z = sz ∨ m = []) (hs : simL m m') (hm : Mem n0 H0 n H) (hx : OwnS n0 H el sz x l) (hb : (l.length + m.length) * by_ ≤ 140737488355328) (hc : l.length + m.length ≤ maxLen)
    (h : ∀ x' n' H', OwnS n0 H' el sz x' (l ++ m') → Mem n0 H0 n' H' → (∀ k ob, H k = some ob → notRow x k → H' k = some ob) → (∀ k, k < n → notRow x k → notRow x' k) → n ≤ n' → K ⟨putO e d x', n', H'⟩) : appKS el sz by_ d K ⟨e, n, H⟩ x (.sl z m t) := by
  have hl := simL_len hs
  have hsup := hm.sup
  have hle := hm.le
  rcases hx with ⟨rfl, z, rfl⟩ | ⟨g, rfl, hg, hng⟩
  · by_cases hm0 : m = []
    · subst hm0
      simp only [simL] at hs; subst hs
      refine ⟨.inr rfl, [], rfl, by simp, by simp [maxLen], fun _ => ?_, fun h' => absurd rfl h'⟩
      exact h _ _ _ (.inl ⟨rfl, _, rfl⟩) hm (fun k ob hk _ => hk) (fun k hk _ s l h' => by injection h' with _ _ h'; cases h') (Nat.le_refl _)
    · refine appS_nil hz hs hm0 (by simpa using hb) (by simpa using hc) fun g hg => ?_
      refine h _ _ _ ?_ (hm.alloc hg _) (fun k ob hk _ => ?_) (fun k hk _ => ?_) (by omega)
      · simp only [List.nil_append]
        exact .inr ⟨g, rfl, by rw [xz3q], by omega⟩
      · have := hm.lt hk
        rw [upd_ne (by omega)]; exact hk
      · intro s l' h'; injection h' with _ _ h'; injection h' with h'; omega
  · have hgn := hm.lt hg
    refine appS_own hz hs hg hb hc fun g' n' hg' hn' hgn' => ?_
    refine h _ _ _ (.inr ⟨g', rfl, by rw [xz3q, List.length_append], by omega⟩) ⟨by omega, fun k hk => ?_, fun k hk => ?_⟩ (fun k ob hk hr => ?_) (fun k hk hr => ?_) hn'
    · rw [upd_ne (by omega)]
      simp only [upd]; split
      · rfl
      · exact hsup k (by omega)
    · rw [upd_ne (by omega), upd_ne (by omega)]; exact hm.same k hk
    · have hkn := hm.lt hk
      have hkg : k ≠ g := by rintro rfl; exact hr _ _ rfl
      have hkg' : k ≠ g' := by rcases hg' with rfl | hg' <;> omega
      rw [upd_ne hkg', upd_ne hkg]; exact hk
    · intro s l' h'
      injection h' with _ _ h'; injection h' with h'
      subst h'
      rcases hg' with rfl | hg'
      · exact hr _ _ rfl
      · omega
theorem OwnS.sim {el sz : Nat} {x : AV} {l l' : List AV} (h : OwnS n0 H el sz x l) (hl : simL l l') : simA x (.sl sz l' .ro) := by
  rcases h with ⟨rfl, z, rfl⟩ | ⟨g, rfl, _⟩
  · exact ⟨sz, l', .ro, rfl, .inl rfl, .inr ⟨rfl, rfl⟩, hl⟩
  · exact ⟨sz, l', .ro, rfl, .inl rfl, .inl rfl, hl⟩
end
theorem bytesOf_map (bs : List UInt8) : bytesOf (bs.map fun u => AV.int .u8 u.toNat) = some bs := by
  induction bs with
  | nil => rfl
  | cons b bs ih =>
    simp only [List.map_cons, bytesOf, ih, Option.map_some]
    congr 2
    simp
theorem u8e {a b : UInt8} : ((a.toNat : Int) = (b.toNat : Int)) ↔ a = b := by rw [← UInt8.toNat_inj]; omega
theorem u8lit {a : UInt8} {n : Nat} : ((a.toNat : Int) = (no_index (OfNat.ofNat n) : Int)) ↔ (n < 256 ∧ a = UInt8.ofNat n) := by
  constructor
  · intro h
    have h' : a.toNat = n := Int.ofNat_inj.1 h
    have := a.toNat_lt
    exact ⟨by omega, by rw [← UInt8.toNat_inj]; simp; omega⟩
  · rintro ⟨h, rfl⟩
    rw [show (UInt8.ofNat n).toNat = n from by simp; omega]; rfl
/-- memory in which one block of the call's own is known -/
structure Keeps (n0 : Nat) (H0 : AHeap) (g : Nat) (ob : AObj) (n : Nat) (H : AHeap) : Prop where
  mem : Mem n0 H0 n H
  at_ : H g = some ob
  lo : n0 ≤ g
theorem Keeps.alloc {n0 n g : Nat} {H0 H : AHeap} {ob : AObj} (h : Keeps n0 H0 g ob n H) {k : Nat} (hk : n ≤ k) (x : AObj) : Keeps n0 H0 g ob (k + 1) (upd H k (some x)) :=
  ⟨h.mem.alloc hk x, by rw [upd_ne (by have := h.mem.lt h.at_; omega)]; exact h.at_, h.lo⟩
theorem Keeps.new {n g : Nat} {H : AHeap} (hs : ∀ k, n ≤ k → H k = none) (hg : n ≤ g) (ob : AObj) : Keeps n H g ob (g + 1) (upd H g (some ob)) :=
  ⟨(Mem.refl hs).alloc hg ob, xz3q _ _ _, hg⟩
theorem xz3r (c : UInt8) : bytesOf [AV.int .u8 c.toNat] = some [c] := bytesOf_map [c]
theorem xz3s (c d : UInt8) : bytesOf [AV.int .u8 c.toNat, AV.int .u8 d.toNat] = some [c, d] := bytesOf_map [c, d]
theorem CallP.chk {P : Program} {f : Nat} {args : List AV} {d : Option Nat} {K : AS → Prop} {s : AS} (h : CallP P f args d K s) : CallP P f args d K s := h
theorem CallP.of {P : Program} {f : Nat} {args args' : List AV} {d : Option Nat} {K : AS → Prop} {e : AEnv} {n : Nat} {H : AHeap} {v : AV} (h : APure P f args' v) (hs : simL args args') (hk : K ⟨putO e d v, n, H⟩) : CallP P f args d K ⟨e, n, H⟩ := ⟨args', v, h, hs, hk⟩
theorem CallP.sf {P : Program} {f : Nat} {args args' : List AV} {d : Option Nat} {K : AS → Prop} {e : AEnv} {n : Nat} {H : AHeap} {v : AV} (hs : simL args args') (h : APure P f args' v) (hk : K ⟨putO e d v, n, H⟩) : CallP P f args d K ⟨e, n, H⟩ := ⟨args', v, h, hs, hk⟩
theorem fin_r {v : AV} {n n' : Nat} {H H' : AHeap} {res : List ARes} {e : AEnv} (h : ∃ x, resOf ⟨e, n', H'⟩ res = some x ∧ simA x v) (h1 : n ≤ n') (h2 : SameB n H H') : finP v n H res .ret ⟨e, n', H'⟩ := ⟨h, h1, h2⟩
/-- a result that reads as is asked -/
theorem res_some {x v : AV} (h : simA x v) : ∃ y, some x = some y ∧ simA y v := ⟨x, rfl, h⟩
end Go.Proofs.YtnmkpadgogbgkaaDoor

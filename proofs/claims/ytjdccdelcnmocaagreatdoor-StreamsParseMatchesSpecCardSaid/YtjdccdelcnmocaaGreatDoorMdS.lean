/- Streams: what the reference reads is what is written; no condition. -/
import Derived.Test.YtjdccdelcnmocaaGreatDoorMgJ
import Derived.Test.YtjdccdelcnmocaaGreatDoorMdR
import Derived.Test.YtjdccdelcnmocaaGreatDoorAdF
import Derived.Test.YtjdccdelcnmocaaGreatDoorMdM
set_option linter.all false
set_option linter.unusedSimpArgs false
set_option linter.unusedVariables false
set_option maxHeartbeats 2000000
namespace Go.Proofs.YtjdccdelcnmocaaGreatDoor
def VT (d : Int) (x : UInt8) : Int := d + (if x = 40 then 1 else 0) - (if x = 41 then 1 else 0)
theorem Sw (d : Int) : VT d 40 = d + 1 := by unfold VT; rw [if_pos rfl, if_neg (by decide)]; omega
theorem RC (d : Int) : VT d 41 = d - 1 := by unfold VT; rw [if_neg (by decide), if_pos rfl]; omega
theorem NL {x : UInt8} (h : x ≠ 40) (k : x ≠ 41) (d : Int) : VT d x = d := by unfold VT; rw [if_neg h, if_neg k]; omega
def D3 : AW → AW → Int → List AW → Option (List AW × Int)
 | [], cur, d, out => some (out ++ [cur], d)
 | x :: r, cur, d, out => if x = 44 ∧ d = 0 then D3 r [] d (out ++ [cur])
  else if VT d x < 0 then none
  else D3 r (cur ++ [x]) (VT d x) out
def HB (s : AW) : List AW × Bool := match D3 s [] 0 [] with
 | none => ([], false)
 | some (out, d) => (if out = [[]] then [] else out, decide (d = 0))
theorem T6 : ∀ {r cur : AW} {d : Int} {out : List AW} {y : List AW × Int}, D3 r cur d out = some y → ∃ l, y.1 = out ++ l ∧ l ≠ [] ∧ jn l = cur ++ r
 | [], cur, d, out, y, h => by
  rw [D3] at h
  injection h with h; subst h
  exact ⟨[cur], rfl, by simp, by rw [BC, Bu]⟩
 | x :: r, cur, d, out, y, h => by
  rw [D3] at h
  split at h
  ·rename_i hx
   obtain ⟨l, h1, h2, h3⟩ := T6 h
   refine ⟨cur :: l, by rw [h1]; simp, by simp, ?_⟩
   rw [BC, WQ h2, h3, hx.1]; rfl
  ·split at h
   ·cases h
   ·obtain ⟨l, h1, h2, h3⟩ := T6 h
    exact ⟨l, h1, h2, by rw [h3]; simp⟩
theorem XH {s : AW} (h : (HB s).2 = true) : jn (HB s).1 = s := by
 unfold HB at h ⊢
 split at h
 ·cases h
 ·rename_i out d hd
  simp only [hd]
  obtain ⟨l, h1, h2, h3⟩ := T6 hd
  rw [List.nil_append] at h1 h3
  dsimp only at h1
  subst h1
  split
  ·rename_i e; rw [e, BC, Bu] at h3; rw [Cw]; simpa using h3
  ·exact h3
def Bal (lo : Int) (t : AW) : Prop := ∀ (r cur : AW) (d : Int) (out : List AW), lo ≤ d → D3 (t ++ r) cur d out = D3 r (cur ++ t) d out
theorem Bal.up {t : AW} (h : Bal 0 t) : Bal 1 t := fun r cur d out hd => h r cur d out (by omega)
theorem Bal.nil {lo : Int} : Bal lo [] := fun r cur d out _ => by simp
theorem Bal.app {lo : Int} {a b : AW} (h : Bal lo a) (k : Bal lo b) : Bal lo (a ++ b) := fun r cur d out hd => by rw [List.append_assoc, h _ _ _ _ hd, k _ _ _ _ hd, List.append_assoc]
theorem Bal.plain {lo : Int} (h0 : 0 ≤ lo) : ∀ {t : AW}, (∀ c ∈ t, c ≠ 40 ∧ c ≠ 41 ∧ c ≠ 44) → Bal lo t
 | [], _ => Bal.nil
 | x :: t, h => fun r cur d out hd => by
  obtain ⟨h1, h2, h3⟩ := h x List.mem_cons_self
  rw [List.cons_append, D3, if_neg (fun e => h3 e.1), NL h1 h2, if_neg (by omega), Bal.plain h0 (fun c hc => h c (List.mem_cons_of_mem _ hc)) _ _ _ _ (by omega)]
  simp
theorem Bal.com : Bal 1 [44] := fun r cur d out hd => by
 show D3 (44 :: r) cur d out = _
 rw [D3, if_neg (fun e => by omega), NL (by decide) (by decide), if_neg (by omega)]
theorem Bal.paren {t : AW} (h : Bal 1 t) : Bal 0 (40 :: (t ++ [41])) := fun r cur d out hd => by
 have e1 : ¬ ((40 : UInt8) = 44 ∧ d = 0) := fun e => absurd e.1 (by decide)
 have e2 : ¬ ((41 : UInt8) = 44 ∧ d + 1 = 0) := fun e => absurd e.1 (by decide)
 rw [List.cons_append, D3, if_neg e1, Sw, if_neg (by omega), List.append_assoc, h _ _ _ _ (by omega)]
 show D3 (41 :: r) _ _ _ = _
 have e : d + 1 - 1 = d := by omega
 rw [D3, if_neg e2, RC, e, if_neg (by omega)]
 simp
theorem Bal.jt : ∀ {l : List AW}, (∀ x ∈ l, Bal 0 x) → Bal 1 (jt l)
 | [], _ => Bal.nil
 | x :: l, h => by
  rw [EI]
  exact Bal.com.app ((h x List.mem_cons_self).up.app (Bal.jt fun y hy => h y (List.mem_cons_of_mem _ hy)))
theorem Bal.jn {l : List AW} (h : ∀ x ∈ l, Bal 0 x) : Bal 1 (jn l) := by
 cases l with
 | nil => exact Bal.nil
 | cons x l =>
  rw [BC]
  exact (h x List.mem_cons_self).up.app (Bal.jt fun y hy => h y (List.mem_cons_of_mem _ hy))
theorem U5 : ∀ {l : List AW}, (∀ x ∈ l, Bal 0 x) → ∀ (cur : AW) (out : List AW), D3 (jt l) cur 0 out = some (out ++ cur :: l, 0)
 | [], _, cur, out => by rw [Bu, D3]
 | x :: l, h, cur, out => by
  rw [EI, D3, if_pos ⟨rfl, rfl⟩, h x List.mem_cons_self _ _ _ _ (by omega), U5 (fun y hy => h y (List.mem_cons_of_mem _ hy))]
  simp
theorem Zc {l : List AW} (h : ∀ x ∈ l, Bal 0 x ∧ x ≠ []) : HB (jn l) = (l, true) := by
 unfold HB
 cases l with
 | nil => rw [Cw, D3]; simp
 | cons x l =>
  rw [BC, (h x List.mem_cons_self).1 _ _ _ _ (by omega), U5 (fun y hy => (h y (List.mem_cons_of_mem _ hy)).1)]
  have := (h x List.mem_cons_self).2
  simp [this]
theorem Pw {c : UInt8} (h : Ak c = true) : c ≠ 40 ∧ c ≠ 41 ∧ c ≠ 44 := by
 unfold Ak at h
 simp only [decide_eq_true_eq] at h
 refine ⟨?_, ?_, ?_⟩ <;> rintro rfl <;> revert h <;> decide
theorem Ps {c : UInt8} (h : Af c = true) : c ≠ 40 ∧ c ≠ 41 ∧ c ≠ 44 := by
 unfold Af at h
 simp only [decide_eq_true_eq] at h
 refine ⟨?_, ?_, ?_⟩ <;> rintro rfl <;> revert h <;> decide
theorem Pl {k o m : Int} {v : List Int} {n : Nat} (hs : ShpN k o m v n) : ∀ y ∈ Aq k o m v (Ad k), Bal 0 y ∧ y ≠ [] := by
 obtain ⟨_, hx⟩ := F7 hs.k1 hs.k2
 have hm : Bal 0 (Lib.itoa m) ∧ Lib.itoa m ≠ [] := ⟨Bal.plain (Int.le_refl 0) fun c hc => Ps (HM hs.mb.1 c hc), Np hs.mb.1⟩
 by_cases ho : (Ad k).fn = true ∨ (Ad k).cd = true
 ·obtain ⟨j, _, hj⟩ := TJ hs rfl ho
  obtain ⟨h1, h2⟩ := MP _ _ (List.mem_of_getElem? hj)
  have hb : Bal 0 (Mr (Ad k) o) := Bal.plain (Int.le_refl 0) fun c hc => Pw (h1 c hc)
  rw [Fh h2]
  intro y hy
  split at hy
  ·rw [List.mem_singleton.1 hy]; exact ⟨hb, h2⟩
  ·rw [List.mem_singleton.1 hy]
   exact ⟨(hb.app (Bal.plain (Int.le_refl 0) (by decide))).app hm.1, by simp⟩
 ·have h1 : (Ad k).fn = false := by cases e : (Ad k).fn <;> simp_all
  have h2 : (Ad k).cd = false := by cases e : (Ad k).cd <;> simp_all
  rw [Fk hx h1 h2]
  intro y hy
  split at hy
  ·rw [List.mem_singleton.1 hy]; exact hm
  ·obtain ⟨z, hz, rfl⟩ := List.mem_map.1 hy
   have := hs.vb z hz
   exact ⟨Bal.plain (Int.le_refl 0) fun c hc => Ps (HM this.1 c hc), Np this.1⟩
theorem Vu : ∀ s : St, IQ s → Bal 0 (B0 s) := by
 intro s
 refine St.ind (Q := fun s => IQ s → Bal 0 (B0 s)) ?_ s
 intro k o m v p ih hs
 obtain ⟨hn, hp⟩ := hs
 obtain ⟨_, hx⟩ := F7 hn.k1 hn.k2
 have hps : ∀ y ∈ Ag p, Bal 0 y := by
  intro y hy
  rw [FL] at hy
  obtain ⟨s, hs, rfl⟩ := List.mem_map.1 hy
  refine ih s hs ?_
  clear hn ih hy
  induction p with
  | nil => cases hs
  | cons q r ihp =>
   rcases List.mem_cons.1 hs with rfl | hs
   ·exact hp.1
   ·exact ihp hp.2 hs
 have e : B0 (.mk k o m v p) = (Ad k).w ++ 40 :: (jn (Aq k o m v (Ad k) ++ Ag p) ++ [41]) := by rw [Gl]; simp
 rw [e]
 refine Bal.app (Bal.plain (Int.le_refl 0) fun c hc => Pw (hx.wl c hc)) (Bal.paren (Bal.jn fun y hy => ?_))
 rcases List.mem_append.1 hy with h | h
 ·exact (Pl hn y h).1
 ·exact hps y h
def EQ (s : AW) : Int × Bool := ((IU s).1, (IU s).2 && decide (s.head? ≠ some 45))
theorem Sf {s : AW} (h : (EQ s).2 = true) : Eu (EQ s).1 ∧ Lib.itoa (EQ s).1 = s := by
 unfold EQ at h ⊢
 simp only [Bool.and_eq_true, decide_eq_true_eq] at h
 obtain ⟨h1, h2⟩ := h
 dsimp only
 obtain ⟨e1, e2⟩ := UR s
 rw [e1] at h1
 obtain ⟨h3, h4, h5⟩ := XM h1
 rw [e2 h1]
 refine ⟨⟨?_, h5⟩, h3⟩
 have := (Mo (HN s).1).2
 rw [h3] at this
 by_cases c : (HN s).1 < 0
 ·exact absurd (this.2 c) h2
 ·omega
theorem Sz {n : Int} (h : Eu n) : EQ (Lib.itoa n) = (n, true) := by
 have h1 := SA (n := n) ⟨by have := h.1; omega, h.2⟩
 obtain ⟨e1, e2⟩ := UR (Lib.itoa n)
 rw [h1] at e1 e2
 have h2 := (Mo n).2
 unfold EQ
 rw [e1, e2 rfl]
 have : ¬ (Lib.itoa n).head? = some 45 := fun e => by have := h2.1 e; have := h.1; omega
 simp [this]
def EU : List AW → List Int → Option (List Int)
 | [], vs => some vs
 | a :: r, vs => if (EQ a).2 = true then EU r (vs ++ [(EQ a).1]) else none
theorem Tx : ∀ {l : List AW} {vs ws : List Int}, EU l vs = some ws → ∃ us, ws = vs ++ us ∧ (∀ n ∈ us, Eu n) ∧ l = us.map Lib.itoa
 | [], vs, ws, h => by rw [EU] at h; injection h with h; exact ⟨[], by simp [h], by simp, rfl⟩
 | a :: r, vs, ws, h => by
  rw [EU] at h
  split at h
  ·rename_i ha
   obtain ⟨h1, h2⟩ := Sf ha
   obtain ⟨us, h3, h4, h5⟩ := Tx h
   refine ⟨(EQ a).1 :: us, by rw [h3]; simp, fun n hn => ?_, by rw [h5, List.map_cons, h2]⟩
   rcases List.mem_cons.1 hn with rfl | hn
   ·exact h1
   ·exact h4 n hn
  ·cases h
theorem U8 : ∀ (us : List Int) (vs : List Int), (∀ n ∈ us, Eu n) → EU (us.map Lib.itoa) vs = some (vs ++ us)
 | [], vs, _ => by simp [EU]
 | n :: us, vs, h => by
  rw [List.map_cons, EU, Sz (h n List.mem_cons_self), if_pos rfl, U8 us _ fun x hx => h x (List.mem_cons_of_mem _ hx)]
  simp
def GR (pr : AW → St × Bool) : List AW → List St → Option (List St)
 | [], ps => some ps
 | a :: r, ps => if (pr a).2 = true then GR pr r (ps ++ [(pr a).1]) else none
theorem W0 {pr : AW → St × Bool} (hpr : ∀ a, (pr a).2 = true → IQ (pr a).1 ∧ a = B0 (pr a).1) : ∀ {l : List AW} {ps qs : List St}, GR pr l ps = some qs → ∃ us, qs = ps ++ us ∧ Rn us ∧ l = Ag us
 | [], ps, qs, h => by rw [GR] at h; injection h with h; exact ⟨[], by simp [h], trivial, rfl⟩
 | a :: r, ps, qs, h => by
  rw [GR] at h
  split at h
  ·rename_i ha
   obtain ⟨h1, h2⟩ := hpr a ha
   obtain ⟨us, h3, h4, h5⟩ := W0 hpr h
   exact ⟨(pr a).1 :: us, by rw [h3]; simp, ⟨h1, h4⟩, by rw [Ag, ← h5, ← h2]⟩
  ·cases h
theorem XI {pr : AW → St × Bool} : ∀ (us : List St) (ps : List St), (∀ s ∈ us, pr (B0 s) = (s, true)) → GR pr (Ag us) ps = some (ps ++ us)
 | [], ps, _ => by simp [GR, Ag]
 | s :: us, ps, h => by
  rw [Ag, GR, h s List.mem_cons_self]
  dsimp only
  rw [if_pos rfl, XI us _ fun x hx => h x (List.mem_cons_of_mem _ hx)]
  simp
def PE (k : Int) (s : AW) : Int := match EO s (if IG k = true then fnW else cdW) with
 | some j => (j : Int) + 1
 | none => 0
def Ia (k : Int) (args : List AW) : Option (Int × Int × List AW) :=
 if IG k = true ∨ CP k = true ∨ F4 k = true then
  match args with
  | [] => none
  | w :: r =>
   if F4 k = true then (if (EQ w).2 = true then some (0, (EQ w).1, r) else none)
   else if PE k (w.takeWhile (fun c => decide (c ≠ 32))) = 0 ∨ (decide (k = 15) ≠ decide (w.dropWhile (fun c => decide (c ≠ 32)) = [])) then none
   else if k = 15 then some (PE k (w.takeWhile (fun c => decide (c ≠ 32))), 0, r)
   else if (EQ ((w.dropWhile (fun c => decide (c ≠ 32))).drop 1)).2 = true then some (PE k (w.takeWhile (fun c => decide (c ≠ 32))), (EQ ((w.dropWhile (fun c => decide (c ≠ 32))).drop 1)).1, r) else none
 else some (0, 0, args)
def Nm (pr : AW → St × Bool) (k : Int) (args : List AW) : St × Bool :=
 if Bt k = true then match EU args [] with
  | none => (Ev, false)
  | some vs => (.mk k 0 0 vs [], true)
 else match Ia k args with
  | none => (Ev, false)
  | some (o, m, r) => match GR pr r [] with
   | none => (Ev, false)
   | some ps => (.mk k o m [] ps, ET k || (G9 k && decide (ps.length = 2)) || (!G9 k && decide (ps.length = 1)))
def Fl : Nat → AW → St × Bool
 | 0, _ => (Ev, false)
 | f + 1, s =>
  if s.dropWhile (fun c => decide (c ≠ 40)) = [] ∨ s.getLast? ≠ some 41 then (Ev, false)
  else match EO (s.takeWhile (fun c => decide (c ≠ 40))) shqW with
   | none => (Ev, false)
   | some j => if (HB ((s.dropWhile (fun c => decide (c ≠ 40))).drop 1).dropLast).2 = true then Nm (Fl f) ((j : Int) + 1) (HB ((s.dropWhile (fun c => decide (c ≠ 40))).drop 1).dropLast).1 else (Ev, false)
theorem Uy : ∀ j : Fin 16, ∃ x, shqs[j.val]? = some x ∧ Bt ((j.val : Int) + 1) = x.vs ∧ IG ((j.val : Int) + 1) = x.fn ∧ CP ((j.val : Int) + 1) = x.cd ∧ (F4 ((j.val : Int) + 1) = decide (0 < x.n1 ∧ x.fn = false)) ∧ (x.vs = false → (ET ((j.val : Int) + 1) = decide (x.parts < 0)) ∧ (G9 ((j.val : Int) + 1) = decide (x.parts = 2)) ∧ (x.parts < 0 ∨ x.parts = 1 ∨ x.parts = 2)) := by
 intro j
 obtain ⟨j, hj⟩ := j
 iterate 16 (rcases j with _ | j; · exact ⟨_, rfl, by dsimp only; decide⟩)
 omega
structure FlagOk (k : Int) (x : Shq) : Prop where
 lf : Bt k = x.vs
 fn : IG k = x.fn
 cd : CP k = x.cd
 ct : F4 k = decide (0 < x.n1 ∧ x.fn = false)
 mn : x.vs = false → (ET k = decide (x.parts < 0)) ∧ (G9 k = decide (x.parts = 2)) ∧ (x.parts < 0 ∨ x.parts = 1 ∨ x.parts = 2)
theorem Nt {k : Int} (h1 : 1 ≤ k) (h2 : k ≤ 16) : FlagOk k (Ad k) := by
 obtain ⟨x, a1, a2, a3, a4, a5, a6⟩ := Uy ⟨(k - 1).toNat, by omega⟩
 have e : (((k - 1).toNat : Nat) : Int) + 1 = k := by omega
 have := (F7 h1 h2).1
 dsimp only at a1 a2 a3 a4 a5 a6
 rw [a1] at this
 injection this with this
 rw [e] at a2 a3 a4 a5 a6
 rw [← this]
 exact ⟨a2, a3, a4, a5, a6⟩
theorem ZY {k : Int} {x : Shq} (hf : IG k = x.fn) {w : AW} (h : PE k w ≠ 0) : ∃ j : Nat, PE k w = (j : Int) + 1 ∧ (Qj x)[j]? = some w := by
 unfold PE at h ⊢
 rw [hf] at h ⊢
 split at h
 ·rename_i j hj
  exact ⟨j, rfl, FU hj⟩
 ·exact absurd rfl h
theorem WJ {k : Int} {x : Shq} (hf : IG k = x.fn) {w : AW} {j : Nat} (h : (Qj x)[j]? = some w) : PE k w = (j : Int) + 1 := by
 unfold PE
 rw [hf]
 have : EO w (if x.fn = true then fnW else cdW) = some j := Nr (Sy x) h
 rw [this]
theorem XS {c : UInt8} (h : Ak c = true) : decide (c ≠ 32) = true := by
 unfold Ak at h
 simp only [decide_eq_true_eq] at h ⊢
 rintro rfl; revert h; decide
theorem Zh {c : UInt8} (h : Ak c = true) : decide (c ≠ 40) = true := by
 unfold Ak at h
 simp only [decide_eq_true_eq] at h ⊢
 rintro rfl; revert h; decide
theorem Mh {p : UInt8 → Bool} {s : AW} {c : UInt8} {t : AW} (h : s.dropWhile p = c :: t) : p c = false := by
 induction s with
 | nil => cases h
 | cons x r ih =>
  rw [List.dropWhile_cons] at h
  split at h
  ·exact ih h
  ·rename_i hx; injection h with h _; rw [← h]; simpa using hx
theorem Yp {k o m : Int} {args r : List AW} (h1 : 1 ≤ k) (h2 : k ≤ 16) (hl : Bt k = false) (h : Ia k args = some (o, m, r)) : (∀ n : Nat, (0 ≤ (Ad k).parts → (n : Int) = (Ad k).parts) → ShpN k o m [] n) ∧ args = Aq k o m [] (Ad k) ++ r := by
 obtain ⟨_, hx⟩ := F7 h1 h2
 have F := Nt h1 h2
 have z : Eu 0 := ⟨by omega, by omega⟩
 rw [F.lf] at hl
 unfold Ia at h
 rw [F.fn, F.cd, F.ct] at h
 split at h
 ·rename_i ho
  split at h
  ·cases h
  ·rename_i w r2
   split at h
   ·rename_i hc
    simp only [decide_eq_true_eq] at hc
    have hcd : (Ad k).cd = false := by
     cases e : (Ad k).cd with
     | false => rfl
     | true =>
      have hk := F.cd
      have hct := F.ct
      rw [e] at hk
      rw [decide_eq_true hc] at hct
      unfold CP at hk; unfold F4 at hct
      simp only [Bool.or_eq_true, decide_eq_true_eq] at hk hct
      omega
    split at h
    ·rename_i hn
     obtain ⟨a1, a2⟩ := Sf hn
     injection h with h
     simp only [Prod.mk.injEq] at h
     obtain ⟨rfl, rfl, rfl⟩ := h
     refine ⟨fun n hn => ⟨h1, h2, fun e => tf hc.2 e, fun e => tf hcd e, fun _ _ => rfl, a1, fun e => ?_, fun _ => rfl, by simp, fun e => tf hl e, fun _ => hn⟩, ?_⟩
     ·rcases e with e | ⟨_, _, e⟩
      ·have := hx.zip e; rw [hc.2] at this; cases this
      ·omega
     ·rw [Fk hx hc.2 hcd, if_pos hc.1, a2]; rfl
    ·cases h
   ·rename_i hc
    have ho2 : (Ad k).fn = true ∨ (Ad k).cd = true := by
     rcases ho with e | e | e
     ·exact .inl e
     ·exact .inr e
     ·exact absurd e hc
    split at h
    ·cases h
    ·rename_i hw
     obtain ⟨hw1, hw2⟩ := not_or.1 hw
     obtain ⟨j, hj1, hj2⟩ := ZY F.fn hw1
     have hopw := RD ho2 hj2
     have hlow := MP _ _ (List.mem_of_getElem? hj2)
     have hjlen : j < (Qj (Ad k)).length := (List.getElem?_eq_some_iff.1 hj2).1
     have hob1 : (Ad k).fn = true → 1 ≤ (j : Int) + 1 ∧ (j : Int) + 1 ≤ 6 := fun e => by
      unfold Qj at hjlen; rw [if_pos e] at hjlen
      have : fnW.length = 6 := rfl
      omega
     have hob2 : (Ad k).cd = true → 1 ≤ (j : Int) + 1 ∧ (j : Int) + 1 ≤ 3 := fun e => by
      have e2 : ¬ (Ad k).fn = true := fun e3 => by rw [hx.fc e3] at e; cases e
      unfold Qj at hjlen; rw [if_neg e2] at hjlen
      have : cdW.length = 3 := rfl
      omega
     have hno : (Ad k).fn = false → (Ad k).cd = false → (j : Int) + 1 = 0 := fun e1 e2 => ho2.elim (tf e1) (tf e2)
     have hw0 : Mr (Ad k) ((j : Int) + 1) ≠ [] := by rw [hopw]; exact hlow.2
     have hsp := G3 (fun c => decide (c ≠ 32)) w
     rw [hj1] at h
     split at h
     ·rename_i h15
      injection h with h
      simp only [Prod.mk.injEq] at h
      obtain ⟨rfl, rfl, rfl⟩ := h
      have hd : w.dropWhile (fun c => decide (c ≠ 32)) = [] := by
       simp only [ne_eq, Decidable.not_not] at hw2
       rw [decide_eq_true h15] at hw2
       exact of_decide_eq_true hw2.symm
      refine ⟨fun n hn => ⟨h1, h2, hob1, hob2, hno, z, fun _ => rfl, fun _ => rfl, by simp, fun e => tf hl e, fun _ => hn⟩, ?_⟩
      rw [Fh hw0, if_pos h15, hopw]
      rw [hd, List.append_nil] at hsp
      rw [← hsp]; rfl
     ·rename_i h15
      split at h
      ·rename_i hn
       obtain ⟨a1, a2⟩ := Sf hn
       injection h with h
       simp only [Prod.mk.injEq] at h
       obtain ⟨rfl, rfl, rfl⟩ := h
       have hd : w.dropWhile (fun c => decide (c ≠ 32)) ≠ [] := by
        simp only [ne_eq, Decidable.not_not] at hw2
        rw [decide_eq_false h15] at hw2
        exact of_decide_eq_false hw2.symm
       obtain ⟨c, t, hct⟩ := List.exists_cons_of_ne_nil hd
       have hc32 : c = 32 := by have := Mh hct; simpa using this
       refine ⟨fun n hn => ⟨h1, h2, hob1, hob2, hno, a1, fun e => ?_, fun _ => rfl, by simp, fun e => tf hl e, fun _ => hn⟩, ?_⟩
       ·rcases e with e | ⟨e1, e2, _⟩
        ·exact absurd e h15
        ·exact ho2.elim (tf e1) (tf e2)
       ·rw [Fh hw0, if_neg h15, hopw, a2]
        rw [hct, hc32] at hsp ⊢
        rw [List.singleton_append, List.append_assoc, List.singleton_append]
        exact congrArg (· :: _) hsp
      ·cases h
 ·rename_i ho
  obtain ⟨ho1, ho2⟩ := not_or.1 ho
  obtain ⟨ho2, ho3⟩ := not_or.1 ho2
  have e1 : (Ad k).fn = false := by simpa using ho1
  have e2 : (Ad k).cd = false := by simpa using ho2
  simp only [decide_eq_true_eq, e1, and_true] at ho3
  have hn1 := hx.n1
  injection h with h
  simp only [Prod.mk.injEq] at h
  obtain ⟨rfl, rfl, rfl⟩ := h
  refine ⟨fun n hn => ⟨h1, h2, fun e => tf e1 e, fun e => tf e2 e, fun _ _ => rfl, z, fun _ => rfl, fun _ => rfl, by simp, fun e => tf hl e, fun _ => hn⟩, ?_⟩
  rw [Fk hx e1 e2, if_neg ho3]; rfl
theorem Yb {k o m : Int} {n : Nat} {r : List AW} (hs : ShpN k o m [] n) (hl : Bt k = false) : Ia k (Aq k o m [] (Ad k) ++ r) = some (o, m, r) := by
 obtain ⟨_, hx⟩ := F7 hs.k1 hs.k2
 have F := Nt hs.k1 hs.k2
 rw [F.lf] at hl
 unfold Ia
 rw [F.fn, F.cd, F.ct]
 by_cases ho2 : (Ad k).fn = true ∨ (Ad k).cd = true
 ·obtain ⟨j, hj1, hj2⟩ := TJ hs rfl ho2
  have hlow := MP _ _ (List.mem_of_getElem? hj2)
  have ho3 : (Ad k).fn = true ∨ (Ad k).cd = true ∨ decide (0 < (Ad k).n1 ∧ (Ad k).fn = false) = true := by
   rcases ho2 with e | e
   ·exact .inl e
   ·exact .inr (.inl e)
  have hc : ¬ decide (0 < (Ad k).n1 ∧ (Ad k).fn = false) = true := by
   intro hc
   simp only [decide_eq_true_eq] at hc
   rcases ho2 with e | e
   ·rw [hc.2] at e; cases e
   ·have hk := F.cd
    have hct := F.ct
    rw [e] at hk
    rw [decide_eq_true hc] at hct
    unfold CP at hk; unfold F4 at hct
    simp only [Bool.or_eq_true, decide_eq_true_eq] at hk hct
    omega
  rw [if_pos ho3, Fh hlow.2]
  by_cases h15 : k = 15
  ·rw [if_pos h15]
   obtain ⟨e1, e2⟩ := ED (p := fun c => decide (c ≠ 32)) (a := Mr (Ad k) o) (b := []) (fun d u e => by cases e) fun c hc => XS (hlow.1 c hc)
   rw [List.append_nil] at e1 e2
   rw [List.singleton_append]
   dsimp only
   rw [if_neg hc, e1, e2, WJ F.fn hj2, ← hj1, if_neg, if_pos h15, hs.nm (.inl h15)]
   rw [not_or]
   refine ⟨by omega, ?_⟩
   rw [decide_eq_true h15]; simp
  ·rw [if_neg h15]
   obtain ⟨e1, e2⟩ := ED (p := fun c => decide (c ≠ 32)) (a := Mr (Ad k) o) (b := 32 :: Lib.itoa m) (fun d u e => by injection e with e _; rw [← e]; decide) fun c hc => XS (hlow.1 c hc)
   have e3 : Mr (Ad k) o ++ [32] ++ Lib.itoa m = Mr (Ad k) o ++ 32 :: Lib.itoa m := by simp
   rw [List.singleton_append, e3]
   dsimp only
   rw [if_neg hc, e1, e2, WJ F.fn hj2, ← hj1, if_neg, if_neg h15]
   ·rw [List.drop_succ_cons, List.drop_zero, Sz hs.mb, if_pos rfl]
   ·rw [not_or]
    refine ⟨by omega, ?_⟩
    rw [decide_eq_false h15]; simp
 ·have h1 : (Ad k).fn = false := by cases e : (Ad k).fn <;> simp_all
  have h2 : (Ad k).cd = false := by cases e : (Ad k).cd <;> simp_all
  rw [Fk hx h1 h2, hs.no h1 h2]
  by_cases hn : 0 < (Ad k).n1
  ·have ho3 : (Ad k).fn = true ∨ (Ad k).cd = true ∨ decide (0 < (Ad k).n1 ∧ (Ad k).fn = false) = true := .inr (.inr (decide_eq_true ⟨hn, h1⟩))
   rw [if_pos ho3, if_pos hn, List.singleton_append]
   dsimp only
   rw [if_pos (decide_eq_true ⟨hn, h1⟩), Sz hs.mb, if_pos rfl]
  ·have hn1 := hx.n1
   rw [if_neg, if_neg hn, hs.nm (.inr ⟨h1, h2, by omega⟩)]
   ·rfl
   ·rintro (e | e | e)
    ·rw [h1] at e; cases e
    ·rw [h2] at e; cases e
    ·exact hn (of_decide_eq_true e).1
theorem RO {a t : AW} {c : UInt8} (h : (a ++ 40 :: t).getLast? = some c) (hc : c ≠ 40) : t = t.dropLast ++ [c] := by
 rw [List.getLast?_append] at h
 cases t with
 | nil => simp at h; exact absurd h.symm hc
 | cons x r =>
  have e : (40 :: x :: r : AW).getLast? = (x :: r).getLast? := by rw [List.getLast?_cons_cons]
  rw [e] at h
  have hne : (x :: r) ≠ [] := by simp
  rw [List.getLast?_eq_some_getLast hne] at h
  simp only [Option.some_or, Option.some.injEq] at h
  have := List.dropLast_concat_getLast hne
  rw [h] at this
  exact this.symm
theorem A0s {pr : AW → St × Bool} (hpr : ∀ a, (pr a).2 = true → IQ (pr a).1 ∧ a = B0 (pr a).1) {j : Nat} {x : Shq} (hx : shqs[j]? = some x) {args : List AW} (h : (Nm pr ((j : Int) + 1) args).2 = true) : IQ (Nm pr ((j : Int) + 1) args).1 ∧ B0 (Nm pr ((j : Int) + 1) args).1 = x.w ++ [40] ++ jn args ++ [41] := by
 obtain ⟨hxk, hj⟩ := WS hx
 have k1 : (1 : Int) ≤ (j : Int) + 1 := by omega
 have k2 : (j : Int) + 1 ≤ 16 := by omega
 obtain ⟨_, hxo⟩ := F7 k1 k2
 have F := Nt k1 k2
 have z : Eu 0 := ⟨by omega, by omega⟩
 subst hxk
 generalize (j : Int) + 1 = k at *
 unfold Nm at h ⊢
 split at h
 ·rename_i hl
  have hv : (Ad k).vs = true := by rw [← F.lf]; exact hl
  obtain ⟨b1, b2, b3, b4⟩ := hxo.v1 hv
  rw [if_pos hl]
  split at h
  ·cases h
  ·rename_i vs hvs
   obtain ⟨us, h1, h2, h3⟩ := Tx hvs
   rw [List.nil_append] at h1
   subst h1
   refine ⟨⟨⟨k1, k2, fun e => tf b1 e, fun e => tf b2 e, fun _ _ => rfl, z, fun _ => rfl, fun e => ft hv e, h2, fun _ => rfl, fun e => ft hv e⟩, trivial⟩, ?_⟩
   dsimp only
   rw [Gl, MA hxo hv, Ag, List.append_nil, ← h3]
 ·rename_i hl
  have hl' : Bt k = false := by simpa using hl
  have hv : (Ad k).vs = false := by rw [← F.lf]; exact hl'
  obtain ⟨m1, m2, m3⟩ := F.mn hv
  rw [if_neg hl]
  split at h
  ·cases h
  ·rename_i o m r hh
   obtain ⟨c1, c2⟩ := Yp k1 k2 hl' hh
   split at h
   ·cases h
   ·rename_i ps hps
    obtain ⟨us, h1, h2, h3⟩ := W0 hpr hps
    rw [List.nil_append] at h1
    subst h1
    dsimp only at h ⊢
    rw [m1, m2] at h
    simp only [Bool.or_eq_true, Bool.and_eq_true, decide_eq_true_eq, Bool.not_eq_true', decide_eq_false_iff_not] at h
    refine ⟨⟨c1 _ fun hp => by omega, h2⟩, ?_⟩
    rw [Gl, c2, h3]
theorem Z4 : ∀ {f : Nat} {s : AW}, (Fl f s).2 = true → IQ (Fl f s).1 ∧ s = B0 (Fl f s).1
 | 0, _, h => by cases h
 | f + 1, s, h => by
  rw [Fl] at h ⊢
  split at h
  ·cases h
  ·rename_i h0
   rw [if_neg h0]
   obtain ⟨h1, h2⟩ := not_or.1 h0
   split at h
   ·cases h
   ·rename_i j hj
    split at h
    ·rename_i ha
     rw [if_pos ha]
     have hjl : j < shqs.length := by have := (List.getElem?_eq_some_iff.1 (FU hj)).1; simpa [shqW] using this
     have hx : shqs[j]? = some shqs[j] := List.getElem?_eq_getElem hjl
     have hw := (K9 hx).2 hj
     obtain ⟨a1, a2⟩ := A0s (fun a e => Z4 e) hx h
     refine ⟨a1, ?_⟩
     rw [a2, hw, XH ha]
     obtain ⟨c, t, hct⟩ := List.exists_cons_of_ne_nil h1
     have hc : c = 40 := by have := Mh hct; simpa using this
     have hsp := G3 (fun c => decide (c ≠ 40)) s
     rw [hct, hc] at hsp
     have hlast : s.getLast? = some 41 := by simpa using h2
     rw [hct, hc, List.drop_succ_cons, List.drop_zero]
     rw [hsp] at hlast
     have ht := RO hlast (by decide)
     have e2 : (List.takeWhile (fun c => decide (c ≠ 40)) s ++ [40] ++ t.dropLast ++ [41] : AW) = List.takeWhile (fun c => decide (c ≠ 40)) s ++ 40 :: (t.dropLast ++ [41]) := by simp
     rw [e2, ← ht]
     exact hsp
    ·cases h
theorem Z7 : ∀ (f : Nat) (s : St), IQ s → (B0 s).length < f → Fl f (B0 s) = (s, true)
 | 0, _, _, h => by omega
 | f + 1, .mk k o m v p, hs, hf => by
  have hs0 := hs
  obtain ⟨hn, hp⟩ := hs
  obtain ⟨hget, hx⟩ := F7 hn.k1 hn.k2
  have F := Nt hn.k1 hn.k2
  have hk : (((k - 1).toNat : Nat) : Int) + 1 = k := by have := hn.k1; omega
  have hmem : ∀ s ∈ p, IQ s := by
   clear hs0 hn hf
   intro s hs
   induction p with
   | nil => cases hs
   | cons q r ihp =>
    rcases List.mem_cons.1 hs with rfl | hs
    ·exact hp.1
    ·exact ihp hp.2 hs
  have e1 : B0 (.mk k o m v p) = (Ad k).w ++ 40 :: (jn (Aq k o m v (Ad k) ++ Ag p) ++ [41]) := by rw [Gl]; simp
  rw [e1] at hf ⊢
  obtain ⟨t1, t2⟩ := ED (p := fun c => decide (c ≠ 40)) (a := (Ad k).w) (b := 40 :: (jn (Aq k o m v (Ad k) ++ Ag p) ++ [41])) (fun d u e => by injection e with e _; rw [← e]; decide) fun c hc => Zh (hx.wl c hc)
  have hlen : ∀ s ∈ p, (B0 s).length < f := by
   intro s hs
   have hmem : B0 s ∈ Aq k o m v (Ad k) ++ Ag p := List.mem_append_right _ (by rw [FL]; exact List.mem_map.2 ⟨s, hs, rfl⟩)
   have key : ∀ l : List AW, ∀ x ∈ l, x.length ≤ (jt l).length := fun l => by
    induction l with
    | nil => intro x hx; cases hx
    | cons y l ih =>
     intro x hx
     rw [EI]
     rcases List.mem_cons.1 hx with rfl | hx
     ·simp; omega
     ·have := ih x hx; simp; omega
   have k2 : ∀ l : List AW, ∀ x ∈ l, x.length ≤ (jn l).length := fun l x hx => by
    cases l with
    | nil => cases hx
    | cons y l =>
     rw [BC]
     rcases List.mem_cons.1 hx with rfl | hx
     ·simp
     ·have := key l x hx; simp; omega
   have := k2 _ _ hmem
   simp only [List.length_append, List.length_cons] at hf
   omega
  have harg : HB (jn (Aq k o m v (Ad k) ++ Ag p)) = (Aq k o m v (Ad k) ++ Ag p, true) := Zc fun y hy => by
   rcases List.mem_append.1 hy with h | h
   ·exact Pl hn y h
   ·rw [FL] at h
    obtain ⟨s, hs, rfl⟩ := List.mem_map.1 h
    obtain ⟨c, t, e, _⟩ := Mj (hmem s hs)
    exact ⟨Vu s (hmem s hs), by rw [e]; simp⟩
  rw [Fl, t1, t2, if_neg, (K9 hget).1 rfl]
  ·dsimp only
   rw [List.drop_succ_cons, List.drop_zero, List.dropLast_concat, harg, if_pos rfl, hk]
   unfold Nm
   by_cases hl : Bt k = true
   ·have hv : (Ad k).vs = true := by rw [← F.lf]; exact hl
    obtain ⟨b1, b2, b3, b4⟩ := hx.v1 hv
    have hp0 := List.length_eq_zero_iff.1 (hn.np hv)
    rw [if_pos hl, MA hx hv, hp0, Ag, List.append_nil, U8 v [] hn.vb, List.nil_append, hn.no b1 b2, hn.nm (.inr ⟨b1, b2, b3⟩)]
   ·have hl' : Bt k = false := by simpa using hl
    have hv : (Ad k).vs = false := by rw [← F.lf]; exact hl'
    obtain ⟨m1, m2, m3⟩ := F.mn hv
    have hv0 := hn.nv hv
    subst hv0
    rw [if_neg hl, Yb hn hl']
    dsimp only
    rw [XI p [] fun s hs => Z7 f s (hmem s hs) (hlen s hs), List.nil_append]
    have hpn := hn.pn hv
    have : (ET k || (G9 k && decide (p.length = 2)) || (!G9 k && decide (p.length = 1))) = true := by
     rw [m1, m2]
     simp only [Bool.or_eq_true, Bool.and_eq_true, decide_eq_true_eq, Bool.not_eq_true', decide_eq_false_iff_not]
     rcases m3 with h | h | h
     ·exact .inl (.inl h)
     ·exact .inr ⟨by omega, by have := hpn (by omega); omega⟩
     ·exact .inl (.inr ⟨h, by have := hpn (by omega); omega⟩)
    dsimp only
    rw [this]
  ·rw [not_or]
   refine ⟨by simp, ?_⟩
   have e2 : (Ad k).w ++ 40 :: (jn (Aq k o m v (Ad k) ++ Ag p) ++ [41]) = ((Ad k).w ++ 40 :: jn (Aq k o m v (Ad k) ++ Ag p)) ++ [41] := by simp
   rw [e2, List.getLast?_concat]
   simp
theorem Yy (t : AW) : (∀ s, Fl (t.length + 1) t = (s, true) → FD (t.length + 1) t = some (s, [])) ∧ ((Fl (t.length + 1) t).2 = false → ∀ s, FD (t.length + 1) t ≠ some (s, [])) := by
 constructor
 ·intro s h
  have h1 := Z4 (f := t.length + 1) (s := t) (by rw [h])
  rw [h] at h1
  obtain ⟨h2, h3⟩ := h1
  have := ZC (t.length + 1) s [] h2 (by rw [List.append_nil, ← h3]; omega)
  rw [List.append_nil, ← h3] at this
  exact this
 ·intro h s hs
  obtain ⟨h2, h3⟩ := Z5 hs
  rw [List.append_nil] at h3
  have := Z7 (t.length + 1) s h2 (by rw [← h3]; omega)
  rw [← h3] at this
  rw [this] at h
  cases h
theorem VS : ∀ d : Fin 10, (Utf8.encode (48 + (d.val : Int))).data.toList = [UInt8.ofNat (48 + d.val)] := by decide +kernel
theorem H7 {d : Nat} (h : d < 10) : (Utf8.encode (48 + (d : Int))).data.toList = [UInt8.ofNat (48 + d)] := by
 have e := VS ⟨d, h⟩
 simp only at e
 exact e
theorem Id (k : Nat) : (Lib.decDigits k).length ≤ k + 1 := by
 rw [Lib.decDigits_length]
 induction k using Nat.strongRecOn with
 | _ m ih =>
  by_cases c : m < 10
  ·rw [Lib.nDigits_small c]; omega
  ·rw [Lib.nDigits_big c]; have := ih (m / 10) (by omega); omega
theorem Up {a b : AW} (h : a.length + b.length ≤ 9000000000000000000) : C1 .add a b = some (.str (a ++ b)) := by
 simp only [C1]
 rw [if_neg]
 have : IntKind.i64.max = 9223372036854775807 := by decide
 rw [this]; omega
attribute [local simp] Kz De DC Kv Lp Je Jw Dj DK Fe Fi KJ JN LL KL Ig JX Ix L9 Kn K6 Kk LJ K3 Ji RM pe KK Io Iu JW JI Kf Ir L7 Jx LH J5 L8 Is DT J0 Ju Jg Ih Li Lf K5 KN Js LO Ks LC La Im Ip Ln JQ Kt Jt JF L4 DG Lv DY Kq JZ Ky LB LG Lk KH JM LE Jr LF KA JU L0 JY JB Lo JJ Ly Jl Lm Ik Jm Jf Kw DJ KO Lj JG Ld Jn Lh Kj J9 Kp Kb Lc K2 KE LR Il Lq JC L3 Km JR Lz Jd LN L2 M1 LM Lr KG Iv JO L1 LK List.mem_cons guardK CR Ez F6 Fa Lx DX DF DL Dd DP DM DN Dh D9 M0 Ki Dg KF LP JV Jp Kc K8 DR KX LV J1 JA LW LQ Fj DQ DS DH DA Lw Ja DW Ii DD L6 Db DE Ku DO DU LZ LD KR Lg Kl J7 L5 J4 RL IR IV Gt IN IS IL Cx FB FA KV FC F8 Cv CY Sc IH II F9 IK IT D0 D4 Bg BG C3 CK Ar ev get put GQ AP Cr Jc K4 Kd LI JT Jh EF part BZ HA Jy Gx isNil CA CG EL CQ C1 Kx JP J3 KI Iq IF Ij JE Jo LU Jq Jv K7 Jz KZ Iz AV.fits AV.cells ones AV.one EK CD EE E2 FV ES Ll GB Fy CH Br C5 F3 Gg AX BY TO Fc Ko Ie List.getElem?_cons_zero List.getElem?_cons_succ Dc Df Di J8 Kg Ls H9 It Kh JK KD Ke LT JH Lu Iw LY JD
theorem Sq (k : Nat) (c : k < 10) : APure Tryz.prog 57 [aI k] (.str [UInt8.ofNat (48 + k)]) := by
 have he := H7 c
 have hw : IntKind.i32.wrap (48 + (k : Int)) = 48 + (k : Int) := IntWalk.i32_in _ (by omega)
 refine A9 Tryz.func57 UF rfl fun n H hH => ?_
 repeat' (first | (simp -implicitDefEqProofs [I9, Hv, Hr, Hu, c57, -getElem?_pos, A8, hw, he]) | (simp (disch := omega) only [AF]) | (with_reducible first | refine A7 ?_ ?_ ?_ | exact AB | refine SameB.upd ?_ ?_ _ | assumption | refine A3 ?_ | refine KM.of ?_ | refine AG ?_ | intro _g _hg | refine AE ?_ ?_ | intro _hc) | omega)
theorem Sr (k : Nat) (c : ¬ k < 10) (hk : k ≤ 1000000000) (l : AW) (hl : l.length ≤ k) (hr : APure Tryz.prog 57 [aI ((k : Int) / 10)] (.str l)) : APure Tryz.prog 57 [aI k] (.str (l ++ [UInt8.ofNat (48 + k % 10)])) := by
 have hm : k % 10 < 10 := by omega
 have he := H7 hm
 have e2 : ((k % 10 : Nat) : Int) = (k : Int) % 10 := by omega
 rw [e2] at he
 have hw : IntKind.i32.wrap (48 + (k : Int) % 10) = 48 + (k : Int) % 10 := IntWalk.i32_in _ (by omega)
 generalize UInt8.ofNat (48 + k % 10) = ch at he ⊢
 have hadd : C1 .add l [ch] = some (.str (l ++ [ch])) := Up (by simp; omega)
 obtain ⟨u, hu⟩ : ∃ u, Utf8.encode (48 + (k : Int) % 10) = u := ⟨_, rfl⟩
 rw [hu] at he
 have hsz : u.size = 1 := by rw [Lib.size_eq, he]; rfl
 have hlt : ¬ (9223372036854775807 : Int) < (l.length : Int) + 1 := by omega
 refine A9 Tryz.func57 UF rfl fun n H hH => ?_
 repeat' (first | (simp -implicitDefEqProofs [I9, Hv, Hr, Hu, c57, -getElem?_pos, A8, hw, hu, he, hsz, hlt]) | (simp (disch := omega) only [AF]) | ((with_reducible refine AJ 57 ?_); (refine' CallP.sf ?_ (hr) ?_); (focus first | (with_reducible exact A0 _) | (simp [AC, A8, A1, A0]; done))) | (with_reducible first | refine A7 ?_ ?_ ?_ | exact AB | refine SameB.upd ?_ ?_ _ | assumption | refine A3 ?_ | refine KM.of ?_ | refine AG ?_ | intro _g _hg | refine AE ?_ ?_ | intro _hc) | omega)
theorem PZ (k : Nat) : k ≤ 1000000000 → APure Tryz.prog 57 [aI k] (.str (Lib.decDigits k)) := by
 induction k using Nat.strongRecOn with
 | _ k ih =>
  intro hk
  by_cases c : k < 10
  ·rw [Lib.decDigits_one c]
   exact Sq k c
  ·have hd : Lib.decDigits k = Lib.decDigits (k / 10) ++ [UInt8.ofNat (48 + k % 10)] := by rw [Lib.decDigits, dif_neg c]
   have hr := ih (k / 10) (by omega) (by omega)
   have e1 : ((k / 10 : Nat) : Int) = (k : Int) / 10 := by omega
   rw [e1] at hr
   rw [hd]
   exact Sr k c hk _ (by have := Id (k / 10); omega) hr
theorem TS (k : Nat) (c : k < 10) (h0 : 0 < k) : APure Tryz.prog 57 [aI (-(k : Int))] (.str (45 :: [UInt8.ofNat (48 + k)])) := by
 have he := H7 c
 have hw : IntKind.i32.wrap (48 - -(k : Int)) = 48 + (k : Int) := by
  have e : 48 - -(k : Int) = 48 + k := by omega
  rw [e]; exact IntWalk.i32_in _ (by omega)
 have hw2 : IntKind.i32.wrap (48 + (k : Int)) = 48 + (k : Int) := IntWalk.i32_in _ (by omega)
 have h1 : (-(k : Int)) < 0 := by omega
 have h2 : ¬ (-(k : Int)) < -9 := by omega
 generalize UInt8.ofNat (48 + k) = ch at he ⊢
 obtain ⟨u, hu⟩ : ∃ u, Utf8.encode (48 + (k : Int)) = u := ⟨_, rfl⟩
 rw [hu] at he
 have hsz : u.size = 1 := by rw [Lib.size_eq, he]; rfl
 refine A9 Tryz.func57 UF rfl fun n H hH => ?_
 repeat' (first | (simp -implicitDefEqProofs [I9, Hv, Hr, Hu, c57, -getElem?_pos, A8, hw, hw2, hu, he, hsz, h1, h2]) | (simp (disch := omega) only [AF]) | (with_reducible first | refine A7 ?_ ?_ ?_ | exact AB | refine SameB.upd ?_ ?_ _ | assumption | refine A3 ?_ | refine KM.of ?_ | refine AG ?_ | intro _g _hg | refine AE ?_ ?_ | intro _hc) | omega)
theorem TV (k : Nat) (c : ¬ k < 10) (hk : k ≤ 1000000000) (l : AW) (hl : l.length ≤ k) (hr : APure Tryz.prog 57 [aI ((k : Int) / 10)] (.str l)) : APure Tryz.prog 57 [aI (-(k : Int))] (.str (45 :: (l ++ [UInt8.ofNat (48 + k % 10)]))) := by
 have hm : k % 10 < 10 := by omega
 have he := H7 hm
 have e2 : ((k % 10 : Nat) : Int) = (k : Int) % 10 := by omega
 rw [e2] at he
 have hq : Int.tdiv (-(k : Int)) 10 = -((k : Int) / 10) := by rw [Int.neg_tdiv, Int.tdiv_eq_ediv_of_nonneg (by omega)]
 have hmm : Int.tmod (-(k : Int)) 10 = -((k : Int) % 10) := by rw [Int.neg_tmod, Int.tmod_eq_emod_of_nonneg (by omega)]
 have hw : IntKind.i32.wrap (48 + (k : Int) % 10) = 48 + (k : Int) % 10 := IntWalk.i32_in _ (by omega)
 have hw3 : IntKind.i32.wrap (48 - -((k : Int) % 10)) = 48 + (k : Int) % 10 := by
  have e : 48 - -((k : Int) % 10) = 48 + (k : Int) % 10 := by omega
  rw [e]; exact hw
 have h1 : (-(k : Int)) < 0 := by omega
 have h2 : (-(k : Int)) < -9 := by omega
 generalize UInt8.ofNat (48 + k % 10) = ch at he ⊢
 obtain ⟨u, hu⟩ : ∃ u, Utf8.encode (48 + (k : Int) % 10) = u := ⟨_, rfl⟩
 rw [hu] at he
 have hsz : u.size = 1 := by rw [Lib.size_eq, he]; rfl
 have hlt : ¬ (9223372036854775807 : Int) < 1 + (l.length : Int) := by omega
 have hlt2 : ¬ (9223372036854775807 : Int) < (l.length : Int) + 1 + 1 := by omega
 refine A9 Tryz.func57 UF rfl fun n H hH => ?_
 repeat' (first | (simp -implicitDefEqProofs [I9, Hv, Hr, Hu, c57, -getElem?_pos, A8, hq, hmm, hw, hw3, hu, he, hsz, hlt, hlt2, h1, h2]) | (simp (disch := omega) only [AF]) | ((with_reducible refine AJ 57 ?_); (refine' CallP.sf ?_ (hr) ?_); (focus first | (with_reducible exact A0 _) | (simp [AC, A8, A1, A0]; done))) | (with_reducible first | refine A7 ?_ ?_ ?_ | exact AB | refine SameB.upd ?_ ?_ _ | assumption | refine A3 ?_ | refine KM.of ?_ | refine AG ?_ | intro _g _hg | refine AE ?_ ?_ | intro _hc) | omega)
theorem PS (n : Int) (h : -1000000000 ≤ n ∧ n ≤ 1000000000) : APure Tryz.prog 57 [aI n] (.str (Lib.itoa n)) := by
 by_cases c : n < 0
 ·obtain ⟨u, rfl⟩ : ∃ u : Nat, n = -(u : Int) := ⟨n.natAbs, by omega⟩
  rw [Lib.itoa_neg u (by omega)]
  by_cases c2 : u < 10
  ·rw [Lib.decDigits_one c2]; exact TS u c2 (by omega)
  ·have hd : Lib.decDigits u = Lib.decDigits (u / 10) ++ [UInt8.ofNat (48 + u % 10)] := by rw [Lib.decDigits, dif_neg c2]
   have hr := PZ (u / 10) (by omega)
   have e1 : ((u / 10 : Nat) : Int) = (u : Int) / 10 := by omega
   rw [e1] at hr
   rw [hd]
   exact TV u c2 (by omega) _ (by have := Id (u / 10); omega) hr
 ·obtain ⟨u, rfl⟩ : ∃ u : Nat, n = (u : Int) := ⟨n.toNat, by omega⟩
  rw [Lib.itoa_nonneg]
  exact PZ u (by omega)
abbrev aB (c : UInt8) : AV := .int .u8 c.toNat
theorem Xc (c : UInt8) : APure Tryz.prog 129 [aB c] (.bool (Af c)) := by
 unfold Af
 by_cases h1 : 48 ≤ c.toNat
 ·by_cases h2 : c.toNat ≤ 57
  ·have h1' : (48 : Int) ≤ (c.toNat : Int) := by omega
   have h2' : (c.toNat : Int) ≤ 57 := by omega
   rw [decide_eq_true (⟨h1, h2⟩ : 48 ≤ c.toNat ∧ c.toNat ≤ 57)]
   refine A9 Tryz.func129 T4 rfl fun n H hH => ?_
   repeat' (first | (simp -implicitDefEqProofs [c129, -getElem?_pos, A8, h1', h2']) | (simp (disch := omega) only [AF]) | (with_reducible first | refine A7 ?_ ?_ ?_ | exact AB | refine SameB.upd ?_ ?_ _ | assumption | refine A3 ?_ | refine KM.of ?_ | refine AG ?_ | intro _g _hg | refine AE ?_ ?_ | intro _hc) | omega)
  ·have h1' : (48 : Int) ≤ (c.toNat : Int) := by omega
   have h2' : ¬ (c.toNat : Int) ≤ 57 := by omega
   rw [decide_eq_false (fun h => h2 h.2 : ¬ (48 ≤ c.toNat ∧ c.toNat ≤ 57))]
   refine A9 Tryz.func129 T4 rfl fun n H hH => ?_
   repeat' (first | (simp -implicitDefEqProofs [c129, -getElem?_pos, A8, h1', h2']) | (simp (disch := omega) only [AF]) | (with_reducible first | refine A7 ?_ ?_ ?_ | exact AB | refine SameB.upd ?_ ?_ _ | assumption | refine A3 ?_ | refine KM.of ?_ | refine AG ?_ | intro _g _hg | refine AE ?_ ?_ | intro _hc) | omega)
 ·have h1' : ¬ (48 : Int) ≤ (c.toNat : Int) := by omega
  rw [decide_eq_false (fun h => h1 h.1 : ¬ (48 ≤ c.toNat ∧ c.toNat ≤ 57))]
  refine A9 Tryz.func129 T4 rfl fun n H hH => ?_
  repeat' (first | (simp -implicitDefEqProofs [c129, -getElem?_pos, A8, h1']) | (simp (disch := omega) only [AF]) | (with_reducible first | refine A7 ?_ ?_ ?_ | exact AB | refine SameB.upd ?_ ?_ _ | assumption | refine A3 ?_ | refine KM.of ?_ | refine AG ?_ | intro _g _hg | refine AE ?_ ?_ | intro _hc) | omega)
theorem Vb {c : UInt8} (h : Af c = true) : 48 ≤ c.toNat ∧ c.toNat ≤ 57 := by unfold Af at h; simpa using h
theorem Xl (s : AW) (f : Nat) (hf : f = if s.head? = some 45 then 1 else 0) : IU s = if (s.drop f).all Af = true ∧ (s.drop f).length ≤ 9 then ((if f = 1 then -(Cu 0 (s.drop f) : Int) else Cu 0 (s.drop f)), decide (f < s.length) && decide (Lib.itoa (if f = 1 then -(Cu 0 (s.drop f) : Int) else Cu 0 (s.drop f)) = s)) else (0, false) := by
 unfold IU; rw [hf]
theorem QY (c : UInt8) : c = 45 ↔ (c.toNat : Int) = 45 := by
 constructor
 ·rintro rfl; decide
 ·intro h
  have h4 : (45 : UInt8).toNat = 45 := by decide
  have : c.toNat = (45 : UInt8).toNat := by omega
  exact UInt8.toNat_inj.1 this
theorem QJ {l : AW} {i : Nat} {y : UInt8} (h : l[i]? = some y) : l.take (i + 1) = l.take i ++ [y] := by rw [List.take_add_one, h]; rfl
theorem Vw (s : AW) (hs : s.length ≤ 1000000) : APure Tryz.prog 88 [.str s] (.tup [aI (IU s).1, .bool (IU s).2]) := by
 have hcase : (s.length = 0 ∧ s.head? ≠ some 45) ∨ (∃ c, 0 < s.length ∧ s[0]? = some c ∧ ¬ (c.toNat : Int) = 45 ∧ s.head? ≠ some 45) ∨ (∃ c, 0 < s.length ∧ s[0]? = some c ∧ (c.toNat : Int) = 45 ∧ s.head? = some 45) := by
  cases s with
  | nil => exact .inl ⟨rfl, by simp⟩
  | cons c r =>
   by_cases h : c = 45
   ·exact .inr (.inr ⟨c, by simp, rfl, (QY c).1 h, by simp [h]⟩)
   ·exact .inr (.inl ⟨c, by simp, rfl, fun e => h ((QY c).2 e), by simp [h]⟩)
 obtain ⟨f, hf⟩ : ∃ f : Nat, f = (if s.head? = some 45 then 1 else 0) := ⟨_, rfl⟩
 have hR := Xl s f hf
 generalize IU s = R at *
 have hfl : f ≤ s.length := by
  rw [hf]; split
  ·rename_i h; cases s with | nil => simp at h | cons a b => simp
  ·omega
 have hf1 : f = 0 ∨ f = 1 := by rw [hf]; split <;> simp
 refine A9 Tryz.func88 A2o rfl fun n H hH => ?_
 have main : ∀ e, get e 0 = .str s → get e 4 = aI f → aw Tryz.prog c88_k7 (D1 (.tup [aI R.1, .bool R.2]) n H c88.res) ⟨e, n, H⟩ := by
  clear hcase hf
  intro e he0 he4
  repeat' (first | (simp -implicitDefEqProofs [CL, -getElem?_pos, A1, he0, he4]) | (simp (disch := omega) only [AF]) | (with_reducible first | refine A7 ?_ ?_ ?_ | exact AB | refine SameB.upd ?_ ?_ _ | assumption | refine A3 ?_ | refine KM.of ?_ | refine AG ?_ | intro _g _hg | refine AE ?_ ?_ | intro _hc) | omega)
  refine LoopK.go (fun q st => ∃ (i j : Nat), j = f + i ∧ j + q = s.length ∧ st = ⟨[(0, .str s), (4, aI f), (5, aI (Cu 0 ((s.drop f).take i) : Nat)), (6, aI j)], n, H⟩ ∧ (∀ c ∈ (s.drop f).take i, Af c = true) ∧ i ≤ 9) (s.length - f) ⟨0, f, rfl, by omega, rfl, by simp, by omega⟩ ?_
  rintro q st ⟨i, j, hj, hkq, rfl, hdg, hi9⟩ J hJ
  have hbd := OG hdg (by rw [List.length_take]; omega)
  have hif : ((j : Int) - f) = i := by omega
  by_cases hlt : j < s.length
  ·obtain ⟨y, hy⟩ : ∃ y, s[j]? = some y := ⟨_, List.getElem?_eq_getElem hlt⟩
   have hy2 : (s.drop f)[i]? = some y := by rw [List.getElem?_drop, ← hj]; exact hy
   have hdy := Xc y
   have hlt2 : (j : Int) < s.length := by omega
   cases hd : Af y with
   | false =>
    rw [hd] at hdy
    have hno : ¬ ((s.drop f).all Af = true ∧ (s.drop f).length ≤ 9) := by
     rintro ⟨h1, _⟩
     have := List.all_eq_true.1 h1 y (List.mem_of_getElem? hy2)
     rw [hd] at this; cases this
    rw [if_neg hno] at hR
    subst hR
    repeat' (first | (simp -implicitDefEqProofs [Cc, CZ, Cb, Cf, Cq, Cd, CL, c88, -getElem?_pos, A1, hy, hlt2]) | (simp (disch := omega) only [AF]) | ((with_reducible refine AJ 129 ?_); (refine' CallP.sf ?_ (hdy) ?_); (focus first | (with_reducible exact A0 _) | (simp [AC, A8, A1, A0]; done))) | (with_reducible first | refine A7 ?_ ?_ ?_ | exact AB | refine SameB.upd ?_ ?_ _ | assumption | refine A3 ?_ | refine KM.of ?_ | refine AG ?_ | intro _g _hg | refine AE ?_ ?_ | intro _hc) | omega)
   | true =>
    rw [hd] at hdy
    by_cases h8 : i ≤ 8
    ·have h8' : ¬ (8 : Int) < (j : Int) - f := by omega
     have h8'' : ¬ (8 : Int) < i := by omega
     have hb := Vb hd
     have hbd2 : Cu 0 ((s.drop f).take i) ≤ 99999999 := by
      have h1 := KY _ hdg 0
      have h2 : 10 ^ ((s.drop f).take i).length ≤ 10 ^ 8 := Nat.pow_le_pow_right (by omega) (by rw [List.length_take]; omega)
      omega
     have hnx : Cu 0 ((s.drop f).take (i + 1)) = 10 * Cu 0 ((s.drop f).take i) + (y.toNat - 48) := by rw [QJ hy2, QQ]
     have hdg2 : ∀ c ∈ (s.drop f).take (i + 1), Af c = true := by
      rw [QJ hy2]; intro c hc
      rcases List.mem_append.1 hc with h | h
      ·exact hdg c h
      ·rw [List.mem_singleton.1 h]; exact hd
     generalize Cu 0 ((s.drop f).take i) = v at *
     have hv2 : (10 : Int) * v + y.toNat - 48 = (Cu 0 ((s.drop f).take (i + 1)) : Nat) := by rw [hnx]; omega
     repeat' (first | (simp -implicitDefEqProofs [Cc, CZ, Cb, Cf, Cq, Cd, CL, c88, -getElem?_pos, A1, hy, hlt2, hif, h8', h8'']) | (simp (disch := omega) only [AF]) | ((with_reducible refine AJ 129 ?_); (refine' CallP.sf ?_ (hdy) ?_); (focus first | (with_reducible exact A0 _) | (simp [AC, A8, A1, A0]; done))) | (with_reducible first | refine A7 ?_ ?_ ?_ | exact AB | refine SameB.upd ?_ ?_ _ | assumption | refine A3 ?_ | refine KM.of ?_ | refine AG ?_ | intro _g _hg | refine AE ?_ ?_ | intro _hc) | omega)
     exact hJ (q - 1) _ (by omega) ⟨i + 1, j + 1, by omega, by omega, by rw [hv2]; rfl, hdg2, by omega⟩
    ·have h8' : (8 : Int) < (j : Int) - f := by omega
     have h8'' : (8 : Int) < i := by omega
     have hno : ¬ ((s.drop f).all Af = true ∧ (s.drop f).length ≤ 9) := by
      rintro ⟨_, h2⟩
      rw [List.length_drop] at h2; omega
     rw [if_neg hno] at hR
     subst hR
     repeat' (first | (simp -implicitDefEqProofs [Cc, CZ, Cb, Cf, Cq, Cd, CL, c88, -getElem?_pos, A1, hy, hlt2, hif, h8', h8'']) | (simp (disch := omega) only [AF]) | ((with_reducible refine AJ 129 ?_); (refine' CallP.sf ?_ (hdy) ?_); (focus first | (with_reducible exact A0 _) | (simp [AC, A8, A1, A0]; done))) | (with_reducible first | refine A7 ?_ ?_ ?_ | exact AB | refine SameB.upd ?_ ?_ _ | assumption | refine A3 ?_ | refine KM.of ?_ | refine AG ?_ | intro _g _hg | refine AE ?_ ?_ | intro _hc) | omega)
  ·have hall : (s.drop f).take i = s.drop f := List.take_of_length_le (by rw [List.length_drop]; omega)
   have hln : f + i = s.length := by omega
   rw [hall] at hdg hbd ⊢
   rw [if_pos ⟨List.all_eq_true.2 hdg, by rw [List.length_drop]; omega⟩] at hR
   have hnl : ¬ (j : Int) < s.length := by omega
   generalize Cu 0 (s.drop f) = v at *
   rcases hf1 with rfl | rfl
   ·rw [if_neg (by omega)] at hR
    have hd := PS v (by omega)
    generalize Lib.itoa (v : Int) = t at *
    subst hR
    dsimp only
    by_cases h0 : 0 < s.length
    ·by_cases ht : t = s
     ·repeat' (first | (simp -implicitDefEqProofs [Cc, CZ, Cb, Cf, Cq, Cd, CL, c88, -getElem?_pos, A1, hnl, h0, ht]) | (simp (disch := omega) only [AF]) | ((with_reducible refine AJ 57 ?_); (refine' CallP.sf ?_ (hd) ?_); (focus first | (with_reducible exact A0 _) | (simp [AC, A8, A1, A0]; done))) | (with_reducible first | refine A7 ?_ ?_ ?_ | exact AB | refine SameB.upd ?_ ?_ _ | assumption | refine A3 ?_ | refine KM.of ?_ | refine AG ?_ | intro _g _hg | refine AE ?_ ?_ | intro _hc) | omega)
     ·have htb : (t == s) = false := by simp [ht]
      repeat' (first | (simp -implicitDefEqProofs [Cc, CZ, Cb, Cf, Cq, Cd, CL, c88, -getElem?_pos, A1, hnl, h0, ht, htb]) | (simp (disch := omega) only [AF]) | ((with_reducible refine AJ 57 ?_); (refine' CallP.sf ?_ (hd) ?_); (focus first | (with_reducible exact A0 _) | (simp [AC, A8, A1, A0]; done))) | (with_reducible first | refine A7 ?_ ?_ ?_ | exact AB | refine SameB.upd ?_ ?_ _ | assumption | refine A3 ?_ | refine KM.of ?_ | refine AG ?_ | intro _g _hg | refine AE ?_ ?_ | intro _hc) | omega)
    ·repeat' (first | (simp -implicitDefEqProofs [Cc, CZ, Cb, Cf, Cq, Cd, CL, c88, -getElem?_pos, A1, hnl, h0]) | (simp (disch := omega) only [AF]) | ((with_reducible refine AJ 57 ?_); (refine' CallP.sf ?_ (hd) ?_); (focus first | (with_reducible exact A0 _) | (simp [AC, A8, A1, A0]; done))) | (with_reducible first | refine A7 ?_ ?_ ?_ | exact AB | refine SameB.upd ?_ ?_ _ | assumption | refine A3 ?_ | refine KM.of ?_ | refine AG ?_ | intro _g _hg | refine AE ?_ ?_ | intro _hc) | omega)
   ·rw [if_pos rfl] at hR
    have hd := PS (-(v : Int)) (by omega)
    generalize Lib.itoa (-(v : Int)) = t at *
    subst hR
    dsimp only
    by_cases h0 : 1 < s.length
    ·have h0' : (1 : Int) < s.length := by omega
     by_cases ht : t = s
     ·repeat' (first | (simp -implicitDefEqProofs [Cc, CZ, Cb, Cf, Cq, Cd, CL, c88, -getElem?_pos, A1, hnl, h0, h0', ht]) | (simp (disch := omega) only [AF]) | ((with_reducible refine AJ 57 ?_); (refine' CallP.sf ?_ (hd) ?_); (focus first | (with_reducible exact A0 _) | (simp [AC, A8, A1, A0]; done))) | (with_reducible first | refine A7 ?_ ?_ ?_ | exact AB | refine SameB.upd ?_ ?_ _ | assumption | refine A3 ?_ | refine KM.of ?_ | refine AG ?_ | intro _g _hg | refine AE ?_ ?_ | intro _hc) | omega)
     ·have htb : (t == s) = false := by simp [ht]
      repeat' (first | (simp -implicitDefEqProofs [Cc, CZ, Cb, Cf, Cq, Cd, CL, c88, -getElem?_pos, A1, hnl, h0, h0', ht, htb]) | (simp (disch := omega) only [AF]) | ((with_reducible refine AJ 57 ?_); (refine' CallP.sf ?_ (hd) ?_); (focus first | (with_reducible exact A0 _) | (simp [AC, A8, A1, A0]; done))) | (with_reducible first | refine A7 ?_ ?_ ?_ | exact AB | refine SameB.upd ?_ ?_ _ | assumption | refine A3 ?_ | refine KM.of ?_ | refine AG ?_ | intro _g _hg | refine AE ?_ ?_ | intro _hc) | omega)
    ·have h0' : ¬ (1 : Int) < s.length := by omega
     repeat' (first | (simp -implicitDefEqProofs [Cc, CZ, Cb, Cf, Cq, Cd, CL, c88, -getElem?_pos, A1, hnl, h0, h0']) | (simp (disch := omega) only [AF]) | ((with_reducible refine AJ 57 ?_); (refine' CallP.sf ?_ (hd) ?_); (focus first | (with_reducible exact A0 _) | (simp [AC, A8, A1, A0]; done))) | (with_reducible first | refine A7 ?_ ?_ ?_ | exact AB | refine SameB.upd ?_ ?_ _ | assumption | refine A3 ?_ | refine KM.of ?_ | refine AG ?_ | intro _g _hg | refine AE ?_ ?_ | intro _hc) | omega)
 rcases hcase with ⟨h0, hh⟩ | ⟨c, h0, hc, h45, hh⟩ | ⟨c, h0, hc, h45, hh⟩
 ·rw [if_neg hh] at hf; subst hf
  repeat' (first | (simp -implicitDefEqProofs [c88, -getElem?_pos, A1, h0]) | (simp (disch := omega) only [AF]) | (with_reducible first | refine A7 ?_ ?_ ?_ | exact AB | refine SameB.upd ?_ ?_ _ | assumption | refine A3 ?_ | refine KM.of ?_ | refine AG ?_ | intro _g _hg | refine AE ?_ ?_ | intro _hc) | omega)
  all_goals exact main _ (by simp -implicitDefEqProofs [-getElem?_pos]) (by simp -implicitDefEqProofs [-getElem?_pos])
 ·rw [if_neg hh] at hf; subst hf
  repeat' (first | (simp -implicitDefEqProofs [c88, -getElem?_pos, A1, h0, hc, h45]) | (simp (disch := omega) only [AF]) | (with_reducible first | refine A7 ?_ ?_ ?_ | exact AB | refine SameB.upd ?_ ?_ _ | assumption | refine A3 ?_ | refine KM.of ?_ | refine AG ?_ | intro _g _hg | refine AE ?_ ?_ | intro _hc) | omega)
  all_goals exact main _ (by simp -implicitDefEqProofs [-getElem?_pos]) (by simp -implicitDefEqProofs [-getElem?_pos])
 ·rw [if_pos hh] at hf; subst hf
  repeat' (first | (simp -implicitDefEqProofs [c88, -getElem?_pos, A1, h0, hc, h45]) | (simp (disch := omega) only [AF]) | (with_reducible first | refine A7 ?_ ?_ ?_ | exact AB | refine SameB.upd ?_ ?_ _ | assumption | refine A3 ?_ | refine KM.of ?_ | refine AG ?_ | intro _g _hg | refine AE ?_ ?_ | intro _hc) | omega)
  all_goals exact main _ (by simp -implicitDefEqProofs [-getElem?_pos]) (by simp -implicitDefEqProofs [-getElem?_pos])
def tkF (F : Fut) : List Ai := F.cur :: (F.l.map (·.2) ++ [F.fin])
abbrev RI (x y : AV) : AObj := .cells 40 [x, y]
section
variable {n0 n : Nat} {H0 H : A4} {bs : List (Nat × AObj)} {os : List OwnR} {a : OwnR} {d : Option Nat} {e : AT} {K : AS → Prop} {x : AV} {l m m' : List AV} {el by_ : Nat} {t : Tok}
theorem Owns.appF (h : Owns n0 H0 bs (⟨el, 1, x, l⟩ :: os) n H) (hs : AC m m') (hl : l.length + m.length ≤ 1000000) (hby : by_ ≤ 100)
  (hk : ∀ z' t' n' H', n ≤ n' → Owns n0 H0 bs (⟨el, 1, .sl z' (l ++ m') t', l ++ m'⟩ :: os) n' H' → K ⟨AP e d (.sl z' (l ++ m') t'), n', H'⟩) : appKS el 1 by_ d K ⟨e, n, H⟩ x (.sl 1 m t) := by
 refine h.app (.inl rfl) hs (Nat.le_trans (Nat.mul_le_mul hl hby) (by decide)) (Nat.le_trans hl (by simp [maxLen])) fun x' n' H' hle hO _ => ?_
 obtain ⟨z', t', h1, _⟩ := hO.len0
 dsimp only at h1
 subst h1
 exact hk _ _ n' H' hle hO
end
def eX (d : Bc) : List AV := d.map fun e => aI e.1
def eT (c : Ai) (d : Bc) : List AV := P3 c :: d.map fun e => P3 e.2
theorem Tr (d : Bc) (x : Int) (c : Ai) : eX (d ++ [(x, c)]) = eX d ++ [aI x] := by simp [eX]
theorem UY (c0 : Ai) (d : Bc) (x : Int) (c : Ai) : eT c0 (d ++ [(x, c)]) = eT c0 d ++ [P3 c] := by simp [eT]
section
variable {n0 n : Nat} {H0 H : A4} {bs : List (Nat × AObj)} {a : OwnR} {d : Option Nat} {e : AT} {K : AS → Prop} {l : List AV} {el sz : Nat}
end
section
variable {n0 n lo : Nat} {H0 H : A4} {bs : List (Nat × AObj)} {os : List OwnR} {a : OwnR} {d : Option Nat} {e : AT} {K : AS → Prop} {l : List AV} {el sz k : Nat}
end
abbrev GivI (n : Nat) (H : A4) (g g2 : Nat) (bs : List (Nat × AObj)) (c : Ai) (d : Bc) (z : Nat) (t : Tok) (z2 : Nat) (t2 : Tok) (n' : Nat) (H' : A4) : Prop := Owns n H ((g, RI (.sl z (eX d) t) (.sl z2 (eT c d) t2)) :: (g2, RI Bv Bv) :: bs) [⟨3, 1, .sl z (eX d) t, eX d⟩, ⟨22, 1, .sl z2 (eT c d) t2, eT c d⟩] n' H'
theorem GivI.snoc {n : Nat} {H : A4} {g g2 : Nat} {bs : List (Nat × AObj)} {c : Ai} {d : Bc} {z : Nat} {t : Tok} {z2 : Nat} {t2 : Tok} {n' : Nat} {H' : A4} {x : Int} {c' : Ai} {ob : AObj} (h : Owns n H ((g, ob) :: (g2, RI Bv Bv) :: bs) [⟨3, 1, .sl z (eX d ++ [aI x]) t, eX d ++ [aI x]⟩, ⟨22, 1, .sl z2 (eT c d ++ [P3 c']) t2, eT c d ++ [P3 c']⟩] n' H') (hne : ∀ b ∈ (g2, RI Bv Bv) :: bs, b.1 ≠ g) :
  GivI n H g g2 bs c (d ++ [(x, c')]) z t z2 t2 n' (upd H' g (some (RI (.sl z (eX d ++ [aI x]) t) (.sl z2 (eT c d ++ [P3 c']) t2)))) := by
 have h2 := h.set0 hne 40 [.sl z (eX d ++ [aI x]) t, .sl z2 (eT c d ++ [P3 c']) t2]
 unfold GivI
 rw [Tr, UY]
 exact h2
end Go.Proofs.YtjdccdelcnmocaaGreatDoor

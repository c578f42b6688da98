/- Streams: simplifying a stream does not change what it gives; no condition. -/
import Derived.Test.YtjdccdelcnmocaaGreatDoorMgJ
import Derived.Test.YtjdccdelcnmocaaGreatDoorMdL
import Derived.Test.YtjdccdelcnmocaaGreatDoorAdF
import Derived.Test.YtjdccdelcnmocaaGreatDoorMdM
set_option linter.all false
set_option linter.unusedSimpArgs false
set_option linter.unusedVariables false
set_option maxHeartbeats 8000000
namespace Go.Proofs.YtjdccdelcnmocaaGreatDoor
def VT (k o n m : Int) : Option Int :=
 if k = 3 ∧ o ≠ 2 ∧ o ≠ 6 then some (FL o n m) else if k = 4 ∧ o = 1 ∨ k = 5 then some (min n m) else if k = 4 ∧ o = 2 then some (max n m) else if k = 6 then some (min (n + m) 5000) else if k = 11 then some 0 else none
def Ea (k o n : Int) (p : List St) : Option St := match p with
 | q :: r => if (k = 3 ∧ (o = 1 ∧ n = 0 ∨ o = 3 ∧ n = 1)) ∨ (k = 6 ∧ n = 0) ∨ (k = 12 ∧ n = 1) ∨ ((k = 13 ∨ k = 14) ∧ r = []) ∨ (k = 5 ∧ (Ah q : Int) < n) then some q else none
 | [] => none
def Fm (k o n : Int) (p : List St) : Option St := match p with
 | [.mk k' o' m v' pp] => if k' = k ∧ o' = o then (VT k o n m).map fun j => .mk k o j v' pp else none
 | _ => none
def Ay (p : List St) : List St := p.flatMap fun q => if q.k = 13 then q.p else [q]
def HN (k o n : Int) (v : List Int) (p : List St) : Option St := if k = 13 ∧ (p.any fun q => decide (q.k = 13)) = true then some (.mk k o n v (Ay p)) else none
def CG : St → Option St
 | .mk k o n v p => match Ea k o n p with
  | some t => some t
  | none => match Fm k o n p with
   | some t => some t
   | none => HN k o n v p
def LV (F G : Fut) : Fut := ⟨F.cur ++ G.cur, F.l.map (fun e => (e.1, e.2 ++ G.cur)) ++ G.l.map (fun e => (e.1, F.fin ++ e.2)), F.fin ++ G.fin⟩
theorem JD (F : Fut) (Fs : List Fut) : Eb (F :: Fs) = LV F (Eb Fs) := rfl
theorem VS (F : Fut) : LV ⟨[], [], []⟩ F = F := by simp [LV]
theorem T6 (F G K : Fut) : LV (LV F G) K = LV F (LV G K) := by
 simp [LV, List.map_append, List.map_map, Function.comp_def, List.append_assoc]
theorem RO : ∀ (A B : List Fut), Eb (A ++ B) = LV (Eb A) (Eb B)
 | [], B => by simp [Eb, VS]
 | F :: A, B => by rw [List.cons_append, JD, RO A B, JD, T6]
theorem RM : ∀ (n : Nat) (cur : Av) (l : CL) (fin : Av), l.length < n → Dq n cur l fin = (l, fin)
 | 0, _, _, _, h => by simp at h
 | n + 1, _, [], _, _ => rfl
 | n + 1, _, (x, c) :: r, fin, h => by
  simp only [List.length_cons] at h
  simp only [Dq, RM n c r fin (by omega)]
theorem RK : ∀ (n m : Nat) (cur : Av) (l : CL) (fin : Av), Dq n cur (Dq m cur l fin).1 (Dq m cur l fin).2 = Dq (min n m) cur l fin
 | 0, m, cur, l, fin => by simp [Dq]
 | n + 1, 0, cur, l, fin => by simp [Dq]
 | n + 1, m + 1, cur, [], fin => by rw [Nat.succ_min_succ]; simp [Dq]
 | n + 1, m + 1, cur, (x, c) :: r, fin => by
  rw [Nat.succ_min_succ]
  simp only [Dq, RK n m c r fin]
theorem M8 : ∀ (l : CL) (a : Int), IN a (IN a l) = IN a l
 | [], _ => rfl
 | (x, c) :: r, a => by
  simp only [IN]
  split
  ·rename_i h; simp only [IN, if_pos h, M8 r x]
  ·exact M8 r a
theorem RW (fin : Av) : ∀ (l : CL) (c : Av) (m : Nat), l.length < m → Fn m [(0, l, fin)] [c] = (l, [fin])
 | [], c, 0, h => by simp at h
 | [], c, m + 1, _ => by cases m <;> simp [Fn]
 | (x, d) :: r, c, 0, h => by simp at h
 | (x, d) :: r, c, m + 1, h => by
  simp only [List.length_cons] at h
  simp only [Fn, List.nil_append, List.set_cons_zero, RW fin r d m (by omega)]
  simp
theorem UL (F : Fut) : VI [F] = F := by
 obtain ⟨cur, l, fin⟩ := F
 have h := RW fin l cur (l.length + 1) (by omega)
 simp [VI, WW, h]
theorem V3 (x m n : Int) : x * m % 10000 * n % 10000 = x * (n * m % 10000) % 10000 := by
 rw [Int.mul_emod, Int.emod_emod_of_dvd _ (Int.dvd_refl _), ← Int.mul_emod, Int.mul_emod x (n * m % 10000), Int.emod_emod_of_dvd _ (Int.dvd_refl _), ← Int.mul_emod]
 congr 1; rw [Int.mul_comm n m, Int.mul_assoc]
theorem IJ (k o n : Int) (v : List Int) (p : List St) : Bt (.mk k o n v p) = Ck k o n v (p.map Bt) := by
 have h : ∀ p : List St, Fz p = p.map Bt := fun p => by induction p with | nil => rfl | cons x r ih => simp [Fz, ih]
 rw [Bt, h]
theorem Rp (o n : Int) (v : List Int) (p : List St) : Bt (.mk 13 o n v p) = Eb (p.map Bt) := by rw [IJ]; simp [Ck]
theorem Rl : ∀ (p : List St), Eb ((Ay p).map Bt) = Eb (p.map Bt)
 | [] => rfl
 | q :: r => by
  have e : Ay (q :: r) = (if q.k = 13 then q.p else [q]) ++ Ay r := rfl
  rw [e, List.map_append, RO, Rl r, List.map_cons, JD]
  congr 1
  split
  ·rename_i h
   obtain ⟨k, o, n, v, p⟩ := q
   simp only [St.k] at h; subst h
   rw [Rp]; rfl
  ·simp [Eb]
theorem Tl {s t : St} (hs : Gz s) (hm : KR s) (h : CG s = some t) : Bt t = Bt s := by
 obtain ⟨k, o, n, v, p⟩ := s
 have hp : ∀ q ∈ p, (Bt q).l.length ≤ Ah q ∧ rgE (Bt q).l := fun q hq => Rm q (Cm hs.2 q hq)
 have hN := Bl hs.1
 rw [IJ]
 simp only [CG] at h
 split at h
 ·rename_i t' hu
  injection h with h; subst h
  unfold Ea at hu
  split at hu
  ·rename_i q r
   split at hu
   ·rename_i hc
    injection hu with hu; subst hu
    obtain ⟨hb, hr⟩ := hp q List.mem_cons_self
    generalize hF : Bt q = F at *
    have h1 : k ≠ 13 → k ≠ 14 → 3 ≤ k → k ≤ 12 → r = [] := fun a b c d => List.length_eq_zero_iff.1 (by have := hN.one (by omega) (by omega) a b (by omega) (by omega); simpa using this)
    rcases hc with ⟨rfl, hc⟩ | ⟨rfl, rfl⟩ | ⟨rfl, rfl⟩ | ⟨hk, rfl⟩ | ⟨rfl, hc⟩
    ·have := h1 (by decide) (by decide) (by decide) (by decide); subst this
     have hl : F.l.map (fun e => (FL o e.1 n, e.2)) = F.l := by
      conv => rhs; rw [← List.map_id F.l]
      apply List.map_congr_left
      intro e he
      have := hr e he
      have : FL o e.1 n = e.1 := by
       rcases hc with ⟨rfl, rfl⟩ | ⟨rfl, rfl⟩
       ·simp [FL]; omega
       ·simp [FL]; omega
      rw [this]; rfl
     simp [Ck, GU, hF, hl]
    ·have := h1 (by decide) (by decide) (by decide) (by decide); subst this
     simp [Ck, GU, hF]
    ·have := h1 (by decide) (by decide) (by decide) (by decide); subst this
     simp [Ck, GU, Tx, OZ, hF]
    ·rcases hk with rfl | rfl
     ·simp [Ck, hF, Eb]
     ·simp only [List.map_cons, List.map_nil, hF]
      have := UL F
      simp [Ck, this]
    ·have := h1 (by decide) (by decide) (by decide) (by decide); subst this
     have := RM n.toNat F.cur F.l F.fin (by omega)
     simp [Ck, GU, hF, this]
   ·cases hu
  ·cases hu
 ·split at h
  ·rename_i t' hu
   injection h with h; subst h
   unfold Fm at hu
   split at hu
   ·rename_i k' o' m v' pp _
    split at hu
    ·rename_i hc
     obtain ⟨rfl, rfl⟩ := hc
     obtain ⟨j, hj, rfl⟩ := Option.map_eq_some_iff.1 hu
     obtain ⟨hb, hr⟩ := hp _ List.mem_cons_self
     have hN' := Bl hs.2.1.1
     have hsm := hm.2.1
     have hq := fun q hq => Rm q (Cm hs.2.1.2 q hq)
     have hlen : ∀ q ∈ pp, (Bt q).l.length ≤ 5000 := fun q h => by
      have h1 := (hq q h).1
      have h2 := GB hsm.2 q h
      obtain ⟨_, _, _, _, _⟩ := q
      have := h2.1; omega
     rw [IJ, List.map_cons, List.map_nil, IJ]
     unfold VT at hj
     have hone : k' ≠ 13 → k' ≠ 14 → 3 ≤ k' → k' ≤ 12 → ∃ q, pp = [q] := fun a b c d => List.length_eq_one_iff.1 (hN'.one (by omega) (by omega) a b (by omega) (by omega))
     split at hj
     ·rename_i hk
      obtain ⟨rfl, ho2, ho6⟩ := hk
      obtain ⟨q, rfl⟩ := hone (by decide) (by decide) (by decide) (by decide)
      have hr := (hq q List.mem_cons_self).2
      injection hj with hj; subst hj
      have ho := hN.fn (by decide)
      simp only [Ck, GU, List.map_cons, List.map_nil]
      simp
      intro a c he
      have hx := hr (a, c) he
      simp only at hx
      have : o' = 1 ∨ o' = 3 ∨ o' = 4 ∨ o' = 5 := by omega
      rcases this with rfl | rfl | rfl | rfl
      ·simp [FL]; omega
      ·simp [FL]; exact (V3 a m n).symm
      ·simp [FL]; omega
      ·simp [FL]; omega
     ·split at hj
      ·rename_i hk
       injection hj with hj; subst hj
       rcases hk with ⟨rfl, rfl⟩ | rfl
       ·obtain ⟨q, rfl⟩ := hone (by decide) (by decide) (by decide) (by decide)
        simp [Ck, GU, List.filter_filter]
        apply List.filter_congr
        intro x _
        simp [Wm]; rw [Bool.eq_iff_iff]; simp; omega
       ·obtain ⟨q, rfl⟩ := hone (by decide) (by decide) (by decide) (by decide)
        have := hN.num (by decide)
        have := hN'.num (by decide)
        have e : (min n m).toNat = min n.toNat m.toNat := by omega
        simp [Ck, GU, e, RK]
      ·split at hj
       ·rename_i hk
        obtain ⟨rfl, rfl⟩ := hk
        injection hj with hj; subst hj
        obtain ⟨q, rfl⟩ := hone (by decide) (by decide) (by decide) (by decide)
        simp [Ck, GU, List.filter_filter]
        apply List.filter_congr
        intro x _
        simp [Wm]; rw [Bool.eq_iff_iff]; simp; omega
       ·split at hj
        ·rename_i hk
         subst hk
         injection hj with hj; subst hj
         obtain ⟨q, rfl⟩ := hone (by decide) (by decide) (by decide) (by decide)
         have h1 := hN.num (by decide)
         have h2 := hN'.num (by decide)
         have h3 := hlen q List.mem_cons_self
         simp [Jn, Jq, Cq] at h1 h2
         have e : (Bt q).l.drop (min (n + m) 5000).toNat = ((Bt q).l.drop m.toNat).drop n.toNat := by
          rw [List.drop_drop]
          by_cases hc : n + m ≤ 5000
          ·congr 1; omega
          ·rw [List.drop_of_length_le (by omega), List.drop_of_length_le (by omega)]
         simp [Ck, GU, e]
        ·split at hj
         ·rename_i hk
          subst hk
          injection hj with hj; subst hj
          obtain ⟨q, rfl⟩ := hone (by decide) (by decide) (by decide) (by decide)
          simp [Ck, GU, M8]
         ·cases hj
    ·cases hu
   ·cases hu
  ·unfold HN at h
   split at h
   ·rename_i hc
    obtain ⟨rfl, _⟩ := hc
    injection h with h; subst h
    rw [Rp, Rl]; simp [Ck]
   ·cases h
theorem J0 : ∀ (a b : List St), Bm (a ++ b) = Bm a + Bm b
 | [], b => by simp [Bm]
 | x :: a, b => by simp only [List.cons_append, Bm, J0 a b]; omega
theorem HT : ∀ (p : List St), Bm (Ay p) ≤ Bm p ∧ ((p.any fun q => decide (q.k = 13)) = true → Bm (Ay p) < Bm p)
 | [] => by simp [Ay]
 | q :: r => by
  have e : Ay (q :: r) = (if q.k = 13 then q.p else [q]) ++ Ay r := rfl
  obtain ⟨h1, h2⟩ := HT r
  obtain ⟨k, o, n, v, p⟩ := q
  rw [e, J0]
  simp only [List.any_cons, Bool.or_eq_true, decide_eq_true_eq, Bm, An]
  rw [show (St.mk k o n v p).k = k from rfl, show (St.mk k o n v p).p = p from rfl]
  by_cases hk : k = 13
  ·rw [if_pos hk]
   exact ⟨by omega, fun _ => by omega⟩
  ·rw [if_neg hk]
   simp only [Bm, An]
   exact ⟨by omega, fun h => by have := h2 (h.resolve_left hk); omega⟩
theorem J8 {s t : St} (h : CG s = some t) : An t < An s := by
 obtain ⟨k, o, n, v, p⟩ := s
 simp only [CG] at h
 split at h
 ·rename_i t' hu
  injection h with h; subst h
  unfold Ea at hu
  split at hu
  ·split at hu
   ·injection hu with hu; subst hu; simp only [An, Bm]; omega
   ·cases hu
  ·cases hu
 ·split at h
  ·rename_i t' hu
   injection h with h; subst h
   unfold Fm at hu
   split at hu
   ·split at hu
    ·obtain ⟨j, hj, rfl⟩ := Option.map_eq_some_iff.1 hu
     simp only [An, Bm]; omega
    ·cases hu
   ·cases hu
  ·unfold HN at h
   split at h
   ·rename_i hc
    injection h with h; subst h
    have := (HT p).2 hc.2
    simp only [An]; omega
   ·cases h
theorem NI : ∀ {a b : List St}, S8 a → S8 b → S8 (a ++ b)
 | [], _, _, h => h
 | _ :: _, _, h, k => ⟨h.1, NI h.2 k⟩
theorem NR : ∀ {a b : List St}, Qh a → Qh b → Qh (a ++ b)
 | [], _, _, h => h
 | _ :: _, _, h, k => ⟨h.1, NR h.2 k⟩
theorem UZ : ∀ {p : List St}, S8 p → Qh p → S8 (Ay p) ∧ Qh (Ay p) ∧ (CR (Ay p)).sum = (CR p).sum ∧ (p ≠ [] → Ay p ≠ [])
 | [], _, _ => ⟨trivial, trivial, rfl, fun h => absurd rfl h⟩
 | q :: r, h, k => by
  have e : Ay (q :: r) = (if q.k = 13 then q.p else [q]) ++ Ay r := rfl
  obtain ⟨h1, h2, h3, _⟩ := UZ h.2 k.2
  have ha : ∀ a b : List St, CR (a ++ b) = CR a ++ CR b := fun a b => by simp [E4]
  rw [e]
  split
  ·rename_i hk
   obtain ⟨k', o, n, v, p⟩ := q
   simp only [St.k] at hk; subst hk
   refine ⟨NI h.1.2 h1, NR k.1.2 h2, ?_, fun _ => ?_⟩
   ·rw [ha, List.sum_append, h3]; simp [CR, Ah, C2, St.p]
   ·have := (Bl h.1.1).many (.inl rfl)
    simp [St.p, this]
  ·refine ⟨NI (a := [q]) ⟨h.1, trivial⟩ h1, NR (a := [q]) ⟨k.1, trivial⟩ h2, ?_, fun _ => by simp⟩
   rw [ha, List.sum_append, h3]; simp [CR]
theorem TY {k o n m j : Int} {v v' : List Int} {p pp : List St} (hN : NodeOk k o n v p) (hN' : NodeOk k o m v' pp) (h : VT k o n m = some j) : (EP k = true → Jn k o ≤ j ∧ j ≤ Jq k) ∧ (EP k = false → j = 0) := by
 have h1 := hN.num
 have h2 := hN'.num
 unfold VT at h
 split at h
 ·rename_i hk
  obtain ⟨rfl, ho2, ho6⟩ := hk
  injection h with h; subst h
  have h1 := h1 (by decide); have h2 := h2 (by decide)
  have ho := hN.fn (by decide)
  refine ⟨fun _ => ?_, fun h => by simp [EP, Kr] at h⟩
  simp [Jn, Jq, Cq, ho6] at h1 h2 ⊢
  exact Qk h1 h2 (by omega)
 ·split at h
  ·rename_i hk
   injection h with h; subst h
   rcases hk with ⟨rfl, rfl⟩ | rfl
   ·have h1 := h1 (by decide); have h2 := h2 (by decide)
    exact ⟨fun _ => by omega, fun h => by simp [EP, Cq] at h⟩
   ·have h1 := h1 (by decide); have h2 := h2 (by decide)
    exact ⟨fun _ => by omega, fun h => by simp [EP, G4] at h⟩
  ·split at h
   ·rename_i hk
    obtain ⟨rfl, rfl⟩ := hk
    injection h with h; subst h
    have h1 := h1 (by decide); have h2 := h2 (by decide)
    exact ⟨fun _ => by omega, fun h => by simp [EP, Cq] at h⟩
   ·split at h
    ·rename_i hk
     subst hk
     injection h with h; subst h
     have h1 := h1 (by decide); have h2 := h2 (by decide)
     refine ⟨fun _ => ?_, fun h => by simp [EP, G4] at h⟩
     simp [Jn, Jq, Cq] at h1 h2 ⊢
     omega
    ·split at h
     ·rename_i hk
      subst hk
      injection h with h; subst h
      exact ⟨fun h => by simp [EP, Kr, Cq, G4] at h, fun _ => rfl⟩
     ·cases h
theorem HD {k o n : Int} {v : List Int} {p : List St} (h : NodeOk k o n v p) : Bp (.mk k o n v p) = 0 := by
 have h1 := h.k1; have h2 := h.k2
 simp only [Bp]
 rw [if_neg (by omega), if_neg, if_neg, if_neg, if_neg, if_pos h.vals]
 ·rintro ⟨a, b⟩; exact b (h.num a)
 ·rintro (⟨a, b, c⟩ | ⟨a, b⟩)
  ·rcases h.fn a with d | d
   ·exact b d
   ·exact c d
  ·exact b (h.cnd a)
 ·rintro (⟨a, b⟩ | ⟨a, b⟩ | ⟨a, b, c⟩)
  ·simp [Cl] at a
   rw [h.nov a.1 a.2] at b; simp at b
  ·exact b (h.non a)
  ·exact c (h.noo a b)
 ·rintro (⟨a, b⟩ | ⟨a, b⟩ | ⟨a, b⟩ | ⟨a, b, c, d⟩ | ⟨a, b⟩)
  ·simp [Cl] at a; rw [h.leaf a] at b; simp at b
  ·simp [Eq] at a; have := h.many a; exact this (List.length_eq_zero_iff.1 b)
  ·simp [I8] at a; exact b (h.two a)
  ·simp [Cl] at a; simp [Eq] at b; simp [I8] at c
   exact d (h.one a.1 a.2 b.1 b.2 c.1 c.2)
  ·exact b (h.rng a)
theorem R5 {s t : St} (hs : Gz s) (hm : KR s) (h : CG s = some t) : Gz t ∧ KR t ∧ Ah t = Ah s := by
 obtain ⟨k, o, n, v, p⟩ := s
 have hN := Bl hs.1
 simp only [CG] at h
 split at h
 ·rename_i t' hu
  injection h with h; subst h
  unfold Ea at hu
  split at hu
  ·rename_i q r
   split at hu
   ·rename_i hc
    injection hu with hu; subst hu
    refine ⟨hs.2.1, hm.2.1, ?_⟩
    have h1 : k ≠ 13 → k ≠ 14 → 3 ≤ k → k ≤ 12 → r = [] := fun a b c d => List.length_eq_zero_iff.1 (by have := hN.one (by omega) (by omega) a b (by omega) (by omega); simpa using this)
    rcases hc with ⟨rfl, hc⟩ | ⟨rfl, rfl⟩ | ⟨rfl, rfl⟩ | ⟨hk, rfl⟩ | ⟨rfl, hc⟩
    ·have := h1 (by decide) (by decide) (by decide) (by decide); subst this; simp [Ah, CR, C2]
    ·have := h1 (by decide) (by decide) (by decide) (by decide); subst this; simp [Ah, CR, C2]
    ·have := h1 (by decide) (by decide) (by decide) (by decide); subst this; simp [Ah, CR, C2]
    ·rcases hk with rfl | rfl <;> simp [Ah, CR, C2]
    ·have := h1 (by decide) (by decide) (by decide) (by decide); subst this; simp [Ah, CR, C2]; omega
   ·cases hu
  ·cases hu
 ·split at h
  ·rename_i t' hu
   injection h with h; subst h
   unfold Fm at hu
   split at hu
   ·rename_i k' o' m v' pp _
    split at hu
    ·rename_i hc
     obtain ⟨rfl, rfl⟩ := hc
     obtain ⟨j, hj, rfl⟩ := Option.map_eq_some_iff.1 hu
     have hN' := Bl hs.2.1.1
     obtain ⟨q1, q2⟩ := TY hN hN' hj
     have hb : Ah (.mk k' o' j v' pp) = Ah (.mk k' o' n v [.mk k' o' m v' pp]) := by
      have hone : k' ≠ 13 → k' ≠ 14 → 3 ≤ k' → k' ≤ 12 → ∃ q, pp = [q] := fun a b c d => List.length_eq_one_iff.1 (hN'.one (by omega) (by omega) a b (by omega) (by omega))
      unfold VT at hj
      split at hj
      ·rename_i hk; obtain ⟨rfl, _⟩ := hk
       obtain ⟨q, rfl⟩ := hone (by decide) (by decide) (by decide) (by decide)
       simp [Ah, CR, C2]
      ·split at hj
       ·rename_i hk
        injection hj with hj; subst hj
        rcases hk with ⟨rfl, _⟩ | rfl
        ·obtain ⟨q, rfl⟩ := hone (by decide) (by decide) (by decide) (by decide)
         simp [Ah, CR, C2]
        ·obtain ⟨q, rfl⟩ := hone (by decide) (by decide) (by decide) (by decide)
         simp [Ah, CR, C2]; omega
       ·split at hj
        ·rename_i hk; obtain ⟨rfl, _⟩ := hk
         obtain ⟨q, rfl⟩ := hone (by decide) (by decide) (by decide) (by decide)
         simp [Ah, CR, C2]
        ·split at hj
         ·rename_i hk; subst hk
          obtain ⟨q, rfl⟩ := hone (by decide) (by decide) (by decide) (by decide)
          simp [Ah, CR, C2]
         ·split at hj
          ·rename_i hk; subst hk
           obtain ⟨q, rfl⟩ := hone (by decide) (by decide) (by decide) (by decide)
           simp [Ah, CR, C2]
          ·cases hj
     exact ⟨⟨HD ⟨hN'.k1, hN'.k2, hN'.leaf, hN'.many, hN'.two, hN'.one, hN'.rng, hN'.nov, hN'.fn, hN'.cnd, hN'.noo, q1, q2, hN'.vals⟩, hs.2.1.2⟩, ⟨by rw [hb]; exact hm.1, hm.2.1.2⟩, hb⟩
    ·cases hu
   ·cases hu
  ·unfold HN at h
   split at h
   ·rename_i hc
    obtain ⟨rfl, _⟩ := hc
    injection h with h; subst h
    obtain ⟨a, b, c, d⟩ := UZ hs.2 hm.2
    have hb : Ah (.mk 13 o n v (Ay p)) = Ah (.mk 13 o n v p) := by simp only [Ah, C2]; simpa using c
    exact ⟨⟨HD ⟨hN.k1, hN.k2, fun h => by omega, fun _ => d (hN.many (.inl rfl)), fun h => by omega, fun _ _ h => absurd rfl h, hN.rng, hN.nov, hN.fn, hN.cnd, hN.noo, hN.num, hN.non, hN.vals⟩, a⟩, ⟨by rw [hb]; exact hm.1, b⟩, hb⟩
   ·cases h
def Ie : Nat → St → St
 | 0, s => s
 | n + 1, s => match CG s with
  | some t => Ie n t
  | none => s
mutual
def Fj : St → St
 | .mk k o n v p => Ie (Bm (CZ p) + 1) (.mk k o n v (CZ p))
def CZ : List St → List St
 | [] => []
 | s :: r => Fj s :: CZ r
end
theorem Cn : ∀ p : List St, CZ p = p.map Fj
 | [] => rfl
 | s :: r => by simp [CZ, Cn r]
theorem Tz : ∀ (n : Nat) {s : St}, Gz s → KR s → Gz (Ie n s) ∧ KR (Ie n s) ∧ Ah (Ie n s) = Ah s ∧ An (Ie n s) ≤ An s ∧ Bt (Ie n s) = Bt s
 | 0, s, h, k => ⟨h, k, rfl, Nat.le_refl _, rfl⟩
 | n + 1, s, h, k => by
  simp only [Ie]
  split
  ·rename_i t e
   obtain ⟨h1, h2, h3⟩ := R5 h k e
   obtain ⟨a, b, c, d, f⟩ := Tz n h1 h2
   have := J8 e
   exact ⟨a, b, c.trans h3, by omega, f.trans (Tl h k e)⟩
  ·exact ⟨h, k, rfl, Nat.le_refl _, rfl⟩
theorem RP : ∀ (n : Nat) {s : St}, An s ≤ n → CG (Ie n s) = none
 | 0, s, h => by have := Jb s; omega
 | n + 1, s, h => by
  simp only [Ie]
  split
  ·rename_i t e
   have := J8 e
   exact RP n (by omega)
  ·assumption
theorem WD (s : St) : Gz s → KR s → Gz (Fj s) ∧ KR (Fj s) ∧ Ah (Fj s) = Ah s ∧ An (Fj s) ≤ An s ∧ Bt (Fj s) = Bt s := by
 refine St.ind (Q := fun s => Gz s → KR s → Gz (Fj s) ∧ KR (Fj s) ∧ Ah (Fj s) = Ah s ∧ An (Fj s) ≤ An s ∧ Bt (Fj s) = Bt s) ?_ s
 intro k o n v p ih hs hm
 have hp : ∀ r : List St, (∀ q ∈ r, q ∈ p) → S8 r → Qh r → S8 (CZ r) ∧ Qh (CZ r) ∧ CR (CZ r) = CR r ∧ Bm (CZ r) ≤ Bm r ∧ (CZ r).map Bt = r.map Bt := by
  intro r
  induction r with
  | nil => intro _ _ _; exact ⟨trivial, trivial, rfl, Nat.le_refl _, rfl⟩
  | cons q r ihr =>
   intro hsub h1 h2
   obtain ⟨a, b, c, d, e⟩ := ih q (hsub q List.mem_cons_self) h1.1 h2.1
   obtain ⟨a', b', c', d', e'⟩ := ihr (fun x hx => hsub x (List.mem_cons_of_mem _ hx)) h1.2 h2.2
   exact ⟨⟨a, a'⟩, ⟨b, b'⟩, by simp [CZ, CR, c, c'], by simp only [CZ, Bm]; omega, by simp [CZ, e, e']⟩
 obtain ⟨a, b, c, d, e⟩ := hp p (fun q h => h) hs.2 hm.2
 have hN := Bl hs.1
 have hlen : (CZ p).length = p.length := by simp [Cn]
 have hb : Ah (.mk k o n v (CZ p)) = Ah (.mk k o n v p) := by simp only [Ah, c]
 have hne : p = [] ↔ CZ p = [] := by rw [← List.length_eq_zero_iff, ← hlen, List.length_eq_zero_iff]
 have hok : Gz (.mk k o n v (CZ p)) := ⟨HD ⟨hN.k1, hN.k2, fun h => hne.1 (hN.leaf h), fun h e => hN.many h (hne.2 e), fun h => hlen.trans (hN.two h), fun a b c d e f => hlen.trans (hN.one a b c d e f), hN.rng, hN.nov, hN.fn, hN.cnd, hN.noo, hN.num, hN.non, hN.vals⟩, a⟩
 obtain ⟨a1, b1, c1, d1, e1⟩ := Tz (Bm (CZ p) + 1) hok ⟨by rw [hb]; exact hm.1, b⟩
 refine ⟨a1, b1, c1.trans hb, Nat.le_trans d1 (by simp only [An]; omega), e1.trans ?_⟩
 rw [IJ, IJ, e]
theorem WB {k o n : Int} {v : List Int} {p : List St} (hs : Gz (.mk k o n v p)) (hm : KR (.mk k o n v p)) : Gz (.mk k o n v (CZ p)) ∧ KR (.mk k o n v (CZ p)) ∧ An (.mk k o n v (CZ p)) ≤ An (.mk k o n v p) := by
 have hp : ∀ r : List St, S8 r → Qh r → S8 (CZ r) ∧ Qh (CZ r) ∧ CR (CZ r) = CR r ∧ Bm (CZ r) ≤ Bm r := by
  intro r
  induction r with
  | nil => intro _ _; exact ⟨trivial, trivial, rfl, Nat.le_refl _⟩
  | cons q r ihr =>
   intro h1 h2
   obtain ⟨a, b, c, d, _⟩ := WD q h1.1 h2.1
   obtain ⟨a', b', c', d'⟩ := ihr h1.2 h2.2
   exact ⟨⟨a, a'⟩, ⟨b, b'⟩, by simp [CZ, CR, c, c'], by simp only [CZ, Bm]; omega⟩
 obtain ⟨a, b, c, d⟩ := hp p hs.2 hm.2
 have hN := Bl hs.1
 have hlen : (CZ p).length = p.length := by simp [Cn]
 have hb : Ah (.mk k o n v (CZ p)) = Ah (.mk k o n v p) := by simp only [Ah, c]
 have hne : p = [] ↔ CZ p = [] := by rw [← List.length_eq_zero_iff, ← hlen, List.length_eq_zero_iff]
 exact ⟨⟨HD ⟨hN.k1, hN.k2, fun h => hne.1 (hN.leaf h), fun h e => hN.many h (hne.2 e), fun h => hlen.trans (hN.two h), fun a b c d e f => hlen.trans (hN.one a b c d e f), hN.rng, hN.nov, hN.fn, hN.cnd, hN.noo, hN.num, hN.non, hN.vals⟩, a⟩, ⟨by rw [hb]; exact hm.1, b⟩, by simp only [An]; omega⟩
mutual
def Wr : St → Prop
 | .mk k o n v p => CG (.mk k o n v p) = none ∧ H6 p
def H6 : List St → Prop
 | [] => True
 | s :: r => Wr s ∧ H6 r
end
theorem Jl : ∀ {a b : List St}, H6 a → H6 b → H6 (a ++ b)
 | [], _, _, h => h
 | _ :: _, _, h, k => ⟨h.1, Jl h.2 k⟩
theorem Nk : ∀ {p : List St}, H6 p → H6 (Ay p)
 | [], _ => trivial
 | q :: r, h => by
  have e : Ay (q :: r) = (if q.k = 13 then q.p else [q]) ++ Ay r := rfl
  rw [e]
  split
  ·obtain ⟨k, o, n, v, p⟩ := q; exact Jl h.1.2 (Nk h.2)
  ·exact Jl (a := [q]) ⟨h.1, trivial⟩ (Nk h.2)
theorem Pw {s t : St} (hs : H6 s.p) (h : CG s = some t) : H6 t.p := by
 obtain ⟨k, o, n, v, p⟩ := s
 simp only [CG] at h
 split at h
 ·rename_i t' hu
  injection h with h; subst h
  unfold Ea at hu
  split at hu
  ·rename_i q r
   split at hu
   ·injection hu with hu; subst hu
    obtain ⟨k, o, n, v, p⟩ := q; exact hs.1.2
   ·cases hu
  ·cases hu
 ·split at h
  ·rename_i t' hu
   injection h with h; subst h
   unfold Fm at hu
   split at hu
   ·split at hu
    ·obtain ⟨j, hj, rfl⟩ := Option.map_eq_some_iff.1 hu
     exact hs.1.2
    ·cases hu
   ·cases hu
  ·unfold HN at h
   split at h
   ·injection h with h; subst h; exact Nk hs
   ·cases h
theorem Ri : ∀ (n : Nat) {s : St}, H6 s.p → H6 (Ie n s).p
 | 0, _, h => h
 | n + 1, s, h => by
  simp only [Ie]
  split
  ·rename_i t e; exact Ri n (Pw h e)
  ·exact h
theorem Vh (s : St) : Wr (Fj s) := by
 refine St.ind (Q := fun s => Wr (Fj s)) ?_ s
 intro k o n v p ih
 have hp : ∀ r : List St, (∀ q ∈ r, q ∈ p) → H6 (CZ r) := by
  intro r
  induction r with
  | nil => intro _; exact trivial
  | cons q r ihr => intro h; exact ⟨ih q (h q List.mem_cons_self), ihr fun x hx => h x (List.mem_cons_of_mem _ hx)⟩
 have h1 := RP (Bm (CZ p) + 1) (s := .mk k o n v (CZ p)) (by simp [An])
 have h2 := Ri (Bm (CZ p) + 1) (s := .mk k o n v (CZ p)) (hp p fun q h => h)
 simp only [Fj]
 generalize Ie (Bm (CZ p) + 1) (.mk k o n v (CZ p)) = t at *
 obtain ⟨k, o, n, v, p⟩ := t
 exact ⟨h1, h2⟩
attribute [local simp] Nj Fe FS L6 N3 NE LZ Fg F3 Fq HO MF Nf MS MH NT O6 Md Of L5 Me M5 Nc LI M0 TE pe Nt OB NM MM M1 Nw LN Mb Lh Lc NY Mk Lx FX MB MD Nd Lg MO N1 ME MK NN Mf LY LR Ma Ol Mm MC N7 Lm M6 Mr Ly FH ND Fh NJ Mz NC NU Ms Oa NO OS Mx Ld Lw LL LQ L7 OM Ot ON Mg Mn N2 OA O5 Ln O8 MU F9 Oi OY Nu LF Mw Ng Nm Mt Nr Np Nb Oh On OO OK Mo Ny LK Nz Lk LD MJ NK NF M9 L9 Nn LH NW LJ Hv M3 List.mem_cons guardK E5 Er FR HV LU FT Fd FO Fi FD FC F5 FW Fc Lb O9 FZ NH LB Mu Mp ML OW FG OR No OF O4 Lt M2 Hj FY FP F6 Fb Oo N5 FI OJ FF NX F4 FB M7 Fa F8 Ll N0 Ml LW NZ La MZ Lp TF Ju K2 HG KF Jz KD EN Ge Gb Od Ga GX EM E3 Us Jt Jx Gd Jp Jv Dl DQ Bz Bk CH DL BL ev get put EV Ad Cw L8 MP LM Lo K7 OV EF part BO Gn OD GV isNil Ct DJ Dm DN DM Nq Lu MV Mh NV KE NS OQ Og LO Lj M4 N4 Lq OH Mj AV.fits AV.cells ones AV.one E7 CI E1 DI EQ EI MY Es FU CK CB CQ Ew FV Ax Bn VW HB Nx LT List.getElem?_cons_zero List.getElem?_cons_succ FJ FM F7 OI Mc MX Gk Oc OG MI Lv Mi Ok MW Lr Ls MA LX
theorem T5 (k o m : Int) (v : List Int) (x : St) (r : List St) (hb : k = 5 → APure Tryz.prog 36 [encS x] (aI (Ah x : Nat))) : APure Tryz.prog 89 [encS (.mk k o m v (x :: r))] (.tup [encS ((Ea k o m (x :: r)).getD (.mk k o m v (x :: r))), .bool (Ea k o m (x :: r)).isSome]) := by
 have hel := Ao r
 have hr0 : r = [] → AD r = [] := fun h => by rw [h]; rfl
 have hr1 : r ≠ [] → ¬ ((AD r).length : Int) + 1 = 1 := fun h e => h (List.length_eq_zero_iff.1 (by omega))
 simp only [Ea]
 generalize Ah x = b at *
 obtain ⟨k', o', m', v', p'⟩ := x
 by_cases hc : (k = 3 ∧ (o = 1 ∧ m = 0 ∨ o = 3 ∧ m = 1)) ∨ (k = 6 ∧ m = 0) ∨ (k = 12 ∧ m = 1) ∨ ((k = 13 ∨ k = 14) ∧ r = []) ∨ (k = 5 ∧ (b : Int) < m)
 ·rw [if_pos hc]
  simp only [Option.getD_some, Option.isSome_some]
  rw [A7, AD]
  rw [A7] at *
  generalize AD r = er at *
  generalize AD p' = ep at *
  generalize v.map aI = va at *
  generalize v'.map aI = vb at *
  rcases hc with ⟨rfl, ⟨rfl, rfl⟩ | ⟨rfl, rfl⟩⟩ | ⟨rfl, rfl⟩ | ⟨rfl, rfl⟩ | ⟨rfl | rfl, hr⟩ | ⟨rfl, hm⟩
  ·
   refine A3 Tryz.func89 DR rfl fun n H hH => ?_
   repeat' (first | (simp -implicitDefEqProofs [Az, B7, B4, B6, B0, B3, B5, c89, -getElem?_pos, splice]) | (simp (disch := omega) only [AH]) | (with_reducible first | refine A8 ?_ ?_ ?_ | exact AF | refine SameB.upd ?_ ?_ _ | assumption | refine A4 ?_ | refine KM.of ?_ | refine AG ?_ | refine A2 ?_ | refine A5 ?_ | intro _g _hg | refine AE ?_ ?_ | intro _hc) | omega)
   all_goals exact A1 _
  ·
   refine A3 Tryz.func89 DR rfl fun n H hH => ?_
   repeat' (first | (simp -implicitDefEqProofs [Az, B7, B4, B6, B0, B3, B5, c89, -getElem?_pos, splice]) | (simp (disch := omega) only [AH]) | (with_reducible first | refine A8 ?_ ?_ ?_ | exact AF | refine SameB.upd ?_ ?_ _ | assumption | refine A4 ?_ | refine KM.of ?_ | refine AG ?_ | refine A2 ?_ | refine A5 ?_ | intro _g _hg | refine AE ?_ ?_ | intro _hc) | omega)
   all_goals exact A1 _
  ·
   refine A3 Tryz.func89 DR rfl fun n H hH => ?_
   repeat' (first | (simp -implicitDefEqProofs [Az, B7, B4, B6, B0, B3, B5, c89, -getElem?_pos, splice]) | (simp (disch := omega) only [AH]) | (with_reducible first | refine A8 ?_ ?_ ?_ | exact AF | refine SameB.upd ?_ ?_ _ | assumption | refine A4 ?_ | refine KM.of ?_ | refine AG ?_ | refine A2 ?_ | refine A5 ?_ | intro _g _hg | refine AE ?_ ?_ | intro _hc) | omega)
   all_goals exact A1 _
  ·
   refine A3 Tryz.func89 DR rfl fun n H hH => ?_
   repeat' (first | (simp -implicitDefEqProofs [Az, B7, B4, B6, B0, B3, B5, c89, -getElem?_pos, splice]) | (simp (disch := omega) only [AH]) | (with_reducible first | refine A8 ?_ ?_ ?_ | exact AF | refine SameB.upd ?_ ?_ _ | assumption | refine A4 ?_ | refine KM.of ?_ | refine AG ?_ | refine A2 ?_ | refine A5 ?_ | intro _g _hg | refine AE ?_ ?_ | intro _hc) | omega)
   all_goals exact A1 _
  ·have := hr0 hr; subst this
   
   refine A3 Tryz.func89 DR rfl fun n H hH => ?_
   repeat' (first | (simp -implicitDefEqProofs [Az, B7, B4, B6, B0, B3, B5, c89, -getElem?_pos, splice]) | (simp (disch := omega) only [AH]) | (with_reducible first | refine A8 ?_ ?_ ?_ | exact AF | refine SameB.upd ?_ ?_ _ | assumption | refine A4 ?_ | refine KM.of ?_ | refine AG ?_ | refine A2 ?_ | refine A5 ?_ | intro _g _hg | refine AE ?_ ?_ | intro _hc) | omega)
   all_goals exact A1 _
  ·have := hr0 hr; subst this
   
   refine A3 Tryz.func89 DR rfl fun n H hH => ?_
   repeat' (first | (simp -implicitDefEqProofs [Az, B7, B4, B6, B0, B3, B5, c89, -getElem?_pos, splice]) | (simp (disch := omega) only [AH]) | (with_reducible first | refine A8 ?_ ?_ ?_ | exact AF | refine SameB.upd ?_ ?_ _ | assumption | refine A4 ?_ | refine KM.of ?_ | refine AG ?_ | refine A2 ?_ | refine A5 ?_ | intro _g _hg | refine AE ?_ ?_ | intro _hc) | omega)
   all_goals exact A1 _
  ·have hb := hb rfl
   
   refine A3 Tryz.func89 DR rfl fun n H hH => ?_
   repeat' (first | (simp -implicitDefEqProofs [Az, B7, B4, B6, B0, B3, B5, c89, -getElem?_pos, hm, splice]) | (simp (disch := omega) only [AH]) | ((with_reducible refine Al 36 ?_); (refine' CallP.sf ?_ (hb) ?_); (focus first | (with_reducible exact A0 _) | (simp [AK, AI, A1, A0]; done))) | (with_reducible first | refine A8 ?_ ?_ ?_ | exact AF | refine SameB.upd ?_ ?_ _ | assumption | refine A4 ?_ | refine KM.of ?_ | refine AG ?_ | refine A2 ?_ | refine A5 ?_ | intro _g _hg | refine AE ?_ ?_ | intro _hc) | omega)
   all_goals exact A1 _
 ·rw [if_neg hc]
  simp only [Option.getD_none, Option.isSome_none]
  rw [A7, AD]
  rw [A7] at *
  have hlen : (0 : Int) < ((AD r).length : Int) + 1 := by omega
  generalize AD r = er at *
  generalize AD p' = ep at *
  generalize v.map aI = va at *
  generalize v'.map aI = vb at *
  simp only [not_or, not_and] at hc
  obtain ⟨c1, c2, c3, c4, c5⟩ := hc
  by_cases h3 : k = 3
  ·subst h3
   have c1 := c1 rfl
   by_cases h1 : o = 1
   ·subst h1
    have c1 := c1.1 rfl
    
    refine A3 Tryz.func89 DR rfl fun n H hH => ?_
    repeat' (first | (simp -implicitDefEqProofs [Az, B7, B4, B6, B0, B3, B5, c89, -getElem?_pos, c1, splice]) | (simp (disch := omega) only [AH]) | (with_reducible first | refine A8 ?_ ?_ ?_ | exact AF | refine SameB.upd ?_ ?_ _ | assumption | refine A4 ?_ | refine KM.of ?_ | refine AG ?_ | refine A2 ?_ | refine A5 ?_ | intro _g _hg | refine AE ?_ ?_ | intro _hc) | omega)
    all_goals exact A1 _
   ·by_cases h2 : o = 3
    ·subst h2
     have c1 := c1.2 rfl
     
     refine A3 Tryz.func89 DR rfl fun n H hH => ?_
     repeat' (first | (simp -implicitDefEqProofs [Az, B7, B4, B6, B0, B3, B5, c89, -getElem?_pos, c1, splice]) | (simp (disch := omega) only [AH]) | (with_reducible first | refine A8 ?_ ?_ ?_ | exact AF | refine SameB.upd ?_ ?_ _ | assumption | refine A4 ?_ | refine KM.of ?_ | refine AG ?_ | refine A2 ?_ | refine A5 ?_ | intro _g _hg | refine AE ?_ ?_ | intro _hc) | omega)
     all_goals exact A1 _
    ·
     refine A3 Tryz.func89 DR rfl fun n H hH => ?_
     repeat' (first | (simp -implicitDefEqProofs [Az, B7, B4, B6, B0, B3, B5, c89, -getElem?_pos, h1, h2, splice]) | (simp (disch := omega) only [AH]) | (with_reducible first | refine A8 ?_ ?_ ?_ | exact AF | refine SameB.upd ?_ ?_ _ | assumption | refine A4 ?_ | refine KM.of ?_ | refine AG ?_ | refine A2 ?_ | refine A5 ?_ | intro _g _hg | refine AE ?_ ?_ | intro _hc) | omega)
     all_goals exact A1 _
  ·by_cases h6 : k = 6
   ·subst h6
    have c2 := c2 rfl
    
    refine A3 Tryz.func89 DR rfl fun n H hH => ?_
    repeat' (first | (simp -implicitDefEqProofs [Az, B7, B4, B6, B0, B3, B5, c89, -getElem?_pos, c2, splice]) | (simp (disch := omega) only [AH]) | (with_reducible first | refine A8 ?_ ?_ ?_ | exact AF | refine SameB.upd ?_ ?_ _ | assumption | refine A4 ?_ | refine KM.of ?_ | refine AG ?_ | refine A2 ?_ | refine A5 ?_ | intro _g _hg | refine AE ?_ ?_ | intro _hc) | omega)
    all_goals exact A1 _
   ·by_cases h12 : k = 12
    ·subst h12
     have c3 := c3 rfl
     
     refine A3 Tryz.func89 DR rfl fun n H hH => ?_
     repeat' (first | (simp -implicitDefEqProofs [Az, B7, B4, B6, B0, B3, B5, c89, -getElem?_pos, c3, splice]) | (simp (disch := omega) only [AH]) | (with_reducible first | refine A8 ?_ ?_ ?_ | exact AF | refine SameB.upd ?_ ?_ _ | assumption | refine A4 ?_ | refine KM.of ?_ | refine AG ?_ | refine A2 ?_ | refine A5 ?_ | intro _g _hg | refine AE ?_ ?_ | intro _hc) | omega)
     all_goals exact A1 _
    ·by_cases h13 : k = 13
     ·subst h13
      have c4 := hr1 (c4 (.inl rfl))
      
      refine A3 Tryz.func89 DR rfl fun n H hH => ?_
      repeat' (first | (simp -implicitDefEqProofs [Az, B7, B4, B6, B0, B3, B5, c89, -getElem?_pos, c4, splice]) | (simp (disch := omega) only [AH]) | (with_reducible first | refine A8 ?_ ?_ ?_ | exact AF | refine SameB.upd ?_ ?_ _ | assumption | refine A4 ?_ | refine KM.of ?_ | refine AG ?_ | refine A2 ?_ | refine A5 ?_ | intro _g _hg | refine AE ?_ ?_ | intro _hc) | omega)
      all_goals exact A1 _
     ·by_cases h14 : k = 14
      ·subst h14
       have c4 := hr1 (c4 (.inr rfl))
       
       refine A3 Tryz.func89 DR rfl fun n H hH => ?_
       repeat' (first | (simp -implicitDefEqProofs [Az, B7, B4, B6, B0, B3, B5, c89, -getElem?_pos, c4, splice]) | (simp (disch := omega) only [AH]) | (with_reducible first | refine A8 ?_ ?_ ?_ | exact AF | refine SameB.upd ?_ ?_ _ | assumption | refine A4 ?_ | refine KM.of ?_ | refine AG ?_ | refine A2 ?_ | refine A5 ?_ | intro _g _hg | refine AE ?_ ?_ | intro _hc) | omega)
       all_goals exact A1 _
      ·by_cases h5 : k = 5
       ·subst h5
        have c5 := c5 rfl
        have hb := hb rfl
        
        refine A3 Tryz.func89 DR rfl fun n H hH => ?_
        repeat' (first | (simp -implicitDefEqProofs [Az, B7, B4, B6, B0, B3, B5, c89, -getElem?_pos, c5, hlen, splice]) | (simp (disch := omega) only [AH]) | ((with_reducible refine Al 36 ?_); (refine' CallP.sf ?_ (hb) ?_); (focus first | (with_reducible exact A0 _) | (simp [AK, AI, A1, A0]; done))) | (with_reducible first | refine A8 ?_ ?_ ?_ | exact AF | refine SameB.upd ?_ ?_ _ | assumption | refine A4 ?_ | refine KM.of ?_ | refine AG ?_ | refine A2 ?_ | refine A5 ?_ | intro _g _hg | refine AE ?_ ?_ | intro _hc) | omega)
        all_goals exact A1 _
       ·
        refine A3 Tryz.func89 DR rfl fun n H hH => ?_
        repeat' (first | (simp -implicitDefEqProofs [Az, B7, B4, B6, B0, B3, B5, c89, -getElem?_pos, h3, h6, h12, h13, h14, h5, splice]) | (simp (disch := omega) only [AH]) | (with_reducible first | refine A8 ?_ ?_ ?_ | exact AF | refine SameB.upd ?_ ?_ _ | assumption | refine A4 ?_ | refine KM.of ?_ | refine AG ?_ | refine A2 ?_ | refine A5 ?_ | intro _g _hg | refine AE ?_ ?_ | intro _hc) | omega)
        all_goals exact A1 _
theorem Id (k o m : Int) (v : List Int) (p : List St) (hp : p.length ≠ 1) : APure Tryz.prog 90 [encS (.mk k o m v p)] (.tup [encS (.mk k o m v p), .bool false]) := by
 rw [A7]
 generalize v.map aI = va at *
 match p, hp with
 | [], _ =>
  rw [AD]
  
  refine A3 Tryz.func90 Dk rfl fun n H hH => ?_
  repeat' (first | (simp -implicitDefEqProofs [BF, BJ, BI, BK, BH, BG, BE, c90, -getElem?_pos, splice]) | (simp (disch := omega) only [AH]) | (with_reducible first | refine A8 ?_ ?_ ?_ | exact AF | refine SameB.upd ?_ ?_ _ | assumption | refine A4 ?_ | refine KM.of ?_ | refine AG ?_ | refine A2 ?_ | refine A5 ?_ | intro _g _hg | refine AE ?_ ?_ | intro _hc) | omega)
  all_goals exact A1 _
 | [_], h => exact absurd rfl h
 | x :: y :: r, _ =>
  obtain ⟨k', o', m', v', p'⟩ := x
  rw [AD, AD, A7]
  generalize encS y = ey at *
  generalize AD r = er at *
  generalize AD p' = ep at *
  generalize v'.map aI = vb at *
  have hl : ¬ ((er.length : Int) + 1 + 1 = 1) := by omega
  
  refine A3 Tryz.func90 Dk rfl fun n H hH => ?_
  repeat' (first | (simp -implicitDefEqProofs [BF, BJ, BI, BK, BH, BG, BE, c90, -getElem?_pos, hl, splice]) | (simp (disch := omega) only [AH]) | (with_reducible first | refine A8 ?_ ?_ ?_ | exact AF | refine SameB.upd ?_ ?_ _ | assumption | refine A4 ?_ | refine KM.of ?_ | refine AG ?_ | refine A2 ?_ | refine A5 ?_ | intro _g _hg | refine AE ?_ ?_ | intro _hc) | omega)
  all_goals exact A1 _
theorem Q3 (k o m : Int) (v : List Int) (k' o' m' : Int) (v' : List Int) (pp : List St) (ho : k = 3 → 1 ≤ o ∧ o ≤ 6) (hm : 0 ≤ m ∧ m ≤ 9999) (hm' : 0 ≤ m' ∧ m' ≤ 9999) : APure Tryz.prog 90 [encS (.mk k o m v [.mk k' o' m' v' pp])] (.tup [encS ((Fm k o m [.mk k' o' m' v' pp]).getD (.mk k o m v [.mk k' o' m' v' pp])), .bool (Fm k o m [.mk k' o' m' v' pp]).isSome]) := by
 simp only [Fm]
 by_cases hk : k' = k
 ·subst hk
  by_cases hoo : o' = o
  ·subst hoo
   rw [if_pos ⟨rfl, rfl⟩]
   simp only [VT]
   have hap := fun h => Vm o' m m' (ho h) hm hm'
   by_cases h3 : k' = 3 ∧ o' ≠ 2 ∧ o' ≠ 6
   ·rw [if_pos h3]
    obtain ⟨rfl, h2, h6⟩ := h3
    have hap := hap rfl (fun h => absurd h h6)
    have ho := ho rfl
    simp only [Option.map_some, Option.getD_some, Option.isSome_some]
    generalize FL o' m m' = z at *
    rw [A7, A7, AD, AD, A7]
    generalize AD pp = ep at *
    generalize v.map aI = va at *
    generalize v'.map aI = vb at *
    rcases (by omega : o' = 1 ∨ o' = 3 ∨ o' = 4 ∨ o' = 5) with rfl | rfl | rfl | rfl
    ·
     refine A3 Tryz.func90 Dk rfl fun n H hH => ?_
     repeat' (first | (simp -implicitDefEqProofs [BF, BJ, BI, BK, BH, BG, BE, c90, -getElem?_pos, splice]) | (simp (disch := omega) only [AH]) | ((with_reducible refine Al 102 ?_); (refine' CallP.sf ?_ (hap) ?_); (focus first | (with_reducible exact A0 _) | (simp [AK, AI, A1, A0]; done))) | (with_reducible first | refine A8 ?_ ?_ ?_ | exact AF | refine SameB.upd ?_ ?_ _ | assumption | refine A4 ?_ | refine KM.of ?_ | refine AG ?_ | refine A2 ?_ | refine A5 ?_ | intro _g _hg | refine AE ?_ ?_ | intro _hc) | omega)
     all_goals first | exact A1 _ | omega
    ·
     refine A3 Tryz.func90 Dk rfl fun n H hH => ?_
     repeat' (first | (simp -implicitDefEqProofs [BF, BJ, BI, BK, BH, BG, BE, c90, -getElem?_pos, splice]) | (simp (disch := omega) only [AH]) | ((with_reducible refine Al 102 ?_); (refine' CallP.sf ?_ (hap) ?_); (focus first | (with_reducible exact A0 _) | (simp [AK, AI, A1, A0]; done))) | (with_reducible first | refine A8 ?_ ?_ ?_ | exact AF | refine SameB.upd ?_ ?_ _ | assumption | refine A4 ?_ | refine KM.of ?_ | refine AG ?_ | refine A2 ?_ | refine A5 ?_ | intro _g _hg | refine AE ?_ ?_ | intro _hc) | omega)
     all_goals first | exact A1 _ | omega
    ·
     refine A3 Tryz.func90 Dk rfl fun n H hH => ?_
     repeat' (first | (simp -implicitDefEqProofs [BF, BJ, BI, BK, BH, BG, BE, c90, -getElem?_pos, splice]) | (simp (disch := omega) only [AH]) | ((with_reducible refine Al 102 ?_); (refine' CallP.sf ?_ (hap) ?_); (focus first | (with_reducible exact A0 _) | (simp [AK, AI, A1, A0]; done))) | (with_reducible first | refine A8 ?_ ?_ ?_ | exact AF | refine SameB.upd ?_ ?_ _ | assumption | refine A4 ?_ | refine KM.of ?_ | refine AG ?_ | refine A2 ?_ | refine A5 ?_ | intro _g _hg | refine AE ?_ ?_ | intro _hc) | omega)
     all_goals first | exact A1 _ | omega
    ·
     refine A3 Tryz.func90 Dk rfl fun n H hH => ?_
     repeat' (first | (simp -implicitDefEqProofs [BF, BJ, BI, BK, BH, BG, BE, c90, -getElem?_pos, splice]) | (simp (disch := omega) only [AH]) | ((with_reducible refine Al 102 ?_); (refine' CallP.sf ?_ (hap) ?_); (focus first | (with_reducible exact A0 _) | (simp [AK, AI, A1, A0]; done))) | (with_reducible first | refine A8 ?_ ?_ ?_ | exact AF | refine SameB.upd ?_ ?_ _ | assumption | refine A4 ?_ | refine KM.of ?_ | refine AG ?_ | refine A2 ?_ | refine A5 ?_ | intro _g _hg | refine AE ?_ ?_ | intro _hc) | omega)
     all_goals first | exact A1 _ | omega
   ·rw [if_neg h3]
    by_cases h4 : k' = 4 ∧ o' = 1 ∨ k' = 5
    ·rw [if_pos h4]
     simp only [Option.map_some, Option.getD_some, Option.isSome_some]
     rw [A7, A7, AD, AD, A7]
     generalize AD pp = ep at *
     generalize v.map aI = va at *
     generalize v'.map aI = vb at *
     rcases h4 with ⟨rfl, rfl⟩ | rfl
     ·
      refine A3 Tryz.func90 Dk rfl fun n H hH => ?_
      repeat' (first | (simp -implicitDefEqProofs [BF, BJ, BI, BK, BH, BG, BE, c90, -getElem?_pos, splice]) | (simp (disch := omega) only [AH]) | (with_reducible first | refine A8 ?_ ?_ ?_ | exact AF | refine SameB.upd ?_ ?_ _ | assumption | refine A4 ?_ | refine KM.of ?_ | refine AG ?_ | refine A2 ?_ | refine A5 ?_ | intro _g _hg | refine AE ?_ ?_ | intro _hc) | omega)
      all_goals first | exact A1 _ | omega
     ·
      refine A3 Tryz.func90 Dk rfl fun n H hH => ?_
      repeat' (first | (simp -implicitDefEqProofs [BF, BJ, BI, BK, BH, BG, BE, c90, -getElem?_pos, splice]) | (simp (disch := omega) only [AH]) | (with_reducible first | refine A8 ?_ ?_ ?_ | exact AF | refine SameB.upd ?_ ?_ _ | assumption | refine A4 ?_ | refine KM.of ?_ | refine AG ?_ | refine A2 ?_ | refine A5 ?_ | intro _g _hg | refine AE ?_ ?_ | intro _hc) | omega)
      all_goals first | exact A1 _ | omega
    ·rw [if_neg h4]
     by_cases h5 : k' = 4 ∧ o' = 2
     ·rw [if_pos h5]
      simp only [Option.map_some, Option.getD_some, Option.isSome_some]
      rw [A7, A7, AD, AD, A7]
      generalize AD pp = ep at *
      generalize v.map aI = va at *
      generalize v'.map aI = vb at *
      obtain ⟨rfl, rfl⟩ := h5
      
      refine A3 Tryz.func90 Dk rfl fun n H hH => ?_
      repeat' (first | (simp -implicitDefEqProofs [BF, BJ, BI, BK, BH, BG, BE, c90, -getElem?_pos, splice]) | (simp (disch := omega) only [AH]) | (with_reducible first | refine A8 ?_ ?_ ?_ | exact AF | refine SameB.upd ?_ ?_ _ | assumption | refine A4 ?_ | refine KM.of ?_ | refine AG ?_ | refine A2 ?_ | refine A5 ?_ | intro _g _hg | refine AE ?_ ?_ | intro _hc) | omega)
      all_goals first | exact A1 _ | omega
     ·rw [if_neg h5]
      by_cases h6 : k' = 6
      ·rw [if_pos h6]
       simp only [Option.map_some, Option.getD_some, Option.isSome_some]
       rw [A7, A7, AD, AD, A7]
       generalize AD pp = ep at *
       generalize v.map aI = va at *
       generalize v'.map aI = vb at *
       subst h6
       
       refine A3 Tryz.func90 Dk rfl fun n H hH => ?_
       repeat' (first | (simp -implicitDefEqProofs [BF, BJ, BI, BK, BH, BG, BE, c90, -getElem?_pos, splice]) | (simp (disch := omega) only [AH]) | (with_reducible first | refine A8 ?_ ?_ ?_ | exact AF | refine SameB.upd ?_ ?_ _ | assumption | refine A4 ?_ | refine KM.of ?_ | refine AG ?_ | refine A2 ?_ | refine A5 ?_ | intro _g _hg | refine AE ?_ ?_ | intro _hc) | omega)
       all_goals first | exact A1 _ | omega
      ·rw [if_neg h6]
       by_cases h11 : k' = 11
       ·rw [if_pos h11]
        simp only [Option.map_some, Option.getD_some, Option.isSome_some]
        rw [A7, A7, AD, AD, A7]
        generalize AD pp = ep at *
        generalize v.map aI = va at *
        generalize v'.map aI = vb at *
        subst h11
        
        refine A3 Tryz.func90 Dk rfl fun n H hH => ?_
        repeat' (first | (simp -implicitDefEqProofs [BF, BJ, BI, BK, BH, BG, BE, c90, -getElem?_pos, splice]) | (simp (disch := omega) only [AH]) | (with_reducible first | refine A8 ?_ ?_ ?_ | exact AF | refine SameB.upd ?_ ?_ _ | assumption | refine A4 ?_ | refine KM.of ?_ | refine AG ?_ | refine A2 ?_ | refine A5 ?_ | intro _g _hg | refine AE ?_ ?_ | intro _hc) | omega)
        all_goals first | exact A1 _ | omega
       ·rw [if_neg h11]
        simp only [Option.map_none, Option.getD_none, Option.isSome_none]
        rw [A7, AD, AD, A7]
        generalize AD pp = ep at *
        generalize v.map aI = va at *
        generalize v'.map aI = vb at *
        have h5' : k' ≠ 5 := fun h => h4 (.inr h)
        by_cases k3 : k' = 3
        ·subst k3
         have ho := ho rfl
         rcases (by omega : o' = 2 ∨ o' = 6) with rfl | rfl
         ·
          refine A3 Tryz.func90 Dk rfl fun n H hH => ?_
          repeat' (first | (simp -implicitDefEqProofs [BF, BJ, BI, BK, BH, BG, BE, c90, -getElem?_pos, splice]) | (simp (disch := omega) only [AH]) | (with_reducible first | refine A8 ?_ ?_ ?_ | exact AF | refine SameB.upd ?_ ?_ _ | assumption | refine A4 ?_ | refine KM.of ?_ | refine AG ?_ | refine A2 ?_ | refine A5 ?_ | intro _g _hg | refine AE ?_ ?_ | intro _hc) | omega)
          all_goals first | exact A1 _ | omega
         ·
          refine A3 Tryz.func90 Dk rfl fun n H hH => ?_
          repeat' (first | (simp -implicitDefEqProofs [BF, BJ, BI, BK, BH, BG, BE, c90, -getElem?_pos, splice]) | (simp (disch := omega) only [AH]) | (with_reducible first | refine A8 ?_ ?_ ?_ | exact AF | refine SameB.upd ?_ ?_ _ | assumption | refine A4 ?_ | refine KM.of ?_ | refine AG ?_ | refine A2 ?_ | refine A5 ?_ | intro _g _hg | refine AE ?_ ?_ | intro _hc) | omega)
          all_goals first | exact A1 _ | omega
        ·by_cases k4 : k' = 4
         ·subst k4
          have e1 : ¬ o' = 1 := fun h => h4 (.inl ⟨rfl, h⟩)
          have e2 : ¬ o' = 2 := fun h => h5 ⟨rfl, h⟩
          
          refine A3 Tryz.func90 Dk rfl fun n H hH => ?_
          repeat' (first | (simp -implicitDefEqProofs [BF, BJ, BI, BK, BH, BG, BE, c90, -getElem?_pos, e1, e2, splice]) | (simp (disch := omega) only [AH]) | (with_reducible first | refine A8 ?_ ?_ ?_ | exact AF | refine SameB.upd ?_ ?_ _ | assumption | refine A4 ?_ | refine KM.of ?_ | refine AG ?_ | refine A2 ?_ | refine A5 ?_ | intro _g _hg | refine AE ?_ ?_ | intro _hc) | omega)
          all_goals first | exact A1 _ | omega
         ·
          refine A3 Tryz.func90 Dk rfl fun n H hH => ?_
          repeat' (first | (simp -implicitDefEqProofs [BF, BJ, BI, BK, BH, BG, BE, c90, -getElem?_pos, k3, k4, h5', h6, h11, splice]) | (simp (disch := omega) only [AH]) | (with_reducible first | refine A8 ?_ ?_ ?_ | exact AF | refine SameB.upd ?_ ?_ _ | assumption | refine A4 ?_ | refine KM.of ?_ | refine AG ?_ | refine A2 ?_ | refine A5 ?_ | intro _g _hg | refine AE ?_ ?_ | intro _hc) | omega)
          all_goals first | exact A1 _ | omega
  ·rw [if_neg (fun h => hoo h.2)]
   simp only [Option.getD_none, Option.isSome_none]
   rw [A7, AD, AD, A7]
   generalize AD pp = ep at *
   generalize v.map aI = va at *
   generalize v'.map aI = vb at *
   
   refine A3 Tryz.func90 Dk rfl fun n H hH => ?_
   repeat' (first | (simp -implicitDefEqProofs [BF, BJ, BI, BK, BH, BG, BE, c90, -getElem?_pos, hoo, splice]) | (simp (disch := omega) only [AH]) | (with_reducible first | refine A8 ?_ ?_ ?_ | exact AF | refine SameB.upd ?_ ?_ _ | assumption | refine A4 ?_ | refine KM.of ?_ | refine AG ?_ | refine A2 ?_ | refine A5 ?_ | intro _g _hg | refine AE ?_ ?_ | intro _hc) | omega)
   all_goals first | exact A1 _ | omega
 ·rw [if_neg (fun h => hk h.1)]
  simp only [Option.getD_none, Option.isSome_none]
  rw [A7, AD, AD, A7]
  generalize AD pp = ep at *
  generalize v.map aI = va at *
  generalize v'.map aI = vb at *
  
  refine A3 Tryz.func90 Dk rfl fun n H hH => ?_
  repeat' (first | (simp -implicitDefEqProofs [BF, BJ, BI, BK, BH, BG, BE, c90, -getElem?_pos, hk, splice]) | (simp (disch := omega) only [AH]) | (with_reducible first | refine A8 ?_ ?_ ?_ | exact AF | refine SameB.upd ?_ ?_ _ | assumption | refine A4 ?_ | refine KM.of ?_ | refine AG ?_ | refine A2 ?_ | refine A5 ?_ | intro _g _hg | refine AE ?_ ?_ | intro _hc) | omega)
  all_goals first | exact A1 _ | omega
theorem V6 (s : St) : APure Tryz.prog 130 [encS s] (.bool (decide (s.k = 13))) := by
 obtain ⟨k, o, m, v, p⟩ := s
 rw [A7]
 generalize AD p = ep at *
 generalize v.map aI = va at *
 by_cases hk : k = 13
 ·rw [decide_eq_true (by exact hk)]
  
  refine A3 Tryz.func130 TZ rfl fun n H hH => ?_
  repeat' (first | (simp -implicitDefEqProofs [c130, -getElem?_pos, hk, splice]) | (simp (disch := omega) only [AH]) | (with_reducible first | refine A8 ?_ ?_ ?_ | exact AF | refine SameB.upd ?_ ?_ _ | assumption | refine A4 ?_ | refine KM.of ?_ | refine AG ?_ | refine A2 ?_ | refine A5 ?_ | intro _g _hg | refine AE ?_ ?_ | intro _hc) | omega)
  all_goals exact A1 _
 ·rw [decide_eq_false (by exact hk)]
  
  refine A3 Tryz.func130 TZ rfl fun n H hH => ?_
  repeat' (first | (simp -implicitDefEqProofs [c130, -getElem?_pos, hk, splice]) | (simp (disch := omega) only [AH]) | (with_reducible first | refine A8 ?_ ?_ ?_ | exact AF | refine SameB.upd ?_ ?_ _ | assumption | refine A4 ?_ | refine KM.of ?_ | refine AG ?_ | refine A2 ?_ | refine A5 ?_ | intro _g _hg | refine AE ?_ ?_ | intro _hc) | omega)
  all_goals first | exact A1 _ | (have hk' : ¬ k = 13 := hk; simp [AI, hk'])
theorem C9 {d : Option Nat} {K : AS → Prop} {en : Ai} {n : Nat} {H : A6} {xs a b : List AV} {f : Nat} (hc : CV Tryz.prog f = true) : BL Tryz.prog d K en n H xs (.fn f a b) = CallK Tryz.prog f (a ++ xs ++ b) d K ⟨en, n, H⟩ := propext ⟨fun h => h.2, fun h => ⟨hc, h⟩⟩
theorem JF : CV Tryz.prog 130 = true := by kernel_rfl
def VZ : List St → Int → Int
 | [], _ => -1
 | s :: r, i => if s.k = 13 then i else VZ r (i + 1)
theorem RQ : ∀ (p : List St) (i : Int), 0 ≤ i → (decide (0 ≤ VZ p i) = p.any fun q => decide (q.k = 13))
 | [], i, _ => rfl
 | s :: r, i, hi => by
  simp only [VZ, List.any_cons]
  split
  ·rename_i h; simp [h, hi]
  ·rename_i h; rw [RQ r (i + 1) (by omega)]; simp [h]
theorem Va (p : List St) (hl : p.length ≤ 140737488355328) : APure Tryz.prog 146 [.sl 5 (AD p) .ro, .fn 130 [] []] (aI (VZ p 0)) := by
 have hpl := Ao p
 
 refine A3 Tryz.func146 WQ rfl fun n H hH => ?_
 repeat' (first | (simp -implicitDefEqProofs [c146, -getElem?_pos, hpl]) | (simp (disch := omega) only [AH]) | (with_reducible first | refine A8 ?_ ?_ ?_ | exact AF | refine SameB.upd ?_ ?_ _ | assumption | refine A4 ?_ | refine KM.of ?_ | refine AG ?_ | intro _g _hg | refine AE ?_ ?_ | intro _hc) | omega)
 refine LoopK.go (fun r st => ∃ j : Nat, j + r = p.length ∧ st = ⟨[(0, .sl 5 (AD p) .ro), (1, .fn 130 [] []), (7, aI p.length), (8, aI j)], n, H⟩ ∧ VZ p 0 = VZ (p.drop j) j) p.length ⟨0, by omega, rfl, rfl⟩ ?_
 rintro r st ⟨j, hj, rfl, hE⟩ J hJ
 by_cases hjl : j < p.length
 ·obtain ⟨x, hx⟩ : ∃ x, p[j]? = some x := ⟨_, List.getElem?_eq_getElem hjl⟩
  have hxe := CP hx
  have hxf := BP x
  have hjl' : (j : Int) < p.length := by omega
  have hch := V6 x
  rw [drop_at hx] at hE
  simp only [VZ] at hE
  generalize encS x = ex at *
  generalize AD p = ep at *
  by_cases hk : x.k = 13
  ·rw [if_pos hk] at hE
   rw [decide_eq_true hk] at hch
   rw [hE]
   
   repeat' (first | (simp -implicitDefEqProofs [Gu, Gv, Gg, H4, c146, -getElem?_pos, hpl, hxe, hxf, hjl', C9 JF, -BL, -AV.fits]) | (simp (disch := omega) only [AH]) | ((with_reducible refine ER 130 ?_); (refine' CallK.sfAt ?_ (hch.at_ _ _) ?_); (focus first | (with_reducible exact A0 _) | (simp [AK, AI, A1, A0]; done))) | (with_reducible first | refine A8 ?_ ?_ ?_ | exact AF | refine SameB.upd ?_ ?_ _ | assumption | refine A4 ?_ | refine KM.of ?_ | refine AG ?_ | intro _g _hg | refine AE ?_ ?_ | intro _hc) | omega)
   all_goals exact A1 _
  ·rw [if_neg hk] at hE
   rw [decide_eq_false hk] at hch
   
   repeat' (first | (simp -implicitDefEqProofs [Gu, Gv, Gg, H4, c146, -getElem?_pos, hpl, hxe, hxf, hjl', C9 JF, -BL, -AV.fits]) | (simp (disch := omega) only [AH]) | ((with_reducible refine ER 130 ?_); (refine' CallK.sfAt ?_ (hch.at_ _ _) ?_); (focus first | (with_reducible exact A0 _) | (simp [AK, AI, A1, A0]; done))) | (with_reducible first | refine A8 ?_ ?_ ?_ | exact AF | refine SameB.upd ?_ ?_ _ | assumption | refine A4 ?_ | refine KM.of ?_ | refine AG ?_ | intro _g _hg | refine AE ?_ ?_ | intro _hc) | omega)
   exact hJ (r - 1) _ (by omega) ⟨j + 1, by omega, rfl, by rw [hE]; rfl⟩
 ·have hjl' : ¬ (j : Int) < p.length := by omega
  rw [List.drop_eq_nil_of_le (by omega)] at hE
  rw [hE]
  
  repeat' (first | (simp -implicitDefEqProofs [Gu, Gv, Gg, H4, c146, -getElem?_pos, hpl, hjl', VZ]) | (simp (disch := omega) only [AH]) | (with_reducible first | refine A8 ?_ ?_ ?_ | exact AF | refine SameB.upd ?_ ?_ _ | assumption | refine A4 ?_ | refine KM.of ?_ | refine AG ?_ | intro _g _hg | refine AE ?_ ?_ | intro _hc) | omega)
  all_goals exact A1 _
theorem Iv (p : List St) (hl : p.length ≤ 140737488355328) : APure Tryz.prog 131 [.sl 5 (AD p) .ro, .fn 130 [] []] (.bool (p.any fun q => decide (q.k = 13))) := by
 have h := Va p hl
 rw [← RQ p 0 (by omega)]
 generalize VZ p 0 = i at *
 generalize AD p = ep at *
 
 refine A3 Tryz.func131 W1 rfl fun n H hH => ?_
 repeat' (first | (simp -implicitDefEqProofs [c131, -getElem?_pos]) | (simp (disch := omega) only [AH]) | ((with_reducible refine Al 146 ?_); (refine' CallP.sf ?_ (h) ?_); (focus first | (with_reducible exact A0 _) | (simp [AK, AI, A1, A0]; done))) | (with_reducible first | refine A8 ?_ ?_ ?_ | exact AF | refine SameB.upd ?_ ?_ _ | assumption | refine A4 ?_ | refine KM.of ?_ | refine AG ?_ | intro _g _hg | refine AE ?_ ?_ | intro _hc) | omega)
 all_goals exact A1 _
section
variable {P : Program} {n0 n : Nat} {H0 H : A6} {bs : List (Nat × AObj)} {os : List OwnR} {el sz by_ : Nat} {d : Option Nat} {e : Ai} {K : AS → Prop} {x : AV} {l m m' : List AV} {t : Tok}
theorem Owns.appV (h : Owns n0 H0 bs (⟨el, sz, x, l⟩ :: os) n H) (hs : AK m m') (hl : l.length + m.length ≤ 1000000) (hby : by_ ≤ 100)
  (hk : ∀ z' t' n' H', n ≤ n' → Owns n0 H0 bs (⟨el, sz, .sl z' (l ++ m') t', l ++ m'⟩ :: os) n' H' → K ⟨Ad e d (.sl z' (l ++ m') t'), n', H'⟩) : appKS el sz by_ d K ⟨e, n, H⟩ x (.sl sz m t) := by
 refine h.app (.inl rfl) hs (Nat.le_trans (Nat.mul_le_mul hl hby) (by decide)) (Nat.le_trans hl (by simp [maxLen])) fun x' n' H' hle hO _ => ?_
 obtain ⟨z', t', h1, _⟩ := hO.len0
 dsimp only at h1
 subst h1
 exact hk _ _ n' H' hle hO
end
theorem JX (a b : List St) : AD (a ++ b) = AD a ++ AD b := by simp [E2]
theorem Ka {p : List St} {j : Nat} {x : St} (h : p[j]? = some x) : AD (Ay (p.take (j + 1))) = AD (Ay (p.take j)) ++ (if x.k = 13 then AD x.p else [encS x]) := by
 have e : p.take (j + 1) = p.take j ++ [x] := by rw [List.take_add_one, h]; rfl
 have e2 : ∀ a b : List St, Ay (a ++ b) = Ay a ++ Ay b := fun a b => by simp [Ay]
 rw [e, e2, JX]
 congr 1
 simp only [Ay, List.flatMap_cons, List.flatMap_nil, List.append_nil]
 split <;> rfl
theorem Tr (k o m : Int) (v : List Int) (p : List St) (hl : p.length ≤ 140737488355328) (h : ¬ (k = 13 ∧ (p.any fun q => decide (q.k = 13)) = true)) : APure Tryz.prog 91 [encS (.mk k o m v p)] (.tup [encS (.mk k o m v p), .bool false]) := by
 have hc := Iv p hl
 have hch := V6 (.mk k o m v p)
 generalize (p.any fun q => decide (q.k = 13)) = b at *
 rw [A7] at *
 generalize AD p = ep at *
 generalize v.map aI = va at *
 by_cases hk : k = 13
 ·have hb : b = false := by cases b; rfl; exact absurd ⟨hk, rfl⟩ h
  subst hb
  rw [decide_eq_true (by exact hk)] at hch
  
  refine A3 Tryz.func91 TR rfl fun n H hH => ?_
  repeat' (first | (simp -implicitDefEqProofs [Hl, GR, GI, En, I3, c91, -getElem?_pos, C9 JF, -BL, splice]) | (simp (disch := omega) only [AH]) | ((with_reducible refine ER 130 ?_); (refine' CallK.sfAt ?_ (hch.at_ _ _) ?_); (focus first | (with_reducible exact A0 _) | (simp [AK, AI, A1, A0]; done))) | ((with_reducible refine Al 131 ?_); (refine' CallP.sf ?_ (hc) ?_); (focus first | (with_reducible exact A0 _) | (simp [AK, AI, A1, A0]; done))) | (with_reducible first | refine A8 ?_ ?_ ?_ | exact AF | refine SameB.upd ?_ ?_ _ | assumption | refine A4 ?_ | refine KM.of ?_ | refine AG ?_ | refine A2 ?_ | refine AA ?_ | refine A5 ?_ | refine AJ ?_ | refine AB ?_ | intro _g _hg | refine AE ?_ ?_ | intro _hc) | omega)
  all_goals exact A1 _
 ·rw [decide_eq_false (by exact hk)] at hch
  
  refine A3 Tryz.func91 TR rfl fun n H hH => ?_
  repeat' (first | (simp -implicitDefEqProofs [Hl, GR, GI, En, I3, c91, -getElem?_pos, C9 JF, -BL, splice]) | (simp (disch := omega) only [AH]) | ((with_reducible refine ER 130 ?_); (refine' CallK.sfAt ?_ (hch.at_ _ _) ?_); (focus first | (with_reducible exact A0 _) | (simp [AK, AI, A1, A0]; done))) | ((with_reducible refine Al 131 ?_); (refine' CallP.sf ?_ (hc) ?_); (focus first | (with_reducible exact A0 _) | (simp [AK, AI, A1, A0]; done))) | (with_reducible first | refine A8 ?_ ?_ ?_ | exact AF | refine SameB.upd ?_ ?_ _ | assumption | refine A4 ?_ | refine KM.of ?_ | refine AG ?_ | refine A2 ?_ | refine AA ?_ | refine A5 ?_ | refine AJ ?_ | refine AB ?_ | intro _g _hg | refine AE ?_ ?_ | intro _hc) | omega)
  all_goals exact A1 _
theorem UU (o m : Int) (v : List Int) (p : List St) (hl : p.length ≤ 1000) (hsz : ∀ j, (AD (Ay (p.take j))).length ≤ 1000) (hpp : ∀ x ∈ p, x.p.length ≤ 1000) (h : (p.any fun q => decide (q.k = 13)) = true) : APure Tryz.prog 91 [encS (.mk 13 o m v p)] (.tup [encS (.mk 13 o m v (Ay p)), .bool true]) := by
 have hc := Iv p (by omega)
 have hch := V6 (.mk 13 o m v p)
 have hpl := Ao p
 rw [h] at hc
 rw [decide_eq_true (by rfl)] at hch
 rw [A7, A7] at *
 generalize v.map aI = va at *
 refine A3 Tryz.func91 TR rfl fun n H hH => ?_
 have _hb : True := trivial
 have _hO : Owns n H [] [⟨25, 5, .sl 0 [] .nil, []⟩] n H := (Owns.start hH).addNil _ _ _
 repeat' (first | (simp -implicitDefEqProofs [c91, I3, -getElem?_pos, C9 JF, -BL, hpl, splice, _hb]) | (simp (disch := omega) only [AH]) | ((with_reducible refine ER 130 ?_); (refine' CallK.sfAt ?_ (hch.at_ _ _) ?_); (focus first | (with_reducible exact A0 _) | (exact Owns.simC0 (by assumption)) | (exact Owns.simC1 (by assumption)) | (simp [AK, AI, A1, A0]; done))) | ((with_reducible refine Al 131 ?_); (refine' CallP.sf ?_ (hc) ?_); (focus first | (with_reducible exact A0 _) | (exact Owns.simC0 (by assumption)) | (exact Owns.simC1 (by assumption)) | (simp [AK, AI, A1, A0]; done))) | (with_reducible first | refine A8 ?_ ?_ ?_ | exact AF | refine SameB.upd ?_ ?_ _ | assumption | refine A2 ?_ | refine AA ?_) | ((with_reducible refine Ci (by assumption) (fun _g _hg _hO => ?_)); (have _hb := And.intro _hb _hO.boxF); dsimp only [Cr, C0, Co] at _hb) | ((with_reducible refine Cj (by assumption) (fun _g _hg _hO => ?_))) | ((with_reducible refine appKS.chk ?_); first | ((refine Owns.app (by assumption) (.inl rfl) (by first | (exact Owns.simL0 (by assumption)) | (exact Owns.simL1 (by assumption)) | (with_reducible exact A0 _) | assumption | (simp [AK, AI, A1, A0]; done)) ?_ ?_ (fun _x _n _H _hle _hO _hb => ?_)); rotate_left 2; dsimp only [Cr, C0, Co] at _hb) | ((refine Owns.app1 (by assumption) (.inl rfl) (by first | (exact Owns.simL0 (by assumption)) | (exact Owns.simL1 (by assumption)) | (with_reducible exact A0 _) | assumption | (simp [AK, AI, A1, A0]; done)) ?_ ?_ (fun _x _n _H _hle _hO _hb => ?_)); rotate_left 2; dsimp only [Cr, C0, Co] at _hb)) | (first | (with_reducible exact Owns.fit0 (by assumption)) | (with_reducible exact Owns.fit1 (by assumption))) | (with_reducible first | exact Owns.le (by assumption) | exact Owns.same (by assumption) | refine A4 ?_ | refine KM.of ?_ | refine AG ?_ | refine A2 ?_ | refine AA ?_ | refine A5 ?_ | refine AJ ?_ | refine AB ?_ | intro _g _hg | refine AE ?_ ?_ | intro _hc) | omega)
 rename_i g1 hg1 hO1 hb1
 have hgg : ∀ b ∈ [(g1, AObj.cells 25 [aI 13, aI o, aI m, .sl 1 va .ro, .sl 5 (AD p) .ro])], b.1 ≠ _g := by intro b hb; rw [List.mem_singleton] at hb; subst hb; show g1 ≠ _g; omega
 clear hb1
 refine LoopK.go (fun q st => ∃ (j z n' : Nat) (t : Tok) (H' : A6), j + q = p.length ∧ st = ⟨[(1, .ptr g1 0), (2, .ptr _g 0), (4, .fn 130 [] []), (5, .sl z (AD (Ay (p.take j))) t), (21, .sl 5 (AD p) .ro), (22, aI p.length), (23, aI j)], n', H'⟩ ∧
  Owns n H [(_g, .cells 25 [.int .i64 0, .int .i64 0, .int .i64 0, .sl 0 [] .nil, .sl 0 [] .nil]), (g1, .cells 25 [aI 13, aI o, aI m, .sl 1 va .ro, .sl 5 (AD p) .ro])] [⟨25, 5, .sl z (AD (Ay (p.take j))) t, AD (Ay (p.take j))⟩] n' H') p.length ⟨0, 0, _, .nil, _, by omega, rfl, _hO⟩ ?_
 clear _hO _hb hO1
 rintro q st ⟨j, z, n1, t, H1, hj, rfl, _hO⟩ J hJ
 have _hb := Owns.boxF _hO
 dsimp only [Cr, C0, Co] at _hb
 have hle := _hO.le
 by_cases hjl : j < p.length
 ·obtain ⟨x, hx⟩ : ∃ x, p[j]? = some x := ⟨_, List.getElem?_eq_getElem hjl⟩
  have hxe := CP hx
  have hjl' : (j : Int) < p.length := by omega
  have hxm := hpp x (List.mem_of_getElem? hx)
  have hstep := Ka hx
  have hs0 := hsz j
  have hs1 := hsz (j + 1)
  have hcx := V6 x
  obtain ⟨k', o', m', v', p'⟩ := x
  have hxpl := Ao p'
  simp only [St.p] at hxm
  by_cases hk : k' = 13
  ·subst hk
   rw [decide_eq_true (by rfl)] at hcx
   have hst : AD (Ay (p.take (j + 1))) = AD (Ay (p.take j)) ++ AD p' := hstep
   clear hstep
   rw [hst] at hs1
   rw [A7] at *
   generalize AD (Ay (p.take j)) = fj at *
   generalize AD p' = ep' at *
   generalize v'.map aI = vb at *
   
   repeat' (first | (simp -implicitDefEqProofs [En, GI, GR, -getElem?_pos, C9 JF, -BL, hxe, hjl', splice, _hb]) | (simp (disch := omega) only [AH]) | ((with_reducible refine appKS.chk ?_); refine Owns.appV (Owns.set0 (by assumption) (by simp; omega) _ _) (A0 _) (by rw [List.length_append] at hs1; omega) (by decide) (fun _z _t _n _H _hle _hO => ?_); have _hb := Owns.boxF _hO; dsimp only [Cr, C0, Co] at _hb) | ((with_reducible refine ER 130 ?_); (refine' CallK.sfAt ?_ (hcx.at_ _ _) ?_); (focus first | (with_reducible exact A0 _) | (exact Owns.simC0 (by assumption)) | (exact Owns.simC1 (by assumption)) | (simp [AK, AI, A1, A0]; done))) | (with_reducible first | refine A8 ?_ ?_ ?_ | exact AF | refine SameB.upd ?_ ?_ _ | assumption | refine A2 ?_ | refine AA ?_) | ((with_reducible refine Ci (by assumption) (fun _g _hg _hO => ?_)); (have _hb := And.intro _hb _hO.boxF); dsimp only [Cr, C0, Co] at _hb) | ((with_reducible refine Cj (by assumption) (fun _g _hg _hO => ?_))) | (first | (with_reducible exact Owns.fit0 (by assumption)) | (with_reducible exact Owns.fit1 (by assumption))) | (with_reducible first | exact Owns.le (by assumption) | exact Owns.same (by assumption) | refine A4 ?_ | refine KM.of ?_ | refine AG ?_ | refine A2 ?_ | refine AA ?_ | refine A5 ?_ | refine AJ ?_ | refine AB ?_ | intro _g _hg | refine AE ?_ ?_ | intro _hc) | omega)
   exact hJ (q - 1) _ (by omega) ⟨j + 1, _, _, _, _, by omega, by rw [hst] <;> rfl, by rw [hst]; exact _hO.dropBox⟩
  ·rw [decide_eq_false (by exact hk)] at hcx
   rw [if_neg (by exact hk)] at hstep
   rw [hstep] at hs1
   rw [A7] at *
   generalize AD (Ay (p.take j)) = fj at *
   generalize AD p' = ep' at *
   generalize v'.map aI = vb at *
   
   repeat' (first | (simp -implicitDefEqProofs [En, GI, GR, -getElem?_pos, C9 JF, -BL, hxe, hjl', splice, _hb]) | (simp (disch := omega) only [AH]) | ((with_reducible refine appKS.chk ?_); refine Owns.appV (by assumption) (A0 _) (by simp at hs1 ⊢; omega) (by decide) (fun _z _t _n _H _hle _hO => ?_); have _hb := Owns.boxF _hO; dsimp only [Cr, C0, Co] at _hb) | ((with_reducible refine ER 130 ?_); (refine' CallK.sfAt ?_ (hcx.at_ _ _) ?_); (focus first | (with_reducible exact A0 _) | (exact Owns.simC0 (by assumption)) | (exact Owns.simC1 (by assumption)) | (simp [AK, AI, A1, A0]; done))) | (with_reducible first | refine A8 ?_ ?_ ?_ | exact AF | refine SameB.upd ?_ ?_ _ | assumption | refine A2 ?_ | refine AA ?_) | ((with_reducible refine Ci (by first | assumption | (exact Owns.set0 (by assumption) (by simp <;> omega) _ _) | (exact Owns.set1 (by assumption) (by simp <;> omega) (by simp <;> omega) _ _)) (fun _g _hg _hO => ?_)); (have _hb := And.intro _hb _hO.boxF); dsimp only [Cr, C0, Co] at _hb) | ((with_reducible refine Cj (by first | assumption | (exact Owns.set0 (by assumption) (by simp <;> omega) _ _) | (exact Owns.set1 (by assumption) (by simp <;> omega) (by simp <;> omega) _ _)) (fun _g _hg _hO => ?_))) | (first | (with_reducible exact Owns.fit0 (by assumption)) | (with_reducible exact Owns.fit1 (by assumption))) | (with_reducible first | exact Owns.le (by assumption) | exact Owns.same (by assumption) | refine A4 ?_ | refine KM.of ?_ | refine AG ?_ | refine A2 ?_ | refine AA ?_ | refine A5 ?_ | refine AJ ?_ | refine AB ?_ | intro _g _hg | refine AE ?_ ?_ | intro _hc) | omega)
   exact hJ (q - 1) _ (by omega) ⟨j + 1, _, _, _, _, by omega, by rw [hstep] <;> rfl, by rw [hstep]; exact _hO.dropBox⟩
 ·have hjl' : ¬ (j : Int) < p.length := by omega
  rw [List.take_of_length_le (by omega)] at *
  generalize AD (Ay p) = fp at *
  
  have hsim : AI (.sl z fp t) (.sl 5 fp .ro) := _hO.sim0 (A0 _)
  repeat' (first | (simp -implicitDefEqProofs [En, Hl, -getElem?_pos, hjl', splice, _hb]) | (simp (disch := omega) only [AH]) | (with_reducible first | refine A8 ?_ ?_ ?_ | exact AF | refine SameB.upd ?_ ?_ _ | assumption | refine A2 ?_ | refine AA ?_) | ((with_reducible refine Ci (by assumption) (fun _g _hg _hO => ?_)); (have _hb := And.intro _hb _hO.boxF); dsimp only [Cr, C0, Co] at _hb) | ((with_reducible refine Cj (by assumption) (fun _g _hg _hO => ?_))) | ((with_reducible refine appKS.chk ?_); first | ((refine Owns.app (by assumption) (.inl rfl) (by first | (exact Owns.simL0 (by assumption)) | (exact Owns.simL1 (by assumption)) | (with_reducible exact A0 _) | assumption | (simp [AK, AI, A1, A0]; done)) ?_ ?_ (fun _x _n _H _hle _hO _hb => ?_)); rotate_left 2; dsimp only [Cr, C0, Co] at _hb) | ((refine Owns.app1 (by assumption) (.inl rfl) (by first | (exact Owns.simL0 (by assumption)) | (exact Owns.simL1 (by assumption)) | (with_reducible exact A0 _) | assumption | (simp [AK, AI, A1, A0]; done)) ?_ ?_ (fun _x _n _H _hle _hO _hb => ?_)); rotate_left 2; dsimp only [Cr, C0, Co] at _hb)) | (first | (with_reducible exact Owns.fit0 (by assumption)) | (with_reducible exact Owns.fit1 (by assumption))) | (with_reducible first | exact Owns.le (by assumption) | exact Owns.same (by assumption) | refine A4 ?_ | refine KM.of ?_ | refine AG ?_ | refine A2 ?_ | refine AA ?_ | refine A5 ?_ | refine AJ ?_ | refine AB ?_ | intro _g _hg | refine AE ?_ ?_ | intro _hc) | omega)
  all_goals exact DO (AC (CA (AC (A1 _) (AC (A1 _) (AC (A1 _) (AC (A1 _) (AC hsim (A0 _))))))) (A0 _))
mutual
def MtS (H : A6) : St → AV → List Nat → Prop
 | .mk k o n v p, x, bs => (p = [] ∧ bs = [] ∧ x = .agg [aI k, aI o, aI n, N6 v, .sl 5 [] .ro]) ∨
  ∃ g xs bs', p ≠ [] ∧ bs = g :: bs' ∧ x = .agg [aI k, aI o, aI n, N6 v, .slg 5 g p.length] ∧ H g = some (.grow 25 (Ae xs)) ∧ MtP H p xs bs'
def MtP (H : A6) : List St → List AV → List Nat → Prop
 | [], xs, bs => xs = [] ∧ bs = []
 | s :: r, xs, bs => ∃ x xs' b c, xs = x :: xs' ∧ bs = b ++ c ∧ MtS H s x b ∧ MtP H r xs' c
end
mutual
theorem MtS.keep {H H' : A6} : ∀ {s : St} {x : AV} {bs : List Nat}, (∀ g ∈ bs, H' g = H g) → MtS H s x bs → MtS H' s x bs
 | .mk k o n v p, x, bs, hk, h => by
  simp only [MtS] at h ⊢
  rcases h with h | ⟨g, xs, bs', h0, rfl, h1, h2, h3⟩
  ·exact .inl h
  ·exact .inr ⟨g, xs, bs', h0, rfl, h1, by rw [hk g List.mem_cons_self]; exact h2, MtP.keep (fun q hq => hk q (List.mem_cons_of_mem _ hq)) h3⟩
theorem MtP.keep {H H' : A6} : ∀ {p : List St} {xs : List AV} {bs : List Nat}, (∀ g ∈ bs, H' g = H g) → MtP H p xs bs → MtP H' p xs bs
 | [], _, _, _, h => by simp only [MtP] at h ⊢; exact h
 | s :: r, _, _, hk, h => by
  simp only [MtP] at h ⊢
  obtain ⟨x, xs', b, c, rfl, rfl, h1, h2⟩ := h
  exact ⟨x, xs', b, c, rfl, rfl, MtS.keep (fun g hg => hk g (List.mem_append_left _ hg)) h1, MtP.keep (fun g hg => hk g (List.mem_append_right _ hg)) h2⟩
end
theorem MtP.app {H : A6} : ∀ {p q : List St} {xs ys : List AV} {b c : List Nat}, MtP H p xs b → MtP H q ys c → MtP H (p ++ q) (xs ++ ys) (b ++ c)
 | [], _, _, _, _, _, h, k => by simp only [MtP] at h; obtain ⟨rfl, rfl⟩ := h; exact k
 | s :: r, _, _, _, _, _, h, k => by
  simp only [MtP] at h
  obtain ⟨x, xs', b, c, rfl, rfl, h1, h2⟩ := h
  exact ⟨x, _, b, _, rfl, by rw [List.append_assoc], h1, MtP.app h2 k⟩
theorem MtP.one {H : A6} {s : St} {x : AV} {b : List Nat} (h : MtS H s x b) : MtP H [s] [x] b := ⟨x, [], b, [], rfl, by simp, h, rfl, rfl⟩
theorem MtP.len {H : A6} : ∀ {p : List St} {xs : List AV} {b : List Nat}, MtP H p xs b → xs.length = p.length
 | [], _, _, h => by simp only [MtP] at h; rw [h.1]; rfl
 | s :: r, _, _, h => by
  simp only [MtP] at h
  obtain ⟨x, xs', b, c, rfl, rfl, h1, h2⟩ := h
  simp [MtP.len h2]
theorem MtS.cells {H : A6} {s : St} {x : AV} {b : List Nat} (h : MtS H s x b) : ∃ a1 a2 a3 a4 a5, x = .agg [a1, a2, a3, a4, a5] ∧ ones [a1, a2, a3, a4, a5] := by
 obtain ⟨k, o, n, v, p⟩ := s
 simp only [MtS] at h
 rcases h with ⟨_, _, rfl⟩ | ⟨g, xs, bs', h0, rfl, rfl, h2, h3⟩
 ·exact ⟨_, _, _, _, _, rfl, by simp [ones, AV.one]⟩
 ·exact ⟨_, _, _, _, _, rfl, by simp [ones, AV.one]⟩
theorem MtP.flat {H : A6} : ∀ {p : List St} {xs : List AV} {b : List Nat}, MtP H p xs b → (Ae xs).length = p.length * 5
 | [], _, _, h => by simp only [MtP] at h; rw [h.1]; rfl
 | s :: r, _, _, h => by
  simp only [MtP] at h
  obtain ⟨x, xs', b, c, rfl, rfl, h1, h2⟩ := h
  obtain ⟨a1, a2, a3, a4, a5, rfl, _⟩ := h1.cells
  have := MtP.flat h2
  simp only [Ae, List.flatMap_cons, List.length_append, AV.cells, List.length_cons, List.length_nil] at this ⊢
  rw [this]; omega
mutual
def TA : St → Prop
 | .mk _ _ _ v p => v.length ≤ 1000000 ∧ p.length ≤ 1000 ∧ Vc p
def Vc : List St → Prop
 | [] => True
 | s :: r => TA s ∧ Vc r
end
theorem P9 : ∀ {p : List St}, Vc p → ∀ s ∈ p, TA s
 | [], _, s, h => by cases h
 | x :: r, h, s, hs => by
  rcases List.mem_cons.1 hs with e | hs
  ·rw [e]; exact h.1
  ·exact P9 h.2 s hs
abbrev Q6 (s : St) (n : Nat) (H : A6) : DP := fun r n' H' => SameB n H H' ∧ ∃ bs, MtS H' s r bs ∧ bs.Nodup ∧ ∀ g ∈ bs, n ≤ g ∧ g < n'
theorem TW {l : List AV} {n n' e : Nat} {H H' : A6} {r : AV} (h : Qf e l n H r n' H') : SameB n H H' ∧ ∃ z t, r = .sl z l t ∧ AI r (.sl 1 l .ro) := by
 refine ⟨h.1, ?_⟩
 rcases h.2 with ⟨rfl, rfl⟩ | ⟨g, _, _, rfl, _⟩
 ·exact ⟨_, _, rfl, CD⟩
 ·exact ⟨_, _, rfl, 1, l, .ro, rfl, .inl rfl, .inl rfl, A0 l⟩
theorem MtS.form {H : A6} {k o n : Int} {v : List Int} {p : List St} {x : AV} {b : List Nat} (h : MtS H (.mk k o n v p) x b) : ∃ a, x = .agg [aI k, aI o, aI n, N6 v, a] ∧ a.one = true := by
 simp only [MtS] at h
 rcases h with ⟨_, _, rfl⟩ | ⟨g, xs, bs', h0, rfl, rfl, h2, h3⟩ <;> exact ⟨_, rfl, rfl⟩
theorem Ux (s : St) : TA s → ∀ (n : Nat) (H : A6), ACalls Tryz.prog 66 [encS s] n H (Q6 s n H) := by
 refine St.ind (Q := fun s => TA s → ∀ (n : Nat) (H : A6), ACalls Tryz.prog 66 [encS s] n H (Q6 s n H)) ?_ s
 intro k o m v p ih hf n H
 have hpl := Ao p
 obtain ⟨hv, hp, hpp⟩ := hf
 generalize hR : Q6 (.mk k o m v p) n H = R
 rw [A7]
 refine Bi Tryz.func66 Wv rfl fun hs => ?_
 repeat' (first | (simp -implicitDefEqProofs [c66, -getElem?_pos, hpl, splice]) | (simp (disch := omega) only [AH]) | (with_reducible first | refine A8 ?_ ?_ ?_ | exact AF | assumption | refine A4 ?_ | refine KM.of ?_ | refine AG ?_ | refine A2 ?_ | refine AA ?_ | refine A5 ?_ | refine AJ ?_ | refine AB ?_ | intro _g _hg | refine AE ?_ ?_ | intro _hc) | omega)
 rename_i g1 hg1
 rename Nat => g2
 refine ⟨_, UD (v.map aI) _ _ (by simp; omega), ?_⟩
 rintro r n1 H1 hle hsup hpost
 obtain ⟨hsm, z, t, rfl, hsim⟩ := TW hpost
 clear hpost
 dsimp only at hsm hle
 have q1 : H1 g1 = some (.cells 25 [aI k, aI o, aI m, N6 v, .sl 5 (AD p) .ro]) := by rw [hsm g1 (by omega)]; simp (disch := omega) only [upd_ne, Ax]
 have q2 : H1 g2 = some (.cells 25 [.int .i64 0, .int .i64 0, .int .i64 0, .sl 0 [] .nil, .sl 0 [] .nil]) := by rw [hsm g2 (by omega)]; simp (disch := omega) only [upd_ne, Ax]
 have hsb : SameB n H H1 := fun q hq => by rw [hsm q (by omega)]; simp (disch := omega) only [upd_ne]
 clear hsm
 have hng : g2 ≠ g1 := by omega
 unfold N6 at *
 generalize hva : v.map aI = va at *
 
 repeat' (first | (simp -implicitDefEqProofs [-getElem?_pos, q1, q2, hpl, splice]) | (simp (disch := omega) only [AH]) | (with_reducible first | refine A8 ?_ ?_ ?_ | exact AF | assumption | refine A4 ?_ | refine KM.of ?_ | refine AG ?_ | refine A2 ?_ | refine AA ?_ | refine A5 ?_ | refine AJ ?_ | refine AB ?_ | intro _g _hg | refine AE ?_ ?_ | intro _hc) | omega)
 generalize hHb : upd H1 g1 _ = Hb
 have r1 : Hb g1 = some (.cells 25 [aI k, aI o, aI m, .sl z va t, .sl 5 (AD p) .ro]) := by rw [← hHb, Ax]
 have r2 : Hb g2 = some (.cells 25 [.int .i64 0, .int .i64 0, .int .i64 0, .sl 0 [] .nil, .sl 0 [] .nil]) := by rw [← hHb, upd_ne hng]; exact q2
 have rs : SameB n H Hb := fun q hq => by rw [← hHb, upd_ne (by omega)]; exact hsb q hq
 have rv : ∀ a, n1 ≤ a → Hb a = none := fun a ha => by rw [← hHb, upd_ne (by omega)]; exact hsup a ha
 clear hHb q1 q2 hsb
 refine LoopK.go (fun q st => ∃ (j n' : Nat) (out : AV) (H' : A6) (xs : List AV) (bs : List Nat), j + q = p.length ∧ st = ⟨[(1, .ptr g1 0), (2, .ptr g2 0), (3, out), (11, .sl 5 (AD p) .ro), (12, aI p.length), (13, aI j)], n', H'⟩ ∧
  ((j = 0 ∧ out = .sl 0 [] .nil ∧ bs = [] ∧ xs = []) ∨ ∃ g bs', 0 < j ∧ bs = g :: bs' ∧ out = .slg 5 g j ∧ H' g = some (.grow 25 (Ae xs)) ∧ MtP H' (p.take j) xs bs') ∧ n1 ≤ n' ∧ (∀ g ∈ bs, n1 ≤ g ∧ g < n') ∧ bs.Nodup ∧ SameB n1 Hb H' ∧ ∀ a, n' ≤ a → H' a = none) p.length ⟨0, n1, _, Hb, [], [], by omega, rfl, .inl ⟨rfl, rfl, rfl, rfl⟩, Nat.le_refl _, by simp, List.nodup_nil, SameB.rfl_ _ _, rv⟩ ?_
 rintro q st ⟨j, n2, out, H2, xs, bs, hj, rfl, hI, hn2, hbs, hnd, hsm, hvn⟩ J hJ
 have u1 := (hsm g1 (by omega)).trans r1
 have u2 := (hsm g2 (by omega)).trans r2
 by_cases hjl : j < p.length
 ·obtain ⟨x, hx⟩ : ∃ x, p[j]? = some x := ⟨_, List.getElem?_eq_getElem hjl⟩
  have hxe := CP hx
  have hjl' : (j : Int) < p.length := by omega
  have hxm := List.mem_of_getElem? hx
  have ihx := ih x hxm (P9 hpp x hxm)
  have htk : p.take (j + 1) = p.take j ++ [x] := by rw [List.take_add_one, hx]; rfl
  obtain ⟨k', o', m', v', p'⟩ := x
  rw [A7] at hxe ihx
  
  repeat' (first | (simp -implicitDefEqProofs [Hy, SO, -getElem?_pos, u1, u2, hjl', hxe, splice]) | (simp (disch := omega) only [AH]) | (with_reducible first | refine A8 ?_ ?_ ?_ | exact AF | assumption | refine A4 ?_ | refine KM.of ?_ | refine AG ?_ | refine A2 ?_ | refine AA ?_ | refine A5 ?_ | refine AJ ?_ | refine AB ?_ | intro _g _hg | refine AE ?_ ?_ | intro _hc) | omega)
  rename Nat => g5
  refine ⟨_, ihx _ _, ?_⟩
  rintro r n3 H3 hle3 hsup3 ⟨hs3, b2, m2, nd2, rg2⟩
  obtain ⟨a5, rfl, ha5⟩ := m2.form
  dsimp only at hs3 hle3 rg2
  have hs3' : ∀ q, q < n2 → H3 q = H2 q := fun q hq => by rw [hs3 q (by omega)]; simp (disch := omega) only [upd_ne]
  clear hs3
  repeat' (first | (simp -implicitDefEqProofs [-getElem?_pos, ha5, splice]) | (simp (disch := omega) only [AH]) | (with_reducible first | refine A8 ?_ ?_ ?_ | exact AF | assumption | refine A4 ?_ | refine KM.of ?_ | refine AG ?_ | refine A2 ?_ | refine AA ?_ | refine A5 ?_ | refine AJ ?_ | refine AB ?_ | intro _g _hg | refine AE ?_ ?_ | intro _hc) | omega)
  ·exact ha5
  rename Nat => g9
  rcases hI with ⟨rfl, rfl, rfl, rfl⟩ | ⟨g0, bs', hj0, rfl, rfl, hg0, hP⟩
  ·refine Sa (.inl rfl) (A0 _) (by simp) (by simp) (by simp [maxLen]) (fun g hg => ?_)
   
   repeat' (first | (simp -implicitDefEqProofs [KL, -getElem?_pos]) | (simp (disch := omega) only [AH]) | (with_reducible first | refine A8 ?_ ?_ ?_ | exact AF | assumption | refine A4 ?_ | refine KM.of ?_ | refine AG ?_ | refine A2 ?_ | refine AA ?_ | refine A5 ?_ | refine AJ ?_ | refine AB ?_ | intro _g _hg | refine AE ?_ ?_ | intro _hc) | omega)
   refine hJ (q - 1) _ (by omega) ⟨1, _, _, _, [.agg [aI k', aI o', aI m', N6 v', a5]], g :: b2, by omega, rfl, .inr ⟨g, b2, by omega, rfl, rfl, by rw [Ax]; rfl, ?_⟩, by omega, ?_, ?_, ?_, fun a ha => by simp (disch := omega) only [upd_ne]; exact hsup3 a (by omega)⟩
   ·rw [htk]
    refine MtP.one (m2.keep fun q hq => ?_)
    have := rg2 q hq
    simp (disch := omega) only [upd_ne]
   ·intro q hq
    rcases List.mem_cons.1 hq with rfl | hq
    ·omega
    ·have := rg2 q hq; omega
   ·refine List.nodup_cons.2 ⟨fun hq => ?_, nd2⟩
    have := rg2 g hq; omega
   ·intro q hq
    simp (disch := omega) only [upd_ne]
    rw [hs3' q (by omega)]; exact hsm q hq
  ·have hg0b := hbs g0 List.mem_cons_self
   have hnd' := List.nodup_cons.1 hnd
   have hfl := hP.flat
   have hxl := hP.len
   have htl : (p.take j).length = j := by simp; omega
   refine Sf (cs := Ae xs) (.inl rfl) (A0 _) (by rw [upd_ne (by omega), hs3' g0 (by omega)]; exact hg0) (by rw [hfl, htl]) (by simp; omega) (by simp [maxLen]; omega) (fun g n4 hg hn4 hl => ?_)
   
   repeat' (first | (simp -implicitDefEqProofs [KL, -getElem?_pos]) | (simp (disch := omega) only [AH]) | (with_reducible first | refine A8 ?_ ?_ ?_ | exact AF | assumption | refine A4 ?_ | refine KM.of ?_ | refine AG ?_ | refine A2 ?_ | refine AA ?_ | refine A5 ?_ | refine AJ ?_ | refine AB ?_ | intro _g _hg | refine AE ?_ ?_ | intro _hc) | omega)
   have hnew : ∀ q, q < n3 → q ≠ g0 → upd (upd (upd H3 g9 (some (.row 25 1))) g0 none) g (some (.grow 25 (Ae xs ++ Ae [.agg [aI k', aI o', aI m', N6 v', a5]]))) q = H3 q := fun q hq hne => by
    have : q ≠ g := by rcases hg with rfl | hg; exact hne; omega
    rw [upd_ne this, upd_ne hne, upd_ne (by omega)]
   have hfa : Ae (xs ++ [.agg [aI k', aI o', aI m', N6 v', a5]]) = Ae xs ++ Ae [.agg [aI k', aI o', aI m', N6 v', a5]] := by simp [Ae]
   refine hJ (q - 1) _ (by omega) ⟨j + 1, _, _, _, xs ++ [.agg [aI k', aI o', aI m', N6 v', a5]], g :: (bs' ++ b2), by omega, rfl, .inr ⟨g, bs' ++ b2, by omega, rfl, rfl, by rw [Ax, hfa]; rfl, ?_⟩, ?_, ?_, ?_, ?_, fun a ha => by rw [upd_ne (by omega), upd_ne (by omega), upd_ne (by omega)]; exact hsup3 a (by omega)⟩
   ·rw [htk]
    refine (hP.keep fun q hq => ?_).app (MtP.one (m2.keep fun q hq => ?_))
    ·have h1 := hbs q (List.mem_cons_of_mem _ hq)
     exact (hnew q (by omega) (fun e => by subst e; exact hnd'.1 hq)).trans (hs3' q (by omega))
    ·have h1 := rg2 q hq
     exact hnew q (by omega) (by omega)
   ·omega
   ·intro q hq
    rcases List.mem_cons.1 hq with rfl | hq
    ·rcases hg with rfl | hg <;> omega
    ·rcases List.mem_append.1 hq with hq | hq
     ·have := hbs q (List.mem_cons_of_mem _ hq); omega
     ·have := rg2 q hq; omega
   ·refine List.nodup_cons.2 ⟨fun hq => ?_, List.nodup_append.2 ⟨hnd'.2, nd2, fun a ha b hb => ?_⟩⟩
    ·rcases List.mem_append.1 hq with hq | hq
     ·rcases hg with rfl | hg
      ·exact hnd'.1 hq
      ·have := hbs g (List.mem_cons_of_mem _ hq); omega
     ·have := rg2 g hq
      rcases hg with rfl | hg <;> omega
    ·have h1 := hbs a (List.mem_cons_of_mem _ ha)
     have h2 := rg2 b hb
     omega
   ·intro q hq
    exact (hnew q (by omega) (by omega)).trans ((hs3' q (by omega)).trans (hsm q hq))
 ·have hjl' : ¬ (j : Int) < p.length := by omega
  have hjp : j = p.length := by omega
  rw [List.take_of_length_le (by omega)] at hI
  have hne : ∀ q ∈ bs, q ≠ g1 ∧ q ≠ g2 := fun q hq => by have := hbs q hq; omega
  have hsim' : AI (.sl z va t) (.sl 1 va .ro) := hsim
  subst hR
  rcases hI with ⟨rfl, rfl, rfl, rfl⟩ | ⟨g0, bs', hj0, rfl, rfl, hg0, hP⟩
  ·have hp0 : p = [] := List.length_eq_zero_iff.1 hjp.symm
   subst hp0
   
   repeat' (first | (simp -implicitDefEqProofs [Hy, Kc, -getElem?_pos, u1, u2, hng, splice]) | (simp (disch := omega) only [AH]) | (with_reducible first | refine A8 ?_ ?_ ?_ | exact AF | assumption | refine A4 ?_ | refine KM.of ?_ | refine AG ?_ | refine A2 ?_ | refine AA ?_ | refine A5 ?_ | refine AJ ?_ | refine AB ?_ | intro _g _hg | refine AE ?_ ?_ | intro _hc) | omega)
   refine ⟨.agg [aI k, aI o, aI m, .sl 1 va .ro, .sl 5 [] .ro], n2, _, ⟨.agg [aI k, aI o, aI m, .sl z va t, .sl 0 [] .nil], by simp [CB, CQ, Ew, BO, get, Ax, part], ?_⟩, by omega, Nat.le_refl _, fun a ha => by simp (disch := omega) only [upd_ne]; exact hvn a ha, SameB.rfl_ _ _, fun q hq => ?_, [], .inl ⟨rfl, rfl, by rw [← hva]⟩, List.nodup_nil, by simp⟩
   ·exact CA (AC (A1 _) (AC (A1 _) (AC (A1 _) (AC hsim' (AC CD (A0 _))))))
   ·simp (disch := omega) only [upd_ne]
    exact (hsm q (by omega)).trans (rs q hq)
  ·have hfit : BQ none (.slg 5 g0 j) := by simp [BQ, AV.fits, ones, AV.cells, AV.one]
   have hp0 : p ≠ [] := fun e => by rw [e] at hjp; simp at hjp; omega
   
   repeat' (first | (simp -implicitDefEqProofs [Hy, Kc, -getElem?_pos, u1, u2, hng, hjl', hfit, splice]) | (simp (disch := omega) only [AH]) | (with_reducible first | refine A8 ?_ ?_ ?_ | exact AF | assumption | refine A4 ?_ | refine KM.of ?_ | refine AG ?_ | refine A2 ?_ | refine AA ?_ | refine A5 ?_ | refine AJ ?_ | refine AB ?_ | intro _g _hg | refine AE ?_ ?_ | intro _hc) | omega)
   have hkp : ∀ q ∈ g0 :: bs', upd (upd H2 g1 (some (.cells 25 [aI k, aI o, aI m, .sl z va t, .slg 5 g0 j]))) g2 (some (.cells 25 [aI k, aI o, aI m, .sl z va t, .slg 5 g0 j])) q = H2 q := fun q hq => by
    have := hne q hq
    rw [upd_ne this.2, upd_ne this.1]
   refine ⟨.agg [aI k, aI o, aI m, .sl 1 va .ro, .slg 5 g0 j], n2, _, ⟨.agg [aI k, aI o, aI m, .sl z va t, .slg 5 g0 j], by simp [CB, CQ, Ew, BO, get, Ax, part], ?_⟩, by omega, Nat.le_refl _, fun a ha => by simp (disch := omega) only [upd_ne]; exact hvn a ha, SameB.rfl_ _ _, fun q hq => ?_, g0 :: bs', .inr ⟨g0, xs, bs', hp0, rfl, by rw [← hva, hjp], (hkp g0 List.mem_cons_self).trans hg0, hP.keep fun q hq => hkp q (List.mem_cons_of_mem _ hq)⟩, hnd, fun q hq => by have := hbs q hq; omega⟩
   ·exact CA (AC (A1 _) (AC (A1 _) (AC (A1 _) (AC hsim' (AC (A1 _) (A0 _))))))
   ·simp (disch := omega) only [upd_ne]
    exact (hsm q (by omega)).trans (rs q hq)
end Go.Proofs.YtjdccdelcnmocaaGreatDoor

/- Numbers in texts: what is written is what is read; no condition. -/
import Derived.Test.YtecpfmhminkalaaGreatDoorMrH
import Derived.Lib.AtoiAllCases
import Derived.Lib.ItoaLen
import Derived.Lib.Split
import Derived.Lib.SplitLaws
import Derived.Test.YtecpfmhminkalaaGreatDoorMrI
import Derived.Lib.IndexMore
set_option linter.all false
set_option linter.unusedSimpArgs false
set_option linter.unusedVariables false
namespace Go.Proofs.YtecpfmhminkalaaGreatDoor
def isDig (c : UInt8) : Bool := decide (48 ≤ c.toNat ∧ c.toNat ≤ 57)
def natV (acc : Nat) : Str → Nat
  | [] => acc
  | c :: r => natV (10 * acc + (c.toNat - 48)) r
theorem natV_snoc (c : UInt8) (l : Str) : ∀ acc : Nat, natV acc (l ++ [c]) = 10 * natV acc l + (c.toNat - 48) := by
  induction l with
  | nil => intro acc; rfl
  | cons x l ih => intro acc; exact ih _
theorem natV_ge (l : Str) : ∀ acc : Nat, acc ≤ natV acc l := by
  induction l with
  | nil => intro acc; exact Nat.le_refl _
  | cons x l ih =>
    intro acc
    have h2 : acc ≤ 10 * acc + (x.toNat - 48) := by omega
    exact Nat.le_trans h2 (ih _)
theorem dig_fin : ∀ d : Fin 10, (UInt8.ofNat (48 + d.val)).toNat = 48 + d.val := by decide
theorem dig_nat {d : Nat} (h : d < 10) : (UInt8.ofNat (48 + d)).toNat = 48 + d := by
  have e := dig_fin ⟨d, h⟩
  simp only at e
  exact e
theorem dig_is {d : Nat} (h : d < 10) : isDig (UInt8.ofNat (48 + d)) = true := by
  have e := dig_nat h
  unfold isDig
  rw [e]
  exact decide_eq_true (by omega)
theorem dec_digits (u : Nat) : ∀ c ∈ Lib.decDigits u, isDig c = true := by
  induction u using Nat.strongRecOn with
  | _ u ih =>
    intro c hc
    rw [Lib.decDigits] at hc
    split at hc
    · rw [List.mem_singleton.1 hc]
      exact dig_is (by omega)
    · rcases List.mem_append.1 hc with h | h
      · exact ih _ (by omega) c h
      · rw [List.mem_singleton.1 h]
        exact dig_is (by omega)
theorem dig_val {c : UInt8} {d : Nat} (h : c.toNat = 48 + d) (acc : Nat) : natV acc [c] = 10 * acc + d ∧ ∀ l : Str, natV acc (l ++ [c]) = 10 * natV acc l + d := by
  constructor
  · show 10 * acc + (c.toNat - 48) = _
    rw [h]; omega
  · intro l; rw [natV_snoc, h]; omega
theorem natV_dec (u : Nat) : natV 0 (Lib.decDigits u) = u := by
  induction u using Nat.strongRecOn with
  | _ u ih =>
    rw [Lib.decDigits]
    split
    · rename_i h0
      have e := (dig_val (dig_nat (d := u) h0) 0).1
      generalize UInt8.ofNat (48 + u) = c at e ⊢
      rw [e]; omega
    · rename_i h0
      have e := (dig_val (dig_nat (d := u % 10) (by omega)) 0).2 (Lib.decDigits (u / 10))
      have e2 := ih (u / 10) (by omega)
      generalize UInt8.ofNat (48 + u % 10) = c at e ⊢
      rw [e, e2]; omega
theorem dec_ne (u : Nat) : Lib.decDigits u ≠ [] := by
  intro h
  have := Lib.decDigits_length u
  rw [h] at this
  have := Lib.nDigits_pos u
  simp at *; omega
theorem nDigits_le : ∀ (k u : Nat), u < 10 ^ (k + 1) → Lib.nDigits u ≤ k + 1
  | 0, u, h => by rw [Lib.nDigits_small (by omega)]; omega
  | k + 1, u, h => by
    by_cases c : u < 10
    · rw [Lib.nDigits_small c]; omega
    · rw [Lib.nDigits_big c]
      have := nDigits_le k (u / 10) (by rw [Nat.pow_succ] at h; omega)
      omega
theorem dec_nine (u : Nat) : (Lib.decDigits u).length ≤ 9 ↔ u ≤ 999999999 := by
  rw [Lib.decDigits_length]
  constructor
  · intro h
    have h1 := Lib.lt_pow_nDigits u
    have h2 : 10 ^ Lib.nDigits u ≤ 10 ^ 9 := Nat.pow_le_pow_right (by omega) h
    omega
  · intro h
    exact nDigits_le 8 u (by omega)
theorem parse_dig (l : Str) (hl : ∀ c ∈ l, isDig c = true) : ∀ acc : Nat, natV acc l < 1844674407370955162 → Lib.parseUint10 acc l = .ok (natV acc l) := by
  induction l with
  | nil => intro acc _; rfl
  | cons c r ih =>
    intro acc hb
    have hc := hl c List.mem_cons_self
    unfold isDig at hc
    simp only [decide_eq_true_eq] at hc
    have e : natV acc (c :: r) = natV (10 * acc + (c.toNat - 48)) r := rfl
    rw [e] at hb ⊢
    have hg := natV_ge r (10 * acc + (c.toNat - 48))
    have hi := ih (fun x hx => hl x (List.mem_cons_of_mem _ hx)) (10 * acc + (c.toNat - 48)) hb
    rw [Lib.parseUint10, if_pos hc, if_neg (by omega), if_neg (by omega), Nat.mul_comm acc 10]
    exact hi
theorem mag_dec {u : Nat} (h : u ≤ 999999999) : Lib.parseMag (Lib.decDigits u) = .ok u := by
  unfold Lib.parseMag
  rw [if_neg (dec_ne u), parse_dig _ (dec_digits u) 0 (by rw [natV_dec]; omega), natV_dec]
theorem atoi_itoa {n : Int} (h : -999999999 ≤ n ∧ n ≤ 999999999) : Lib.atoiAll (Lib.itoa n) = .ok n := by
  by_cases c : n < 0
  · obtain ⟨u, rfl⟩ : ∃ u : Nat, n = -(u : Int) := ⟨n.natAbs, by omega⟩
    rw [Lib.itoa_neg u (by omega), Lib.atoiAll_minus, mag_dec (by omega)]
    simp [Lib.signed]; omega
  · obtain ⟨u, rfl⟩ : ∃ u : Nat, n = (u : Int) := ⟨n.toNat, by omega⟩
    rw [Lib.itoa_nonneg]
    obtain ⟨d, l, e⟩ := List.exists_cons_of_ne_nil (dec_ne u)
    have hd := dec_digits u d (by rw [e]; exact List.mem_cons_self)
    unfold isDig at hd
    simp only [decide_eq_true_eq] at hd
    have hm := mag_dec (u := u) (by omega)
    rw [e] at hm ⊢
    rw [Lib.atoiAll_plain d l (by omega) (by omega), hm]
    simp [Lib.signless]; omega
/-- a number in a text, and whether it is written as numbers are -/
def numI (s : Str) : Int × Bool := match Lib.atoiAll s with
  | .ok v => (v, decide (Lib.itoa v = s) && decide ((Lib.trimPrefix s [45]).length ≤ 9))
  | .range => (Lib.atoiSat s, false)
  | _ => (0, false)
theorem trim_itoa (n : Int) : Lib.trimPrefix (Lib.itoa n) [45] = Lib.decDigits n.natAbs := by
  by_cases c : n < 0
  · obtain ⟨u, rfl⟩ : ∃ u : Nat, n = -(u : Int) := ⟨n.natAbs, by omega⟩
    rw [Lib.itoa_neg u (by omega)]
    simp [Lib.trimPrefix, Lib.hasPrefix]
  · obtain ⟨u, rfl⟩ : ∃ u : Nat, n = (u : Int) := ⟨n.toNat, by omega⟩
    rw [Lib.itoa_nonneg]
    obtain ⟨d, l, e⟩ := List.exists_cons_of_ne_nil (dec_ne u)
    have hd := dec_digits u d (by rw [e]; exact List.mem_cons_self)
    unfold isDig at hd
    simp only [decide_eq_true_eq] at hd
    have hne : ¬ (45 : UInt8) = d := by rintro rfl; revert hd; decide
    simp [Lib.trimPrefix, Lib.hasPrefix, e, hne]
theorem num_itoa {n : Int} (h : -999999999 ≤ n ∧ n ≤ 999999999) : numI (Lib.itoa n) = (n, true) := by
  unfold numI
  rw [atoi_itoa h]
  simp only [trim_itoa, decide_true, Bool.true_and]
  rw [decide_eq_true ((dec_nine _).2 (by omega))]
theorem num_ok {s : Str} (h : (numI s).2 = true) : Lib.itoa (numI s).1 = s ∧ -999999999 ≤ (numI s).1 ∧ (numI s).1 ≤ 999999999 := by
  unfold numI at h ⊢
  split at h
  · rename_i v hv
    simp only [Bool.and_eq_true, decide_eq_true_eq] at h
    simp only [hv]
    obtain ⟨h1, h2⟩ := h
    rw [← h1, trim_itoa, dec_nine] at h2
    exact ⟨h1, by omega, by omega⟩
  · cases h
  · cases h
/-- the same, as it is specified -/
def numR (s : Str) : Int × Bool :=
  let f := if s.head? = some 45 then 1 else 0
  if (s.drop f).all isDig = true ∧ (s.drop f).length ≤ 9 then
    let n : Int := if f = 1 then -(natV 0 (s.drop f) : Int) else natV 0 (s.drop f)
    (n, decide (f < s.length) && decide (Lib.itoa n = s))
  else (0, false)
theorem itoa_from (n : Int) : (Lib.itoa n).drop (if (Lib.itoa n).head? = some 45 then 1 else 0) = Lib.decDigits n.natAbs ∧ ((Lib.itoa n).head? = some 45 ↔ n < 0) := by
  by_cases c : n < 0
  · obtain ⟨u, rfl⟩ : ∃ u : Nat, n = -(u : Int) := ⟨n.natAbs, by omega⟩
    rw [Lib.itoa_neg u (by omega)]
    simp; omega
  · obtain ⟨u, rfl⟩ : ∃ u : Nat, n = (u : Int) := ⟨n.toNat, by omega⟩
    rw [Lib.itoa_nonneg]
    obtain ⟨d, l, e⟩ := List.exists_cons_of_ne_nil (dec_ne u)
    have hd := dec_digits u d (by rw [e]; exact List.mem_cons_self)
    unfold isDig at hd
    simp only [decide_eq_true_eq] at hd
    have hne : ¬ d = (45 : UInt8) := by rintro rfl; revert hd; decide
    have e2 : (u : Int).natAbs = u := by omega
    rw [e2, e]
    simp [hne]
theorem natV_small (l : Str) (hl : ∀ c ∈ l, isDig c = true) : ∀ acc : Nat, natV acc l < (acc + 1) * 10 ^ l.length := by
  induction l with
  | nil => intro acc; show acc < _; simp
  | cons c r ih =>
    intro acc
    have hc := hl c List.mem_cons_self
    unfold isDig at hc
    simp only [decide_eq_true_eq] at hc
    have h1 := ih (fun x hx => hl x (List.mem_cons_of_mem _ hx)) (10 * acc + (c.toNat - 48))
    have e : natV acc (c :: r) = natV (10 * acc + (c.toNat - 48)) r := rfl
    rw [e]
    refine Nat.lt_of_lt_of_le h1 ?_
    rw [List.length_cons, Nat.pow_succ, ← Nat.mul_assoc, Nat.mul_right_comm]
    exact Nat.mul_le_mul_right _ (by omega)
theorem num_ref (s : Str) : (numR s).2 = (numI s).2 ∧ ((numI s).2 = true → (numR s).1 = (numI s).1) := by
  have key : (numI s).2 = true → numR s = ((numI s).1, true) := by
    intro h
    obtain ⟨h1, h2, h3⟩ := num_ok h
    generalize (numI s).1 = n at h1 h2 h3
    subst h1
    obtain ⟨f1, f2⟩ := itoa_from n
    unfold numR
    simp only [f1]
    have hall : (Lib.decDigits n.natAbs).all isDig = true := List.all_eq_true.2 (dec_digits _)
    rw [if_pos ⟨hall, (dec_nine _).2 (by omega)⟩, natV_dec]
    have hv : (if (if (Lib.itoa n).head? = some 45 then 1 else 0) = 1 then -((n.natAbs : Nat) : Int) else (n.natAbs : Int)) = n := by
      by_cases c : (Lib.itoa n).head? = some 45
      · have := f2.1 c; simp [c]; omega
      · have : ¬ n < 0 := fun h => c (f2.2 h)
        simp [c]; omega
    have hl : (if (Lib.itoa n).head? = some 45 then 1 else 0) < (Lib.itoa n).length := by
      have h4 := congrArg List.length f1
      rw [List.length_drop] at h4
      have := List.length_pos_iff.2 (dec_ne n.natAbs)
      omega
    rw [hv]
    simp [hl]
  have back : (numR s).2 = true → (numI s).2 = true := by
    intro h
    unfold numR at h
    dsimp only at h
    generalize hf : (if s.head? = some 45 then 1 else 0) = f at h
    split at h
    · rename_i hc
      have hd := List.all_eq_true.1 hc.1
      have hsm := natV_small (s.drop f) hd 0
      have hp : 10 ^ (s.drop f).length ≤ 10 ^ 9 := Nat.pow_le_pow_right (by omega) hc.2
      simp only [Bool.and_eq_true, decide_eq_true_eq] at h
      obtain ⟨_, h2⟩ := h
      rw [← h2, num_itoa (by split <;> omega)]
    · cases h
  cases h : (numI s).2 with
  | true => rw [key h]; exact ⟨rfl, fun _ => rfl⟩
  | false =>
    refine ⟨?_, fun h => by cases h⟩
    cases h2 : (numR s).2 with
    | true => rw [back h2] at h; cases h
    | false => rfl
/-- a text divided at each place of a byte -/
def spl (c : UInt8) : Str → List Str
  | [] => [[]]
  | x :: r => if x = c then [] :: spl c r else match spl c r with
    | [] => [[x]]
    | h :: t => (x :: h) :: t
theorem spl_ne (c : UInt8) (s : Str) : spl c s ≠ [] := by
  cases s with
  | nil => simp [spl]
  | cons x r =>
    unfold spl
    split
    · simp
    · split <;> simp
theorem spl_join (c : UInt8) : ∀ s : Str, Lib.join (spl c s) [c] = s
  | [] => rfl
  | x :: r => by
    have ih := spl_join c r
    unfold spl
    obtain ⟨h, t, e⟩ := List.exists_cons_of_ne_nil (spl_ne c r)
    rw [e] at ih ⊢
    split
    · rename_i hx; subst hx
      rw [Lib.join_cons]
      rw [Lib.join_cons] at ih
      simp only [List.nil_append, Lib.joinTail, List.map_cons, List.flatten_cons] at ih ⊢
      rw [List.append_assoc, ih]; rfl
    · rw [Lib.join_cons] at ih ⊢
      rw [List.cons_append, ih]
theorem spl_free (c : UInt8) : ∀ s : Str, c ∉ s → spl c s = [s]
  | [], _ => rfl
  | x :: r, h => by
    have h1 := spl_free c r (fun h' => h (List.mem_cons_of_mem _ h'))
    unfold spl
    rw [if_neg (fun e => h (by rw [e]; exact List.mem_cons_self)), h1]
theorem spl_app (c : UInt8) : ∀ (a b : Str), c ∉ a → spl c (a ++ c :: b) = a :: spl c b
  | [], b, _ => by simp [spl]
  | x :: a, b, h => by
    have h1 := spl_app c a b (fun h' => h (List.mem_cons_of_mem _ h'))
    rw [List.cons_append, spl, if_neg (fun e => h (by rw [e]; exact List.mem_cons_self)), h1]
/-- joined and divided again -/
theorem join_spl (c : UInt8) : ∀ l : List Str, l ≠ [] → (∀ x ∈ l, c ∉ x) → spl c (Lib.join l [c]) = l
  | [], h, _ => absurd rfl h
  | [x], _, h => by rw [Lib.join_one]; exact spl_free c x (h x List.mem_cons_self)
  | x :: y :: r, _, h => by
    have ih := join_spl c (y :: r) (by simp) fun z hz => h z (List.mem_cons_of_mem _ hz)
    have e : Lib.join (x :: y :: r) [c] = x ++ c :: Lib.join (y :: r) [c] := by
      rw [Lib.join_cons, Lib.join_cons]
      simp [Lib.joinTail]
    rw [e, spl_app c x _ (h x List.mem_cons_self), ih]
theorem spl_len (c : UInt8) : ∀ s : Str, (spl c s).length ≤ s.length + 1
  | [] => by simp [spl]
  | x :: r => by
    have ih := spl_len c r
    unfold spl
    split
    · simp; omega
    · split
      · simp
      · rename_i h t e; rw [e] at ih; simp at ih ⊢; omega
theorem spl_two {c : UInt8} {s : Str} (h : c ∈ s) : 2 ≤ (spl c s).length := by
  induction s with
  | nil => cases h
  | cons x r ih =>
    unfold spl
    split
    · have := List.length_pos_iff.2 (spl_ne c r); simp; omega
    · rename_i hx
      have := ih (by rcases List.mem_cons.1 h with e | e; exact absurd e.symm hx; exact e)
      split
      · rename_i e; rw [e] at this; simp at this
      · rename_i hd t e; rw [e] at this; simpa using this
end Go.Proofs.YtecpfmhminkalaaGreatDoor
namespace Go.Proofs.YtecpfmhminkalaaGreatDoor
/-- the elements of a list, each one read; nothing if one of them is wrong -/
def itemsV {α : Type} (read : Str → α × Bool) (s : Str) : List α × Bool :=
  if (spl 44 s).all (fun x => (read x).2) then ((spl 44 s).map (fun x => (read x).1), true) else ([], false)
theorem itemsV_congr {α : Type} {f g : Str → α × Bool} (h : ∀ s, (f s).2 = (g s).2 ∧ ((g s).2 = true → (f s).1 = (g s).1)) (s : Str) : itemsV f s = itemsV g s := by
  unfold itemsV
  have e : (spl 44 s).all (fun x => (f x).2) = (spl 44 s).all (fun x => (g x).2) := by congr 1; funext x; exact (h x).1
  rw [e]
  split
  · rename_i hg
    rw [List.all_eq_true] at hg
    have e2 : (spl 44 s).map (fun x => (f x).1) = (spl 44 s).map (fun x => (g x).1) := List.map_congr_left fun x hx => (h x).2 (hg x hx)
    rw [e2]
  · rfl
theorem itemsV_one {α : Type} (f : Str → α × Bool) {s : Str} (h : (44 : UInt8) ∉ s) : itemsV f s = if (f s).2 then ([(f s).1], true) else ([], false) := by
  unfold itemsV; rw [spl_free 44 s h]; simp
theorem itemsV_join {α : Type} (f : Str → α × Bool) (g : α → Str) (l : List α) (hl : l ≠ []) (h : ∀ x ∈ l, f (g x) = (x, true) ∧ (44 : UInt8) ∉ g x) : itemsV f (Lib.join (l.map g) [44]) = (l, true) := by
  unfold itemsV
  rw [join_spl 44 (l.map g) (by simpa using hl) (by intro x hx; obtain ⟨y, hy, rfl⟩ := List.mem_map.1 hx; exact (h y hy).2)]
  rw [if_pos (List.all_eq_true.2 (by intro x hx; obtain ⟨y, hy, rfl⟩ := List.mem_map.1 hx; rw [(h y hy).1])), List.map_map]
  have e : l.map ((fun x => (f x).1) ∘ g) = l := by
    conv => rhs; rw [← List.map_id l]
    exact List.map_congr_left fun x hx => by show (f (g x)).1 = x; rw [(h x hx).1]
  rw [e]
theorem itemsV_back {α : Type} (f : Str → α × Bool) (g : α → Str) (h : ∀ x, (f x).2 = true → g (f x).1 = x) (s : Str) (hs : (itemsV f s).2 = true) : (itemsV f s).1 ≠ [] ∧ Lib.join ((itemsV f s).1.map g) [44] = s := by
  unfold itemsV at hs ⊢
  split at hs
  · rename_i hc
    rw [if_pos hc]
    rw [List.all_eq_true] at hc
    refine ⟨by simpa using spl_ne 44 s, ?_⟩
    dsimp only
    rw [List.map_map]
    have e : (spl 44 s).map (g ∘ fun x => (f x).1) = spl 44 s := by
      conv => rhs; rw [← List.map_id (spl 44 s)]
      exact List.map_congr_left fun x hx => h x (hc x hx)
    rw [e, spl_join]
  · cases hs
/-- the position of a word, or -1 -/
def idxF (s : Str) : List Str → Int
  | [] => -1
  | x :: r => if x = s then 0 else if idxF s r < 0 then -1 else idxF s r + 1
theorem idxF_ge (s : Str) : ∀ l, -1 ≤ idxF s l ∧ idxF s l < l.length
  | [] => by simp [idxF]
  | x :: r => by
    have := idxF_ge s r
    simp only [idxF, List.length_cons]
    split
    · omega
    · split <;> omega
theorem idxF_at (s : Str) : ∀ l, 0 ≤ idxF s l → l.getD (idxF s l).toNat [] = s
  | [], h => by simp [idxF] at h
  | x :: r, h => by
    have ih := idxF_at s r
    simp only [idxF] at h ⊢
    split
    · rename_i e; subst e; rfl
    · rename_i e
      rw [if_neg e] at h
      split
      · rename_i h2; rw [if_pos h2] at h; omega
      · rename_i h2
        have e2 : (idxF s r + 1).toNat = (idxF s r).toNat + 1 := by omega
        rw [e2, List.getD_cons_succ]; exact ih (by omega)
/-- a text cut at the first of a byte -/
def brkF (c : UInt8) : Str → Str × Str × Bool
  | [] => ([], [], false)
  | x :: r => if x = c then ([], r, true) else (x :: (brkF c r).1, (brkF c r).2.1, (brkF c r).2.2)
theorem brkF_hit (c : UInt8) : ∀ (a b : Str), c ∉ a → brkF c (a ++ c :: b) = (a, b, true)
  | [], b, _ => by simp [brkF]
  | x :: a, b, h => by
    have ih := brkF_hit c a b fun h' => h (List.mem_cons_of_mem _ h')
    rw [List.cons_append, brkF, if_neg (fun e => h (by rw [e]; exact List.mem_cons_self)), ih]
theorem brkF_miss (c : UInt8) : ∀ s : Str, c ∉ s → brkF c s = (s, [], false)
  | [], _ => rfl
  | x :: r, h => by
    have ih := brkF_miss c r fun h' => h (List.mem_cons_of_mem _ h')
    rw [brkF, if_neg (fun e => h (by rw [e]; exact List.mem_cons_self)), ih]
theorem brkF_cases (c : UInt8) (s : Str) : (∃ a b, s = a ++ c :: b ∧ c ∉ a ∧ brkF c s = (a, b, true)) ∨ (c ∉ s ∧ brkF c s = (s, [], false)) := by
  induction s with
  | nil => exact .inr ⟨by simp, rfl⟩
  | cons x r ih =>
    by_cases hx : x = c
    · subst hx; exact .inl ⟨[], r, rfl, by simp, by simp [brkF]⟩
    · rcases ih with ⟨a, b, e, h, _⟩ | ⟨h, _⟩
      · refine .inl ⟨x :: a, b, by rw [e]; rfl, by simp only [List.mem_cons, not_or]; exact ⟨fun e => hx e.symm, h⟩, ?_⟩
        rw [e, ← List.cons_append]; exact brkF_hit c _ _ (by simp only [List.mem_cons, not_or]; exact ⟨fun e => hx e.symm, h⟩)
      · have h2 : c ∉ x :: r := by simp only [List.mem_cons, not_or]; exact ⟨fun e => hx e.symm, h⟩
        exact .inr ⟨h2, brkF_miss c _ h2⟩
/-- a day of the week in a text -/
def wdI (s : Str) : (Int × Int) × Bool :=
  if (brkF 35 s).2.2 then ((idxF (brkF 35 s).1 dayL, (numI (brkF 35 s).2.1).1), (numI (brkF 35 s).2.1).2 && decide ((numI (brkF 35 s).2.1).1 ≠ 0) && decide (0 ≤ idxF (brkF 35 s).1 dayL))
  else ((idxF (brkF 35 s).1 dayL, 0), decide (0 ≤ idxF (brkF 35 s).1 dayL))
theorem day_idx : ∀ k : Fin 7, idxF (dayL.getD k.val []) dayL = k.val := by decide
theorem day_free : ∀ k : Fin 7, (35 : UInt8) ∉ dayL.getD k.val [] ∧ (44 : UInt8) ∉ dayL.getD k.val [] ∧ (32 : UInt8) ∉ dayL.getD k.val [] ∧ (dayL.getD k.val []).length = 3 := by decide
theorem itoa_free (n : Int) (c : UInt8) (hc : c ≠ 45 ∧ isDig c = false) : c ∉ Lib.itoa n := by
  intro h
  unfold Lib.itoa at h
  split at h
  · rcases List.mem_cons.1 h with e | e
    · exact hc.1 e
    · rw [dec_digits _ c e] at hc; cases hc.2
  · rw [dec_digits _ c h] at hc; cases hc.2
theorem wdT_idx {w : Int × Int} (h : 0 ≤ w.1 ∧ w.1 ≤ 6) : idxF (dayL.getD w.1.toNat []) dayL = w.1 := by
  have := day_idx ⟨w.1.toNat, by omega⟩
  simp only at this
  rw [this]; omega
theorem wdT_free {w : Int × Int} (h : 0 ≤ w.1 ∧ w.1 ≤ 6) : (44 : UInt8) ∉ wdT w ∧ (32 : UInt8) ∉ wdT w := by
  obtain ⟨h1, h2, h3, h4⟩ := day_free ⟨w.1.toNat, by omega⟩
  simp only at h1 h2 h3
  unfold wdT
  split
  · exact ⟨h2, h3⟩
  · simp only [List.mem_append, List.mem_singleton, not_or]
    exact ⟨⟨⟨h2, by decide⟩, itoa_free _ _ (by decide)⟩, ⟨h3, by decide⟩, itoa_free _ _ (by decide)⟩
theorem wd_wdT {w : Int × Int} (h : 0 ≤ w.1 ∧ w.1 ≤ 6 ∧ -5 ≤ w.2 ∧ w.2 ≤ 5) : wdI (wdT w) = (w, true) := by
  obtain ⟨h1, h2, h3, h4⟩ := day_free ⟨w.1.toNat, by omega⟩
  have hi := wdT_idx (w := w) ⟨h.1, h.2.1⟩
  simp only at h1
  unfold wdT
  generalize dayL.getD w.1.toNat [] = nm at *
  split
  · rename_i h0
    unfold wdI
    rw [brkF_miss 35 _ h1]
    simp only [hi]
    rw [if_neg (by simp)]
    obtain ⟨a, b⟩ := w
    simp only at h0 h ⊢
    subst h0
    simp [h.1]
  · rename_i h0
    unfold wdI
    have e : nm ++ [35] ++ Lib.itoa w.2 = nm ++ 35 :: Lib.itoa w.2 := by simp
    rw [e, brkF_hit 35 _ _ h1, num_itoa (by omega)]
    simp only [hi]
    simp [h.1, h0]
theorem wdT_wd {s : Str} (h : (wdI s).2 = true) : wdT (wdI s).1 = s := by
  unfold wdI at h ⊢
  rcases brkF_cases 35 s with ⟨a, b, e, h1, hc⟩ | ⟨h1, hc⟩
  · rw [hc] at h ⊢
    simp only [if_true, Bool.and_eq_true, decide_eq_true_eq] at h ⊢
    obtain ⟨⟨h2, h3⟩, h4⟩ := h
    unfold wdT
    simp only
    rw [if_neg h3, idxF_at _ _ h4, (num_ok h2).1, e]; simp
  · rw [hc] at h ⊢
    simp only [Bool.false_eq_true, if_false, decide_eq_true_eq] at h ⊢
    unfold wdT
    simp only [if_true]
    exact idxF_at _ _ h
abbrev keyL : List Str := [wMonths, wDays, wOn, wPicks, wCount, wUntil]
/-- one of the lists of a rule, read -/
def readK (k : Nat) (s : Str) (r : Rule) : Rule × Bool := match k with
  | 0 => ({ r with months := (itemsV numI s).1 }, (itemsV numI s).2)
  | 1 => ({ r with mdays := (itemsV numI s).1 }, (itemsV numI s).2)
  | 2 => ({ r with wdays := (itemsV wdI s).1 }, (itemsV wdI s).2)
  | 3 => ({ r with picks := (itemsV numI s).1 }, (itemsV numI s).2)
  | 4 => ({ r with count := (numI s).1 }, (numI s).2 && decide ((numI s).1 ≠ 0))
  | _ => ({ r with untl := (numI s).1 }, (numI s).2 && decide ((numI s).1 ≠ 0))
def goR : Nat → Rule → List Str → Rule × Bool
  | 0, r, ws => (r, ws.isEmpty)
  | m + 1, r, w :: v :: rest => if w = keyL.getD (5 - m) [] then (if (readK (5 - m) v r).2 then goR m (readK (5 - m) v r).1 rest else ((readK (5 - m) v r).1, false)) else goR m r (w :: v :: rest)
  | m + 1, r, ws => goR m r ws
abbrev zR : Rule := ⟨0, 0, [], [], [], [], 0, 0⟩
abbrev headR (w1 w2 : Str) : Rule := ⟨idxF w2 unitL + 1, (numI w1).1, [], [], [], [], 0, 0⟩
/-- the rule of a list of words -/
def parseL : List Str → Rule × Bool
  | w0 :: w1 :: w2 :: rest => if w0 = wEvery then (if (numI w1).2 = true ∧ 0 ≤ idxF w2 unitL then goR 6 (headR w1 w2) rest else (headR w1 w2, false)) else (zR, false)
  | _ => (zR, false)
/-- the rule of a text -/
def parseV (s : Str) : Rule × (Int × Int) :=
  if 500 < s.length then (zR, (3, -1)) else if (parseL (spl 32 s)).2 = false then (zR, (1, -1)) else if (ruleF (parseL (spl 32 s)).1).1 ≠ 0 then (zR, ruleF (parseL (spl 32 s)).1) else ((parseL (spl 32 s)).1, (0, 0))
/-- the words for one of the lists of a rule -/
def keyW (r : Rule) : Nat → List Str
  | 0 => wordsL wMonths (r.months.map Lib.itoa)
  | 1 => wordsL wDays (r.mdays.map Lib.itoa)
  | 2 => wordsL wOn (r.wdays.map wdT)
  | 3 => wordsL wPicks (r.picks.map Lib.itoa)
  | 4 => numT wCount r.count
  | _ => numT wUntil r.untl
def tailW (r : Rule) : Nat → List Str
  | 0 => []
  | m + 1 => keyW r (5 - m) ++ tailW r m
theorem print_tail (r : Rule) : printW r = headW r ++ tailW r 6 := by
  simp [printW, tailW, keyW, List.append_assoc]
theorem read_back (k : Nat) (s : Str) (r : Rule) (hk : k < 6) (h : (readK k s r).2 = true) : keyW (readK k s r).1 k = [keyL.getD k [], s] := by
  have hn : ∀ x, (numI x).2 = true → Lib.itoa (numI x).1 = x := fun x hx => (num_ok hx).1
  have hw : ∀ x, (wdI x).2 = true → wdT (wdI x).1 = x := fun x hx => wdT_wd hx
  rcases (by omega : k = 0 ∨ k = 1 ∨ k = 2 ∨ k = 3 ∨ k = 4 ∨ k = 5) with rfl | rfl | rfl | rfl | rfl | rfl
  · obtain ⟨a, b⟩ := itemsV_back numI Lib.itoa hn s h
    simp only [keyW, readK, wordsL, List.map_eq_nil_iff]; rw [if_neg a, b]; rfl
  · obtain ⟨a, b⟩ := itemsV_back numI Lib.itoa hn s h
    simp only [keyW, readK, wordsL, List.map_eq_nil_iff]; rw [if_neg a, b]; rfl
  · obtain ⟨a, b⟩ := itemsV_back wdI wdT hw s h
    simp only [keyW, readK, wordsL, List.map_eq_nil_iff]; rw [if_neg a, b]; rfl
  · obtain ⟨a, b⟩ := itemsV_back numI Lib.itoa hn s h
    simp only [keyW, readK, wordsL, List.map_eq_nil_iff]; rw [if_neg a, b]; rfl
  · simp only [readK, Bool.and_eq_true, decide_eq_true_eq] at h
    simp only [keyW, readK, numT]; rw [if_neg h.2, hn _ h.1]; rfl
  · simp only [readK, Bool.and_eq_true, decide_eq_true_eq] at h
    simp only [keyW, readK, numT]; rw [if_neg h.2, hn _ h.1]; rfl
theorem read_keep (k j : Nat) (s : Str) (r : Rule) (hk : k < 6) (hj : j < 6) (hne : j ≠ k) : keyW (readK k s r).1 j = keyW r j := by
  rcases (by omega : k = 0 ∨ k = 1 ∨ k = 2 ∨ k = 3 ∨ k = 4 ∨ k = 5) with rfl | rfl | rfl | rfl | rfl | rfl <;>
  rcases (by omega : j = 0 ∨ j = 1 ∨ j = 2 ∨ j = 3 ∨ j = 4 ∨ j = 5) with rfl | rfl | rfl | rfl | rfl | rfl <;> first | rfl | exact absurd rfl hne
theorem read_head (k : Nat) (s : Str) (r : Rule) : headW (readK k s r).1 = headW r := by
  match k with
  | 0 | 1 | 2 | 3 | 4 => rfl
  | k + 5 => rfl
theorem goR_back : ∀ (m : Nat) (r : Rule) (ws : List Str) (r' : Rule), m ≤ 6 → goR m r ws = (r', true) → (∀ k, 6 - m ≤ k → k < 6 → keyW r k = []) → headW r' = headW r ∧ (∀ k, k < 6 - m → keyW r' k = keyW r k) ∧ ws = tailW r' m
  | 0, r, ws, r', _, h, _ => by
    simp only [goR, Prod.mk.injEq, List.isEmpty_iff] at h
    obtain ⟨rfl, rfl⟩ := h
    exact ⟨rfl, fun _ _ => rfl, rfl⟩
  | m + 1, r, ws, r', hm, h, hcl => by
    have skip : ∀ w, goR m r w = (r', true) → headW r' = headW r ∧ (∀ k, k < 6 - (m + 1) → keyW r' k = keyW r k) ∧ w = tailW r' (m + 1) := by
      intro w hw
      obtain ⟨a, b, c⟩ := goR_back m r w r' (by omega) hw fun k h1 h2 => hcl k (by omega) h2
      refine ⟨a, fun k hk => b k (by omega), ?_⟩
      rw [tailW, b (5 - m) (by omega), hcl (5 - m) (by omega) (by omega)]; exact c
    match ws with
    | [] => exact skip [] h
    | [w] => exact skip [w] h
    | w :: v :: rest =>
      rw [goR] at h
      split at h
      · rename_i hw
        split at h
        · rename_i hr
          obtain ⟨a, b, c⟩ := goR_back m _ rest r' (by omega) h fun k h1 h2 => by rw [read_keep _ _ _ _ (by omega) h2 (by omega)]; exact hcl k (by omega) h2
          refine ⟨a.trans (read_head _ _ _), fun k hk => (b k (by omega)).trans (read_keep _ _ _ _ (by omega) (by omega) (by omega)), ?_⟩
          rw [tailW, b (5 - m) (by omega), read_back _ _ _ (by omega) hr, ← c, ← hw]; rfl
        · simp at h
      · exact skip _ h
theorem unit_at {w : Str} (h : 0 ≤ idxF w unitL) : unitL.getD (idxF w unitL + 1 - 1).toNat [] = w := by
  have e : idxF w unitL + 1 - 1 = idxF w unitL := by omega
  rw [e]; exact idxF_at _ _ h
theorem parseL_back (ws : List Str) (r : Rule) (h : parseL ws = (r, true)) : ws = printW r := by
  unfold parseL at h
  split at h
  · rename_i w0 w1 w2 rest
    split at h
    · rename_i h0
      split at h
      · rename_i h1
        obtain ⟨a, b, c⟩ := goR_back 6 _ _ _ (by omega) h fun k _ hk => by
          rcases (by omega : k = 0 ∨ k = 1 ∨ k = 2 ∨ k = 3 ∨ k = 4 ∨ k = 5) with rfl | rfl | rfl | rfl | rfl | rfl <;> rfl
        rw [print_tail, a, ← c, h0]
        unfold headW
        simp only [(num_ok h1.1).1, unit_at h1.2]; rfl
      · simp at h
    · simp at h
  · simp at h
theorem parse_print {s : Str} {r : Rule} (h : parseV s = (r, (0, 0))) : Lib.join (printW r) [32] = s ∧ (ruleF r).1 = 0 := by
  unfold parseV at h
  split at h
  · simp at h
  split at h
  · simp at h
  rename_i h1 h2
  split at h
  · rename_i h3
    simp only [Prod.mk.injEq] at h
    rw [h.2] at h3; exact absurd rfl h3
  · rename_i h3
    simp only [Prod.mk.injEq, and_true] at h
    have e : parseL (spl 32 s) = (r, true) := by
      rw [← h]
      cases h4 : (parseL (spl 32 s)).2 with
      | true => rw [← h4]
      | false => exact absurd h4 h2
    rw [← parseL_back _ _ e, spl_join, ← h]
    exact ⟨rfl, Classical.not_not.1 h3⟩
/-- what is written is what is read -/
theorem tail_head (r : Rule) : ∀ m, m ≤ 6 → tailW r m = [] ∨ ∃ k w t, 6 - m ≤ k ∧ k < 6 ∧ tailW r m = keyL.getD k [] :: w :: t
  | 0, _ => .inl rfl
  | m + 1, hm => by
    have key : keyW r (5 - m) = [] ∨ ∃ w, keyW r (5 - m) = [keyL.getD (5 - m) [], w] := by
      rcases (by omega : 5 - m = 0 ∨ 5 - m = 1 ∨ 5 - m = 2 ∨ 5 - m = 3 ∨ 5 - m = 4 ∨ 5 - m = 5) with e | e | e | e | e | e <;> rw [e] <;> simp only [keyW, wordsL, numT] <;> split <;> first | exact .inl rfl | exact .inr ⟨_, rfl⟩
    rw [tailW]
    rcases key with h | ⟨w, h⟩
    · rw [h, List.nil_append]
      rcases tail_head r m (by omega) with h | ⟨k, w, t, h1, h2, h3⟩
      · exact .inl h
      · exact .inr ⟨k, w, t, by omega, h2, h3⟩
    · exact .inr ⟨5 - m, w, tailW r m, by omega, by omega, by rw [h]; rfl⟩
theorem key_inj : ∀ a b : Fin 6, keyL.getD a.val [] = keyL.getD b.val [] → a = b := by decide
theorem goR_skip (m : Nat) (q r : Rule) (hm : m < 6) : goR (m + 1) q (tailW r m) = goR m q (tailW r m) := by
  rcases tail_head r m (by omega) with h | ⟨k, w, t, h1, h2, h3⟩
  · rw [h]; rfl
  · rw [h3, goR, if_neg]
    intro e
    have := key_inj ⟨k, h2⟩ ⟨5 - m, by omega⟩ e
    simp only [Fin.mk.injEq] at this
    omega
theorem goR_step (m : Nat) (q q' r : Rule) (hm : m < 6) (h0 : keyW r (5 - m) = [] → q = q') (h1 : ∀ v, keyW r (5 - m) = [keyL.getD (5 - m) [], v] → readK (5 - m) v q = (q', true)) (h2 : goR m q' (tailW r m) = (r, true)) : goR (m + 1) q (tailW r (m + 1)) = (r, true) := by
  have key : keyW r (5 - m) = [] ∨ ∃ w, keyW r (5 - m) = [keyL.getD (5 - m) [], w] := by
    rcases (by omega : 5 - m = 0 ∨ 5 - m = 1 ∨ 5 - m = 2 ∨ 5 - m = 3 ∨ 5 - m = 4 ∨ 5 - m = 5) with e | e | e | e | e | e <;> rw [e] <;> simp only [keyW, wordsL, numT] <;> split <;> first | exact .inl rfl | exact .inr ⟨_, rfl⟩
  rw [tailW]
  rcases key with h | ⟨w, h⟩
  · rw [h, List.nil_append, goR_skip m q r hm, h0 h]; exact h2
  · have e := h1 w h
    rw [h, List.cons_append, List.cons_append, List.nil_append, goR, if_pos rfl, e]
    exact h2
theorem words_key {word : Str} {l : List Str} {a v : Str} (h : wordsL word l = [a, v]) : l ≠ [] ∧ v = Lib.join l [44] := by
  unfold wordsL at h
  split at h
  · cases h
  · rename_i h0; injection h with _ h; injection h with h _; exact ⟨h0, h.symm⟩
theorem words_nil {word : Str} {l : List Str} (h : wordsL word l = []) : l = [] := by
  unfold wordsL at h
  split at h
  · assumption
  · cases h
theorem num_key {word : Str} {n : Int} {a v : Str} (h : numT word n = [a, v]) : n ≠ 0 ∧ v = Lib.itoa n := by
  unfold numT at h
  split at h
  · cases h
  · rename_i h0; injection h with _ h; injection h with h _; exact ⟨h0, h.symm⟩
theorem num_nil {word : Str} {n : Int} (h : numT word n = []) : n = 0 := by
  unfold numT at h
  split at h
  · assumption
  · cases h
theorem ruleF_more {r : Rule} (h : (ruleF r).1 = 0) : 1 ≤ r.unit ∧ r.unit ≤ 4 ∧ 1 ≤ r.step ∧ r.step ≤ 1000 ∧ 0 ≤ r.count ∧ r.count ≤ 20001 ∧ 0 ≤ r.untl ∧ r.untl ≤ 3652059 ∧ r.months.length ≤ 12 ∧ r.mdays.length ≤ 12 ∧ r.wdays.length ≤ 12 ∧ r.picks.length ≤ 12 := by
  unfold ruleF at h
  split at h
  · cases h
  split at h
  · cases h
  split at h
  · contradiction
  split at h
  · contradiction
  split at h
  · contradiction
  split at h
  · contradiction
  split at h
  · cases h
  split at h
  · cases h
  rename_i h0 h1 h2 h3 h4 h5 h6 h7
  simp only [ne_eq, Decidable.not_not] at h1 h2 h3 h4 h5 h6 h7
  have w1 : ∀ {x a b : Int}, wthF x a b = 0 → a ≤ x ∧ x ≤ b := by
    intro x a b hh
    unfold wthF at hh
    split at hh
    · cases hh
    · omega
  have := w1 h1
  have := w1 h6
  have := w1 h7
  exact ⟨by omega, by omega, by omega, by omega, by omega, by omega, by omega, by omega, chk_len h2, chk_len h3, chk_len h4, chk_len h5⟩
theorem unit_idx : ∀ k : Fin 4, idxF (unitL.getD k.val []) unitL = k.val := by decide
theorem parse_printW {r : Rule} (h : (ruleF r).1 = 0) : parseL (printW r) = (r, true) := by
  obtain ⟨b1, b2, b3, b4, b5, b6, b7, b8, _⟩ := ruleF_more h
  obtain ⟨a1, a2, a3, a4⟩ := ruleF_all h
  have hit : ∀ (l : List Int), l ≠ [] → (∀ x ∈ l, -1000 ≤ x ∧ x ≤ 1000) → itemsV numI (Lib.join (l.map Lib.itoa) [44]) = (l, true) := fun l h1 h2 => itemsV_join numI Lib.itoa l h1 fun x hx => by
    have := h2 x hx
    exact ⟨num_itoa (by omega), itoa_free _ _ (by decide)⟩
  have hwd : ∀ (l : List (Int × Int)), l ≠ [] → (∀ w ∈ l, 0 ≤ w.1 ∧ w.1 ≤ 6 ∧ -5 ≤ w.2 ∧ w.2 ≤ 5) → itemsV wdI (Lib.join (l.map wdT) [44]) = (l, true) := fun l h1 h2 => itemsV_join wdI wdT l h1 fun w hw => by
    have := h2 w hw
    exact ⟨wd_wdT this, (wdT_free ⟨this.1, this.2.1⟩).1⟩
  have hhead : headR (Lib.itoa r.step) (unitL.getD (r.unit - 1).toNat []) = ⟨r.unit, r.step, [], [], [], [], 0, 0⟩ := by
    have := unit_idx ⟨(r.unit - 1).toNat, by omega⟩
    simp only at this
    unfold headR
    rw [this, num_itoa (by omega)]
    have e : (((r.unit - 1).toNat : Nat) : Int) + 1 = r.unit := by omega
    rw [e]
  rw [print_tail]
  show parseL (wEvery :: Lib.itoa r.step :: unitL.getD (r.unit - 1).toNat [] :: tailW r 6) = _
  rw [parseL, if_pos rfl, hhead, if_pos]
  · obtain ⟨u, s, l0, l1, l2, l3, c, t⟩ := r
    simp only at a1 a2 a3 a4 b5 b6 b7 b8
    refine goR_step 5 _ ⟨u, s, l0, [], [], [], 0, 0⟩ _ (by omega) ?_ ?_ (goR_step 4 _ ⟨u, s, l0, l1, [], [], 0, 0⟩ _ (by omega) ?_ ?_ (goR_step 3 _ ⟨u, s, l0, l1, l2, [], 0, 0⟩ _ (by omega) ?_ ?_ (goR_step 2 _ ⟨u, s, l0, l1, l2, l3, 0, 0⟩ _ (by omega) ?_ ?_ (goR_step 1 _ ⟨u, s, l0, l1, l2, l3, c, 0⟩ _ (by omega) ?_ ?_ (goR_step 0 _ ⟨u, s, l0, l1, l2, l3, c, t⟩ _ (by omega) ?_ ?_ rfl)))))
    · intro e; have := List.map_eq_nil_iff.1 (words_nil e); subst this; rfl
    · intro v e; obtain ⟨e1, rfl⟩ := words_key e
      simp only [readK, hit l0 (fun e => e1 (by rw [e]; rfl)) (fun x hx => by have := a1 x hx; omega)]
    · intro e; have := List.map_eq_nil_iff.1 (words_nil e); subst this; rfl
    · intro v e; obtain ⟨e1, rfl⟩ := words_key e
      simp only [readK, hit l1 (fun e => e1 (by rw [e]; rfl)) (fun x hx => by have := a2 x hx; omega)]
    · intro e; have := List.map_eq_nil_iff.1 (words_nil e); subst this; rfl
    · intro v e; obtain ⟨e1, rfl⟩ := words_key e
      simp only [readK, hwd l2 (fun e => e1 (by rw [e]; rfl)) a3]
    · intro e; have := List.map_eq_nil_iff.1 (words_nil e); subst this; rfl
    · intro v e; obtain ⟨e1, rfl⟩ := words_key e
      simp only [readK, hit l3 (fun e => e1 (by rw [e]; rfl)) (fun x hx => by have := a4 x hx; omega)]
    · intro e; have := num_nil e; simp only at this; subst this; rfl
    · intro v e; obtain ⟨e1, rfl⟩ := num_key e
      simp only at e1
      simp only [readK, num_itoa (n := c) (by omega)]; simp [e1]
    · intro e; have := num_nil e; simp only at this; subst this; rfl
    · intro v e; obtain ⟨e1, rfl⟩ := num_key e
      simp only at e1
      simp only [readK, num_itoa (n := t) (by omega)]; simp [e1]
  · have := unit_idx ⟨(r.unit - 1).toNat, by omega⟩
    simp only at this
    rw [this, num_itoa (by omega)]
    exact ⟨rfl, by omega⟩
theorem dec_le4 {u : Nat} (h : u ≤ 1000) : (Lib.decDigits u).length ≤ 4 := by rw [Lib.decDigits_length]; exact nDigits_le 3 u (by omega)
theorem itoa_le5 {n : Int} (h : -1000 ≤ n ∧ n ≤ 1000) : (Lib.itoa n).length ≤ 5 := by
  unfold Lib.itoa
  split
  · have := dec_le4 (u := n.natAbs) (by omega); simp only [List.length_cons]; omega
  · have := dec_le4 (u := n.toNat) (by omega); omega
theorem itoa_le9 {n : Int} (h : 0 ≤ n ∧ n ≤ 100000000) : (Lib.itoa n).length ≤ 9 := by
  unfold Lib.itoa
  rw [if_neg (by omega)]
  exact (dec_nine _).2 (by omega)
theorem join_sum (c : UInt8) : ∀ l : List Str, (Lib.join l [c]).length + 1 ≤ (l.map fun x => x.length + 1).sum + 1
  | [] => by simp [Lib.join]
  | [x] => by rw [Lib.join_one]; simp
  | x :: y :: r => by
    have ih := join_sum c (y :: r)
    have e : Lib.join (x :: y :: r) [c] = x ++ c :: Lib.join (y :: r) [c] := by
      rw [Lib.join_cons, Lib.join_cons]
      simp [Lib.joinTail]
    rw [e, List.map_cons, List.sum_cons]
    simp only [List.length_append, List.length_cons] at ih ⊢
    omega
theorem join_len {c : UInt8} {l : List Str} {B : Nat} (h : ∀ x ∈ l, x.length ≤ B) (hn : l.length ≤ 12) : (Lib.join l [c]).length ≤ 12 * (B + 1) := by
  have h1 := join_sum c l
  have h2 : (l.map fun x => x.length + 1).sum ≤ l.length * (B + 1) := by
    clear h1 hn
    induction l with
    | nil => simp
    | cons x r ih =>
      have := h x List.mem_cons_self
      have := ih fun y hy => h y (List.mem_cons_of_mem _ hy)
      simp only [List.map_cons, List.sum_cons, List.length_cons, Nat.add_mul]
      omega
  have h3 := Nat.mul_le_mul_right (B + 1) hn
  omega
theorem words_sum {word : Str} {items : List Str} {A B : Nat} (hw : word.length ≤ A) (hb : ∀ x ∈ items, x.length ≤ B) (hn : items.length ≤ 12) : ((wordsL word items).map fun x => x.length + 1).sum ≤ A + 1 + (12 * (B + 1) + 1) := by
  unfold wordsL
  split
  · simp
  · have := join_len (c := 44) hb hn
    simp; omega
theorem numT_sum {word : Str} {n : Int} (hw : word.length ≤ 5) (h : 0 ≤ n ∧ n ≤ 100000000) : ((numT word n).map fun x => x.length + 1).sum ≤ 16 := by
  unfold numT
  split
  · simp
  · have := itoa_le9 h
    simp; omega
theorem print_len {r : Rule} (h : (ruleF r).1 = 0) : (Lib.join (printW r) [32]).length ≤ 500 := by
  obtain ⟨b1, b2, b3, b4, b5, b6, b7, b8, n1, n2, n3, n4⟩ := ruleF_more h
  obtain ⟨a1, a2, a3, a4⟩ := ruleF_all h
  have h1 := join_sum 32 (printW r)
  have hi : ∀ l : List Int, (∀ x ∈ l, -1000 ≤ x ∧ x ≤ 1000) → ∀ x ∈ l.map Lib.itoa, x.length ≤ 5 := by
    intro l hl x hx
    obtain ⟨y, hy, rfl⟩ := List.mem_map.1 hx
    exact itoa_le5 (hl y hy)
  have hm := words_sum (A := 6) (word := wMonths) (by decide) (hi r.months fun x hx => by have := a1 x hx; omega) (by simpa using n1)
  have hd := words_sum (A := 4) (word := wDays) (by decide) (hi r.mdays fun x hx => by have := a2 x hx; omega) (by simpa using n2)
  have hp := words_sum (A := 5) (word := wPicks) (by decide) (hi r.picks fun x hx => by have := a4 x hx; omega) (by simpa using n4)
  have hw := words_sum (A := 2) (word := wOn) (items := r.wdays.map wdT) (B := 9) (by decide) (by
    intro x hx
    obtain ⟨w, hw, rfl⟩ := List.mem_map.1 hx
    have := a3 w hw
    have h5 := itoa_le5 (n := w.2) (by omega)
    have h3 := day_len w.1.toNat
    unfold wdT
    split
    · omega
    · simp only [List.length_append, List.length_cons, List.length_nil]; omega) (by simpa using n3)
  have hc := numT_sum (word := wCount) (n := r.count) (by decide) (by omega)
  have hu := numT_sum (word := wUntil) (n := r.untl) (by decide) (by omega)
  have hs := itoa_le5 (n := r.step) (by omega)
  have hul := unit_len (r.unit - 1).toNat
  unfold printW headW at h1 ⊢
  simp only [List.map_append, List.sum_append, List.map_cons, List.sum_cons, List.map_nil, List.sum_nil] at h1
  have e5 : wEvery.length = 5 := rfl
  omega
theorem print_parse {r : Rule} (h : (ruleF r).1 = 0) : parseV (Lib.join (printW r) [32]) = (r, (0, 0)) := by
  obtain ⟨a1, a2, a3, a4⟩ := ruleF_all h
  have hi : ∀ n : Int, (32 : UInt8) ∉ Lib.itoa n := fun n => itoa_free n 32 (by decide)
  have hfree : ∀ x ∈ printW r, (32 : UInt8) ∉ x := by
    have hj : ∀ (l : List Str), (∀ x ∈ l, (32 : UInt8) ∉ x) → (32 : UInt8) ∉ Lib.join l [44] := by
      intro l hl
      induction l with
      | nil => simp [Lib.join]
      | cons x t ih =>
        cases t with
        | nil => rw [Lib.join_one]; exact hl x List.mem_cons_self
        | cons y t =>
          have e : Lib.join (x :: y :: t) [44] = x ++ 44 :: Lib.join (y :: t) [44] := by
            rw [Lib.join_cons, Lib.join_cons]
            simp [Lib.joinTail]
          rw [e]
          simp only [List.mem_append, List.mem_cons, not_or]
          exact ⟨hl x List.mem_cons_self, by decide, ih fun z hz => hl z (List.mem_cons_of_mem _ hz)⟩
    have hw : ∀ (word : Str) (l : List Str), (32 : UInt8) ∉ word → (∀ x ∈ l, (32 : UInt8) ∉ x) → ∀ x ∈ wordsL word l, (32 : UInt8) ∉ x := by
      intro word l h1 h2 x hx
      unfold wordsL at hx
      split at hx
      · cases hx
      · simp only [List.mem_cons, List.not_mem_nil, or_false] at hx
        rcases hx with rfl | rfl
        · exact h1
        · exact hj l h2
    have hn : ∀ (word : Str) (n : Int), (32 : UInt8) ∉ word → ∀ x ∈ numT word n, (32 : UInt8) ∉ x := by
      intro word n h1 x hx
      unfold numT at hx
      split at hx
      · cases hx
      · simp only [List.mem_cons, List.not_mem_nil, or_false] at hx
        rcases hx with rfl | rfl
        · exact h1
        · exact hi n
    have hmi : ∀ l : List Int, ∀ x ∈ l.map Lib.itoa, (32 : UInt8) ∉ x := by
      intro l x hx
      obtain ⟨y, hy, rfl⟩ := List.mem_map.1 hx
      exact hi y
    have hu : ∀ k : Nat, (32 : UInt8) ∉ unitL.getD k [] := by
      intro k
      match k with
      | 0 => decide
      | 1 => decide
      | 2 => decide
      | 3 => decide
      | k + 4 => simp
    intro x hx
    simp only [printW, headW, List.mem_append, List.mem_cons, List.not_mem_nil, or_false] at hx
    rcases hx with ((((((rfl | rfl | rfl) | hx) | hx) | hx) | hx) | (hx | hx))
    · decide
    · exact hi _
    · exact hu _
    · exact hw wMonths _ (by decide) (hmi _) x hx
    · exact hw wDays _ (by decide) (hmi _) x hx
    · refine hw wOn _ (by decide) (fun y hy => ?_) x hx
      obtain ⟨w, hw, rfl⟩ := List.mem_map.1 hy
      exact (wdT_free ⟨(a3 w hw).1, (a3 w hw).2.1⟩).2
    · exact hw wPicks _ (by decide) (hmi _) x hx
    · exact hn wCount _ (by decide) x hx
    · exact hn wUntil _ (by decide) x hx
  have hsp : spl 32 (Lib.join (printW r) [32]) = printW r := join_spl 32 _ (by rw [print_tail]; simp [headW]) hfree
  have hl := print_len h
  unfold parseV
  rw [if_neg (by omega), hsp, parse_printW h]
  simp [h]
end Go.Proofs.YtecpfmhminkalaaGreatDoor

/- What is read of a text by a pattern, on plain data: two ways of keeping the numbers agree; no condition. -/
import Derived.Test.YtnmkpadgogbgkaaDoorMdA
import Derived.Test.YtnmkpadgogbgkaaDoorMdB
set_option linter.all false
set_option linter.unusedSimpArgs false
set_option linter.unusedVariables false
namespace Go.Proofs.YtnmkpadgogbgkaaDoor
abbrev Fnd := Nat → Option Int
def setF (F : Fnd) (k : Nat) (n : Int) : Fnd := fun j => if j = k then some n else F j
def digB (c : UInt8) : Bool := decide (48 ≤ c.toNat ∧ c.toNat ≤ 57)
/-- a number of some digits: what is read, what is left, and where -/
def numW : Nat → Int → Str → Nat → Option (Int × Str) × Nat
  | 0, acc, s, i => (some (acc, s), i)
  | _ + 1, _, [], i => (none, i)
  | w + 1, acc, c :: s, i => if digB c = true then numW w (10 * acc + ((c.toNat : Int) - 48)) s (i + 1) else (none, i)
/-- the first of some words that a text begins with -/
def namW : List Str → Str → Option Nat
  | [], _ => none
  | x :: xs, s => if x.isPrefixOf s = true then some 0 else (namW xs s).map (· + 1)
/-- what a letter stands for, read -/
def dirW (k : Nat) (s : Str) (i : Nat) : Option (Int × Str) × Nat :=
  if k = 10 then (match namW daysL s with | some j => (some ((j : Int) + 1, s.drop 3), i + 3) | none => (none, i))
  else if k = 11 then (match namW monthsL s with | some j => (some ((j : Int) + 1, s.drop 3), i + 3) | none => (none, i))
  else numW (widthsL.getD k 0) 0 s i
/-- a byte that must be there -/
def litW (c : UInt8) : Str → Option Str
  | [] => none
  | x :: s => if x = c then some s else none
structure RdgS where
  rest : Str
  at_ : Nat
  F : Fnd
  conf : Bool
def noteF (mp : Nat → Nat) (k : Nat) (n : Int) (r : RdgS) (rest : Str) (i : Nat) : RdgS := ⟨rest, i, setF r.F (mp k) n, r.conf || (match r.F (mp k) with | some o => decide (o ≠ n) | none => false)⟩
/-- a text read by a pattern; where it fails -/
def readG (mp : Nat → Nat) : Str → RdgS → Sum Nat RdgS
  | [], r => .inr r
  | [c], r => match litW c r.rest with | some s => .inr { r with rest := s, at_ := r.at_ + 1 } | none => .inl r.at_
  | c :: c2 :: cs, r =>
    if c = 37 then
      (if c2 = 37 then (match litW 37 r.rest with | some s => readG mp cs { r with rest := s, at_ := r.at_ + 1 } | none => .inl r.at_)
       else match dirW (ltrI c2).toNat r.rest r.at_ with
        | (some (n, s), i) => readG mp cs (noteF mp (ltrI c2).toNat n r s i)
        | (none, i) => .inl i)
    else match litW c r.rest with | some s => readG mp (c2 :: cs) { r with rest := s, at_ := r.at_ + 1 } | none => .inl r.at_
/-- months by name are months -/
def mpI (k : Nat) : Nat := if k = 11 then 1 else k
def orE (a b : Option Int) : Option Int := match a with | some x => some x | none => b
/-- the numbers kept in the one way, and in the other -/
structure Kept (a b : RdgS) : Prop where
  rest : a.rest = b.rest
  at_ : a.at_ = b.at_
  conf : a.conf = (b.conf || (match b.F 1, b.F 11 with | some x, some y => decide (x ≠ y) | _, _ => false))
  one : a.conf = false → a.F 1 = orE (b.F 1) (b.F 11)
  oth : ∀ k, k ≠ 1 → k ≠ 11 → a.F k = b.F k
  no11 : a.F 11 = none
def crossF (F : Fnd) : Bool := match F 1, F 11 with | some x, some y => decide (x ≠ y) | _, _ => false
def diffF (o : Option Int) (n : Int) : Bool := match o with | some x => decide (x ≠ n) | none => false
theorem keep_or {A1 : Option Int} {b1 b11 : Option Int} {ca cb : Bool} (n : Int) (hc : ca = (cb || (match b1, b11 with | some x, some y => decide (x ≠ y) | _, _ => false))) (h1 : ca = false → A1 = orE b1 b11) :
    (ca || diffF A1 n) = ((cb || diffF b11 n) || diffF b1 n) ∧ ((ca || diffF A1 n) = false → some n = orE b1 (some n)) := by
  cases cb with
  | true => simp at hc; subst hc; simp
  | false =>
    cases b1 with
    | none =>
      cases b11 with
      | none => simp at hc; subst hc; rw [h1 rfl]; simp [orE, diffF]
      | some y => simp at hc; subst hc; rw [h1 rfl]; simp [orE, diffF]
    | some x =>
      cases b11 with
      | none => simp at hc; subst hc; rw [h1 rfl]; simp [orE, diffF]; intro h; exact h.symm
      | some y =>
        by_cases hxy : x = y
        · subst hxy; simp at hc; subst hc; rw [h1 rfl]; simp [orE, diffF]; intro h; exact h.symm
        · simp [hxy] at hc; subst hc
          simp [diffF, orE]
          by_cases hy : y = n
          · right; rw [← hy]; exact hxy
          · left; exact hy
def diffR (n : Int) (o : Option Int) : Bool := match o with | some y => decide (n ≠ y) | none => false
theorem keep_or2 {A1 : Option Int} {b1 b11 : Option Int} {ca cb : Bool} (n : Int) (hc : ca = (cb || (match b1, b11 with | some x, some y => decide (x ≠ y) | _, _ => false))) (h1 : ca = false → A1 = orE b1 b11) :
    (ca || diffF A1 n) = ((cb || diffF b1 n) || diffR n b11) := by
  cases cb with
  | true => simp at hc; subst hc; simp
  | false =>
    cases b1 with
    | none =>
      cases b11 with
      | none => simp at hc; subst hc; rw [h1 rfl]; simp [orE, diffF, diffR]
      | some y => simp at hc; subst hc; rw [h1 rfl]; simp [orE, diffF, diffR, eq_comm]
    | some x =>
      cases b11 with
      | none => simp at hc; subst hc; rw [h1 rfl]; simp [orE, diffF, diffR]
      | some y =>
        by_cases hxy : x = y
        · subst hxy; simp at hc; subst hc; rw [h1 rfl]; simp [orE, diffF, diffR, eq_comm]
        · simp [hxy] at hc; subst hc
          simp [diffF, diffR]
          by_cases hy : x = n
          · right; rw [← hy]; exact hxy
          · left; exact hy
theorem Kept.note {a b : RdgS} (h : Kept a b) (k : Nat) (n : Int) (s : Str) (i : Nat) : Kept (noteF mpI k n a s i) (noteF id k n b s i) := by
  obtain ⟨h1, h2, h3, h4, h5, h6⟩ := h
  by_cases k11 : k = 11
  · subst k11
    obtain ⟨e1, e2⟩ := keep_or n h3 h4
    refine ⟨rfl, rfl, ?_, ?_, ?_, ?_⟩
    · show (a.conf || diffF (a.F 1) n) = ((b.conf || diffF (b.F 11) n) || _)
      rw [e1]
      congr 1
      simp only [noteF, setF, id]
      cases b.F 1 <;> simp [diffF]
    · intro hc
      have := e2 hc
      simpa [noteF, setF, mpI] using this
    · intro j j1 j11; simpa [noteF, setF, mpI, j1, j11] using h5 j j1 j11
    · simp [noteF, setF, mpI, h6]
  · by_cases k1 : k = 1
    · subst k1
      have e1 := keep_or2 n h3 h4
      refine ⟨rfl, rfl, ?_, ?_, ?_, ?_⟩
      · show (a.conf || diffF (a.F 1) n) = ((b.conf || diffF (b.F 1) n) || _)
        rw [e1]
        congr 1
        simp only [noteF, setF, id]
        cases b.F 11 <;> rfl
      · intro _
        simp [noteF, setF, mpI, orE]
      · intro j j1 j11; simpa [noteF, setF, mpI, j1, j11] using h5 j j1 j11
      · simp [noteF, setF, mpI, h6]
    · refine ⟨rfl, rfl, ?_, ?_, ?_, ?_⟩
      · simp only [noteF, mpI, if_neg k11, id, setF, if_neg (Ne.symm k1), if_neg (Ne.symm k11)]
        rw [h3, h5 k k1 k11]
        cases b.conf <;> cases b.F k <;> simp [Bool.or_comm]
      · intro hc
        have hc' : a.conf = false := by
          simp only [noteF, Bool.or_eq_false_iff] at hc; exact hc.1
        simpa [noteF, setF, mpI, k11, Ne.symm k1, Ne.symm k11] using h4 hc'
      · intro j j1 j11
        by_cases hj : j = k
        · simp [noteF, setF, mpI, k11, hj]
        · simpa [noteF, setF, mpI, k11, hj] using h5 j j1 j11
      · simp [noteF, setF, mpI, k11, Ne.symm k11, h6]
theorem Kept.go : ∀ (p : Str) {a b : RdgS}, Kept a b → (∃ j, readG mpI p a = .inl j ∧ readG id p b = .inl j) ∨ ∃ a' b', readG mpI p a = .inr a' ∧ readG id p b = .inr b' ∧ Kept a' b'
  | [], a, b, h => .inr ⟨a, b, rfl, rfl, h⟩
  | [c], a, b, h => by
    simp only [readG]
    rw [h.rest, h.at_]
    cases litW c b.rest with
    | none => exact .inl ⟨_, rfl, rfl⟩
    | some s => exact .inr ⟨_, _, rfl, rfl, rfl, rfl, h.conf, h.one, h.oth, h.no11⟩
  | c :: c2 :: cs, a, b, h => by
    rw [readG, readG, h.rest, h.at_]
    by_cases hc : c = 37
    · rw [if_pos hc, if_pos hc]
      by_cases h2 : c2 = 37
      · rw [if_pos h2, if_pos h2]
        cases litW 37 b.rest with
        | none => exact .inl ⟨_, rfl, rfl⟩
        | some s => exact Kept.go cs ⟨rfl, rfl, h.conf, h.one, h.oth, h.no11⟩
      · rw [if_neg h2, if_neg h2]
        rcases dirW (ltrI c2).toNat b.rest b.at_ with ⟨_ | ⟨n, s⟩, i⟩
        · exact .inl ⟨_, rfl, rfl⟩
        · exact Kept.go cs (h.note _ n s i)
    · rw [if_neg hc, if_neg hc]
      cases litW c b.rest with
      | none => exact .inl ⟨_, rfl, rfl⟩
      | some s => exact Kept.go (c2 :: cs) ⟨rfl, rfl, h.conf, h.one, h.oth, h.no11⟩
/-- the moment of the numbers -/
def momF (F : Fnd) : Mo := ⟨(F 0).getD 1, (F 1).getD 1, (F 2).getD 1, (F 3).getD 0, (F 4).getD 0, (F 5).getD 0⟩
def start (s : Str) : RdgS := ⟨s, 0, fun _ => none, false⟩
/-- the numbers are those of a moment -/
def agrF (F : Fnd) (m : Mo) (lo : Nat) : Bool := (List.range 11).all fun k => decide (k < lo) || (match F k with | some n => decide (fldV m k = n) | none => true)
/-- the moment of a text, as it is read -/
def readI (s p : Str) : Mo × (Int × Int) := match readG mpI p (start s) with
  | .inl j => (noMo, (1, j))
  | .inr r => if r.rest ≠ [] then (noMo, (1, r.at_)) else if r.conf = true then (noMo, (19, -1)) else if (moF (momF r.F)).1 ≠ 0 then (noMo, (4, -3))
    else if agrF r.F (momF r.F) 0 = true then (momF r.F, (0, 0)) else (noMo, (19, -4))
/-- the same, as it is specified -/
def mixF (F : Fnd) : Fnd := fun k => if k = 1 then orE (F 1) (F 11) else F k
def readS (s p : Str) : Mo × (Int × Int) := match readG id p (start s) with
  | .inl j => (noMo, (1, j))
  | .inr r => if r.rest ≠ [] then (noMo, (1, r.at_)) else if r.conf = true ∨ crossF r.F = true then (noMo, (19, -1)) else if (moF (momF (mixF r.F))).1 ≠ 0 then (noMo, (4, -3))
    else if agrF r.F (momF (mixF r.F)) 6 = true then (momF (mixF r.F), (0, 0)) else (noMo, (19, -4))
theorem start_kept (s : Str) : Kept (start s) (start s) := ⟨rfl, rfl, rfl, fun _ => rfl, fun _ _ _ => rfl, rfl⟩
theorem agr_six {F : Fnd} (h : ∀ k x, k < 6 → F k = some x → fldV (momF F) k = x) (G : Fnd) (hG : ∀ k, 6 ≤ k → k < 11 → G k = F k) : agrF F (momF F) 0 = agrF G (momF F) 6 := by
  unfold agrF
  apply Bool.eq_iff_iff.2
  simp only [List.all_eq_true, List.mem_range]
  constructor
  · intro ha k hk
    have := ha k hk
    by_cases h6 : k < 6
    · simp [h6]
    · rw [hG k (by omega) hk]; simpa [h6] using this
  · intro ha k hk
    have := ha k hk
    by_cases h6 : k < 6
    · cases hf : F k with
      | none => simp
      | some x => simp [h k x h6 hf]
    · rw [hG k (by omega) hk] at this; simpa [h6] using this
theorem mom_fld (F : Fnd) : ∀ k x, k < 6 → F k = some x → fldV (momF F) k = x := by
  intro k x hk hf
  rcases (by omega : k = 0 ∨ k = 1 ∨ k = 2 ∨ k = 3 ∨ k = 4 ∨ k = 5) with rfl | rfl | rfl | rfl | rfl | rfl <;> simp [fldV, momF, hf]
/-- both ways of keeping the numbers yield the same -/
theorem read_same (s p : Str) : readI s p = readS s p := by
  unfold readI readS
  rcases Kept.go p (start_kept s) with ⟨j, e1, e2⟩ | ⟨a, b, e1, e2, h⟩
  · rw [e1, e2]
  · rw [e1, e2]
    simp only [h.rest, h.at_]
    have hcr : a.conf = true ↔ (b.conf = true ∨ crossF b.F = true) := by
      rw [h.conf]; unfold crossF; cases b.conf <;> simp
    by_cases hr : b.rest ≠ []
    · rw [if_pos hr, if_pos hr]
    · rw [if_neg hr, if_neg hr]
      by_cases hc : a.conf = true
      · rw [if_pos hc, if_pos (hcr.1 hc)]
      · rw [if_neg hc, if_neg (fun h' => hc (hcr.2 h'))]
        have hcf : a.conf = false := by simpa using hc
        have hone := h.one hcf
        have hF : ∀ k, k < 11 → a.F k = mixF b.F k := by
          intro k hk
          unfold mixF
          by_cases h1 : k = 1
          · rw [if_pos h1, h1]; exact hone
          · rw [if_neg h1]; exact h.oth k h1 (by omega)
        have hm : momF a.F = momF (mixF b.F) := by
          unfold momF
          rw [hF 0 (by omega), hF 1 (by omega), hF 2 (by omega), hF 3 (by omega), hF 4 (by omega), hF 5 (by omega)]
        have hag : agrF a.F (momF a.F) 0 = agrF b.F (momF (mixF b.F)) 6 := by
          rw [agr_six (mom_fld a.F) b.F (fun k h6 hk => (h.oth k (by omega) (by omega)).symm), hm]
        rw [hm] at hag ⊢
        rw [hag]
end Go.Proofs.YtnmkpadgogbgkaaDoor
namespace Go.Proofs.YtnmkpadgogbgkaaDoor
def valI (acc : Int) : Str → Int
  | [] => acc
  | c :: r => valI (10 * acc + ((c.toNat : Int) - 48)) r
theorem valI_snoc (c : UInt8) (l : Str) : ∀ acc : Int, valI acc (l ++ [c]) = 10 * valI acc l + ((c.toNat : Int) - 48) := by
  induction l with
  | nil => intro acc; rfl
  | cons x l ih => intro acc; exact ih _
theorem valI_zeros (l : Str) : ∀ z : Nat, valI 0 (List.replicate z 48 ++ l) = valI 0 l
  | 0 => rfl
  | z + 1 => valI_zeros l z
theorem numW_app : ∀ (l : Str) (acc : Int) (rest : Str) (i : Nat), (∀ c ∈ l, digB c = true) → numW l.length acc (l ++ rest) i = (some (valI acc l, rest), i + l.length)
  | [], acc, rest, i, _ => rfl
  | c :: l, acc, rest, i, h => by
    have ih := numW_app l (10 * acc + ((c.toNat : Int) - 48)) rest (i + 1) fun x hx => h x (List.mem_cons_of_mem _ hx)
    rw [List.length_cons, List.cons_append, numW, if_pos (h c List.mem_cons_self), ih]
    simp only [valI]
    congr 1; omega
theorem digD_fin : ∀ d : Fin 10, (UInt8.ofNat (48 + d.val)).toNat = 48 + d.val := by decide
theorem digD_nat {d : Nat} (h : d < 10) : (UInt8.ofNat (48 + d)).toNat = 48 + d := by
  have e := digD_fin ⟨d, h⟩
  simp only at e
  exact e
theorem digD_is {d : Nat} (h : d < 10) : digB (UInt8.ofNat (48 + d)) = true := by
  have e := digD_nat h
  unfold digB
  rw [e]
  exact decide_eq_true (by omega)
theorem decD_digits (u : Nat) : ∀ c ∈ Lib.decDigits u, digB c = true := by
  induction u using Nat.strongRecOn with
  | _ u ih =>
    intro c hc
    rw [Lib.decDigits] at hc
    split at hc
    · rw [List.mem_singleton.1 hc]; exact digD_is (by omega)
    · rcases List.mem_append.1 hc with h | h
      · exact ih _ (by omega) c h
      · rw [List.mem_singleton.1 h]; exact digD_is (by omega)
theorem valD_one {c : UInt8} {d : Nat} (h : c.toNat = 48 + d) : valI 0 [c] = d ∧ ∀ l : Str, valI 0 (l ++ [c]) = 10 * valI 0 l + d := by
  constructor
  · show 10 * 0 + ((c.toNat : Int) - 48) = _
    rw [h]; omega
  · intro l; rw [valI_snoc, h]; omega
theorem valI_dec (u : Nat) : valI 0 (Lib.decDigits u) = u := by
  induction u using Nat.strongRecOn with
  | _ u ih =>
    rw [Lib.decDigits]
    split
    · rename_i h0
      have e := (valD_one (digD_nat (d := u) h0)).1
      generalize UInt8.ofNat (48 + u) = c at e ⊢
      rw [e]
    · rename_i h0
      have e := (valD_one (digD_nat (d := u % 10) (by omega))).2 (Lib.decDigits (u / 10))
      have e2 := ih (u / 10) (by omega)
      generalize UInt8.ofNat (48 + u % 10) = c at e ⊢
      rw [e, e2]; omega
theorem nDig_le : ∀ (k u : Nat), u < 10 ^ (k + 1) → Lib.nDigits u ≤ k + 1
  | 0, u, h => by rw [Lib.nDigits_small (by omega)]; omega
  | k + 1, u, h => by
    by_cases c : u < 10
    · rw [Lib.nDigits_small c]; omega
    · rw [Lib.nDigits_big c]
      have := nDig_le k (u / 10) (by rw [Nat.pow_succ] at h; omega)
      omega
theorem wide_read {n : Int} {w : Nat} (h0 : 0 ≤ n) (hw : (Lib.itoa n).length ≤ w) (rest : Str) (i : Nat) : numW w 0 (wideF n w ++ rest) i = (some (n, rest), i + w) ∧ (wideF n w).length = w := by
  obtain ⟨u, rfl⟩ : ∃ u : Nat, n = u := ⟨n.toNat, by omega⟩
  have hi : Lib.itoa (u : Int) = Lib.decDigits u := by unfold Lib.itoa; rw [if_neg (by omega)]; rfl
  have hl : (wideF (u : Int) w).length = w := by
    unfold wideF; simp only [List.length_append, List.length_replicate]; omega
  have hd : ∀ c ∈ wideF (u : Int) w, digB c = true := by
    intro c hc
    unfold wideF at hc
    rcases List.mem_append.1 hc with h | h
    · rw [List.eq_of_mem_replicate h]; decide
    · rw [hi] at h; exact decD_digits u c h
  have hv : valI 0 (wideF (u : Int) w) = u := by
    unfold wideF; rw [valI_zeros, hi, valI_dec]
  have key := numW_app (wideF (u : Int) w) 0 rest i hd
  rw [hl, hv] at key
  exact ⟨key, hl⟩
theorem fld_fits {a : Mo} (h : a.ok) (k : Nat) (hk : k < 10) : (Lib.itoa (fldV a k)).length ≤ widthsL.getD k 0 := by
  have hb := h.dayB
  have hw := wk_bounds hb.1 hb.2.1
  have hu := bef_up a.y
  have hn := dayN_bounds h.okD
  have he : doy a.y a.m a.d = a.day - bef a.y := by unfold Mo.day dayN; omega
  have h0 := (fld_bounds h k).1
  obtain ⟨h1, h2, h3, h4, h5, h6, h7, h8, h9, h10, h11, h12⟩ := h
  have hd := dom_pos a.y a.m
  obtain ⟨u, hu'⟩ : ∃ u : Nat, fldV a k = u := ⟨(fldV a k).toNat, by omega⟩
  have hi : Lib.itoa (u : Int) = Lib.decDigits u := by unfold Lib.itoa; rw [if_neg (by omega)]; rfl
  rw [hu', hi, Lib.decDigits_length]
  have hdm : dom a.y a.m ≤ 31 := by
    unfold dom; split <;> (try split) <;> (try split) <;> omega
  have fin : ∀ w : Nat, 1 ≤ w → u < 10 ^ w → Lib.nDigits u ≤ w := by
    intro w hw hlt
    obtain ⟨j, rfl⟩ : ∃ j, w = j + 1 := ⟨w - 1, by omega⟩
    exact nDig_le j u hlt
  rcases (by omega : k = 0 ∨ k = 1 ∨ k = 2 ∨ k = 3 ∨ k = 4 ∨ k = 5 ∨ k = 6 ∨ k = 7 ∨ k = 8 ∨ k = 9) with rfl | rfl | rfl | rfl | rfl | rfl | rfl | rfl | rfl | rfl <;> simp only [fldV, List.getD_cons_zero, List.getD_cons_succ] at hu' <;> refine fin _ (by decide) ?_ <;> simp only [widthsL, List.getD_cons_zero, List.getD_cons_succ] <;> omega
theorem nam_days (rest : Str) : ∀ j : Nat, j < 7 → namW daysL (daysL.getD j [] ++ rest) = some j ∧ (daysL.getD j [] ++ rest).drop 3 = rest := by
  intro j hj
  rcases (by omega : j = 0 ∨ j = 1 ∨ j = 2 ∨ j = 3 ∨ j = 4 ∨ j = 5 ∨ j = 6) with rfl | rfl | rfl | rfl | rfl | rfl | rfl <;> simp [namW, daysL, List.isPrefixOf]
theorem nam_months (rest : Str) : ∀ j : Nat, j < 12 → namW monthsL (monthsL.getD j [] ++ rest) = some j ∧ (monthsL.getD j [] ++ rest).drop 3 = rest := by
  intro j hj
  rcases (by omega : j = 0 ∨ j = 1 ∨ j = 2 ∨ j = 3 ∨ j = 4 ∨ j = 5 ∨ j = 6 ∨ j = 7 ∨ j = 8 ∨ j = 9 ∨ j = 10 ∨ j = 11) with rfl | rfl | rfl | rfl | rfl | rfl | rfl | rfl | rfl | rfl | rfl | rfl <;> simp [namW, monthsL, List.isPrefixOf]
theorem dir_read {a : Mo} (h : a.ok) (k : Nat) (hk : k < 12) (rest : Str) (i : Nat) : ∃ j, dirW k (dirT a k ++ rest) i = (some (fldV a k, rest), j) := by
  obtain ⟨n1, n2, n3, n4⟩ := fld_name h
  unfold dirW dirT
  by_cases h10 : k = 10
  · subst h10
    obtain ⟨e1, e2⟩ := nam_days rest (fldV a 10 - 1).toNat (by omega)
    rw [if_pos rfl, if_pos rfl, e1]
    simp only [e2]
    refine ⟨_, by congr 3; omega⟩
  · by_cases h11 : k = 11
    · subst h11
      obtain ⟨e1, e2⟩ := nam_months rest (fldV a 11 - 1).toNat (by omega)
      rw [if_neg h10, if_pos rfl, if_neg h10, if_pos rfl, e1]
      simp only [e2]
      refine ⟨_, by congr 3; omega⟩
    · rw [if_neg h10, if_neg h11, if_neg h10, if_neg h11]
      exact ⟨_, (wide_read (fld_bounds h k).1 (fld_fits h k (by omega)) rest i).1⟩
/-- the directives of a pattern -/
def dirsF : Str → List Nat
  | [] => []
  | [_] => []
  | c :: c2 :: cs => if c = 37 then (if c2 = 37 then dirsF cs else (ltrI c2).toNat :: dirsF cs) else dirsF (c2 :: cs)
theorem fld_mp (a : Mo) (k : Nat) : fldV a (mpI k) = fldV a k := by
  unfold mpI
  split
  · rename_i h; subst h; rfl
  · rfl
theorem read_fmt {a : Mo} (h : a.ok) : ∀ (p : Str), patOk p = true → ∀ (tail : Str) (r : RdgS), r.rest = fmtF a p ++ tail → r.conf = false → (∀ k n, r.F k = some n → n = fldV a k) →
    ∃ r', readG mpI p r = .inr r' ∧ r'.rest = tail ∧ r'.conf = false ∧ (∀ k n, r'.F k = some n → n = fldV a k) ∧ (∀ k, (r.F k).isSome = true → (r'.F k).isSome = true) ∧ ∀ k ∈ dirsF p, (r'.F (mpI k)).isSome = true
  | [], _, tail, r, hr, hc, hF => ⟨r, rfl, hr, hc, hF, fun _ h => h, fun k hk => by cases hk⟩
  | [c], hp, tail, r, hr, hc, hF => by
    have hr' : r.rest = c :: tail := hr
    refine ⟨{ r with rest := tail, at_ := r.at_ + 1 }, ?_, rfl, hc, hF, fun _ h => h, fun k hk => by cases hk⟩
    simp only [readG, hr', litW, if_true]
  | c :: c2 :: cs, hp, tail, r, hr, hc, hF => by
    rw [readG]
    rw [patOk] at hp
    rw [fmtF] at hr
    by_cases h37 : c = 37
    · rw [if_pos h37] at hp hr ⊢
      simp only [Bool.and_eq_true] at hp
      by_cases h2 : c2 = 37
      · rw [if_pos h2] at hr ⊢
        rw [hr, List.cons_append]
        simp only [litW, if_true]
        obtain ⟨r', k1, k2, k3, k4, k5, k6⟩ := read_fmt h cs hp.2 tail { r with rest := fmtF a cs ++ tail, at_ := r.at_ + 1 } rfl hc hF
        refine ⟨r', k1, k2, k3, k4, k5, fun k hk => k6 k ?_⟩
        rw [dirsF, if_pos h37, if_pos h2] at hk; exact hk
      · rw [if_neg h2] at hr ⊢
        have hl : ¬ ltrI c2 < 0 := by
          intro hl; have := hp.1; simp [hl, h2] at this
        obtain ⟨k, hk, hk12, _⟩ := ltr_lt c2 hl
        have hkn : (ltrI c2).toNat = k := by omega
        rw [hkn] at hr ⊢
        rw [hr, List.append_assoc]
        obtain ⟨j, hj⟩ := dir_read h k hk12 (fmtF a cs ++ tail) r.at_
        rw [hj]
        simp only
        have hF2 : ∀ k' n, (noteF mpI k (fldV a k) r (fmtF a cs ++ tail) j).F k' = some n → n = fldV a k' := by
          intro k' n hn
          simp only [noteF, setF] at hn
          split at hn
          · rename_i e; injection hn with hn; rw [← hn, e, fld_mp]
          · exact hF k' n hn
        have hc2 : (noteF mpI k (fldV a k) r (fmtF a cs ++ tail) j).conf = false := by
          simp only [noteF, hc, Bool.false_or]
          cases e : r.F (mpI k) with
          | none => rfl
          | some o => have := hF _ _ e; rw [fld_mp] at this; simp [this]
        obtain ⟨r', k1, k2, k3, k4, k5, k6⟩ := read_fmt h cs hp.2 tail _ rfl hc2 hF2
        refine ⟨r', k1, k2, k3, k4, fun k' hk' => k5 k' ?_, fun k' hk' => ?_⟩
        · simp only [noteF, setF]
          split
          · rfl
          · exact hk'
        · rw [dirsF, if_pos h37, if_neg h2, hkn] at hk'
          rcases List.mem_cons.1 hk' with rfl | hk'
          · exact k5 _ (by simp [noteF, setF])
          · exact k6 k' hk'
    · rw [if_neg h37] at hp hr ⊢
      rw [hr, List.cons_append]
      simp only [litW, if_true]
      obtain ⟨r', k1, k2, k3, k4, k5, k6⟩ := read_fmt h (c2 :: cs) hp tail { r with rest := fmtF a (c2 :: cs) ++ tail, at_ := r.at_ + 1 } rfl hc hF
      refine ⟨r', k1, k2, k3, k4, k5, fun k hk => k6 k ?_⟩
      rw [dirsF, if_neg h37] at hk; exact hk
abbrev dayP : Str := [37, 100, 46, 37, 109, 46, 37, 89, 32]
/-- a formatted moment, read again -/
theorem fmt_read {a : Mo} (h : a.ok) (p : Str) (hp : patOk (dayP ++ p) = true) : ∃ x : Mo, readI (fmtF a (dayP ++ p)) (dayP ++ p) = (x, (0, 0)) ∧ x.y = a.y ∧ x.m = a.m ∧ x.d = a.d ∧ (x.h = a.h ∨ x.h = 0) ∧ (x.mi = a.mi ∨ x.mi = 0) ∧ (x.s = a.s ∨ x.s = 0) := by
  obtain ⟨r, k1, k2, k3, k4, _, k6⟩ := read_fmt h (dayP ++ p) hp [] (start (fmtF a (dayP ++ p))) (by simp [start]) rfl (fun k n hn => by cases hn)
  have hd : dirsF (dayP ++ p) = 2 :: 1 :: 0 :: dirsF (32 :: p) := rfl
  have some_ : ∀ k, (r.F k).isSome = true → r.F k = some (fldV a k) := by
    intro k hk
    cases e : r.F k with
    | none => rw [e] at hk; cases hk
    | some n => rw [k4 k n e]
  have f2 := some_ 2 (k6 2 (by rw [hd]; simp))
  have f1 := some_ 1 (k6 1 (by rw [hd]; simp))
  have f0 := some_ 0 (k6 0 (by rw [hd]; simp))
  have fo : ∀ k, r.F k = none ∨ r.F k = some (fldV a k) := by
    intro k
    cases e : r.F k with
    | none => exact .inl rfl
    | some n => exact .inr (by rw [k4 k n e])
  have hy : (momF r.F).y = a.y := by simp [momF, f0, fldV]
  have hm : (momF r.F).m = a.m := by simp [momF, f1, fldV]
  have hdd : (momF r.F).d = a.d := by simp [momF, f2, fldV]
  have hh : (momF r.F).h = a.h ∨ (momF r.F).h = 0 := by rcases fo 3 with e | e <;> simp [momF, e, fldV]
  have hmi : (momF r.F).mi = a.mi ∨ (momF r.F).mi = 0 := by rcases fo 4 with e | e <;> simp [momF, e, fldV]
  have hs : (momF r.F).s = a.s ∨ (momF r.F).s = 0 := by rcases fo 5 with e | e <;> simp [momF, e, fldV]
  have hok : (momF r.F).ok := by
    obtain ⟨b1, b2, b3, b4, b5, b6, b7, b8, b9, b10, b11, b12⟩ := h
    unfold Mo.ok
    rw [hy, hm, hdd]
    refine ⟨b1, b2, b3, b4, b5, b6, ?_, ?_, ?_, ?_, ?_, ?_⟩ <;> omega
  have hag : agrF r.F (momF r.F) 0 = true := by
    unfold agrF
    rw [List.all_eq_true]
    intro k hk
    rw [List.mem_range] at hk
    cases e : r.F k with
    | none => simp
    | some n =>
      have hn := k4 k n e
      have : fldV (momF r.F) k = n := by
        by_cases h6 : k < 6
        · exact mom_fld r.F k n h6 e
        · rw [hn]
          have hday : (momF r.F).day = a.day := by unfold Mo.day; rw [hy, hm, hdd]
          rcases (by omega : k = 6 ∨ k = 7 ∨ k = 8 ∨ k = 9 ∨ k = 10) with rfl | rfl | rfl | rfl | rfl <;> simp only [fldV, List.getD_cons_zero, List.getD_cons_succ, hday, hy, hm, hdd]
      simp [this]
  refine ⟨momF r.F, ?_, hy, hm, hdd, hh, hmi, hs⟩
  unfold readI
  rw [k1]
  simp only [k2, k3]
  rw [if_neg (by simp), if_neg (by simp), if_neg (fun hne => hne (moF_ok.2 hok)), if_pos hag]
end Go.Proofs.YtnmkpadgogbgkaaDoor
namespace Go.Proofs.YtnmkpadgogbgkaaDoor
abbrev keyA (k : Nat) : AV := .int .u8 ((lettersL.getD k 0).toNat : Nat)
theorem letter_inj : ∀ a b : Fin 11, (lettersL.getD a.val 0).toNat = (lettersL.getD b.val 0).toNat → a = b := by decide
theorem keyEq_A {a b : Nat} (ha : a < 11) (hb : b < 11) : keyEq (keyA a) (keyA b) = decide (b = a) := by
  simp only [keyEq, decide_true, Bool.true_and]
  apply Bool.eq_iff_iff.2
  simp only [decide_eq_true_eq]
  constructor
  · intro h
    have := letter_inj ⟨a, ha⟩ ⟨b, hb⟩ (by simp only; omega)
    simpa using this.symm
  · rintro rfl; rfl
/-- numbers under letters -/
abbrev FL := List (Nat × Int)
def lkF (l : FL) : Fnd := match l with
  | [] => fun _ => none
  | p :: r => fun k => if p.1 = k then some p.2 else lkF r k
def setL (k : Nat) (n : Int) : FL → FL
  | [] => [(k, n)]
  | p :: r => if p.1 = k then (k, n) :: r else p :: setL k n r
abbrev encF (l : FL) : List (AV × AV) := l.map fun p => (keyA p.1, aI p.2)
def okL (l : FL) : Prop := (∀ p ∈ l, p.1 < 11) ∧ (l.map (·.1)).Nodup
theorem find_enc {k : Nat} (hk : k < 11) : ∀ {l : FL}, (∀ p ∈ l, p.1 < 11) → mfind (keyA k) (encF l) = (lkF l k).map aI
  | [], _ => rfl
  | p :: r, h => by
    have ih := find_enc hk (l := r) fun q hq => h q (List.mem_cons_of_mem _ hq)
    have hp := h p List.mem_cons_self
    simp only [encF, List.map_cons, mfind, keyEq_A hk hp, lkF, decide_eq_true_eq]
    split
    · rfl
    · exact ih
theorem set_enc {k : Nat} (hk : k < 11) (n : Int) : ∀ {l : FL}, (∀ p ∈ l, p.1 < 11) → msetL (keyA k) (aI n) (encF l) = encF (setL k n l)
  | [], _ => rfl
  | p :: r, h => by
    have ih := set_enc hk n (l := r) fun q hq => h q (List.mem_cons_of_mem _ hq)
    have hp := h p List.mem_cons_self
    simp only [encF, List.map_cons, msetL, keyEq_A hk hp, decide_eq_true_eq, setL]
    split
    · rfl
    · rw [List.map_cons]; congr 1
theorem lk_set (k : Nat) (n : Int) : ∀ l : FL, lkF (setL k n l) = setF (lkF l) k n
  | [] => by funext j; simp [setL, lkF, setF, eq_comm]
  | p :: r => by
    have ih := lk_set k n r
    funext j
    simp only [setL]
    split
    · rename_i h; simp only [lkF, setF, h]
      by_cases hj : j = k
      · simp [hj]
      · simp [hj, Ne.symm hj]
    · rename_i h
      simp only [lkF, ih, setF]
      by_cases hj : j = k
      · subst hj; simp [h]
      · simp [hj]
theorem set_mem (k : Nat) (n : Int) : ∀ (l : FL) (j : Nat), j ∈ (setL k n l).map (·.1) ↔ j = k ∨ j ∈ l.map (·.1)
  | [], j => by simp [setL]
  | p :: r, j => by
    have ih := set_mem k n r j
    simp only [setL]
    split
    · rename_i h; simp only [List.map_cons, List.mem_cons, h]
      constructor
      · rintro (h | h); exact .inl h; exact .inr (.inr h)
      · rintro (h | h | h); exact .inl h; exact .inl h; exact .inr h
    · simp only [List.map_cons, List.mem_cons, ih]
      constructor
      · rintro (h | h | h); exact .inr (.inl h); exact .inl h; exact .inr (.inr h)
      · rintro (h | h | h); exact .inr (.inl h); exact .inl h; exact .inr (.inr h)
theorem okL_set {k : Nat} (hk : k < 11) (n : Int) : ∀ {l : FL}, okL l → okL (setL k n l)
  | [], _ => ⟨fun p hp => by simp [setL] at hp; subst hp; exact hk, by simp [setL]⟩
  | p :: r, h => by
    obtain ⟨h1, h2⟩ := h
    have hr : okL r := ⟨fun q hq => h1 q (List.mem_cons_of_mem _ hq), (List.nodup_cons.1 h2).2⟩
    obtain ⟨i1, i2⟩ := okL_set hk n hr
    simp only [setL]
    split
    · rename_i hp
      refine ⟨fun q hq => ?_, by rw [List.map_cons, ← hp]; exact h2⟩
      rcases List.mem_cons.1 hq with rfl | hq
      · exact hk
      · exact h1 q (List.mem_cons_of_mem _ hq)
    · rename_i hp
      refine ⟨fun q hq => ?_, ?_⟩
      · rcases List.mem_cons.1 hq with rfl | hq
        · exact h1 _ List.mem_cons_self
        · exact i1 q hq
      · rw [List.map_cons, List.nodup_cons]
        refine ⟨fun hm => ?_, i2⟩
        rcases (set_mem k n r p.1).1 hm with e | e
        · exact hp e
        · exact (List.nodup_cons.1 h2).1 e
theorem lk_mem : ∀ {l : FL}, okL l → ∀ {k : Nat} {n : Int}, lkF l k = some n ↔ (k, n) ∈ l
  | [], _, k, n => by simp [lkF]
  | p :: r, h, k, n => by
    obtain ⟨h1, h2⟩ := h
    have hr : okL r := ⟨fun q hq => h1 q (List.mem_cons_of_mem _ hq), (List.nodup_cons.1 h2).2⟩
    have ih := lk_mem hr (k := k) (n := n)
    simp only [lkF]
    by_cases hp : p.1 = k
    · rw [if_pos hp]
      constructor
      · intro e; injection e with e; rw [← hp, ← e]; exact List.mem_cons_self
      · intro hm
        rcases List.mem_cons.1 hm with e | hm
        · rw [← e]
        · exact absurd (List.mem_map.2 ⟨(k, n), hm, rfl⟩) (by rw [← hp]; exact (List.nodup_cons.1 h2).1)
    · rw [if_neg hp, ih]
      constructor
      · exact List.mem_cons_of_mem _
      · intro hm
        rcases List.mem_cons.1 hm with e | hm
        · exact absurd (by rw [← e]) hp
        · exact hm
/-- all that is found is right, if each is -/
theorem agr_all {l : FL} (h : okL l) (m : Mo) : agrF (lkF l) m 0 = true ↔ ∀ p ∈ l, fldV m p.1 = p.2 := by
  unfold agrF
  rw [List.all_eq_true]
  constructor
  · intro ha p hp
    have := ha p.1 (List.mem_range.2 (h.1 p hp))
    rw [(lk_mem h).2 (show (p.1, p.2) ∈ l from hp)] at this
    simpa using this
  · intro ha k hk
    cases e : lkF l k with
    | none => simp
    | some n =>
      have := ha (k, n) ((lk_mem h).1 e)
      simpa using this
end Go.Proofs.YtnmkpadgogbgkaaDoor

/- Entries of queues as plain data: their order, their faults, the reference's and the program's functions on lists of them; no condition. -/
import Derived.Lib.Bytealg
import Derived.Lib.Strings
namespace Go.Proofs.Ytefeiogbaiodnaa

structure Ent where
  name : ByteArray
  rank : Int

instance : DecidableEq Ent := fun a b =>
  if h : a.name = b.name ∧ a.rank = b.rank then .isTrue (by cases a; cases b; simp_all) else .isFalse (by rintro rfl; exact h ⟨rfl, rfl⟩)

def E0 : Ent := ⟨ByteArray.empty, 0⟩
/-- element i -/
def nth (l : List Ent) (i : Nat) : Ent := l.getD i E0

theorem nth_eq {l : List Ent} {i : Nat} (h : i < l.length) : nth l i = l[i] := by simp [nth, h]
theorem nth_get? {l : List Ent} {i : Nat} (h : i < l.length) : l[i]? = some (nth l i) := by simp [nth, h]

def cmpInt (a b : Int) : Int := if a < b then -1 else if b < a then 1 else 0
theorem cmpInt_lt {a b : Int} (h : a < b) : cmpInt a b = -1 := by simp [cmpInt, h]
theorem cmpInt_gt {a b : Int} (h : b < a) : cmpInt a b = 1 := by unfold cmpInt; rw [if_neg (by omega), if_pos h]
theorem cmpInt_eq {a b : Int} (h : b ≤ a) (h' : a ≤ b) : cmpInt a b = 0 := by unfold cmpInt; rw [if_neg (by omega), if_neg (by omega)]
def orInt (a b : Int) : Int := if a = 0 then b else a
theorem orInt_z {a b : Int} (h : a = 0) : orInt a b = b := by simp [orInt, h]
theorem orInt_n {a b : Int} (h : a ≠ 0) : orInt a b = a := by simp [orInt, h]
def cmpEnt (a b : Ent) : Int := orInt (cmpInt a.rank b.rank) (Lib.compareBytes a.name.data.toList b.name.data.toList)
/-- Ahead -/
def lt (a b : Ent) : Bool := decide (a.rank < b.rank) || (decide (a.rank = b.rank) && Op.bytesLess a.name.toList b.name.toList)

theorem u8_lt_irrefl (a : UInt8) : ¬ a < a := by simp
theorem cb_lt (a b : List UInt8) : Lib.compareBytes a b < 0 ↔ Op.bytesLess a b = true := by
  induction a generalizing b with
  | nil => cases b <;> simp [Lib.compareBytes, Op.bytesLess]
  | cons x a ih =>
    cases b with
    | nil => simp [Lib.compareBytes, Op.bytesLess]
    | cons y b =>
      simp only [Lib.compareBytes, Op.bytesLess]
      by_cases h : x < y
      · simp [h]
      · by_cases h' : y < x
        · have hne : x ≠ y := by rintro rfl; exact h h'
          simp [h, h', hne]
        · have : x = y := by
            apply UInt8.toNat_inj.1
            have h1 : ¬ x.toNat < y.toNat := fun hh => h (UInt8.lt_iff_toNat_lt.2 hh)
            have h2 : ¬ y.toNat < x.toNat := fun hh => h' (UInt8.lt_iff_toNat_lt.2 hh)
            omega
          subst this
          simp [ih]
theorem bl_irrefl (a : List UInt8) : Op.bytesLess a a = false := by
  induction a with
  | nil => rfl
  | cons x a ih => simp [Op.bytesLess, ih]
theorem bl_tri (a b : List UInt8) : Op.bytesLess a b = true ∨ a = b ∨ Op.bytesLess b a = true := by
  induction a generalizing b with
  | nil => cases b <;> simp [Op.bytesLess]
  | cons x a ih =>
    cases b with
    | nil => simp [Op.bytesLess]
    | cons y b =>
      simp only [Op.bytesLess]
      by_cases h : x < y
      · simp [h]
      · by_cases h' : y < x
        · simp [h']
        · have : x = y := by
            apply UInt8.toNat_inj.1
            have h1 : ¬ x.toNat < y.toNat := fun hh => h (UInt8.lt_iff_toNat_lt.2 hh)
            have h2 : ¬ y.toNat < x.toNat := fun hh => h' (UInt8.lt_iff_toNat_lt.2 hh)
            omega
          subst this
          rcases ih b with h | h | h
          · simp [h]
          · simp [h]
          · simp [h]
theorem bl_trans (a b c : List UInt8) (h1 : Op.bytesLess a b = true) (h2 : Op.bytesLess b c = true) : Op.bytesLess a c = true := by
  induction a generalizing b c with
  | nil =>
    cases c with
    | nil => cases b <;> simp [Op.bytesLess] at h1 h2
    | cons z c => simp [Op.bytesLess]
  | cons x a ih =>
    cases b with
    | nil => simp [Op.bytesLess] at h1
    | cons y b =>
      cases c with
      | nil => simp [Op.bytesLess] at h2
      | cons z c =>
        simp only [Op.bytesLess, Bool.or_eq_true, decide_eq_true_eq, Bool.and_eq_true, beq_iff_eq] at h1 h2 ⊢
        rcases h1 with h1 | ⟨rfl, h1⟩
        · rcases h2 with h2 | ⟨rfl, h2⟩
          · left; rw [UInt8.lt_iff_toNat_lt] at *; omega
          · left; exact h1
        · rcases h2 with h2 | ⟨rfl, h2⟩
          · left; exact h2
          · right; exact ⟨rfl, ih _ _ h1 h2⟩

theorem cmp_lt (a b : Ent) : (cmpEnt a b < 0) ↔ lt a b = true := by
  unfold cmpEnt lt
  simp only [Bool.or_eq_true, decide_eq_true_eq, Bool.and_eq_true, Lib.toList_data]
  by_cases h : a.rank < b.rank
  · simp [cmpInt_lt h, orInt, h]
  · by_cases h' : b.rank < a.rank
    · rw [cmpInt_gt h', orInt_n (by decide)]
      constructor
      · intro h; omega
      · rintro (h1 | ⟨h1, _⟩) <;> omega
    · rw [cmpInt_eq (by omega) (by omega), orInt_z rfl, cb_lt]
      have : a.rank = b.rank := by omega
      simp [this]

theorem lt_irrefl (a : Ent) : lt a a = false := by simp [lt, bl_irrefl]
theorem lt_trans {a b c : Ent} (h1 : lt a b = true) (h2 : lt b c = true) : lt a c = true := by
  simp only [lt, Bool.or_eq_true, decide_eq_true_eq, Bool.and_eq_true] at *
  rcases h1 with h1 | ⟨e1, h1⟩ <;> rcases h2 with h2 | ⟨e2, h2⟩
  · left; omega
  · left; omega
  · left; omega
  · right; exact ⟨by omega, bl_trans _ _ _ h1 h2⟩
theorem ba_ext {a b : ByteArray} (h : a.toList = b.toList) : a = b := by
  rw [Lib.toList_data, Lib.toList_data] at h
  cases a; cases b
  simp only at h
  congr
  exact Array.toList_inj.1 h
theorem lt_tri (a b : Ent) : lt a b = true ∨ a = b ∨ lt b a = true := by
  simp only [lt, Bool.or_eq_true, decide_eq_true_eq, Bool.and_eq_true]
  rcases Int.lt_trichotomy a.rank b.rank with h | h | h
  · left; left; exact h
  · rcases bl_tri a.name.toList b.name.toList with h' | h' | h'
    · left; right; exact ⟨h, h'⟩
    · right; left
      cases a; cases b
      simp only at h h'
      simp [h, ba_ext h']
    · right; right; right; exact ⟨h.symm, h'⟩
  · right; right; left; exact h
theorem lt_asymm {a b : Ent} (h : lt a b = true) : lt b a = false := by
  cases h' : lt b a with
  | false => rfl
  | true => have := lt_trans h h'; rw [lt_irrefl] at this; cases this
theorem ge_trans {a b c : Ent} (h1 : lt b a = false) (h2 : lt c b = false) : lt c a = false := by
  cases h : lt c a with
  | false => rfl
  | true =>
    rcases lt_tri b c with h3 | h3 | h3
    · rw [lt_trans h3 h] at h1; cases h1
    · subst h3; rw [h] at h1; cases h1
    · rw [h3] at h2; cases h2

/-- EntryFault, entry -/
def efault (e : Ent) : Int := if e.name.size = 0 ∨ 24 < e.name.size then 7 else if e.rank < -1000000 ∨ 1000000 < e.rank then 4 else 0

/-- Entry: the place of a name -/
def idxFrom : List Ent → ByteArray → Nat → Int
  | [], _, _ => -1
  | e :: l, nm, k => if e.name = nm then k else idxFrom l nm (k + 1)
def idx (l : List Ent) (nm : ByteArray) : Int := idxFrom l nm 0

theorem idxFrom_drop (l : List Ent) (nm : ByteArray) (k : Nat) (h : k < l.length) : idxFrom (l.drop k) nm k = if (nth l k).name = nm then (k : Int) else idxFrom (l.drop (k + 1)) nm (k + 1) := by
  rw [List.drop_eq_getElem_cons h, idxFrom, nth_eq h]

/-- the code of element i -/
def codeAt (l : List Ent) (ord : Bool) (i : Nat) : Int :=
  if efault (nth l i) ≠ 0 then efault (nth l i)
  else if idx l (nth l i).name < i then 8
  else if ord = true ∧ 0 < i ∧ lt (nth l i) (nth l ((i - 1) / 2)) = true then 11 else 0

def scan (l : List Ent) (ord : Bool) : Nat → Nat → Int × Int
  | 0, _ => (0, 0)
  | f + 1, i => if codeAt l ord i ≠ 0 then (codeAt l ord i, i) else scan l ord f (i + 1)

/-- QueueFault, check -/
def qf (l : List Ent) (ord : Bool) : Int × Int := if 200 < l.length then (2, -1) else scan l ord l.length 0

theorem scan_found (l : List Ent) (ord : Bool) (f i k : Nat) (hik : i ≤ k) (hk : k < i + f) (h0 : ∀ j, i ≤ j → j < k → codeAt l ord j = 0) (h : codeAt l ord k ≠ 0) : scan l ord f i = (codeAt l ord k, (k : Int)) := by
  induction f generalizing i with
  | zero => omega
  | succ f ih =>
    rw [scan]
    by_cases e : i = k
    · subst e; rw [if_pos h]
    · rw [if_neg (by simp [h0 i (by omega) (by omega)])]
      exact ih (i + 1) (by omega) (by omega) (fun j h1 h2 => h0 j (by omega) h2)
theorem scan_none (l : List Ent) (ord : Bool) (f i : Nat) (h0 : ∀ j, i ≤ j → j < i + f → codeAt l ord j = 0) : scan l ord f i = (0, 0) := by
  induction f generalizing i with
  | zero => rfl
  | succ f ih =>
    rw [scan, if_neg (by simp [h0 i (by omega) (by omega)])]
    exact ih (i + 1) (fun j h1 h2 => h0 j (by omega) (by omega))
theorem qf_found {l : List Ent} {ord : Bool} {k : Nat} (hl : l.length ≤ 200) (hk : k < l.length) (h0 : ∀ j, j < k → codeAt l ord j = 0) (h : codeAt l ord k ≠ 0) : qf l ord = (codeAt l ord k, (k : Int)) := by
  rw [qf, if_neg (by omega)]
  exact scan_found l ord _ 0 k (by omega) (by omega) (fun j _ h2 => h0 j h2) h
theorem qf_none {l : List Ent} {ord : Bool} (hl : l.length ≤ 200) (h0 : ∀ j, j < l.length → codeAt l ord j = 0) : qf l ord = (0, 0) := by
  rw [qf, if_neg (by omega)]
  exact scan_none l ord _ 0 (fun j _ h2 => h0 j (by omega))
theorem qf_many {l : List Ent} {ord : Bool} (hl : 200 < l.length) : qf l ord = (2, -1) := by rw [qf, if_pos hl]

/-- First -/
def firstTo (l : List Ent) : Nat → Nat
  | 0 => 0
  | i + 1 => if lt (nth l (i + 1)) (nth l (firstTo l i)) = true then i + 1 else firstTo l i
def first (l : List Ent) : Nat := firstTo l (l.length - 1)
theorem firstTo_le (l : List Ent) (i : Nat) : firstTo l i ≤ i := by
  induction i with
  | zero => exact Nat.le_refl _
  | succ i ih => rw [firstTo]; split <;> omega
theorem first_lt {l : List Ent} (h : l ≠ []) : first l < l.length := by
  have := firstTo_le l (l.length - 1)
  have : 0 < l.length := List.length_pos_iff.2 h
  unfold first; omega

/-- Without -/
def wout (l : List Ent) (k : Nat) : List Ent := l.take k ++ l.drop (k + 1)
theorem wout_len {l : List Ent} {k : Nat} (h : k < l.length) : (wout l k).length = l.length - 1 := by simp [wout]; omega

/-- Sorted -/
def sortF : Nat → List Ent → List Ent
  | 0, _ => []
  | f + 1, l => if l = [] then [] else nth l (first l) :: sortF f (wout l (first l))
def sorted (l : List Ent) : List Ent := sortF l.length l

/-- the program's moves -/
def swp (l : List Ent) (i k : Nat) : List Ent := (l.set i (nth l k)).set k (nth l i)
theorem swp_len (l : List Ent) (i k : Nat) : (swp l i k).length = l.length := by simp [swp]
def kid (l : List Ent) (i : Nat) : Nat := if 2 * i + 2 < l.length ∧ lt (nth l (2 * i + 2)) (nth l (2 * i + 1)) = true then 2 * i + 2 else 2 * i + 1
def downL : Nat → List Ent → Nat → List Ent
  | 0, l, _ => l
  | f + 1, l, i => if l.length ≤ 2 * i + 1 then l else if lt (nth l (kid l i)) (nth l i) = true then downL f (swp l i (kid l i)) (kid l i) else l
def down (l : List Ent) (i : Nat) : List Ent := downL l.length l i
def upL : Nat → List Ent → Nat → List Ent
  | 0, l, _ => l
  | f + 1, l, i => if 0 < i ∧ lt (nth l i) (nth l ((i - 1) / 2)) = true then upL f (swp l i ((i - 1) / 2)) ((i - 1) / 2) else l
def up (l : List Ent) (i : Nat) : List Ent := upL (i + 1) l i
def settle (l : List Ent) (i : Nat) : List Ent := down (up l i) i
def woutQ (l : List Ent) (i : Nat) : List Ent :=
  if i < l.length - 1 then settle ((l.set i (nth l (l.length - 1))).take (l.length - 1)) i else (l.set i (nth l (l.length - 1))).take (l.length - 1)
def buildF : Nat → List Ent → List Ent
  | 0, l => l
  | i + 1, l => buildF i (down l i)
def build (l : List Ent) : List Ent := buildF (l.length / 2) l
def drainF : Nat → List Ent → List Ent
  | 0, _ => []
  | f + 1, l => if l = [] then [] else nth l 0 :: drainF f (woutQ l 0)
def drain (l : List Ent) : List Ent := drainF l.length l

theorem downL_len (f : Nat) (l : List Ent) (i : Nat) : (downL f l i).length = l.length := by
  induction f generalizing l i with
  | zero => rfl
  | succ f ih => rw [downL]; split; rfl; split; rw [ih, swp_len]; rfl
theorem down_len (l : List Ent) (i : Nat) : (down l i).length = l.length := downL_len _ _ _
theorem upL_len (f : Nat) (l : List Ent) (i : Nat) : (upL f l i).length = l.length := by
  induction f generalizing l i with
  | zero => rfl
  | succ f ih => rw [upL]; split; rw [ih, swp_len]; rfl
theorem up_len (l : List Ent) (i : Nat) : (up l i).length = l.length := upL_len _ _ _
theorem settle_len (l : List Ent) (i : Nat) : (settle l i).length = l.length := by rw [settle, down_len, up_len]
theorem woutQ_len {l : List Ent} {i : Nat} : (woutQ l i).length = l.length - 1 := by
  unfold woutQ
  split
  · rw [settle_len]; simp
  · simp
theorem buildF_len (f : Nat) (l : List Ent) : (buildF f l).length = l.length := by
  induction f generalizing l with
  | zero => rfl
  | succ f ih => rw [buildF, ih, down_len]
end Go.Proofs.Ytefeiogbaiodnaa

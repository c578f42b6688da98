/- Patterns and the texts of moments, as lists of bytes; no condition. -/
import Derived.Test.YtnmkpadgogbgkaaDoorDtA
import Derived.Lib.ItoaNum
import Derived.Lib.Fields
set_option linter.all false
set_option linter.unusedSimpArgs false
set_option linter.unusedVariables false
namespace Go.Proofs.YtnmkpadgogbgkaaDoor

abbrev Str := List UInt8
theorem drop_at {α : Type} {l : List α} {k : Nat} {x : α} (h : l[k]? = some x) : l.drop k = x :: l.drop (k + 1) := by
  have hk := (List.getElem?_eq_some_iff.1 h).1
  rw [List.drop_eq_getElem_cons hk, (List.getElem?_eq_some_iff.1 h).2]
theorem drop_cons {t cs : Str} {c : UInt8} {k : Nat} (h : t.drop k = c :: cs) : t[k]? = some c ∧ t.drop (k + 1) = cs ∧ k < t.length := by
  have h1 : t[k]? = some c := by
    have := congrArg (fun l => l[0]?) h
    simpa using this
  refine ⟨h1, ?_, (List.getElem?_eq_some_iff.1 h1).1⟩
  have := drop_at h1; rw [h] at this; injection this with _ h2; exact h2.symm
theorem u8eq (a b : UInt8) : ((a.toNat : Int) = (b.toNat : Int)) ↔ a = b := by
  rw [Int.ofNat_inj]; exact UInt8.toNat_inj
def lettersL : Str := [89, 109, 100, 72, 77, 83, 106, 71, 86, 117, 97, 98]
abbrev daysS : Str := [77, 111, 110, 32, 84, 117, 101, 32, 87, 101, 100, 32, 84, 104, 117, 32, 70, 114, 105, 32, 83, 97, 116, 32, 83, 117, 110]
abbrev monthsS : Str := [74, 97, 110, 32, 70, 101, 98, 32, 77, 97, 114, 32, 65, 112, 114, 32, 77, 97, 121, 32, 74, 117, 110, 32, 74, 117, 108, 32, 65, 117, 103, 32, 83, 101, 112, 32, 79, 99, 116, 32, 78, 111, 118, 32, 68, 101, 99]
def daysL : List Str := [[77, 111, 110], [84, 117, 101], [87, 101, 100], [84, 104, 117], [70, 114, 105], [83, 97, 116], [83, 117, 110]]
def monthsL : List Str := [[74, 97, 110], [70, 101, 98], [77, 97, 114], [65, 112, 114], [77, 97, 121], [74, 117, 110], [74, 117, 108], [65, 117, 103], [83, 101, 112], [79, 99, 116], [78, 111, 118], [68, 101, 99]]
def widthsL : List Nat := [4, 2, 2, 2, 2, 2, 3, 4, 2, 1, 0, 0]
/-- the place of a letter, or -1 -/
def posL (c : UInt8) : Str → Nat → Int
  | [], _ => -1
  | x :: xs, k => if x = c then (k : Int) else posL c xs (k + 1)
def ltrI (c : UInt8) : Int := posL c lettersL 0
/-- the fault of a pattern, from a place on -/
def patG (frm : Int) : Str → Nat → Int × Int
  | [], _ => (0, 0)
  | [c], i => if c = 37 then (1, frm + i) else (0, 0)
  | c :: c2 :: cs, i => if c = 37 then (if ltrI c2 < 0 ∧ c2 ≠ 37 then (1, frm + i) else patG frm cs (i + 2)) else patG frm (c2 :: cs) (i + 1)
def patF (p : Str) (frm : Int) : Int × Int := if 200 < p.length then (3, -2) else patG frm p 0
/-- the number that a directive stands for -/
def fldV (a : Mo) (k : Nat) : Int := [a.y, a.m, a.d, a.h, a.mi, a.s, doy a.y a.m a.d, (wkR a.day).1, (wkR a.day).2, (a.day - 1) % 7 + 1, (a.day - 1) % 7 + 1, a.m].getD k 0
def wideF (n : Int) (w : Nat) : Str := List.replicate (w - (Lib.itoa n).length) 48 ++ Lib.itoa n
def dirT (a : Mo) (k : Nat) : Str := if k = 10 then daysL.getD (fldV a k - 1).toNat [] else if k = 11 then monthsL.getD (fldV a k - 1).toNat [] else wideF (fldV a k) (widthsL.getD k 0)
/-- the text of a moment -/
def fmtF (a : Mo) : Str → Str
  | [] => []
  | [c] => [c]
  | c :: c2 :: cs => if c = 37 then (if c2 = 37 then 37 :: fmtF a cs else dirT a (ltrI c2).toNat ++ fmtF a cs) else c :: fmtF a (c2 :: cs)
theorem wk_bounds {day : Int} (h : 1 ≤ day) (h' : day ≤ 3652059) : 1 ≤ (wkR day).1 ∧ (wkR day).1 ≤ 9999 ∧ 1 ≤ (wkR day).2 ∧ (wkR day).2 ≤ 53 := by
  obtain ⟨th, hth⟩ : ∃ t, t = day - (day + 6) % 7 + 3 := ⟨_, rfl⟩
  have t1 : 1 ≤ th ∧ th ≤ 3652059 := by omega
  have ho := (dateM_ok t1.1 t1.2).1
  have hd := (dateM_ok t1.1 t1.2).2
  have hb := ho.dayB
  unfold wkR
  simp only [← hth, dayN_one]
  have e : (dateM th).y = (dateR th).1 := rfl
  rw [hd, e] at hb
  have hu := bef_up (dateR th).1
  have := ho.1
  have := ho.2.1
  rw [e] at *
  refine ⟨by omega, by omega, by omega, by omega⟩
theorem fld_bounds {a : Mo} (h : a.ok) (k : Nat) : 0 ≤ fldV a k ∧ fldV a k ≤ 9999 := by
  have hb := h.dayB
  have hw := wk_bounds hb.1 hb.2.1
  have hn := dayN_bounds h.okD
  have hu := bef_up a.y
  have he : doy a.y a.m a.d = a.day - bef a.y := by unfold Mo.day dayN; omega
  obtain ⟨h1, h2, h3, h4, h5, h6, h7, h8, h9, h10, h11, h12⟩ := h
  have hd := dom_pos a.y a.m
  unfold fldV
  rcases k with _ | _ | _ | _ | _ | _ | _ | _ | _ | _ | _ | _ | k <;> simp <;> omega
theorem names_ok : (∀ n : Fin 7, ((daysS.take (4 * (n.val + 1) - 1)).drop (4 * (n.val + 1) - 4)) = daysL.getD n.val []) ∧ (∀ n : Fin 12, ((monthsS.take (4 * (n.val + 1) - 1)).drop (4 * (n.val + 1) - 4)) = monthsL.getD n.val []) := by decide +kernel
theorem fields_ok : Lib.fields daysS = daysL ∧ Lib.fields monthsS = monthsL := by decide +kernel
theorem itoa_len {n : Int} (h : 0 ≤ n) (h' : n ≤ 9999) : 1 ≤ (Lib.itoa n).length ∧ (Lib.itoa n).length ≤ 4 := by
  unfold Lib.itoa
  rw [if_neg (by omega), Lib.decDigits_length]
  obtain ⟨m, rfl⟩ : ∃ m : Nat, n = m := ⟨n.toNat, by omega⟩
  have hp := Lib.nDigits_pos m
  refine ⟨by simpa using hp, ?_⟩
  simp only [Int.toNat_natCast]
  by_cases c1 : m < 10
  · rw [Lib.nDigits_small c1]; omega
  · rw [Lib.nDigits_big c1]
    by_cases c2 : m / 10 < 10
    · rw [Lib.nDigits_small c2]; omega
    · rw [Lib.nDigits_big c2]
      by_cases c3 : m / 10 / 10 < 10
      · rw [Lib.nDigits_small c3]; omega
      · rw [Lib.nDigits_big c3, Lib.nDigits_small (by omega)]; omega
def patOk : Str → Bool
  | [] => true
  | [c] => decide (c ≠ 37)
  | c :: c2 :: cs => if c = 37 then (!(decide (ltrI c2 < 0) && decide (c2 ≠ 37)) && patOk cs) else patOk (c2 :: cs)
theorem patOk_iff (frm : Int) : ∀ (l : Str) (i : Nat), (patG frm l i).1 = 0 ↔ patOk l = true
  | [], i => by simp [patG, patOk]
  | [c], i => by by_cases h : c = 37 <;> simp [patG, patOk, h]
  | c :: c2 :: cs, i => by
    by_cases h : c = 37
    · by_cases hb : ltrI c2 < 0 ∧ c2 ≠ 37
      · simp [patG, patOk, h, hb]
      · have ih := patOk_iff frm cs (i + 2)
        have hb' : (!(decide (ltrI c2 < 0) && decide (c2 ≠ 37))) = true := by
          by_cases h1 : ltrI c2 < 0
          · have : c2 = 37 := Classical.byContradiction fun h => hb ⟨h1, h⟩
            simp [this]
          · simp [h1]
        simp only [patG, patOk, h, if_true, if_neg hb, hb', Bool.true_and]
        exact ih
    · have ih := patOk_iff frm (c2 :: cs) (i + 1)
      simp only [patG, patOk, h, if_false]
      exact ih
theorem patG_code (frm : Int) : ∀ (l : Str) (i : Nat), patG frm l i = (0, 0) ∨ ((patG frm l i).1 = 1 ∧ frm + i ≤ (patG frm l i).2 ∧ (patG frm l i).2 ≤ frm + i + l.length)
  | [], i => .inl rfl
  | [c], i => by
    by_cases h : c = 37
    · right; simp [patG, h]; omega
    · left; simp [patG, h]
  | c :: c2 :: cs, i => by
    by_cases h : c = 37
    · by_cases hb : ltrI c2 < 0 ∧ c2 ≠ 37
      · right; simp [patG, h, hb]; omega
      · simp only [patG, h, if_true, if_neg hb]
        rcases patG_code frm cs (i + 2) with e | ⟨e1, e2, e3⟩
        · exact .inl e
        · exact .inr ⟨e1, by push_cast at e2; omega, by push_cast at e3; simp only [List.length_cons]; push_cast; omega⟩
    · simp only [patG, h, if_false]
      rcases patG_code frm (c2 :: cs) (i + 1) with e | ⟨e1, e2, e3⟩
      · exact .inl e
      · exact .inr ⟨e1, by push_cast at e2; omega, by push_cast at e3; simp only [List.length_cons] at e3 ⊢; push_cast at e3 ⊢; omega⟩
theorem patF_ok {p : Str} {frm : Int} (h : (patF p frm).1 = 0) : patF p frm = (0, 0) ∧ p.length ≤ 200 ∧ patOk p = true := by
  unfold patF at h ⊢
  split at h
  · cases h
  · rename_i hl
    rw [if_neg hl]
    refine ⟨?_, by omega, (patOk_iff frm p 0).1 h⟩
    rcases patG_code frm p 0 with e | ⟨e, _⟩
    · exact e
    · omega
theorem ltr_lt (c : UInt8) (h : ¬ ltrI c < 0) : ∃ k : Nat, ltrI c = k ∧ k < 12 ∧ lettersL[k]? = some c := by
  have key : ∀ (l : Str) (i : Nat), 0 ≤ posL c l i → ∃ k : Nat, posL c l i = ((i + k : Nat) : Int) ∧ l[k]? = some c := by
    intro l
    induction l with
    | nil => intro i h; simp [posL] at h
    | cons x xs ih =>
      intro i h
      simp only [posL] at h ⊢
      by_cases hx : x = c
      · rw [if_pos hx]; exact ⟨0, by simp, by simp [hx]⟩
      · rw [if_neg hx] at h ⊢
        obtain ⟨k, e1, e2⟩ := ih (i + 1) h
        exact ⟨k + 1, by rw [e1]; congr 1; omega, by simpa using e2⟩
  obtain ⟨k, e1, e2⟩ := key lettersL 0 (by unfold ltrI at h; omega)
  exact ⟨k, by unfold ltrI; rw [e1]; congr 1; omega, (List.getElem?_eq_some_iff.1 e2).1, e2⟩
theorem dirT_len {a : Mo} (h : a.ok) (k : Nat) : (dirT a k).length ≤ 4 := by
  have hf := fld_bounds h k
  have hi := itoa_len hf.1 hf.2
  unfold dirT
  split
  · have : ∀ j : Nat, (daysL.getD j []).length ≤ 4 := by
      intro j; unfold daysL
      rcases j with _ | _ | _ | _ | _ | _ | _ | j <;> simp
    exact this _
  · split
    · have : ∀ j : Nat, (monthsL.getD j []).length ≤ 4 := by
        intro j; unfold monthsL
        rcases j with _ | _ | _ | _ | _ | _ | _ | _ | _ | _ | _ | _ | j <;> simp
      exact this _
    · have : widthsL.getD k 0 ≤ 4 := by
        unfold widthsL
        rcases k with _ | _ | _ | _ | _ | _ | _ | _ | _ | _ | _ | _ | k <;> simp
      unfold wideF
      simp only [List.length_append, List.length_replicate]
      omega
theorem fld_name {a : Mo} (h : a.ok) : 1 ≤ fldV a 10 ∧ fldV a 10 ≤ 7 ∧ 1 ≤ fldV a 11 ∧ fldV a 11 ≤ 12 := by
  have := h.2.2.1; have := h.2.2.2.1
  simp [fldV]; omega
end Go.Proofs.YtnmkpadgogbgkaaDoor

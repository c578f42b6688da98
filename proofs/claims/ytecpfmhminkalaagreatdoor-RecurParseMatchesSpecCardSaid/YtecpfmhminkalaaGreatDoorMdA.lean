/- Days, months and weeks: two ways of reckoning agree; no condition. -/
import Derived.Calls
set_option linter.all false
set_option linter.unusedSimpArgs false
set_option linter.unusedVariables false
namespace Go.Proofs.YtecpfmhminkalaaGreatDoor
def lpY (y : Int) : Prop := y % 4 = 0 ∧ (y % 100 ≠ 0 ∨ y % 400 = 0)
instance (y : Int) : Decidable (lpY y) := inferInstanceAs (Decidable (_ ∧ _))
/-- the days of a month -/
def dom (y m : Int) : Int := if m = 2 then (if lpY y then 29 else 28) else if m = 4 ∨ m = 6 ∨ m = 9 ∨ m = 11 then 30 else 31
/-- the days ahead of a year -/
def bef (y : Int) : Int := 365 * (y - 1) + (y - 1) / 4 - (y - 1) / 100 + (y - 1) / 400
/-- the days of the first months -/
def cumD (y : Int) : Nat → Int
  | 0 => 0
  | k + 1 => cumD y k + dom y (k + 1 : Nat)
def doy (y m d : Int) : Int := d + cumD y (m - 1).toNat
def dayN (y m d : Int) : Int := bef y + doy y m d
/-- the same, years begun in March -/
def dayR (y m d : Int) : Int :=
  let m' := if m < 3 then m + 12 else m
  let y' := if m < 3 then y - 1 else y
  365 * y' + y' / 4 - y' / 100 + y' / 400 + (153 * (m' - 3) + 2) / 5 + d - 306
theorem month_of {m : Int} (h1 : 1 ≤ m) (h2 : m ≤ 12) : m = 1 ∨ m = 2 ∨ m = 3 ∨ m = 4 ∨ m = 5 ∨ m = 6 ∨ m = 7 ∨ m = 8 ∨ m = 9 ∨ m = 10 ∨ m = 11 ∨ m = 12 := by omega
theorem cum_cases (y : Int) : cumD y 0 = 0 ∧ cumD y 1 = 31 ∧ cumD y 2 = 59 + (if lpY y then 1 else 0) ∧ cumD y 3 = 90 + (if lpY y then 1 else 0) ∧ cumD y 4 = 120 + (if lpY y then 1 else 0) ∧ cumD y 5 = 151 + (if lpY y then 1 else 0) ∧ cumD y 6 = 181 + (if lpY y then 1 else 0) ∧ cumD y 7 = 212 + (if lpY y then 1 else 0) ∧ cumD y 8 = 243 + (if lpY y then 1 else 0) ∧ cumD y 9 = 273 + (if lpY y then 1 else 0) ∧ cumD y 10 = 304 + (if lpY y then 1 else 0) ∧ cumD y 11 = 334 + (if lpY y then 1 else 0) ∧ cumD y 12 = 365 + (if lpY y then 1 else 0) := by
  by_cases h : lpY y <;> simp [cumD, dom, h]
theorem lpY_or (y : Int) : (lpY y ∧ ((y % 4 = 0 ∧ y % 100 ≠ 0) ∨ y % 400 = 0)) ∨ (¬ lpY y ∧ (y % 4 ≠ 0 ∨ (y % 100 = 0 ∧ y % 400 ≠ 0))) := by
  unfold lpY; omega
theorem day_eq {y m : Int} (d : Int) (h1 : 1 ≤ m) (h2 : m ≤ 12) : dayR y m d = dayN y m d := by
  have hc := cum_cases y
  unfold dayN doy dayR bef
  rcases lpY_or y with ⟨hl, hl'⟩ | ⟨hl, hl'⟩ <;> simp only [hl, if_true, if_false] at hc <;>
    rcases month_of h1 h2 with rfl | rfl | rfl | rfl | rfl | rfl | rfl | rfl | rfl | rfl | rfl | rfl <;> simp [hc] <;> omega
theorem bef_succ (y : Int) : bef (y + 1) = bef y + 365 + (if lpY y then 1 else 0) := by
  unfold bef
  rcases lpY_or y with ⟨hl, hl'⟩ | ⟨hl, hl'⟩ <;> simp only [hl, if_true, if_false] <;> omega
theorem bef_mono {a b : Int} (h : a ≤ b) : bef a ≤ bef b := by unfold bef; omega
theorem bef_step {a b : Int} (h : a < b) : bef a + 365 ≤ bef b := by unfold bef; omega
theorem cum_year (y : Int) : bef y + cumD y 12 = bef (y + 1) := by
  rw [bef_succ, (cum_cases y).2.2.2.2.2.2.2.2.2.2.2.2]; omega
theorem dom_pos (y m : Int) : 28 ≤ dom y m ∧ dom y m ≤ 31 := by unfold dom; repeat' split <;> omega
theorem cum_mono (y : Int) {a b : Nat} (h : a ≤ b) : cumD y a ≤ cumD y b := by
  induction h with
  | refl => exact Int.le_refl _
  | @step m h ih => have := dom_pos y ((m + 1 : Nat) : Int); simp only [cumD]; omega
/-- a date -/
def okD (y m d : Int) : Prop := 1 ≤ y ∧ 1 ≤ m ∧ m ≤ 12 ∧ 1 ≤ d ∧ d ≤ dom y m
theorem cum_succ (y m : Int) (h1 : 1 ≤ m) : cumD y m.toNat = cumD y (m - 1).toNat + dom y m := by
  obtain ⟨k, rfl⟩ : ∃ k : Nat, m = (k + 1 : Nat) := ⟨(m - 1).toNat, by omega⟩
  have e1 : ((k + 1 : Nat) : Int).toNat = k + 1 := by omega
  have e2 : (((k + 1 : Nat) : Int) - 1).toNat = k := by omega
  rw [e1, e2, cumD]
theorem dayN_bounds {y m d : Int} (h : okD y m d) : bef y < dayN y m d ∧ dayN y m d ≤ bef (y + 1) := by
  obtain ⟨h0, h1, h2, h3, h4⟩ := h
  have hs := cum_succ y m h1
  have hm := cum_mono y (a := m.toNat) (b := 12) (by omega)
  have hz := cum_mono y (a := 0) (b := (m - 1).toNat) (by omega)
  have hy := cum_year y
  have c0 : cumD y 0 = 0 := rfl
  unfold dayN doy
  constructor <;> omega
theorem dayN_inj {y m d y' m' d' : Int} (h : okD y m d) (h' : okD y' m' d') (he : dayN y m d = dayN y' m' d') : y = y' ∧ m = m' ∧ d = d' := by
  have b := dayN_bounds h
  have b' := dayN_bounds h'
  have hy : y = y' := by
    rcases Int.lt_trichotomy y y' with h1 | h1 | h1
    · have := bef_mono (show y + 1 ≤ y' by omega); omega
    · exact h1
    · have := bef_mono (show y' + 1 ≤ y by omega); omega
  subst hy
  obtain ⟨_, h1, h2, h3, h4⟩ := h
  obtain ⟨_, h1', h2', h3', h4'⟩ := h'
  have hs := cum_succ y m h1
  have hs' := cum_succ y m' h1'
  unfold dayN doy at he
  have hm : m = m' := by
    rcases Int.lt_trichotomy m m' with h5 | h5 | h5
    · have := cum_mono y (a := m.toNat) (b := (m' - 1).toNat) (by omega); omega
    · exact h5
    · have := cum_mono y (a := m'.toNat) (b := (m - 1).toNat) (by omega); omega
  subst hm
  exact ⟨rfl, rfl, by omega⟩
/-- the date of a day, as the reference has it -/
def ofEra (z : Int) : Int := (z - z / 1460 + z / 36524 - z / 146096) / 365
def dateR (day : Int) : Int × Int × Int :=
  let z := day + 305
  let era := z / 146097
  let o := z % 146097
  let y := ofEra o
  let rest := o - 365 * y - y / 4 + y / 100
  let mo := (5 * rest + 2) / 153
  let d := rest - (153 * mo + 2) / 5 + 1
  if mo + 3 > 12 then (y + 400 * era + 1, mo + 3 - 12, d) else (y + 400 * era, mo + 3, d)
theorem era_step (z : Int) (h : 0 ≤ z) : ofEra z ≤ ofEra (z + 1) := by unfold ofEra; omega
theorem era_mono {a b : Int} (h0 : 0 ≤ a) (h : a ≤ b) : ofEra a ≤ ofEra b := by
  obtain ⟨k, rfl⟩ : ∃ k : Nat, b = a + k := ⟨(b - a).toNat, by omega⟩
  induction k with
  | zero => simp
  | succ k ih =>
    have := ih (by omega)
    have h2 := era_step (a + k) (by omega)
    have e : a + ((k + 1 : Nat) : Int) = a + k + 1 := by omega
    rw [e]; omega
def befE (y : Int) : Int := 365 * y + y / 4 - y / 100 + y / 400
theorem era_ends : ∀ k : Fin 400, ofEra (befE k.val) = k.val ∧ ofEra (befE (k.val + 1) - 1) = k.val := by decide +kernel
theorem era_bounds {z : Int} (h0 : 0 ≤ z) (h1 : z < 146097) : 0 ≤ ofEra z ∧ ofEra z < 400 ∧ befE (ofEra z) ≤ z ∧ z < befE (ofEra z + 1) := by
  have k0 : 0 ≤ ofEra z := by unfold ofEra; omega
  have k1 : ofEra z < 400 := by unfold ofEra; omega
  have e := fun (k : Nat) (hk : k < 400) => era_ends ⟨k, hk⟩
  obtain ⟨y, hy⟩ : ∃ y : Nat, ofEra z = y := ⟨(ofEra z).toNat, by omega⟩
  refine ⟨k0, k1, ?_, ?_⟩
  · rcases Int.lt_or_le z (befE (ofEra z)) with h | h
    · exfalso
      rw [hy] at h
      cases y with
      | zero => have : befE 0 = 0 := rfl; simp at h; omega
      | succ y =>
        have h2 : ofEra (befE ((y : Int) + 1) - 1) = y := (e y (by omega)).2
        have e2 : (((y + 1 : Nat)) : Int) = (y : Int) + 1 := by omega
        rw [e2] at h hy
        have h3 := era_mono h0 (show z ≤ befE ((y : Int) + 1) - 1 by omega)
        omega
    · exact h
  · rcases Int.lt_or_le z (befE (ofEra z + 1)) with h | h
    · exact h
    · exfalso
      rw [hy] at h
      rcases Nat.lt_or_ge (y + 1) 400 with h5 | h5
      · have h2 := (e (y + 1) h5).1
        have hb : 0 ≤ befE ((y : Int) + 1) := by unfold befE; omega
        have h3 := era_mono hb h
        push_cast at h2
        omega
      · have : (y : Int) = 399 := by omega
        rw [this] at h
        have : befE (399 + 1) = 146097 := by decide
        omega
theorem dateR_ok {day : Int} (h : 1 ≤ day) : okD (dateR day).1 (dateR day).2.1 (dateR day).2.2 ∧ dayN (dateR day).1 (dateR day).2.1 (dateR day).2.2 = day := by
  obtain ⟨z, hz⟩ : ∃ z, z = day + 305 := ⟨_, rfl⟩
  obtain ⟨era, he⟩ : ∃ e, e = z / 146097 := ⟨_, rfl⟩
  obtain ⟨o, ho⟩ : ∃ e, e = z % 146097 := ⟨_, rfl⟩
  have hb := era_bounds (z := o) (by omega) (by omega)
  obtain ⟨y, hy⟩ : ∃ e, e = ofEra o := ⟨_, rfl⟩
  rw [← hy] at hb
  obtain ⟨rest, hr⟩ : ∃ e, e = o - 365 * y - y / 4 + y / 100 := ⟨_, rfl⟩
  obtain ⟨mo, hmo⟩ : ∃ e, e = (5 * rest + 2) / 153 := ⟨_, rfl⟩
  obtain ⟨d, hd⟩ : ∃ e, e = rest - (153 * mo + 2) / 5 + 1 := ⟨_, rfl⟩
  obtain ⟨y', hy'⟩ : ∃ e, e = y + 400 * era := ⟨_, rfl⟩
  have hD : dateR day = if mo + 3 > 12 then (y' + 1, mo + 3 - 12, d) else (y', mo + 3, d) := by
    unfold dateR
    simp only [← hz, ← he, ← ho, ← hy, ← hr, ← hmo, ← hd, ← hy']
  obtain ⟨b1, b2, b3, b4⟩ := hb
  unfold befE at b3 b4
  have r0 : 0 ≤ rest := by omega
  have q4 : y' / 4 = y / 4 + 100 * era := by omega
  have q100 : y' / 100 = y / 100 + 4 * era := by omega
  have q400 : y' / 400 = era := by omega
  have hbase : 365 * y' + y' / 4 - y' / 100 + y' / 400 + rest = z := by omega
  have hlp := lpY_or (y' + 1)
  have r1 : rest ≤ 364 ∨ (lpY (y' + 1) ∧ rest = 365) := by
    have hlen : rest < 365 + ((y + 1) / 4 - y / 4) - ((y + 1) / 100 - y / 100) + ((y + 1) / 400 - y / 400) := by clear hbase; omega
    have p4 : (y' + 1) % 4 = (y + 1) % 4 := by omega
    have p100 : (y' + 1) % 100 = (y + 1) % 100 := by omega
    have p400 : (y' + 1) % 400 = (y + 1) % 400 := by omega
    rw [p4, p100, p400] at hlp
    clear p4 p100 p400 hbase q4 q100 q400 b3 b4 hr hmo hd
    rcases hlp with ⟨hl, hl'⟩ | ⟨hl, hl'⟩
    · simp only [hl, true_and]; omega
    · simp only [hl, false_and, or_false]
      have : ((y + 1) / 4 - y / 4) - ((y + 1) / 100 - y / 100) + ((y + 1) / 400 - y / 400) = 0 := by clear hlen; omega
      omega
  clear hlp
  have m0 : 0 ≤ mo ∧ mo ≤ 11 := by omega
  have e0 : 0 ≤ era := by omega
  have hd1 : 1 ≤ d := by clear hbase b3 b4 r1 hy' hr; omega
  have hy0 : 0 ≤ y' := by omega
  have hy1 : y' = 0 → 306 ≤ rest := fun h0 => by
    have h1 : era = 0 := by omega
    have h2 : y = 0 := by omega
    subst h1; subst h2; omega
  have hy2 : mo + 3 ≤ 12 → 1 ≤ y' := fun h0 => by
    rcases Int.lt_or_le 0 y' with h1 | h1
    · omega
    · have := hy1 (by omega); clear hbase b3 b4 r1 hy' hr; omega
  rw [hD]
  have hkey : mo = 0 ∨ mo = 1 ∨ mo = 2 ∨ mo = 3 ∨ mo = 4 ∨ mo = 5 ∨ mo = 6 ∨ mo = 7 ∨ mo = 8 ∨ mo = 9 ∨ mo = 10 ∨ mo = 11 := by omega
  by_cases hm : mo + 3 > 12
  · rw [if_pos hm]
    simp only
    rw [← day_eq _ (by omega) (by omega)]
    refine ⟨⟨by clear hbase b3 b4 r1 hr; omega, by omega, by omega, hd1, ?_⟩, ?_⟩
    · unfold dom
      have : mo = 10 ∨ mo = 11 := by omega
      rcases this with h1 | h1 <;> subst h1 <;> simp
      · omega
      · split
        · omega
        · rcases r1 with r1 | ⟨r1, _⟩
          · omega
          · exact absurd r1 (by assumption)
    · unfold dayR
      have h3 : mo + 3 - 12 < 3 := by omega
      simp only [if_pos h3]
      have e1 : y' + 1 - 1 = y' := by omega
      have e2 : mo + 3 - 12 + 12 - 3 = mo := by omega
      rw [e1, e2]; omega
  · rw [if_neg hm]
    simp only
    rw [← day_eq _ (by omega) (by omega)]
    have r2 : rest ≤ 365 := by rcases r1 with r1 | ⟨_, r1⟩ <;> omega
    refine ⟨⟨hy2 (by omega), by omega, by omega, hd1, ?_⟩, ?_⟩
    · unfold dom
      clear hbase b3 b4 r1 hy' hr hy1 hy2
      have : mo = 0 ∨ mo = 1 ∨ mo = 2 ∨ mo = 3 ∨ mo = 4 ∨ mo = 5 ∨ mo = 6 ∨ mo = 7 ∨ mo = 8 ∨ mo = 9 := by omega
      rcases this with h1 | h1 | h1 | h1 | h1 | h1 | h1 | h1 | h1 | h1 <;> subst h1 <;> simp <;> omega
    · unfold dayR
      have h3 : ¬ mo + 3 < 3 := by omega
      simp only [if_neg h3]
      have e2 : mo + 3 - 3 = mo := by omega
      rw [e2]; omega
theorem bef_at : bef 1 = 0 ∧ bef 2 = 365 ∧ bef 10000 = 3652059 := by decide
/-- months one after the other: the day ahead of the k-th one -/
def moB (k : Int) : Int := bef (k / 12) + cumD (k / 12) (k % 12).toNat
theorem moB_succ (k : Int) : moB (k + 1) = moB k + dom (k / 12) (k % 12 + 1) := by
  unfold moB
  by_cases h : k % 12 = 11
  · have e1 : (k + 1) / 12 = k / 12 + 1 := by omega
    have e2 : (k + 1) % 12 = 0 := by omega
    have h1 := cum_year (k / 12)
    have h2 := cum_succ (k / 12) 12 (by omega)
    have e3 : ((12 : Int) - 1).toNat = 11 := by decide
    have e4 : (12 : Int).toNat = 12 := by decide
    rw [e3, e4] at h2
    rw [e1, e2, h]
    have e5 : (11 : Int).toNat = 11 := by decide
    rw [e5]
    have e6 : cumD (k / 12 + 1) (0 : Int).toNat = 0 := rfl
    have e7 : (11 : Int) + 1 = 12 := by decide
    rw [e6, e7]; omega
  · have e1 : (k + 1) / 12 = k / 12 := by omega
    have e2 : (k + 1) % 12 = k % 12 + 1 := by omega
    rw [e1, e2]
    have h2 := cum_succ (k / 12) (k % 12 + 1) (by omega)
    have e3 : k % 12 + 1 - 1 = k % 12 := by omega
    rw [e3] at h2
    omega
theorem moB_mono {a b : Int} (h : a ≤ b) : moB a ≤ moB b := by
  obtain ⟨k, rfl⟩ : ∃ k : Nat, b = a + k := ⟨(b - a).toNat, by omega⟩
  induction k with
  | zero => simp
  | succ k ih =>
    have := ih (by omega)
    have h2 := moB_succ (a + k)
    have h3 := dom_pos ((a + k) / 12) ((a + k) % 12 + 1)
    have e : a + ((k + 1 : Nat) : Int) = a + k + 1 := by omega
    rw [e]; omega
theorem dayN_moB (y m d : Int) (h1 : 1 ≤ m) (h2 : m ≤ 12) : dayN y m d = moB (12 * y + m - 1) + d := by
  unfold moB dayN doy
  have e1 : (12 * y + m - 1) / 12 = y := by omega
  have e2 : (12 * y + m - 1) % 12 = m - 1 := by omega
  rw [e1, e2]; omega
/-- a moment: year, month, day, the second of the day -/
structure Mo where
  y : Int
  m : Int
  d : Int
  h : Int
  mi : Int
  s : Int
deriving DecidableEq
def Mo.ok (a : Mo) : Prop := 1 ≤ a.y ∧ a.y ≤ 9999 ∧ 1 ≤ a.m ∧ a.m ≤ 12 ∧ 1 ≤ a.d ∧ a.d ≤ dom a.y a.m ∧ 0 ≤ a.h ∧ a.h ≤ 23 ∧ 0 ≤ a.mi ∧ a.mi ≤ 59 ∧ 0 ≤ a.s ∧ a.s ≤ 59
def Mo.day (a : Mo) : Int := dayN a.y a.m a.d
def Mo.sec (a : Mo) : Int := a.h * 3600 + a.mi * 60 + a.s
def Mo.num (a : Mo) : Int := (a.day - 1) * 86400 + a.sec
/-- the fault of a moment -/
def moF (a : Mo) : Int × Int :=
  if ¬ (1 ≤ a.y ∧ a.y ≤ 9999) then (4, 0) else if ¬ (1 ≤ a.m ∧ a.m ≤ 12) then (4, 1) else if ¬ (1 ≤ a.d ∧ a.d ≤ dom a.y a.m) then (4, 2) else
  if ¬ (0 ≤ a.h ∧ a.h ≤ 23) then (4, 3) else if ¬ (0 ≤ a.mi ∧ a.mi ≤ 59) then (4, 4) else if ¬ (0 ≤ a.s ∧ a.s ≤ 59) then (4, 5) else (0, 0)
theorem moF_ok {a : Mo} : (moF a).1 = 0 ↔ a.ok := by
  unfold moF Mo.ok
  repeat' split
  all_goals simp
  all_goals omega
theorem Mo.ok.okD {a : Mo} (h : a.ok) : okD a.y a.m a.d := ⟨h.1, h.2.2.1, h.2.2.2.1, h.2.2.2.2.1, h.2.2.2.2.2.1⟩
theorem Mo.ok.dayB {a : Mo} (h : a.ok) : 1 ≤ a.day ∧ a.day ≤ 3652059 ∧ bef a.y < a.day ∧ a.day ≤ bef (a.y + 1) := by
  have hb := dayN_bounds h.okD
  have h1 := bef_mono h.1
  have h2 := bef_mono (show a.y + 1 ≤ 10000 by have := h.2.1; omega)
  have h3 := bef_at
  unfold Mo.day; omega
def noMo : Mo := ⟨0, 0, 0, 0, 0, 0⟩
/-- the date of a day -/
def dateM (day : Int) : Mo := ⟨(dateR day).1, (dateR day).2.1, (dateR day).2.2, 0, 0, 0⟩
theorem dateM_ok {day : Int} (h : 1 ≤ day) (h' : day ≤ 3652059) : (dateM day).ok ∧ (dateM day).day = day := by
  obtain ⟨⟨k1, k2, k3, k4, k5⟩, h2⟩ := dateR_ok h
  have hb := dayN_bounds (dateR_ok h).1
  have hy : (dateR day).1 ≤ 9999 := by
    rcases Int.lt_or_le 9999 (dateR day).1 with h5 | h5
    · have := bef_mono (show 10000 ≤ (dateR day).1 by omega)
      have := bef_at
      omega
    · exact h5
  exact ⟨⟨k1, hy, k2, k3, k4, k5, by simp [dateM], by simp [dateM], by simp [dateM], by simp [dateM], by simp [dateM], by simp [dateM]⟩, h2⟩
theorem dateM_uniq {day y m d : Int} (h : 1 ≤ day) (ho : okD y m d) (he : dayN y m d = day) : dateM day = ⟨y, m, d, 0, 0, 0⟩ := by
  obtain ⟨h1, h2⟩ := dateR_ok h
  obtain ⟨e1, e2, e3⟩ := dayN_inj h1 ho (by rw [h2, he])
  unfold dateM
  rw [e1, e2, e3]
/-- the moment with a number -/
def momAt (n : Int) : Mo := { dateM (n / 86400 + 1) with h := n % 86400 / 3600, mi := n % 86400 / 60 % 60, s := n % 86400 % 60 }
end Go.Proofs.YtecpfmhminkalaaGreatDoor

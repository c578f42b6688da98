/- Days, months and weeks: two ways of reckoning agree; no condition. -/
import Derived.Calls
import Derived.Lib.ItoaNum
import Derived.Lib.Fields
set_option linter.all false
set_option linter.unusedSimpArgs false
set_option linter.unusedVariables false
namespace Go.Proofs.YtnmkpadgogbgkaaDoor
def lpY (y : Int) : Prop := y % 4 = 0 ∧ (y % 100 ≠ 0 ∨ y % 400 = 0)
instance (y : Int) : Decidable (lpY y) := inferInstanceAs (Decidable (_ ∧ _))
/-- the days of a month -/
def dom (y m : Int) : Int := if m = 2 then (if lpY y then 29 else 28) else if m = 4 ∨ m = 6 ∨ m = 9 ∨ m = 11 then 30 else 31
/-- the days ahead of a year -/
def bef (y : Int) : Int := 365 * (y - 1) + (y - 1) / 4 - (y - 1) / 100 + (y - 1) / 400
/-- the days of the first months -/
def cumD (y : Int) : Nat → Int
  | 0 => 0
  | k + 1 => cumD y k + dom y (k + 1 : Nat)
def doy (y m d : Int) : Int := d + cumD y (m - 1).toNat
def dayN (y m d : Int) : Int := bef y + doy y m d
/-- the same, years begun in March -/
def dayR (y m d : Int) : Int :=
  let m' := if m < 3 then m + 12 else m
  let y' := if m < 3 then y - 1 else y
  365 * y' + y' / 4 - y' / 100 + y' / 400 + (153 * (m' - 3) + 2) / 5 + d - 306
theorem month_of {m : Int} (h1 : 1 ≤ m) (h2 : m ≤ 12) : m = 1 ∨ m = 2 ∨ m = 3 ∨ m = 4 ∨ m = 5 ∨ m = 6 ∨ m = 7 ∨ m = 8 ∨ m = 9 ∨ m = 10 ∨ m = 11 ∨ m = 12 := by omega
theorem cum_cases (y : Int) : cumD y 0 = 0 ∧ cumD y 1 = 31 ∧ cumD y 2 = 59 + (if lpY y then 1 else 0) ∧ cumD y 3 = 90 + (if lpY y then 1 else 0) ∧ cumD y 4 = 120 + (if lpY y then 1 else 0) ∧ cumD y 5 = 151 + (if lpY y then 1 else 0) ∧ cumD y 6 = 181 + (if lpY y then 1 else 0) ∧ cumD y 7 = 212 + (if lpY y then 1 else 0) ∧ cumD y 8 = 243 + (if lpY y then 1 else 0) ∧ cumD y 9 = 273 + (if lpY y then 1 else 0) ∧ cumD y 10 = 304 + (if lpY y then 1 else 0) ∧ cumD y 11 = 334 + (if lpY y then 1 else 0) ∧ cumD y 12 = 365 + (if lpY y then 1 else 0) := by
  by_cases h : lpY y <;> simp [cumD, dom, h]
theorem lpY_or (y : Int) : (lpY y ∧ ((y % 4 = 0 ∧ y % 100 ≠ 0) ∨ y % 400 = 0)) ∨ (¬ lpY y ∧ (y % 4 ≠ 0 ∨ (y % 100 = 0 ∧ y % 400 ≠ 0))) := by
  unfold lpY; omega
theorem day_eq {y m : Int} (d : Int) (h1 : 1 ≤ m) (h2 : m ≤ 12) : dayR y m d = dayN y m d := by
  have hc := cum_cases y
  unfold dayN doy dayR bef
  rcases lpY_or y with ⟨hl, hl'⟩ | ⟨hl, hl'⟩ <;> simp only [hl, if_true, if_false] at hc <;>
    rcases month_of h1 h2 with rfl | rfl | rfl | rfl | rfl | rfl | rfl | rfl | rfl | rfl | rfl | rfl <;> simp [hc] <;> omega
theorem bef_succ (y : Int) : bef (y + 1) = bef y + 365 + (if lpY y then 1 else 0) := by
  unfold bef
  rcases lpY_or y with ⟨hl, hl'⟩ | ⟨hl, hl'⟩ <;> simp only [hl, if_true, if_false] <;> omega
theorem bef_mono {a b : Int} (h : a ≤ b) : bef a ≤ bef b := by unfold bef; omega
theorem cum_year (y : Int) : bef y + cumD y 12 = bef (y + 1) := by
  rw [bef_succ, (cum_cases y).2.2.2.2.2.2.2.2.2.2.2.2]; omega
theorem dom_pos (y m : Int) : 28 ≤ dom y m ∧ dom y m ≤ 31 := by unfold dom; repeat' split <;> omega
theorem cum_mono (y : Int) {a b : Nat} (h : a ≤ b) : cumD y a ≤ cumD y b := by
  induction h with
  | refl => exact Int.le_refl _
  | @step m h ih => have := dom_pos y ((m + 1 : Nat) : Int); simp only [cumD]; omega
/-- a date -/
def okD (y m d : Int) : Prop := 1 ≤ y ∧ 1 ≤ m ∧ m ≤ 12 ∧ 1 ≤ d ∧ d ≤ dom y m
theorem cum_succ (y m : Int) (h1 : 1 ≤ m) : cumD y m.toNat = cumD y (m - 1).toNat + dom y m := by
  obtain ⟨k, rfl⟩ : ∃ k : Nat, m = (k + 1 : Nat) := ⟨(m - 1).toNat, by omega⟩
  have e1 : ((k + 1 : Nat) : Int).toNat = k + 1 := by omega
  have e2 : (((k + 1 : Nat) : Int) - 1).toNat = k := by omega
  rw [e1, e2, cumD]
theorem dayN_bounds {y m d : Int} (h : okD y m d) : bef y < dayN y m d ∧ dayN y m d ≤ bef (y + 1) := by
  obtain ⟨h0, h1, h2, h3, h4⟩ := h
  have hs := cum_succ y m h1
  have hm := cum_mono y (a := m.toNat) (b := 12) (by omega)
  have hz := cum_mono y (a := 0) (b := (m - 1).toNat) (by omega)
  have hy := cum_year y
  have c0 : cumD y 0 = 0 := rfl
  unfold dayN doy
  constructor <;> omega
/-- the date of a day, as the reference has it -/
def ofEra (z : Int) : Int := (z - z / 1460 + z / 36524 - z / 146096) / 365
def dateR (day : Int) : Int × Int × Int :=
  let z := day + 305
  let era := z / 146097
  let o := z % 146097
  let y := ofEra o
  let rest := o - 365 * y - y / 4 + y / 100
  let mo := (5 * rest + 2) / 153
  let d := rest - (153 * mo + 2) / 5 + 1
  if mo + 3 > 12 then (y + 400 * era + 1, mo + 3 - 12, d) else (y + 400 * era, mo + 3, d)
theorem era_step (z : Int) (h : 0 ≤ z) : ofEra z ≤ ofEra (z + 1) := by unfold ofEra; omega
theorem era_mono {a b : Int} (h0 : 0 ≤ a) (h : a ≤ b) : ofEra a ≤ ofEra b := by
  obtain ⟨k, rfl⟩ : ∃ k : Nat, b = a + k := ⟨(b - a).toNat, by omega⟩
  induction k with
  | zero => simp
  | succ k ih =>
    have := ih (by omega)
    have h2 := era_step (a + k) (by omega)
    have e : a + ((k + 1 : Nat) : Int) = a + k + 1 := by omega
    rw [e]; omega
def befE (y : Int) : Int := 365 * y + y / 4 - y / 100 + y / 400
theorem era_ends : ∀ k : Fin 400, ofEra (befE k.val) = k.val ∧ ofEra (befE (k.val + 1) - 1) = k.val := by decide +kernel
theorem era_bounds {z : Int} (h0 : 0 ≤ z) (h1 : z < 146097) : 0 ≤ ofEra z ∧ ofEra z < 400 ∧ befE (ofEra z) ≤ z ∧ z < befE (ofEra z + 1) := by
  have k0 : 0 ≤ ofEra z := by unfold ofEra; omega
  have k1 : ofEra z < 400 := by unfold ofEra; omega
  have e := fun (k : Nat) (hk : k < 400) => era_ends ⟨k, hk⟩
  obtain ⟨y, hy⟩ : ∃ y : Nat, ofEra z = y := ⟨(ofEra z).toNat, by omega⟩
  refine ⟨k0, k1, ?_, ?_⟩
  · rcases Int.lt_or_le z (befE (ofEra z)) with h | h
    · exfalso
      rw [hy] at h
      cases y with
      | zero => have : befE 0 = 0 := rfl; simp at h; omega
      | succ y =>
        have h2 : ofEra (befE ((y : Int) + 1) - 1) = y := (e y (by omega)).2
        have e2 : (((y + 1 : Nat)) : Int) = (y : Int) + 1 := by omega
        rw [e2] at h hy
        have h3 := era_mono h0 (show z ≤ befE ((y : Int) + 1) - 1 by omega)
        omega
    · exact h
  · rcases Int.lt_or_le z (befE (ofEra z + 1)) with h | h
    · exact h
    · exfalso
      rw [hy] at h
      rcases Nat.lt_or_ge (y + 1) 400 with h5 | h5
      · have h2 := (e (y + 1) h5).1
        have hb : 0 ≤ befE ((y : Int) + 1) := by unfold befE; omega
        have h3 := era_mono hb h
        push_cast at h2
        omega
      · have : (y : Int) = 399 := by omega
        rw [this] at h
        have : befE (399 + 1) = 146097 := by decide
        omega
theorem dateR_ok {day : Int} (h : 1 ≤ day) : okD (dateR day).1 (dateR day).2.1 (dateR day).2.2 ∧ dayN (dateR day).1 (dateR day).2.1 (dateR day).2.2 = day := by
  obtain ⟨z, hz⟩ : ∃ z, z = day + 305 := ⟨_, rfl⟩
  obtain ⟨era, he⟩ : ∃ e, e = z / 146097 := ⟨_, rfl⟩
  obtain ⟨o, ho⟩ : ∃ e, e = z % 146097 := ⟨_, rfl⟩
  have hb := era_bounds (z := o) (by omega) (by omega)
  obtain ⟨y, hy⟩ : ∃ e, e = ofEra o := ⟨_, rfl⟩
  rw [← hy] at hb
  obtain ⟨rest, hr⟩ : ∃ e, e = o - 365 * y - y / 4 + y / 100 := ⟨_, rfl⟩
  obtain ⟨mo, hmo⟩ : ∃ e, e = (5 * rest + 2) / 153 := ⟨_, rfl⟩
  obtain ⟨d, hd⟩ : ∃ e, e = rest - (153 * mo + 2) / 5 + 1 := ⟨_, rfl⟩
  obtain ⟨y', hy'⟩ : ∃ e, e = y + 400 * era := ⟨_, rfl⟩
  have hD : dateR day = if mo + 3 > 12 then (y' + 1, mo + 3 - 12, d) else (y', mo + 3, d) := by
    unfold dateR
    simp only [← hz, ← he, ← ho, ← hy, ← hr, ← hmo, ← hd, ← hy']
  obtain ⟨b1, b2, b3, b4⟩ := hb
  unfold befE at b3 b4
  have r0 : 0 ≤ rest := by omega
  have q4 : y' / 4 = y / 4 + 100 * era := by omega
  have q100 : y' / 100 = y / 100 + 4 * era := by omega
  have q400 : y' / 400 = era := by omega
  have hbase : 365 * y' + y' / 4 - y' / 100 + y' / 400 + rest = z := by omega
  have hlp := lpY_or (y' + 1)
  have r1 : rest ≤ 364 ∨ (lpY (y' + 1) ∧ rest = 365) := by
    have hlen : rest < 365 + ((y + 1) / 4 - y / 4) - ((y + 1) / 100 - y / 100) + ((y + 1) / 400 - y / 400) := by clear hbase; omega
    have p4 : (y' + 1) % 4 = (y + 1) % 4 := by omega
    have p100 : (y' + 1) % 100 = (y + 1) % 100 := by omega
    have p400 : (y' + 1) % 400 = (y + 1) % 400 := by omega
    rw [p4, p100, p400] at hlp
    clear p4 p100 p400 hbase q4 q100 q400 b3 b4 hr hmo hd
    rcases hlp with ⟨hl, hl'⟩ | ⟨hl, hl'⟩
    · simp only [hl, true_and]; omega
    · simp only [hl, false_and, or_false]
      have : ((y + 1) / 4 - y / 4) - ((y + 1) / 100 - y / 100) + ((y + 1) / 400 - y / 400) = 0 := by clear hlen; omega
      omega
  clear hlp
  have m0 : 0 ≤ mo ∧ mo ≤ 11 := by omega
  have e0 : 0 ≤ era := by omega
  have hd1 : 1 ≤ d := by clear hbase b3 b4 r1 hy' hr; omega
  have hy0 : 0 ≤ y' := by omega
  have hy1 : y' = 0 → 306 ≤ rest := fun h0 => by
    have h1 : era = 0 := by omega
    have h2 : y = 0 := by omega
    subst h1; subst h2; omega
  have hy2 : mo + 3 ≤ 12 → 1 ≤ y' := fun h0 => by
    rcases Int.lt_or_le 0 y' with h1 | h1
    · omega
    · have := hy1 (by omega); clear hbase b3 b4 r1 hy' hr; omega
  rw [hD]
  have hkey : mo = 0 ∨ mo = 1 ∨ mo = 2 ∨ mo = 3 ∨ mo = 4 ∨ mo = 5 ∨ mo = 6 ∨ mo = 7 ∨ mo = 8 ∨ mo = 9 ∨ mo = 10 ∨ mo = 11 := by omega
  by_cases hm : mo + 3 > 12
  · rw [if_pos hm]
    simp only
    rw [← day_eq _ (by omega) (by omega)]
    refine ⟨⟨by clear hbase b3 b4 r1 hr; omega, by omega, by omega, hd1, ?_⟩, ?_⟩
    · unfold dom
      have : mo = 10 ∨ mo = 11 := by omega
      rcases this with h1 | h1 <;> subst h1 <;> simp
      · omega
      · split
        · omega
        · rcases r1 with r1 | ⟨r1, _⟩
          · omega
          · exact absurd r1 (by assumption)
    · unfold dayR
      have h3 : mo + 3 - 12 < 3 := by omega
      simp only [if_pos h3]
      have e1 : y' + 1 - 1 = y' := by omega
      have e2 : mo + 3 - 12 + 12 - 3 = mo := by omega
      rw [e1, e2]; omega
  · rw [if_neg hm]
    simp only
    rw [← day_eq _ (by omega) (by omega)]
    have r2 : rest ≤ 365 := by rcases r1 with r1 | ⟨_, r1⟩ <;> omega
    refine ⟨⟨hy2 (by omega), by omega, by omega, hd1, ?_⟩, ?_⟩
    · unfold dom
      clear hbase b3 b4 r1 hy' hr hy1 hy2
      have : mo = 0 ∨ mo = 1 ∨ mo = 2 ∨ mo = 3 ∨ mo = 4 ∨ mo = 5 ∨ mo = 6 ∨ mo = 7 ∨ mo = 8 ∨ mo = 9 := by omega
      rcases this with h1 | h1 | h1 | h1 | h1 | h1 | h1 | h1 | h1 | h1 <;> subst h1 <;> simp <;> omega
    · unfold dayR
      have h3 : ¬ mo + 3 < 3 := by omega
      simp only [if_neg h3]
      have e2 : mo + 3 - 3 = mo := by omega
      rw [e2]; omega
theorem dateR_year {day y : Int} (h : 1 ≤ day) (h1 : bef y < day) (h2 : day ≤ bef (y + 1)) : (dateR day).1 = y := by
  obtain ⟨ho, hn⟩ := dateR_ok h
  have hb := dayN_bounds ho
  rw [hn] at hb
  rcases Int.lt_trichotomy (dateR day).1 y with h5 | h5 | h5
  · have := bef_mono (show (dateR day).1 + 1 ≤ y by omega); omega
  · exact h5
  · have := bef_mono (show y + 1 ≤ (dateR day).1 by omega); omega
/-- the Monday of the first week of a year -/
def fmo (y : Int) : Int := bef y + 4 - (bef y + 3) % 7
def wkP (y day : Int) : Int × Int :=
  let y' := if day < fmo y then y - 1 else if fmo (y + 1) ≤ day then y + 1 else y
  (y', (day - fmo y') / 7 + 1)
def wkR (day : Int) : Int × Int :=
  let th := day - (day + 6) % 7 + 3
  ((dateR th).1, (th - dayN (dateR th).1 1 1) / 7 + 1)
theorem dayN_one (y : Int) : dayN y 1 1 = bef y + 1 := by unfold dayN doy; simp [cumD]
theorem fmo_spec (y : Int) : (fmo y + 6) % 7 = 0 ∧ bef y - 2 ≤ fmo y ∧ fmo y ≤ bef y + 4 := by unfold fmo; omega
theorem bef_at : bef 1 = 0 ∧ bef 2 = 365 ∧ bef 10000 = 3652059 := by decide
theorem bef_up (y : Int) : bef y + 365 ≤ bef (y + 1) ∧ bef (y + 1) ≤ bef y + 366 := by rw [bef_succ]; split <;> omega
theorem wk_eq {y day : Int} (h0 : 1 ≤ y) (h1 : bef y < day) (h2 : day ≤ bef (y + 1)) : wkP y day = wkR day := by
  obtain ⟨th, hth⟩ : ∃ t, t = day - (day + 6) % 7 + 3 := ⟨_, rfl⟩
  have f0 := fmo_spec (y - 1)
  have f1 := fmo_spec y
  have f2 := fmo_spec (y + 1)
  have b0 := bef_up (y - 1)
  have b1 := bef_up y
  have b2 := bef_up (y + 1)
  have hb1 := bef_mono h0
  have hb0 := bef_at
  have e1 : y - 1 + 1 = y := by omega
  rw [e1] at b0
  have key : ∀ y', (y' = y - 1 ∧ day < fmo y) ∨ (y' = y + 1 ∧ fmo (y + 1) ≤ day) ∨ (y' = y ∧ fmo y ≤ day ∧ day < fmo (y + 1)) → (y', (day - fmo y') / 7 + 1) = wkR day := by
    intro y' hy'
    have hth1 : 1 ≤ th := by omega
    have hbd : bef y' < th ∧ th ≤ bef (y' + 1) := by
      rcases hy' with ⟨rfl, h5⟩ | ⟨rfl, h5⟩ | ⟨rfl, h5, h6⟩
      · rw [e1]; constructor <;> omega
      · constructor <;> omega
      · constructor <;> omega
    have hd := dateR_year hth1 hbd.1 hbd.2
    unfold wkR
    simp only [← hth, hd, dayN_one]
    have fy := fmo_spec y'
    congr 2
    omega
  unfold wkP
  by_cases c1 : day < fmo y
  · simp only [if_pos c1]; exact key _ (.inl ⟨rfl, c1⟩)
  · by_cases c2 : fmo (y + 1) ≤ day
    · simp only [if_neg c1, if_pos c2]; exact key _ (.inr (.inl ⟨rfl, c2⟩))
    · simp only [if_neg c1, if_neg c2]; exact key _ (.inr (.inr ⟨rfl, by omega, by omega⟩))
/-- a moment: year, month, day, the second of the day -/
structure Mo where
  y : Int
  m : Int
  d : Int
  h : Int
  mi : Int
  s : Int
deriving DecidableEq
def Mo.ok (a : Mo) : Prop := 1 ≤ a.y ∧ a.y ≤ 9999 ∧ 1 ≤ a.m ∧ a.m ≤ 12 ∧ 1 ≤ a.d ∧ a.d ≤ dom a.y a.m ∧ 0 ≤ a.h ∧ a.h ≤ 23 ∧ 0 ≤ a.mi ∧ a.mi ≤ 59 ∧ 0 ≤ a.s ∧ a.s ≤ 59
def Mo.day (a : Mo) : Int := dayN a.y a.m a.d
def Mo.sec (a : Mo) : Int := a.h * 3600 + a.mi * 60 + a.s
def Mo.num (a : Mo) : Int := (a.day - 1) * 86400 + a.sec
/-- the fault of a moment -/
def moF (a : Mo) : Int × Int :=
  if ¬ (1 ≤ a.y ∧ a.y ≤ 9999) then (4, 0) else if ¬ (1 ≤ a.m ∧ a.m ≤ 12) then (4, 1) else if ¬ (1 ≤ a.d ∧ a.d ≤ dom a.y a.m) then (4, 2) else
  if ¬ (0 ≤ a.h ∧ a.h ≤ 23) then (4, 3) else if ¬ (0 ≤ a.mi ∧ a.mi ≤ 59) then (4, 4) else if ¬ (0 ≤ a.s ∧ a.s ≤ 59) then (4, 5) else (0, 0)
theorem moF_ok {a : Mo} : (moF a).1 = 0 ↔ a.ok := by
  unfold moF Mo.ok
  repeat' split
  all_goals simp
  all_goals omega
theorem Mo.ok.okD {a : Mo} (h : a.ok) : okD a.y a.m a.d := ⟨h.1, h.2.2.1, h.2.2.2.1, h.2.2.2.2.1, h.2.2.2.2.2.1⟩
theorem Mo.ok.dayB {a : Mo} (h : a.ok) : 1 ≤ a.day ∧ a.day ≤ 3652059 ∧ bef a.y < a.day ∧ a.day ≤ bef (a.y + 1) := by
  have hb := dayN_bounds h.okD
  have h1 := bef_mono h.1
  have h2 := bef_mono (show a.y + 1 ≤ 10000 by have := h.2.1; omega)
  have h3 := bef_at
  unfold Mo.day; omega
def noMo : Mo := ⟨0, 0, 0, 0, 0, 0⟩
/-- the date of a day -/
def dateM (day : Int) : Mo := ⟨(dateR day).1, (dateR day).2.1, (dateR day).2.2, 0, 0, 0⟩
theorem dateM_ok {day : Int} (h : 1 ≤ day) (h' : day ≤ 3652059) : (dateM day).ok ∧ (dateM day).day = day := by
  obtain ⟨⟨k1, k2, k3, k4, k5⟩, h2⟩ := dateR_ok h
  have hb := dayN_bounds (dateR_ok h).1
  have hy : (dateR day).1 ≤ 9999 := by
    rcases Int.lt_or_le 9999 (dateR day).1 with h5 | h5
    · have := bef_mono (show 10000 ≤ (dateR day).1 by omega)
      have := bef_at
      omega
    · exact h5
  exact ⟨⟨k1, hy, k2, k3, k4, k5, by simp [dateM], by simp [dateM], by simp [dateM], by simp [dateM], by simp [dateM], by simp [dateM]⟩, h2⟩
end Go.Proofs.YtnmkpadgogbgkaaDoor
namespace Go.Proofs.YtnmkpadgogbgkaaDoor
abbrev Str := List UInt8
theorem drop_at {α : Type} {l : List α} {k : Nat} {x : α} (h : l[k]? = some x) : l.drop k = x :: l.drop (k + 1) := by
  have hk := (List.getElem?_eq_some_iff.1 h).1
  rw [List.drop_eq_getElem_cons hk, (List.getElem?_eq_some_iff.1 h).2]
theorem drop_cons {t cs : Str} {c : UInt8} {k : Nat} (h : t.drop k = c :: cs) : t[k]? = some c ∧ t.drop (k + 1) = cs ∧ k < t.length := by
  have h1 : t[k]? = some c := by
    have := congrArg (fun l => l[0]?) h
    simpa using this
  refine ⟨h1, ?_, (List.getElem?_eq_some_iff.1 h1).1⟩
  have := drop_at h1; rw [h] at this; injection this with _ h2; exact h2.symm
theorem u8eq (a b : UInt8) : ((a.toNat : Int) = (b.toNat : Int)) ↔ a = b := by
  rw [Int.ofNat_inj]; exact UInt8.toNat_inj
def lettersL : Str := [89, 109, 100, 72, 77, 83, 106, 71, 86, 117, 97, 98]
abbrev daysS : Str := [77, 111, 110, 32, 84, 117, 101, 32, 87, 101, 100, 32, 84, 104, 117, 32, 70, 114, 105, 32, 83, 97, 116, 32, 83, 117, 110]
abbrev monthsS : Str := [74, 97, 110, 32, 70, 101, 98, 32, 77, 97, 114, 32, 65, 112, 114, 32, 77, 97, 121, 32, 74, 117, 110, 32, 74, 117, 108, 32, 65, 117, 103, 32, 83, 101, 112, 32, 79, 99, 116, 32, 78, 111, 118, 32, 68, 101, 99]
def daysL : List Str := [[77, 111, 110], [84, 117, 101], [87, 101, 100], [84, 104, 117], [70, 114, 105], [83, 97, 116], [83, 117, 110]]
def monthsL : List Str := [[74, 97, 110], [70, 101, 98], [77, 97, 114], [65, 112, 114], [77, 97, 121], [74, 117, 110], [74, 117, 108], [65, 117, 103], [83, 101, 112], [79, 99, 116], [78, 111, 118], [68, 101, 99]]
def widthsL : List Nat := [4, 2, 2, 2, 2, 2, 3, 4, 2, 1, 0, 0]
/-- the place of a letter, or -1 -/
def posL (c : UInt8) : Str → Nat → Int
  | [], _ => -1
  | x :: xs, k => if x = c then (k : Int) else posL c xs (k + 1)
def ltrI (c : UInt8) : Int := posL c lettersL 0
/-- the fault of a pattern, from a place on -/
def patG (frm : Int) : Str → Nat → Int × Int
  | [], _ => (0, 0)
  | [c], i => if c = 37 then (1, frm + i) else (0, 0)
  | c :: c2 :: cs, i => if c = 37 then (if ltrI c2 < 0 ∧ c2 ≠ 37 then (1, frm + i) else patG frm cs (i + 2)) else patG frm (c2 :: cs) (i + 1)
def patF (p : Str) (frm : Int) : Int × Int := if 200 < p.length then (3, -2) else patG frm p 0
/-- the number that a directive stands for -/
def fldV (a : Mo) (k : Nat) : Int := [a.y, a.m, a.d, a.h, a.mi, a.s, doy a.y a.m a.d, (wkR a.day).1, (wkR a.day).2, (a.day - 1) % 7 + 1, (a.day - 1) % 7 + 1, a.m].getD k 0
def wideF (n : Int) (w : Nat) : Str := List.replicate (w - (Lib.itoa n).length) 48 ++ Lib.itoa n
def dirT (a : Mo) (k : Nat) : Str := if k = 10 then daysL.getD (fldV a k - 1).toNat [] else if k = 11 then monthsL.getD (fldV a k - 1).toNat [] else wideF (fldV a k) (widthsL.getD k 0)
/-- the text of a moment -/
def fmtF (a : Mo) : Str → Str
  | [] => []
  | [c] => [c]
  | c :: c2 :: cs => if c = 37 then (if c2 = 37 then 37 :: fmtF a cs else dirT a (ltrI c2).toNat ++ fmtF a cs) else c :: fmtF a (c2 :: cs)
theorem wk_bounds {day : Int} (h : 1 ≤ day) (h' : day ≤ 3652059) : 1 ≤ (wkR day).1 ∧ (wkR day).1 ≤ 9999 ∧ 1 ≤ (wkR day).2 ∧ (wkR day).2 ≤ 53 := by
  obtain ⟨th, hth⟩ : ∃ t, t = day - (day + 6) % 7 + 3 := ⟨_, rfl⟩
  have t1 : 1 ≤ th ∧ th ≤ 3652059 := by omega
  have ho := (dateM_ok t1.1 t1.2).1
  have hd := (dateM_ok t1.1 t1.2).2
  have hb := ho.dayB
  unfold wkR
  simp only [← hth, dayN_one]
  have e : (dateM th).y = (dateR th).1 := rfl
  rw [hd, e] at hb
  have hu := bef_up (dateR th).1
  have := ho.1
  have := ho.2.1
  rw [e] at *
  refine ⟨by omega, by omega, by omega, by omega⟩
theorem fld_bounds {a : Mo} (h : a.ok) (k : Nat) : 0 ≤ fldV a k ∧ fldV a k ≤ 9999 := by
  have hb := h.dayB
  have hw := wk_bounds hb.1 hb.2.1
  have hn := dayN_bounds h.okD
  have hu := bef_up a.y
  have he : doy a.y a.m a.d = a.day - bef a.y := by unfold Mo.day dayN; omega
  obtain ⟨h1, h2, h3, h4, h5, h6, h7, h8, h9, h10, h11, h12⟩ := h
  have hd := dom_pos a.y a.m
  unfold fldV
  rcases k with _ | _ | _ | _ | _ | _ | _ | _ | _ | _ | _ | _ | k <;> simp <;> omega
theorem fields_ok : Lib.fields daysS = daysL ∧ Lib.fields monthsS = monthsL := by decide +kernel
theorem itoa_len {n : Int} (h : 0 ≤ n) (h' : n ≤ 9999) : 1 ≤ (Lib.itoa n).length ∧ (Lib.itoa n).length ≤ 4 := by
  unfold Lib.itoa
  rw [if_neg (by omega), Lib.decDigits_length]
  obtain ⟨m, rfl⟩ : ∃ m : Nat, n = m := ⟨n.toNat, by omega⟩
  have hp := Lib.nDigits_pos m
  refine ⟨by simpa using hp, ?_⟩
  simp only [Int.toNat_natCast]
  by_cases c1 : m < 10
  · rw [Lib.nDigits_small c1]; omega
  · rw [Lib.nDigits_big c1]
    by_cases c2 : m / 10 < 10
    · rw [Lib.nDigits_small c2]; omega
    · rw [Lib.nDigits_big c2]
      by_cases c3 : m / 10 / 10 < 10
      · rw [Lib.nDigits_small c3]; omega
      · rw [Lib.nDigits_big c3, Lib.nDigits_small (by omega)]; omega
def patOk : Str → Bool
  | [] => true
  | [c] => decide (c ≠ 37)
  | c :: c2 :: cs => if c = 37 then (!(decide (ltrI c2 < 0) && decide (c2 ≠ 37)) && patOk cs) else patOk (c2 :: cs)
theorem patOk_iff (frm : Int) : ∀ (l : Str) (i : Nat), (patG frm l i).1 = 0 ↔ patOk l = true
  | [], i => by simp [patG, patOk]
  | [c], i => by by_cases h : c = 37 <;> simp [patG, patOk, h]
  | c :: c2 :: cs, i => by
    by_cases h : c = 37
    · by_cases hb : ltrI c2 < 0 ∧ c2 ≠ 37
      · simp [patG, patOk, h, hb]
      · have ih := patOk_iff frm cs (i + 2)
        have hb' : (!(decide (ltrI c2 < 0) && decide (c2 ≠ 37))) = true := by
          by_cases h1 : ltrI c2 < 0
          · have : c2 = 37 := Classical.byContradiction fun h => hb ⟨h1, h⟩
            simp [this]
          · simp [h1]
        simp only [patG, patOk, h, if_true, if_neg hb, hb', Bool.true_and]
        exact ih
    · have ih := patOk_iff frm (c2 :: cs) (i + 1)
      simp only [patG, patOk, h, if_false]
      exact ih
theorem patG_code (frm : Int) : ∀ (l : Str) (i : Nat), patG frm l i = (0, 0) ∨ ((patG frm l i).1 = 1 ∧ frm + i ≤ (patG frm l i).2 ∧ (patG frm l i).2 ≤ frm + i + l.length)
  | [], i => .inl rfl
  | [c], i => by
    by_cases h : c = 37
    · right; simp [patG, h]; omega
    · left; simp [patG, h]
  | c :: c2 :: cs, i => by
    by_cases h : c = 37
    · by_cases hb : ltrI c2 < 0 ∧ c2 ≠ 37
      · right; simp [patG, h, hb]; omega
      · simp only [patG, h, if_true, if_neg hb]
        rcases patG_code frm cs (i + 2) with e | ⟨e1, e2, e3⟩
        · exact .inl e
        · exact .inr ⟨e1, by push_cast at e2; omega, by push_cast at e3; simp only [List.length_cons]; push_cast; omega⟩
    · simp only [patG, h, if_false]
      rcases patG_code frm (c2 :: cs) (i + 1) with e | ⟨e1, e2, e3⟩
      · exact .inl e
      · exact .inr ⟨e1, by push_cast at e2; omega, by push_cast at e3; simp only [List.length_cons] at e3 ⊢; push_cast at e3 ⊢; omega⟩
theorem patF_ok {p : Str} {frm : Int} (h : (patF p frm).1 = 0) : patF p frm = (0, 0) ∧ p.length ≤ 200 ∧ patOk p = true := by
  unfold patF at h ⊢
  split at h
  · cases h
  · rename_i hl
    rw [if_neg hl]
    refine ⟨?_, by omega, (patOk_iff frm p 0).1 h⟩
    rcases patG_code frm p 0 with e | ⟨e, _⟩
    · exact e
    · omega
theorem ltr_lt (c : UInt8) (h : ¬ ltrI c < 0) : ∃ k : Nat, ltrI c = k ∧ k < 12 ∧ lettersL[k]? = some c := by
  have key : ∀ (l : Str) (i : Nat), 0 ≤ posL c l i → ∃ k : Nat, posL c l i = ((i + k : Nat) : Int) ∧ l[k]? = some c := by
    intro l
    induction l with
    | nil => intro i h; simp [posL] at h
    | cons x xs ih =>
      intro i h
      simp only [posL] at h ⊢
      by_cases hx : x = c
      · rw [if_pos hx]; exact ⟨0, by simp, by simp [hx]⟩
      · rw [if_neg hx] at h ⊢
        obtain ⟨k, e1, e2⟩ := ih (i + 1) h
        exact ⟨k + 1, by rw [e1]; congr 1; omega, by simpa using e2⟩
  obtain ⟨k, e1, e2⟩ := key lettersL 0 (by unfold ltrI at h; omega)
  exact ⟨k, by unfold ltrI; rw [e1]; congr 1; omega, (List.getElem?_eq_some_iff.1 e2).1, e2⟩
theorem dirT_len {a : Mo} (h : a.ok) (k : Nat) : (dirT a k).length ≤ 4 := by
  have hf := fld_bounds h k
  have hi := itoa_len hf.1 hf.2
  unfold dirT
  split
  · have : ∀ j : Nat, (daysL.getD j []).length ≤ 4 := by
      intro j; unfold daysL
      rcases j with _ | _ | _ | _ | _ | _ | _ | j <;> simp
    exact this _
  · split
    · have : ∀ j : Nat, (monthsL.getD j []).length ≤ 4 := by
        intro j; unfold monthsL
        rcases j with _ | _ | _ | _ | _ | _ | _ | _ | _ | _ | _ | _ | j <;> simp
      exact this _
    · have : widthsL.getD k 0 ≤ 4 := by
        unfold widthsL
        rcases k with _ | _ | _ | _ | _ | _ | _ | _ | _ | _ | _ | _ | k <;> simp
      unfold wideF
      simp only [List.length_append, List.length_replicate]
      omega
theorem fld_name {a : Mo} (h : a.ok) : 1 ≤ fldV a 10 ∧ fldV a 10 ≤ 7 ∧ 1 ≤ fldV a 11 ∧ fldV a 11 ≤ 12 := by
  have := h.2.2.1; have := h.2.2.2.1
  simp [fldV]; omega
end Go.Proofs.YtnmkpadgogbgkaaDoor

/- Reading a text cell by cell is reading it byte by byte; no condition. -/
import Derived.Test.YtjkkpnkohaeoeaaDoorCvM
set_option linter.all false
set_option linter.unusedSimpArgs false
set_option linter.unusedVariables false
namespace Go.Proofs.YtjkkpnkohaeoeaaDoor

structure DOk (d : Dia) : Prop where
  sq : d.sep ≠ d.quote
  s10 : d.sep ≠ 10
  s13 : d.sep ≠ 13
  q10 : d.quote ≠ 10
  q13 : d.quote ≠ 13
theorem DOk.of {d : Dia} (h : (dF d).1 = 0) : DOk d := by
  unfold dF at h
  split at h
  · cases h
  · rename_i h'
    simp only [not_or] at h'
    exact ⟨h'.1, h'.2.1, h'.2.2.1, h'.2.2.2.1, h'.2.2.2.2⟩

theorem tGo_q_none (d : Dia) (h : DOk d) : ∀ (l acc : Str) (i : Nat) (rows : List (List Str)) (row : List Str), quotedF d.quote l acc = none → ∃ a, tGo d l i rows row acc 2 = .inr (rows, row, a, 2)
  | [], acc, i, rows, row, _ => ⟨acc, rfl⟩
  | [c], acc, i, rows, row, hq => by
    by_cases hc : c = d.quote
    · simp [quotedF, hc] at hq
    · exact ⟨acc ++ [c], by simp [tGo, hc]⟩
  | c :: c2 :: cs, acc, i, rows, row, hq => by
    by_cases hc : c = d.quote
    · by_cases hc2 : c2 = d.quote
      · simp only [quotedF, hc, hc2, if_true] at hq
        obtain ⟨a, ha⟩ := tGo_q_none d h cs (acc ++ [d.quote]) (i + 1 + 1) rows row hq
        refine ⟨a, ?_⟩
        rw [← ha]
        simp [tGo, hc, hc2, h.sq.symm, h.q10, h.q13]
      · simp [quotedF, hc, hc2] at hq
    · have hq' : quotedF d.quote (c2 :: cs) (acc ++ [c]) = none := by simpa [quotedF, hc] using hq
      obtain ⟨a, ha⟩ := tGo_q_none d h (c2 :: cs) (acc ++ [c]) (i + 1) rows row hq'
      refine ⟨a, ?_⟩
      rw [← ha, tGo]
      simp [hc]
theorem tGo_q_some (d : Dia) (h : DOk d) : ∀ (l acc : Str) (i : Nat) (rows : List (List Str)) (row : List Str) (s r : Str), quotedF d.quote l acc = some (s, r) → tGo d l i rows row acc 2 = tGo d r (i + (l.length - r.length)) rows row s 3
  | [], acc, i, rows, row, s, r, hq => by simp [quotedF] at hq
  | [c], acc, i, rows, row, s, r, hq => by
    by_cases hc : c = d.quote
    · simp [quotedF, hc] at hq
      obtain ⟨rfl, rfl⟩ := hq
      simp [tGo, hc]
    · simp [quotedF, hc] at hq
  | c :: c2 :: cs, acc, i, rows, row, s, r, hq => by
    by_cases hc : c = d.quote
    · by_cases hc2 : c2 = d.quote
      · simp only [quotedF, hc, hc2, if_true] at hq
        have ha := tGo_q_some d h cs (acc ++ [d.quote]) (i + 1 + 1) rows row s r hq
        have hl := (quotedF_sfx _ _ _ _ _ hq).length_le
        rw [show i + ((c :: c2 :: cs).length - r.length) = i + 1 + 1 + (cs.length - r.length) from by simp; omega, ← ha]
        simp [tGo, hc, hc2, h.sq.symm, h.q10, h.q13]
      · simp [quotedF, hc, hc2] at hq
        obtain ⟨rfl, rfl⟩ := hq
        rw [tGo]
        simp [hc]
        try (congr 1; omega)
    · have hq' : quotedF d.quote (c2 :: cs) (acc ++ [c]) = some (s, r) := by simpa [quotedF, hc] using hq
      have ha := tGo_q_some d h (c2 :: cs) (acc ++ [c]) (i + 1) rows row s r hq'
      have hl := (quotedF_sfx _ _ _ _ _ hq').length_le
      rw [show i + ((c :: c2 :: cs).length - r.length) = i + 1 + ((c2 :: cs).length - r.length) from by simp at hl ⊢; omega, ← ha, tGo]
      simp [hc]
/-- a bare cell that has begun -/
theorem tGo_bare (d : Dia) (h : DOk d) : ∀ (l acc : Str) (i : Nat) (rows : List (List Str)) (row : List Str),
    ((bareF d l acc).2.1 = true → tGo d l i rows row acc 1 = tGo d (bareF d l acc).2.2 (i + (l.length - (bareF d l acc).2.2.length)) rows row (bareF d l acc).1 1) ∧
    ((bareF d l acc).2.1 = false → tGo d l i rows row acc 1 = .inl (i + (l.length - (bareF d l acc).2.2.length)))
  | [], acc, i, rows, row => by simp [bareF]
  | c :: cs, acc, i, rows, row => by
    have hb := (bareF_sfx d cs (acc ++ [c])).length_le
    have ih := tGo_bare d h cs (acc ++ [c]) (i + 1) rows row
    rw [bareF]
    split
    · simp
    · rename_i he
      simp only [Bool.or_eq_true, beq_iff_eq, not_or] at he
      split
      · rename_i hq
        subst hq
        simp [tGo, h.sq.symm, h.q10, h.q13]
      · rename_i hq
        have e : tGo d (c :: cs) i rows row acc 1 = tGo d cs (i + 1) rows row (acc ++ [c]) 1 := by
          rw [tGo]; simp [he, hq]
        rw [e, show i + ((c :: cs).length - (bareF d cs (acc ++ [c])).2.2.length) = i + 1 + (cs.length - (bareF d cs (acc ++ [c])).2.2.length) from by simp; omega]
        exact ih
theorem quotedF_head (q : UInt8) : ∀ (l acc s : Str) (x : UInt8) (r : Str), quotedF q l acc = some (s, x :: r) → x ≠ q
  | [], _, _, _, _, h => by simp [quotedF] at h
  | [c], acc, s, x, r, h => by
    simp only [quotedF] at h; split at h
    · injection h with h; injection h with _ h; cases h
    · cases h
  | c :: c2 :: cs, acc, s, x, r, h => by
    simp only [quotedF] at h; split at h
    · split at h
      · exact quotedF_head q cs _ s x r h
      · rename_i h2
        injection h with h; injection h with _ h; injection h with h _; subst h; exact h2
    · exact quotedF_head q (c2 :: cs) _ s x r h
theorem bareF_ends (d : Dia) : ∀ (l acc : Str), (bareF d l acc).2.1 = true → endsL d (bareF d l acc).2.2 = true
  | [], _, _ => rfl
  | c :: cs, acc, h => by
    rw [bareF] at h ⊢
    split
    · rename_i h1; exact h1
    · rename_i h1
      rw [if_neg h1] at h
      split
      · rename_i h2; rw [if_pos h2] at h; cases h
      · rename_i h2; rw [if_neg h2] at h; exact bareF_ends d cs _ h
theorem tGo_cell (d : Dia) (h : DOk d) (N : Nat) (c : UInt8) (cs : Str) (rows : List (List Str)) (row : List Str) (hN : (c :: cs).length ≤ N) :
    ((cellF d (c :: cs)).2.1 = true → endsL d (cellF d (c :: cs)).2.2 = true ∧ ∃ st : Int, (st = 0 ∨ st = 1 ∨ st = 3) ∧ ((cellF d (c :: cs)).2.2 = [] → st ≠ 0) ∧ tGo d (c :: cs) (N - (c :: cs).length) rows row [] 0 = tGo d (cellF d (c :: cs)).2.2 (N - (cellF d (c :: cs)).2.2.length) rows row (cellF d (c :: cs)).1 st) ∧
    ((cellF d (c :: cs)).2.1 = false → tEnd N (tGo d (c :: cs) (N - (c :: cs).length) rows row [] 0) = ([], (1, ((N - (cellF d (c :: cs)).2.2.length : Nat) : Int)))) := by
  simp only [List.length_cons] at hN
  by_cases hq : c = d.quote
  · subst hq
    have e0 : tGo d (d.quote :: cs) (N - (d.quote :: cs).length) rows row [] 0 = tGo d cs (N - cs.length) rows row [] 2 := by
      rw [tGo]; simp [h.sq.symm, h.q10, h.q13]
      congr 1; omega
    rw [e0, cellF, if_pos rfl]
    rcases hqf : quotedF d.quote cs [] with _ | ⟨s, r⟩
    · obtain ⟨a, ha⟩ := tGo_q_none d h cs [] (N - cs.length) rows row hqf
      rw [ha]
      simp [cellQ, tEnd]
    · have ha := tGo_q_some d h cs [] (N - cs.length) rows row s r hqf
      have hl := (quotedF_sfx _ _ _ _ _ hqf).length_le
      rw [ha, show N - cs.length + (cs.length - r.length) = N - r.length from by omega]
      simp only [cellQ]
      refine ⟨fun he => ⟨he, 3, by simp, by simp, rfl⟩, fun he => ?_⟩
      rcases r with _ | ⟨x, r⟩
      · simp [endsL] at he
      · have hx := quotedF_head _ _ _ _ _ _ hqf
        simp only [endsL, Bool.or_eq_false_iff, beq_eq_false_iff_ne] at he
        rw [tGo]
        simp [he, hx, tEnd]
  · rw [cellF, if_neg hq]
    by_cases he : (c == d.sep || c == 10 || c == 13) = true
    · rw [bareF, if_pos he]
      simp only [reduceCtorEq, false_imp_iff, and_true]
      exact fun _ => ⟨he, 0, by simp, by simp, rfl⟩
    · rw [bareF, if_neg he, if_neg hq]
      simp only [Bool.or_eq_true, beq_iff_eq, not_or] at he
      have e0 : tGo d (c :: cs) (N - (c :: cs).length) rows row [] 0 = tGo d cs (N - cs.length) rows row [c] 1 := by
        rw [tGo]; simp [he, hq]
        congr 1; omega
      rw [e0]
      obtain ⟨b1, b2⟩ := tGo_bare d h cs [c] (N - cs.length) rows row
      have hl := (bareF_sfx d cs [c]).length_le
      rw [show N - cs.length + (cs.length - (bareF d cs [c]).2.2.length) = N - (bareF d cs [c]).2.2.length from by omega] at b1 b2
      simp only [List.nil_append]
      refine ⟨fun hk => ⟨bareF_ends d cs [c] hk, 1, by simp, by simp, b1 hk⟩, fun hk => ?_⟩
      rw [b2 hk]; simp [tEnd]
theorem tGo_row (d : Dia) (h : DOk d) (N : Nat) (rows : List (List Str)) : ∀ (f : Nat) (l : Str) (out : List Str), l ≠ [] → l.length < f → l.length ≤ N →
    ((rowF d f l out).2.1 = true → tEnd N (tGo d l (N - l.length) rows out [] 0) = tEnd N (tGo d (rowF d f l out).2.2 (N - (rowF d f l out).2.2.length) (rows ++ [(rowF d f l out).1]) [] [] 0)) ∧
    ((rowF d f l out).2.1 = false → tEnd N (tGo d l (N - l.length) rows out [] 0) = ([], (1, ((N - (rowF d f l out).2.2.length : Nat) : Int))))
  | 0, l, out, _, hf, _ => by omega
  | f + 1, [], out, h0, _, _ => absurd rfl h0
  | f + 1, c :: cs, out, _, hf, hN => by
    obtain ⟨c1, c2⟩ := tGo_cell d h N c cs rows out hN
    have hsl := (cellF_sfx d (c :: cs)).length_le
    obtain ⟨⟨s, ok, rest⟩, hcf⟩ : ∃ x, cellF d (c :: cs) = x := ⟨_, rfl⟩
    rw [rowF, hcf]
    rw [hcf] at c1 c2 hsl
    simp only at c1 c2 hsl ⊢
    cases ok with
    | false => simpa using c2 rfl
    | true =>
      obtain ⟨hends, st, hst, hst0, ht⟩ := c1 rfl
      rw [ht, if_neg (by simp)]
      rcases rest with _ | ⟨x, r⟩
      · have : st ≠ 0 := hst0 rfl
        have h24 : st ≠ 2 ∧ st ≠ 4 := by omega
        simp [endRow, tGo, tEnd, this, h24]
      · have h24 : st ≠ 2 ∧ st ≠ 4 := by omega
        simp only [List.length_cons] at hsl hf hN
        have hidx : N - (r.length + 1) + 1 = N - r.length := by omega
        by_cases hx : x = d.sep
        · subst hx
          simp only [if_true]
          have e : tGo d (d.sep :: r) (N - (d.sep :: r).length) rows out s st = tGo d r (N - r.length) rows (if r = [] then out ++ [s] ++ [[]] else out ++ [s]) [] 0 := by
            rw [tGo]; simp [h24, hidx]
          rw [e]
          by_cases hr : r = []
          · subst hr
            rcases f with _ | f
            · simp at hf
            · simp [rowF, cellF, endRow, tGo, tEnd]
          · rw [if_neg hr]
            exact tGo_row d h N rows f r (out ++ [s]) hr (by omega) (by omega)
        · simp only [hx, if_false]
          simp only [endsL, Bool.or_eq_true, beq_iff_eq, hx, false_or] at hends
          by_cases h10 : x = 10
          · subst h10
            have e : tGo d (10 :: r) (N - ((10 : UInt8) :: r).length) rows out s st = tGo d r (N - r.length) (rows ++ [out ++ [s]]) [] [] 0 := by
              rw [tGo]; simp [h24, hx, hidx]
            rw [e]
            simp [endRow]
          · have h13 : x = 13 := by rcases hends with h1 | h1; exact absurd h1 h10; exact h1
            subst h13
            have e : tGo d (13 :: r) (N - ((13 : UInt8) :: r).length) rows out s st = tGo d r (N - r.length) rows out s 4 := by
              rw [tGo]; simp [h24, hx, hidx]
            rw [e]
            rcases r with _ | ⟨y, r⟩
            · simp [endRow, tGo, tEnd]
            · by_cases hy : y = 10
              · subst hy
                simp only [List.length_cons] at hsl
                have hidx2 : N - (r.length + 1) + 1 = N - r.length := by omega
                rw [tGo]
                simp [endRow, hidx2]
              · rw [tGo]
                simp [endRow, hy, tEnd]
theorem tGo_parse (d : Dia) (h : DOk d) (t : Str) : ∀ (f : Nat) (l : Str) (rows : List (List Str)), l.length < f → l.length ≤ t.length →
    parseEnd t (parseGo d f l rows) = tEnd t.length (tGo d l (t.length - l.length) rows [] [] 0)
  | 0, l, rows, hf, _ => by omega
  | f + 1, [], rows, _, _ => by simp [parseGo, parseEnd, tGo, tEnd]
  | f + 1, c :: cs, rows, hf, hN => by
    obtain ⟨r1, r2⟩ := tGo_row d h t.length rows ((c :: cs).length + 1) (c :: cs) [] (by simp) (by omega) hN
    have hlt := rowF_lt d ((c :: cs).length + 1) (c :: cs) [] (by simp)
    rw [parseGo]
    split
    · rename_i hok
      rw [r2 hok]; rfl
    · rename_i hok
      have hok' : (rowF d ((c :: cs).length + 1) (c :: cs) []).2.1 = true := by simpa using hok
      have hl := hlt hok'
      rw [r1 hok']
      exact tGo_parse d h t f _ _ (by omega) (by omega)
/-- reading a text is reading it byte by byte -/
theorem parse_tOf (d : Dia) (t : Str) (h : (dF d).1 = 0) (ht : t.length ≤ 4000) : parseF d t = tOf d t := by
  unfold parseF tOf
  rw [if_neg (by simp [h]), if_neg (by omega), tGo_parse d (DOk.of h) t (t.length + 1) t [] (by omega) (Nat.le_refl _), Nat.sub_self]
end Go.Proofs.YtjkkpnkohaeoeaaDoor

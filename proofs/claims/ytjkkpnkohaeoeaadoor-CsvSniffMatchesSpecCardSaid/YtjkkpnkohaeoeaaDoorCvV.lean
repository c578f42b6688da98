/- What is printed is read again; texts join; the sizes of texts; no condition. -/
import Derived.Test.YtjkkpnkohaeoeaaDoorCvQ
import Derived.Test.YtjkkpnkohaeoeaaDoorCvN
set_option linter.all false
set_option linter.unusedSimpArgs false
set_option linter.unusedVariables false
namespace Go.Proofs.YtjkkpnkohaeoeaaDoor

abbrev szR (r : List Str) : Nat := (r.map fun a => a.length + 1).sum + 1
abbrev szT (rows : List (List Str)) : Nat := (rows.map szR).sum + 1
theorem cellText_le (d : Dia) (s : Str) : (cellText d s).length ≤ 2 * s.length + 2 := by
  have := (dbl_len d.quote s).2
  unfold cellText; split
  · simp; omega
  · omega
theorem cellsText_le (d : Dia) : ∀ (r : List Str) (k : Nat), (cellsText d k r).length ≤ 3 * (r.map fun a => a.length + 1).sum
  | [], k => by simp [cellsText]
  | s :: ss, k => by
    have h1 := cellText_le d s
    have h2 := cellsText_le d ss (k + 1)
    simp only [cellsText, List.map_cons, List.sum_cons, List.length_append]
    split <;> simp <;> omega
theorem rowText_le (d : Dia) (r : List Str) : (rowText d r).length ≤ 3 * szR r := by
  have := cellsText_le d r 0
  simp only [rowText, List.length_append, szR]
  split <;> simp <;> omega
theorem tableText_le (d : Dia) : ∀ (rows : List (List Str)), (tableText d rows).length ≤ 3 * (rows.map szR).sum
  | [] => by simp [tableText]
  | r :: rs => by
    have h1 := rowText_le d r
    have h2 := tableText_le d rs
    simp only [tableText, List.map_cons, List.sum_cons, List.length_append]
    omega
theorem sum_mem {l : List Nat} {x : Nat} (h : x ∈ l) : x ≤ l.sum := by
  induction l with
  | nil => cases h
  | cons a l ih =>
    rcases List.mem_cons.1 h with rfl | h
    · simp
    · have := ih h; simp; omega
theorem len_sum (l : List Str) : l.length ≤ (l.map fun a => a.length + 1).sum := by
  induction l with
  | nil => simp
  | cons a l ih => simp; omega
theorem len_sumT (l : List (List Str)) : l.length ≤ (l.map szR).sum := by
  induction l with
  | nil => simp
  | cons a l ih => simp only [List.length_cons, List.map_cons, List.sum_cons, szR] at ih ⊢; omega
/-- the sizes within a table -/
theorem szT_all {rows : List (List Str)} {B : Nat} (h : szT rows ≤ B) : rows.length ≤ B ∧ (∀ r ∈ rows, r.length ≤ B ∧ szR r ≤ B ∧ ∀ s ∈ r, s.length ≤ B) := by
  have h1 := len_sumT rows
  have h0 : szT rows = (rows.map szR).sum + 1 := rfl
  refine ⟨by omega, fun r hr => ?_⟩
  have h2 : szR r ≤ (rows.map szR).sum := sum_mem (List.mem_map.2 ⟨r, hr, rfl⟩)
  have h3 := len_sum r
  have h5 : szR r = (r.map fun a => a.length + 1).sum + 1 := rfl
  refine ⟨by omega, by omega, fun s hs => ?_⟩
  have h4 : s.length + 1 ≤ (r.map fun a => a.length + 1).sum := sum_mem (List.mem_map.2 ⟨s, hs, rfl⟩)
  omega
theorem tableText_app (d : Dia) : ∀ (a b : List (List Str)), tableText d (a ++ b) = tableText d a ++ tableText d b
  | [], b => rfl
  | r :: rs, b => by simp only [List.cons_append, tableText, tableText_app d rs b, List.append_assoc]

/-- quoted text is read again -/
theorem quotedF_dbl (q : UInt8) (rest : Str) (hr : ∀ c r, rest = c :: r → c ≠ q) : ∀ (s acc : Str), quotedF q (dbl q s ++ q :: rest) acc = some (acc ++ s, rest)
  | [], acc => by
    simp only [dbl, List.nil_append, List.append_nil]
    rcases rest with _ | ⟨c, r⟩
    · simp [quotedF]
    · simp [quotedF, hr c r rfl]
  | c :: cs, acc => by
    have ih := quotedF_dbl q rest hr cs (acc ++ [c])
    by_cases hc : c = q
    · subst hc
      simp only [dbl, if_true, List.cons_append, List.nil_append]
      rw [quotedF]
      simp only [if_true]
      rw [ih]; simp
    · simp only [dbl, hc, if_false, List.cons_append, List.nil_append]
      rcases hd : dbl q cs ++ q :: rest with _ | ⟨x, xs⟩
      · simp at hd
      · rw [quotedF, if_neg hc, ← hd, ih]; simp
theorem bareF_app (d : Dia) (rest : Str) (hr : endsL d rest = true) : ∀ (s acc : Str), s.any (special d) = false → bareF d (s ++ rest) acc = (acc ++ s, true, rest)
  | [], acc, _ => by
    rcases rest with _ | ⟨c, r⟩
    · simp [bareF]
    · have : (c == d.sep || c == 10 || c == 13) = true := hr
      simp only [List.nil_append, List.append_nil]
      rw [bareF, if_pos this]
  | c :: cs, acc, hs => by
    simp only [List.any_cons, Bool.or_eq_false_iff] at hs
    have hc := hs.1
    simp only [special, Bool.or_eq_false_iff, beq_eq_false_iff_ne] at hc
    rw [List.cons_append, bareF, if_neg (by simp [hc]), if_neg (by simp [hc]), bareF_app d rest hr cs _ hs.2]
    simp
/-- dialects that read alike -/
def Alike (d e : Dia) : Prop := e.sep = d.sep ∧ e.quote = d.quote
theorem cellF_text (d e : Dia) (h : DOk d) (ha : Alike d e) (s : Str) (c : UInt8) (r : Str) (hr : c = d.sep ∨ c = 10 ∨ c = 13) : cellF e (cellText d s ++ c :: r) = (s, true, c :: r) := by
  obtain ⟨ha1, ha2⟩ := ha
  have hcq : c ≠ d.quote := by rcases hr with rfl | rfl | rfl; exact h.sq; exact h.q10.symm; exact h.q13.symm
  have hce : endsL e (c :: r) = true := by simp only [endsL, ha1]; rcases hr with rfl | rfl | rfl <;> simp
  unfold cellText
  split
  · have hq := quotedF_dbl d.quote (c :: r) (fun c' r' he => by injection he with h1 _; subst h1; exact hcq) s []
    rw [List.append_assoc, List.append_assoc, List.singleton_append, List.singleton_append, cellF, ha2, if_pos rfl, hq]
    simp [cellQ, hce]
  · rename_i hs
    have hs' : s.any (special d) = false := by simp only [Bool.or_eq_true, not_or] at hs; exact Bool.eq_false_iff.2 hs.2
    have hse : s.any (special e) = false := by
      rw [← hs']; congr 1; funext x; simp [special, ha1, ha2]
    have hb := bareF_app e (c :: r) hce s [] hse
    rcases s with _ | ⟨x, xs⟩
    · rw [List.nil_append, cellF, if_neg (by rw [ha2]; exact hcq)]
      simpa using hb
    · have hx : x ≠ e.quote := by
        simp only [List.any_cons, Bool.or_eq_false_iff, special, beq_eq_false_iff_ne] at hse
        exact hse.1.1.1.2
      rw [List.cons_append, cellF, if_neg hx]
      simpa using hb
theorem rowF_text (d e : Dia) (h : DOk d) (ha : Alike d e) (rest : Str) : ∀ (r : List Str) (k f : Nat) (out : List Str), r ≠ [] → (r.length ≤ f) →
    rowF e f ((match r with | [] => [] | s :: ss => cellText d s ++ cellsText d (k + 1) ss) ++ ((if d.ret then [13] else []) ++ [10] ++ rest)) out = (out ++ r, true, rest)
  | [], _, _, _, h0, _ => absurd rfl h0
  | s :: ss, k, 0, out, _, hf => by simp at hf
  | s :: ss, k, f + 1, out, _, hf => by
    simp only
    rcases ss with _ | ⟨s2, ss⟩
    · simp only [cellsText, List.append_nil]
      cases hret : d.ret with
      | true =>
        have hc := cellF_text d e h ha s 13 (10 :: rest) (.inr (.inr rfl))
        have e1 : cellText d s ++ ((if (true = true) then [13] else []) ++ [10] ++ rest) = cellText d s ++ 13 :: 10 :: rest := by simp
        rw [e1, rowF, hc]
        simp [endRow, ha.1, h.s13.symm]
      | false =>
        have hc := cellF_text d e h ha s 10 rest (.inr (.inl rfl))
        have e1 : cellText d s ++ ((if (false = true) then [13] else []) ++ [10] ++ rest) = cellText d s ++ 10 :: rest := by simp
        rw [e1, rowF, hc]
        simp [endRow, ha.1, h.s10.symm]
    · have ih := rowF_text d e h ha rest (s2 :: ss) (k + 1) f (out ++ [s]) (by simp) (by simp at hf ⊢; omega)
      simp only at ih
      have hc := cellF_text d e h ha s d.sep (cellText d s2 ++ cellsText d (k + 1 + 1) ss ++ ((if d.ret then [13] else []) ++ [10] ++ rest)) (.inl rfl)
      have e1 : cellText d s ++ cellsText d (k + 1) (s2 :: ss) ++ ((if d.ret then [13] else []) ++ [10] ++ rest) = cellText d s ++ d.sep :: (cellText d s2 ++ cellsText d (k + 1 + 1) ss ++ ((if d.ret then [13] else []) ++ [10] ++ rest)) := by
        simp [cellsText]
      rw [e1, rowF, hc]
      simp only [Bool.true_eq_false, if_false, ha.1, if_true]
      rw [ih]; simp
theorem rowText_eq (d : Dia) (r : List Str) (rest : Str) : rowText d r ++ rest = (match r with | [] => [] | s :: ss => cellText d s ++ cellsText d (0 + 1) ss) ++ ((if d.ret then [13] else []) ++ [10] ++ rest) := by
  rcases r with _ | ⟨s, ss⟩
  · simp [rowText, cellsText]
  · simp [rowText, cellsText]
theorem cells_lenP (d : Dia) : ∀ (r : List Str) (k : Nat), r.length ≤ (cellsText d (k + 1) r).length
  | [], k => by simp
  | s :: ss, k => by
    have := cells_lenP d ss (k + 1)
    simp only [cellsText, List.length_append, List.length_cons]
    rw [if_pos (by omega), List.length_singleton]
    omega
theorem cells_len (d : Dia) (r : List Str) : r.length ≤ (cellsText d 0 r).length + 1 := by
  rcases r with _ | ⟨s, ss⟩
  · simp
  · have := cells_lenP d ss 0
    simp only [cellsText, List.length_append, List.length_cons]
    omega
theorem parseGo_text (d e : Dia) (h : DOk d) (ha : Alike d e) : ∀ (rows : List (List Str)) (f : Nat) (acc : List (List Str)), (∀ r ∈ rows, r ≠ []) → rows.length < f → parseGo e f (tableText d rows) acc = .inr (acc ++ rows)
  | [], f, acc, _, hf => by
    rcases f with _ | f
    · simp at hf
    · simp [tableText, parseGo]
  | r :: rs, 0, acc, _, hf => by simp at hf
  | r :: rs, f + 1, acc, hne, hf => by
    have hr := hne r List.mem_cons_self
    have ih := parseGo_text d e h ha rs f (acc ++ [r]) (fun x hx => hne x (List.mem_cons_of_mem _ hx)) (by simp at hf; omega)
    have hrow := rowF_text d e h ha (tableText d rs) r 0 ((tableText d (r :: rs)).length + 1) [] hr (by
      have := cells_len d r
      simp only [tableText, rowText, List.length_append, List.length_singleton]; omega)
    rw [← rowText_eq] at hrow
    have htt : tableText d (r :: rs) = rowText d r ++ tableText d rs := rfl
    rw [← htt] at hrow
    rcases ht : tableText d (r :: rs) with _ | ⟨c, cs⟩
    · rw [htt] at ht; simp [rowText] at ht
    · rw [ht] at hrow
      rw [parseGo, hrow]
      simp only [Bool.true_eq_false, if_false, List.nil_append]
      rw [ih]; simp
theorem tF_ix {rows : List (List Str)} {i j : Int} (h : (tF rows i).1 = 0) : tF rows j = (0, 0) := by
  unfold tF at h ⊢
  split at h
  · simp at h
  · rename_i h1
    rw [if_neg h1]
    split at h
    · simp at h
    · rename_i h2
      rw [if_neg h2]
theorem emptyFrom_all : ∀ (l : List (List Str)) (k : Nat), emptyFrom l k < 0 ↔ ∀ r ∈ l, r ≠ []
  | [], k => by simp [emptyFrom]
  | r :: rs, k => by
    simp only [emptyFrom]
    split
    · rename_i h
      constructor
      · intro h2; omega
      · intro h2; exact absurd h (h2 r List.mem_cons_self)
    · rename_i h
      rw [emptyFrom_all rs (k + 1)]
      constructor
      · intro h2 x hx
        rcases List.mem_cons.1 hx with rfl | hx
        · exact h
        · exact h2 x hx
      · intro h2 x hx; exact h2 x (List.mem_cons_of_mem _ hx)
theorem tF_ne {rows : List (List Str)} {i : Int} (h : (tF rows i).1 = 0) : ∀ r ∈ rows, r ≠ [] := by
  have h2 := tF_ix (j := i) h
  unfold tF at h2
  split at h2
  · simp at h2
  · split at h2
    · simp at h2
    · rename_i h3; exact (emptyFrom_all rows 0).1 (by omega)
/-- a table's text is read as the table -/
theorem print_parse (rows : List (List Str)) (d e : Dia) (ha : Alike d e) (h : (printF rows d).2.1 = 0) : parseF e (printF rows d).1 = (rows, (0, 0)) := by
  unfold printF at h ⊢
  by_cases hd : (dF d).1 = 0
  · rw [if_neg (by simp [hd])] at h ⊢
    by_cases ht : (tF rows (-2)).1 = 0
    · rw [if_neg (by simp [ht])] at h ⊢
      by_cases hl : 4000 < (tableText d rows).length
      · rw [if_pos hl] at h; simp at h
      · rw [if_neg hl]
        have hde : (dF e).1 = 0 := by
          have : dF e = dF d := by unfold dF; rw [ha.1, ha.2]
          rw [this]; exact hd
        unfold parseF
        rw [if_neg (by simp [hde])]
        simp only
        rw [if_neg hl, parseGo_text d e (DOk.of hd) ha rows _ [] (tF_ne ht) (by
          have := tF_rows ht
          have h3 : ∀ l : List (List Str), l.length ≤ (tableText d l).length := by
            intro l
            induction l with
            | nil => simp
            | cons r rs ih => simp only [tableText, rowText, List.length_append, List.length_cons]; simp; omega
          have := h3 rows; omega)]
        simp only [parseEnd, List.nil_append]
        rw [tF_ix (j := -3) ht]; simp
    · rw [if_pos ht] at h; exact absurd h ht
  · rw [if_pos hd] at h; exact absurd h hd
/-- the fault of two tables together -/
theorem join_fault (a b : List (List Str)) (d : Dia) (ha : (printF a d).2.1 = 0) (hb : (printF b d).2.1 = 0) :
    (printF (a ++ b) d).2.1 = 0 ∧ (printF (a ++ b) d).1 = (printF a d).1 ++ (printF b d).1 ∨ (printF (a ++ b) d).2.1 = 2 ∨ (printF (a ++ b) d).2.1 = 14 := by
  unfold printF at ha hb ⊢
  by_cases hd : (dF d).1 = 0
  · rw [if_neg (by simp [hd])] at ha hb ⊢
    by_cases hta : (tF a (-2)).1 = 0
    · by_cases htb : (tF b (-2)).1 = 0
      · rw [if_neg (by simp [hta])] at ha
        rw [if_neg (by simp [htb])] at hb
        by_cases hla : 4000 < (tableText d a).length
        · rw [if_pos hla] at ha; simp at ha
        by_cases hlb : 4000 < (tableText d b).length
        · rw [if_pos hlb] at hb; simp at hb
        by_cases ht : (tF (a ++ b) (-2)).1 = 0
        · rw [if_neg (by simp [ht])]
          by_cases hl : 4000 < (tableText d (a ++ b)).length
          · rw [if_pos hl]; exact .inr (.inr rfl)
          · left; rw [if_neg hl]; simp [hd, hta, htb, hla, hlb, tableText_app]
        · rw [if_pos ht]
          right; left
          unfold tF at ht ⊢
          split
          · rfl
          · rename_i h1
            rw [if_neg h1] at ht
            have he : ¬ 0 ≤ emptyFrom (a ++ b) 0 := by
              have := (emptyFrom_all (a ++ b) 0).2 (fun r hr => by
                rcases List.mem_append.1 hr with hr | hr
                · exact tF_ne hta r hr
                · exact tF_ne htb r hr)
              omega
            rw [if_neg he] at ht; exact absurd rfl ht
      · rw [if_pos htb] at hb; exact absurd hb htb
    · rw [if_pos hta] at ha; exact absurd ha hta
  · rw [if_pos hd] at ha; exact absurd ha hd
end Go.Proofs.YtjkkpnkohaeoeaaDoor

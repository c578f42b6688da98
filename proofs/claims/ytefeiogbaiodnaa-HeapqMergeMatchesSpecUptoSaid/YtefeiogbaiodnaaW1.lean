/- Walks of the reference's functions that only read entries; no condition. -/
import Derived.Test.YtefeiogbaiodnaaW0
namespace Go.Proofs.Ytefeiogbaiodnaa
open Go.RowKit

def flatE (l : List Ent) : List Value := l.flatMap fun e => [.string e.name, .int .i64 e.rank]
theorem flatE_nil : flatE [] = [] := rfl
theorem flatE_cons (e : Ent) (l : List Ent) : flatE (e :: l) = .string e.name :: .int .i64 e.rank :: flatE l := rfl
theorem flatE_len (l : List Ent) : (flatE l).length = l.length * 2 := by
  induction l with
  | nil => rfl
  | cons e l ih => rw [flatE_cons]; simp only [List.length_cons, ih]; omega
theorem flatE_append (a b : List Ent) : flatE (a ++ b) = flatE a ++ flatE b := by simp [flatE]
theorem flatE_take (l : List Ent) (k : Nat) : flatE (l.take k) = (flatE l).take (k * 2) := by
  induction l generalizing k with
  | nil => simp [flatE_nil]
  | cons e l ih =>
    cases k with
    | zero => simp [flatE_nil]
    | succ k => rw [List.take_succ_cons, flatE_cons, flatE_cons, ih, show (k + 1) * 2 = k * 2 + 1 + 1 by omega]; rfl
theorem flatE_drop (l : List Ent) (k : Nat) : flatE (l.drop k) = (flatE l).drop (k * 2) := by
  induction l generalizing k with
  | nil => simp [flatE_nil]
  | cons e l ih =>
    cases k with
    | zero => simp
    | succ k => rw [List.drop_succ_cons, flatE_cons, ih, show (k + 1) * 2 = k * 2 + 1 + 1 by omega]; rfl
theorem flatE_set (l : List Ent) (k : Nat) (e : Ent) : flatE (l.set k e) = ((flatE l).set (k * 2) (.string e.name)).set (k * 2 + 1) (.int .i64 e.rank) := by
  induction l generalizing k with
  | nil => simp [flatE_nil]
  | cons x l ih =>
    cases k with
    | zero => simp [flatE_cons]
    | succ k => rw [List.set_cons_succ, flatE_cons, flatE_cons, ih, show (k + 1) * 2 = k * 2 + 1 + 1 by omega]; rfl
theorem flatE_name {l : List Ent} {k : Nat} (h : k < l.length) : (flatE l)[k * 2]? = some (.string (nth l k).name) := by
  induction l generalizing k with
  | nil => simp at h
  | cons e l ih =>
    cases k with
    | zero => simp [flatE_cons, nth]
    | succ k => rw [show (k + 1) * 2 = k * 2 + 1 + 1 by omega, flatE_cons]; simp only [List.getElem?_cons_succ]; rw [ih (by simpa using h)]; simp [nth]
theorem flatE_rank {l : List Ent} {k : Nat} (h : k < l.length) : (flatE l)[k * 2 + 1]? = some (.int .i64 (nth l k).rank) := by
  induction l generalizing k with
  | nil => simp at h
  | cons e l ih =>
    cases k with
    | zero => simp [flatE_cons, nth]
    | succ k => rw [show (k + 1) * 2 + 1 = k * 2 + 1 + 1 + 1 by omega, flatE_cons]; simp only [List.getElem?_cons_succ]; rw [ih (by simpa using h)]; simp [nth]
theorem flatE_one (l : List Ent) : ∀ u ∈ flatE l, u.oneCell' = true := by
  intro u hu
  simp only [flatE, List.mem_flatMap] at hu
  obtain ⟨e, _, hu⟩ := hu
  simp at hu
  rcases hu with rfl | rfl <;> rfl

/-- v is a slice of these entries -/
def EntS (w : World) (v : Value) (l : List Ent) : Prop := Rd w 2 v l.length (flatE l)
theorem EntS.ext {w w' : World} {v : Value} {l : List Ent} (h : EntS w v l) (hb : Ext w w') : EntS w' v l := Rd.ext h hb
theorem EntS.nil_ (w : World) : EntS w (.slice none 0 0) [] := Rd.nil_ w 2

def CellsE (w : World) (g off : Nat) (l : List Ent) : Prop :=
  ∀ k, k < l.length → w.cell? ⟨g, off + k * 2, none⟩ = some (.string (nth l k).name) ∧ w.cell? ⟨g, off + k * 2 + 1, none⟩ = some (.int .i64 (nth l k).rank)
theorem CellsE.ext {w w' : World} {g off : Nat} {l : List Ent} (h : CellsE w g off l) (hb : Ext w w') : CellsE w' g off l :=
  fun k hk => ⟨hb.cellAt (h k hk).1, hb.cellAt (h k hk).2⟩

theorem EntS.out {w : World} {v : Value} {l : List Ent} (h : EntS w v l) : ∃ A c, v = .slice A l.length c ∧ l.length ≤ 9223372036854775807 ∧ (0 < l.length → ∃ g off, A = some ⟨g, off, none⟩ ∧ CellsE w g off l) := by
  have hle := Rd.len_le h
  obtain ⟨A, c, hv, hl, hc, hm, hx⟩ := h
  refine ⟨A, c, hv, hle, fun h0 => ?_⟩
  obtain ⟨g, off, hA, hcell⟩ := hx h0
  exact ⟨g, off, hA, fun k hk => ⟨hcell _ _ (flatE_name hk), by rw [Nat.add_assoc]; exact hcell _ _ (flatE_rank hk)⟩⟩

theorem compare_E (a b : Ent) (w : World) : Calls Try.prog 48 #[.agg #[.string a.name, .int .i64 a.rank], .agg #[.string b.name, .int .i64 b.rank]] w fun e w' => e = .returned (.int .i64 (cmpEnt a b)) ∧ Ext w w' := compare_any _ _ _ _ _
theorem ahead_E (a b : Ent) (w : World) : Calls Try.prog 27 #[.agg #[.string a.name, .int .i64 a.rank], .agg #[.string b.name, .int .i64 b.rank]] w fun e w' => e = .returned (.bool (lt a b)) ∧ Ext w w' := ahead_any _ _ _ _ _

set_option maxHeartbeats 400000 in
theorem entryFault_any (n : ByteArray) (r : Int) (w : World) :
    Calls Try.prog 29 #[.agg #[.string n, .int .i64 r]] w fun e w' => e = .returned (.int .i64 (efault ⟨n, r⟩)) ∧ Ext w w' := by
  by_cases h0 : n.size = 0
  · have e0 : n.toList = [] := (empty_iff n).2 h0
    have he := efault_name (r := r) (.inl h0)
    have H := Lib.hid he
    clear he
    go_enter Try.func29, Try.ntmps29
    go_wp2
    go_ret
    exact ⟨ret_int H.out.symm, by go_grown⟩
  · have e0 : n.toList ≠ [] := fun e => h0 ((empty_iff n).1 e)
    have e1 : n.toList.isEmpty = false := by simpa using e0
    by_cases h1 : 24 < n.size
    · have he := efault_name (r := r) (.inr h1)
      have H := Lib.hid he
      clear he
      go_enter Try.func29, Try.ntmps29
      go_wp2
      go_ret
      exact ⟨ret_int H.out.symm, by go_grown⟩
    · by_cases h2 : r < -1000000 ∨ 1000000 < r
      · have he := efault_rank (n := n) (r := r) (by omega) h2
        have hd : decide (-1000000 ≤ r ∧ r ≤ 1000000) = false := by simp; omega
        have H := Lib.hid he
        clear he
        go_enter Try.func29, Try.ntmps29
        go_wp2_with (go_at_call 25; refine (in_any _ _ _ _).mono ?_; rintro e w' ⟨rfl, rfl⟩)
        go_ret
        exact ⟨ret_int H.out.symm, by go_grown⟩
      · have he := efault_ok (n := n) (r := r) (by omega) (by omega)
        have hd : decide (-1000000 ≤ r ∧ r ≤ 1000000) = true := by simp; omega
        have H := Lib.hid he
        clear he
        go_enter Try.func29, Try.ntmps29
        go_wp2_with (go_at_call 25; refine (in_any _ _ _ _).mono ?_; rintro e w' ⟨rfl, rfl⟩)
        go_ret
        exact ⟨ret_int H.out.symm, by go_grown⟩

set_option maxHeartbeats 400000 in
theorem at_any (c i : Int) (w : World) :
    Calls Try.prog 22 #[.int .i64 c, .int .i64 i] w fun e w' => e = .returned (.agg #[.int .i64 c, .int .i64 i]) ∧ Ext w w' := by
  go_enter Try.func22, Try.ntmps22
  go_wp2
  exact bodyPost_ret (v := .agg #[.int .i64 c, .int .i64 i]) (by simp [results, Try.results22, go_sem]) rfl ⟨rfl, by go_grown⟩

theorem name_beq (a b : ByteArray) : (a.toList == b.toList) = decide (a = b) := by
  by_cases h : a = b
  · subst h; simp
  · have : a.toList ≠ b.toList := fun e => h (ba_ext e)
    simp [h, this]

set_option maxHeartbeats 400000 in
theorem entry_any (l : List Ent) (nm : ByteArray) (v : Value) (w : World) (hl : EntS w v l) :
    Calls Try.prog 30 #[v, .string nm] w fun e w' => e = .returned (.int .i64 (idx l nm)) ∧ w = w' := by
  obtain ⟨A, c, rfl, hm, hA⟩ := hl.out
  have HA := Lib.hid hA
  clear hA hl
  go_enter Try.func30, Try.ntmps30
  go_wp2
  go_loop [4, 5] (fun _ i => ∃ k : Nat, k ≤ l.length ∧ i = .int .i64 k ∧ idx l nm = idxFrom (l.drop k) nm k) (fun _ i => l.length - (intOf i).toNat)
  case atStart => exact ⟨0, Nat.zero_le _, rfl, rfl⟩
  case round =>
    obtain ⟨k, hk, rfl, hi⟩ := hrel
    have HI := Lib.hid hi
    clear hi
    by_cases hlt : k < l.length
    · obtain ⟨g, off, rfl, hc⟩ := HA.out (by omega)
      have hc0 := (hc k hlt).1
      have hd := idxFrom_drop l nm k hlt
      have HD := Lib.hid hd
      have HB := Lib.hid (name_beq (nth l k).name nm)
      clear hd hc
      by_cases hn : (nth l k).name = nm
      · have hb : ((nth l k).name.toList == nm.toList) = true := by rw [HB.out]; simp [hn]
        have HN := Lib.hid hn
        clear hn
        go_wp2
        go_ret
        exact ⟨ret_int (by rw [HI.out, HD.out, if_pos HN.out]), rfl⟩
      · have hb : ((nth l k).name.toList == nm.toList) = false := by rw [HB.out]; simp [hn]
        have HN := Lib.hid hn
        clear hn
        go_wp2
        go_round
        case rel => exact ⟨k + 1, by omega, by go_num, by rw [HI.out, HD.out, if_neg HN.out]⟩
        case measure => simp [intOf]; omega
    · go_wp2
      go_ret
      exact ⟨ret_int (by rw [HI.out, List.drop_of_length_le (by omega)]; rfl), rfl⟩
theorem und40 : Try.prog.underlying 40 = some (.struct (Try.prog.fieldsOf 40)) := by kernel_rfl
theorem stood40 : Try.prog.stoodInHeld 40 = false := by kernel_rfl
theorem run_equalE (w : World) (n1 n2 : ByteArray) (r1 r2 : Int) : (Op.equalIn 10000 40 (.agg #[.string n1, .int .i64 r1]) (.agg #[.string n2, .int .i64 r2])).run Try.prog w = .ok (decide ((⟨n1, r1⟩ : Ent) = ⟨n2, r2⟩)) w := by
  rw [run_equalIn_agg _ _ _ _ _ und40 stood40]
  simp [go_sem]
  by_cases h : n1 = n2
  · subst h
    by_cases h' : r1 = r2 <;> simp [h']
  · have : n1.toList ≠ n2.toList := fun e => h (ba_ext e)
    simp [h, this]
/-- the equality of entries, shut to simp -/
def eqB (a b : Ent) : Bool := decide (a = b)
theorem run_neqE (w : World) (n1 n2 : ByteArray) (r1 r2 : Int) : (binOp .neq 40 (.agg #[.string n1, .int .i64 r1]) (.agg #[.string n2, .int .i64 r2])).run Try.prog w = .ok (.bool (!eqB ⟨n1, r1⟩ ⟨n2, r2⟩)) w := by
  rw [run_neq_struct, run_equalE]; rfl
theorem run_eqlE (w : World) (n1 n2 : ByteArray) (r1 r2 : Int) : (binOp .eql 40 (.agg #[.string n1, .int .i64 r1]) (.agg #[.string n2, .int .i64 r2])).run Try.prog w = .ok (.bool (eqB ⟨n1, r1⟩ ⟨n2, r2⟩)) w := by
  rw [run_eql_struct, run_equalE]; rfl
theorem und24 : Try.prog.underlying 24 = some (.struct (Try.prog.fieldsOf 24)) := by kernel_rfl
theorem stood24 : Try.prog.stoodInHeld 24 = false := by kernel_rfl
theorem run_equalF (w : World) (a b c d : Int) : (Op.equalIn 10000 24 (.agg #[.int .i64 a, .int .i64 b]) (.agg #[.int .i64 c, .int .i64 d])).run Try.prog w = .ok (decide ((a, b) = (c, d))) w := by
  rw [run_equalIn_agg _ _ _ _ _ und24 stood24]
  simp [go_sem]
  by_cases h : a = c <;> by_cases h' : b = d <;> simp [h, h']
/-- the equality of faults, shut to simp -/
def eqF (a b c d : Int) : Bool := decide ((a, b) = (c, d))
theorem run_neqF (w : World) (a b c d : Int) : (binOp .neq 24 (.agg #[.int .i64 a, .int .i64 b]) (.agg #[.int .i64 c, .int .i64 d])).run Try.prog w = .ok (.bool (!eqF a b c d)) w := by
  rw [run_neq_struct, run_equalF]; rfl
theorem run_eqlF (w : World) (a b c d : Int) : (binOp .eql 24 (.agg #[.int .i64 a, .int .i64 b]) (.agg #[.int .i64 c, .int .i64 d])).run Try.prog w = .ok (.bool (eqF a b c d)) w := by
  rw [run_eql_struct, run_equalF]; rfl
theorem ret_bool {a b : Bool} (h : a = b) : Ending.returned (.bool a) = .returned (.bool b) := by rw [h]
end Go.Proofs.Ytefeiogbaiodnaa

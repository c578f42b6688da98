/- Walks of the closure in least, of IndexFunc, ContainsFunc, least at pairs of numbers; the sizes that the calls need are premises of each contract. -/
import Derived.Test.YtefeiogbaiodnaaMergeAP
namespace Go.Proofs.Ytefeiogbaiodnaa
open Go.RowKit

abbrev ElP := Int × Int
def encP : Enc (Int × Int) := { size := 2, pos := by decide, cells := fun a => [.int .i64 a.1, .int .i64 a.2], len := fun _ => rfl, one := fun a u hu => by simp at hu; rcases hu with rfl | rfl <;> rfl }
def ltP (a b : Int × Int) : Bool := decide (a.1 < b.1)

theorem idx35 (a b : Value) (w : World) : (Instr.index 35 (.agg #[a, b]) (.int .i64 0)).run Try.prog w = .ok a w := by kernel_rfl

set_option maxHeartbeats 400000 in
theorem lessP_t (a b : Int × Int) (w : World) : Calls Try.prog 16 #[.agg #[.int .i64 a.1, .int .i64 a.2], .agg #[.int .i64 b.1, .int .i64 b.2]] w fun e w' => e = .returned (.bool (ltP a b)) ∧ Ext w w' := by
  go_enter Try.func16, Try.ntmps16
  go_wp2
  go_ret
  exact ⟨by simp [ltP], by go_grown⟩

/-- the first element of a list that is not empty, in memory -/
theorem headP {w : World} {v : Value} {x : ElP} {r : List ElP} (h : SlA encP w v (x :: r)) :
    ∃ g off c, v = .slice (some ⟨g, off, none⟩) (r.length + 1) c ∧ r.length + 1 ≤ c ∧ r.length + 1 ≤ 9223372036854775807 ∧ w.cell? ⟨g, off, none⟩ = some (.int .i64 x.1) ∧ w.cell? ⟨g, off + 1, none⟩ = some (.int .i64 x.2) := by
  obtain ⟨A, c, hv, hc, hm, hA⟩ := h.out
  obtain ⟨g, off, rfl, hcell⟩ := hA (by simp)
  have h0 := hcell 0 x rfl 0 _ rfl
  have h1 := hcell 0 x rfl 1 _ rfl
  exact ⟨g, off, c, hv, hc, hm, by simpa using h0, by simpa using h1⟩

set_option maxRecDepth 100000 in
set_option maxHeartbeats 1000000 in
theorem closP_nil (vo : Value) (a b : Addr) (x : ElP) (w : World) (ho : SlA encP w vo []) :
    Calls Try.prog 51 #[vo, .pointer (some a), .pointer (some b)] w fun e w' => e = .returned (.bool (headLt ltP [] x)) ∧ Ext w w' := by
  obtain ⟨A, c, rfl, _, _, _⟩ := ho.out
  clear ho
  go_enter Try.func51, Try.ntmps51
  go_wp2_with fail
  go_quiet (fail)
  go_wp2
  go_ret
  exact ⟨rfl, (Ext.rfl_ w).drewN' _⟩

set_option maxRecDepth 100000 in
set_option maxHeartbeats 1000000 in
theorem closP_cons (y x : ElP) (o r : List ElP) (vo vl : Value) (p1 p2 : Nat) (w : World) (ho : SlA encP w vo (y :: o)) (hl : SlA encP w vl (x :: r))
    (k1 : w.cell? ⟨p1, 0, none⟩ = some (.func (.func 16) #[] #[])) (k2 : w.cell? ⟨p2, 0, none⟩ = some vl) :
    Calls Try.prog 51 #[vo, .pointer (some ⟨p1, 0, none⟩), .pointer (some ⟨p2, 0, none⟩)] w fun e w' => e = .returned (.bool (headLt ltP (y :: o) x)) ∧ Ext w w' := by
  obtain ⟨g, off, c, rfl, _, hm, c0, c1⟩ := headP ho
  obtain ⟨g', off', c', rfl, _, hm', d0, d1⟩ := headP hl
  clear ho hl
  have z1 : decide ((0 : Int) < (o.length : Int) + 1) = true := decide_eq_true (by omega)
  have z2 : (0 : Int) < (o.length : Int) + 1 := by omega
  have z3 : (0 : Int) < (r.length : Int) + 1 := by omega
  go_enter Try.func51, Try.ntmps51
  go_wp2_with fail
  go_region_held3 (fun w' => w'.cell? ⟨p1, 0, none⟩ = some (.func (.func 16) #[] #[]) ∧ w'.cell? ⟨p2, 0, none⟩ = some (.slice (some ⟨g', off', none⟩) (r.length + 1) c') ∧ w'.cell? ⟨g, off, none⟩ = some (.int .i64 y.1) ∧ w'.cell? ⟨g', off', none⟩ = some (.int .i64 x.1) ∧ w'.cell? ⟨g, off + 1, none⟩ = some (.int .i64 y.2) ∧ w'.cell? ⟨g', off' + 1, none⟩ = some (.int .i64 x.2)) (first | exact ⟨k1, k2, c0, d0, c1, d1⟩ | exact ⟨hb.cellAt k1, hb.cellAt k2, hb.cellAt c0, hb.cellAt d0, hb.cellAt c1, hb.cellAt d1⟩ | go_keep)
    (first | (go_at_call 16; refine (lessP_t y x _).mono ?_; rintro e w' ⟨rfl, hb⟩))
  go_wp2
  go_ret
  exact ⟨rfl, hb.re⟩

theorem closP_t (o r : List ElP) (x : ElP) (vo vl : Value) (p1 p2 : Nat) (w : World) (ho : SlA encP w vo o) (hl : SlA encP w vl (x :: r))
    (k1 : w.cell? ⟨p1, 0, none⟩ = some (.func (.func 16) #[] #[])) (k2 : w.cell? ⟨p2, 0, none⟩ = some vl) :
    Calls Try.prog 51 #[vo, .pointer (some ⟨p1, 0, none⟩), .pointer (some ⟨p2, 0, none⟩)] w fun e w' => e = .returned (.bool (headLt ltP o x)) ∧ Ext w w' := by
  cases o with
  | nil => exact closP_nil vo _ _ x w ho
  | cons y o => exact closP_cons y x o r vo vl p1 p2 w ho hl k1 k2

/-- a number is handed back that is not negative just if one of the lists begins with a lesser element -/
def RetIxP (ls : List (List ElP)) (x : ElP) (w : World) (e : Ending) (w' : World) : Prop := ∃ m : Int, e = .returned (.int .i64 m) ∧ (0 ≤ m ↔ (ls.any fun o => headLt ltP o x) = true) ∧ Ext w w'

theorem any_drop_consP {α : Type} {ls : List (List α)} {k : Nat} {o : List α} (h : ls[k]? = some o) (p : List α → Bool) : (ls.drop k).any p = (p o || (ls.drop (k + 1)).any p) := by
  have hk := (List.getElem?_eq_some_iff.1 h).1
  have he := (List.getElem?_eq_some_iff.1 h).2
  rw [List.drop_eq_getElem_cons hk, List.any_cons, he]

set_option maxRecDepth 100000 in
set_option maxHeartbeats 1000000 in
theorem idxfP_t (ls : List (List ElP)) (r : List ElP) (x : ElP) (v vl : Value) (p1 p2 : Nat) (w : World) (hs : SlL encP w v ls) (hl : SlA encP w vl (x :: r))
    (k1 : w.cell? ⟨p1, 0, none⟩ = some (.func (.func 16) #[] #[])) (k2 : w.cell? ⟨p2, 0, none⟩ = some vl) :
    Calls Try.prog 65 #[v, .func (.func 51) #[] #[.pointer (some ⟨p1, 0, none⟩), .pointer (some ⟨p2, 0, none⟩)]] w (RetIxP ls x w) := by
  obtain ⟨A, c, rfl, hc, hm, hA⟩ := hs.out
  have HA := Lib.hid hA
  have HL := Lib.hid hl
  have HK1 := Lib.hid k1
  have HK2 := Lib.hid k2
  clear hA hs hl k1 k2
  go_enter Try.func65, Try.ntmps65
  go_wp2
  go_loopw [8] (fun i wr => ∃ k : Nat, k ≤ ls.length ∧ i = .int .i64 k ∧ ((ls.any fun o => headLt ltP o x) = (ls.drop k).any fun o => headLt ltP o x) ∧ Ext w wr) (fun i _ => ls.length - (intOf i).toNat)
  case atStart => exact ⟨0, by omega, rfl, rfl, Ext.rfl_ _⟩
  case round =>
    obtain ⟨k, hk, rfl, ha, hb⟩ := hrel
    have HAny := Lib.hid ha
    have HB := Lib.hid hb
    clear ha hb
    by_cases hlt : k < ls.length
    · obtain ⟨g, off, rfl, hcell⟩ := HA.out (by omega)
      obtain ⟨o, ho⟩ : ∃ o, ls[k]? = some o := ⟨_, List.getElem?_eq_getElem hlt⟩
      obtain ⟨A', c', h1, h2⟩ := hcell k o ho
      have c0 := HB.out.cellAt h1
      have HO := Lib.hid (h2.ext HB.out)
      have HD := Lib.hid (any_drop_consP ho fun o => headLt ltP o x)
      clear h1 h2 hcell ho
      go_wp2_with fail
      refine (closP_t o r x _ vl p1 p2 _ HO.out (HL.out.ext HB.out) (HB.out.cellAt HK1.out) (HB.out.cellAt HK2.out)).mono ?_
      rintro e w1 ⟨rfl, hb1⟩
      have HB1 := Lib.hid (HB.out.tr hb1)
      clear hb1
      by_cases hh : headLt ltP o x = true
      · have HH := Lib.hid hh
        go_wp2
        go_ret
        refine ⟨_, rfl, ⟨fun _ => ?_, fun _ => by omega⟩, HB1.out⟩
        rw [HAny.out, HD.out, HH.out]; rfl
      · have hf : headLt ltP o x = false := by simpa using hh
        have HH := Lib.hid hf
        clear hh
        go_wp2
        go_roundw
        case rel => exact ⟨k + 1, by omega, by go_num, by rw [HAny.out, HD.out, HH.out]; rfl, HB1.out⟩
        case measure => simp [intOf]; omega
    · go_wp2
      go_ret
      refine ⟨_, rfl, ⟨fun h => by omega, fun h => ?_⟩, HB.out⟩
      rw [HAny.out, List.drop_of_length_le (by omega)] at h
      cases h

set_option maxHeartbeats 400000 in
theorem contP_t (ls : List (List ElP)) (r : List ElP) (x : ElP) (v vl : Value) (p1 p2 : Nat) (w : World) (hs : SlL encP w v ls) (hl : SlA encP w vl (x :: r))
    (k1 : w.cell? ⟨p1, 0, none⟩ = some (.func (.func 16) #[] #[])) (k2 : w.cell? ⟨p2, 0, none⟩ = some vl) :
    Calls Try.prog 52 #[v, .func (.func 51) #[] #[.pointer (some ⟨p1, 0, none⟩), .pointer (some ⟨p2, 0, none⟩)]] w fun e w' => e = .returned (.bool (ls.any fun o => headLt ltP o x)) ∧ Ext w w' := by
  obtain ⟨b, hb⟩ : ∃ b, b = ls.any fun o => headLt ltP o x := ⟨_, rfl⟩
  have HBb := Lib.hid hb
  rw [← hb]
  have HS := Lib.hid hs
  have HL := Lib.hid hl
  clear hs hl hb
  go_enter Try.func52, Try.ntmps52
  go_wp2_with fail
  refine (idxfP_t ls r x v vl p1 p2 _ HS.out HL.out k1 k2).mono ?_
  rintro e w1 ⟨m, rfl, hm, hb1⟩
  rw [← HBb.out] at hm
  have HM := Lib.hid hm
  clear hm
  go_wp2
  go_ret
  refine ⟨ret_bool ?_, hb1⟩
  have := HM.out
  cases b
  · simp at this ⊢; omega
  · simp at this ⊢; exact this
end Go.Proofs.Ytefeiogbaiodnaa

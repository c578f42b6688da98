/- Walks of the closure in least, of IndexFunc, ContainsFunc, least at numbers; the sizes that the calls need are premises of each contract. -/
import Derived.Test.YtefeiogbaiodnaaMergeAI
namespace Go.Proofs.Ytefeiogbaiodnaa
open Go.RowKit

abbrev ElI := Int
def encI : Enc Int := { size := 1, pos := by decide, cells := fun a => [.int .i64 a], len := fun _ => rfl, one := fun a u hu => by simp at hu; subst hu; rfl }
def ltI (a b : Int) : Bool := decide (a < b)


set_option maxHeartbeats 400000 in
theorem lessI_t (a b : Int) (w : World) : Calls Try.prog 37 #[.int .i64 a, .int .i64 b] w fun e w' => e = .returned (.bool (ltI a b)) ∧ Ext w w' := by
  go_enter Try.func37, Try.ntmps37
  go_wp2
  go_ret
  exact ⟨by simp [ltI], by go_grown⟩

/-- the first element of a list that is not empty, in memory -/
theorem headI {w : World} {v : Value} {x : ElI} {r : List ElI} (h : SlA encI w v (x :: r)) :
    ∃ g off c, v = .slice (some ⟨g, off, none⟩) (r.length + 1) c ∧ r.length + 1 ≤ c ∧ r.length + 1 ≤ 9223372036854775807 ∧ w.cell? ⟨g, off, none⟩ = some (.int .i64 x) := by
  obtain ⟨A, c, hv, hc, hm, hA⟩ := h.out
  obtain ⟨g, off, rfl, hcell⟩ := hA (by simp)
  have h0 := hcell 0 x rfl 0 _ rfl
  exact ⟨g, off, c, hv, hc, hm, by simpa using h0⟩

set_option maxRecDepth 100000 in
set_option maxHeartbeats 1000000 in
theorem closI_nil (vo : Value) (a b : Addr) (x : ElI) (w : World) (ho : SlA encI w vo []) :
    Calls Try.prog 62 #[vo, .pointer (some a), .pointer (some b)] w fun e w' => e = .returned (.bool (headLt ltI [] x)) ∧ Ext w w' := by
  obtain ⟨A, c, rfl, _, _, _⟩ := ho.out
  clear ho
  go_enter Try.func62, Try.ntmps62
  go_wp2_with fail
  go_quiet (fail)
  go_wp2
  go_ret
  exact ⟨rfl, (Ext.rfl_ w).drewN' _⟩

set_option maxRecDepth 100000 in
set_option maxHeartbeats 1000000 in
theorem closI_cons (y x : ElI) (o r : List ElI) (vo vl : Value) (p1 p2 : Nat) (w : World) (ho : SlA encI w vo (y :: o)) (hl : SlA encI w vl (x :: r))
    (k1 : w.cell? ⟨p1, 0, none⟩ = some (.func (.func 37) #[] #[])) (k2 : w.cell? ⟨p2, 0, none⟩ = some vl) :
    Calls Try.prog 62 #[vo, .pointer (some ⟨p1, 0, none⟩), .pointer (some ⟨p2, 0, none⟩)] w fun e w' => e = .returned (.bool (headLt ltI (y :: o) x)) ∧ Ext w w' := by
  obtain ⟨g, off, c, rfl, _, hm, c0⟩ := headI ho
  obtain ⟨g', off', c', rfl, _, hm', d0⟩ := headI hl
  clear ho hl
  have z1 : decide ((0 : Int) < (o.length : Int) + 1) = true := decide_eq_true (by omega)
  have z2 : (0 : Int) < (o.length : Int) + 1 := by omega
  have z3 : (0 : Int) < (r.length : Int) + 1 := by omega
  go_enter Try.func62, Try.ntmps62
  go_wp2_with fail
  go_region_held3 (fun w' => w'.cell? ⟨p1, 0, none⟩ = some (.func (.func 37) #[] #[]) ∧ w'.cell? ⟨p2, 0, none⟩ = some (.slice (some ⟨g', off', none⟩) (r.length + 1) c') ∧ w'.cell? ⟨g, off, none⟩ = some (.int .i64 y) ∧ w'.cell? ⟨g', off', none⟩ = some (.int .i64 x)) (first | exact ⟨k1, k2, c0, d0⟩ | exact ⟨hb.cellAt k1, hb.cellAt k2, hb.cellAt c0, hb.cellAt d0⟩ | go_keep)
    (first | (go_at_call 37; refine (lessI_t y x _).mono ?_; rintro e w' ⟨rfl, hb⟩))
  go_wp2
  go_ret
  exact ⟨rfl, hb.re⟩

theorem closI_t (o r : List ElI) (x : ElI) (vo vl : Value) (p1 p2 : Nat) (w : World) (ho : SlA encI w vo o) (hl : SlA encI w vl (x :: r))
    (k1 : w.cell? ⟨p1, 0, none⟩ = some (.func (.func 37) #[] #[])) (k2 : w.cell? ⟨p2, 0, none⟩ = some vl) :
    Calls Try.prog 62 #[vo, .pointer (some ⟨p1, 0, none⟩), .pointer (some ⟨p2, 0, none⟩)] w fun e w' => e = .returned (.bool (headLt ltI o x)) ∧ Ext w w' := by
  cases o with
  | nil => exact closI_nil vo _ _ x w ho
  | cons y o => exact closI_cons y x o r vo vl p1 p2 w ho hl k1 k2

/-- a number is handed back that is not negative just if one of the lists begins with a lesser element -/
def RetIxI (ls : List (List ElI)) (x : ElI) (w : World) (e : Ending) (w' : World) : Prop := ∃ m : Int, e = .returned (.int .i64 m) ∧ (0 ≤ m ↔ (ls.any fun o => headLt ltI o x) = true) ∧ Ext w w'

theorem any_drop_cons {α : Type} {ls : List (List α)} {k : Nat} {o : List α} (h : ls[k]? = some o) (p : List α → Bool) : (ls.drop k).any p = (p o || (ls.drop (k + 1)).any p) := by
  have hk := (List.getElem?_eq_some_iff.1 h).1
  have he := (List.getElem?_eq_some_iff.1 h).2
  rw [List.drop_eq_getElem_cons hk, List.any_cons, he]

set_option maxRecDepth 100000 in
set_option maxHeartbeats 1000000 in
theorem idxfI_t (ls : List (List ElI)) (r : List ElI) (x : ElI) (v vl : Value) (p1 p2 : Nat) (w : World) (hs : SlL encI w v ls) (hl : SlA encI w vl (x :: r))
    (k1 : w.cell? ⟨p1, 0, none⟩ = some (.func (.func 37) #[] #[])) (k2 : w.cell? ⟨p2, 0, none⟩ = some vl) :
    Calls Try.prog 71 #[v, .func (.func 62) #[] #[.pointer (some ⟨p1, 0, none⟩), .pointer (some ⟨p2, 0, none⟩)]] w (RetIxI ls x w) := by
  obtain ⟨A, c, rfl, hc, hm, hA⟩ := hs.out
  have HA := Lib.hid hA
  have HL := Lib.hid hl
  have HK1 := Lib.hid k1
  have HK2 := Lib.hid k2
  clear hA hs hl k1 k2
  go_enter Try.func71, Try.ntmps71
  go_wp2
  go_loopw [8] (fun i wr => ∃ k : Nat, k ≤ ls.length ∧ i = .int .i64 k ∧ ((ls.any fun o => headLt ltI o x) = (ls.drop k).any fun o => headLt ltI o x) ∧ Ext w wr) (fun i _ => ls.length - (intOf i).toNat)
  case atStart => exact ⟨0, by omega, rfl, rfl, Ext.rfl_ _⟩
  case round =>
    obtain ⟨k, hk, rfl, ha, hb⟩ := hrel
    have HAny := Lib.hid ha
    have HB := Lib.hid hb
    clear ha hb
    by_cases hlt : k < ls.length
    · obtain ⟨g, off, rfl, hcell⟩ := HA.out (by omega)
      obtain ⟨o, ho⟩ : ∃ o, ls[k]? = some o := ⟨_, List.getElem?_eq_getElem hlt⟩
      obtain ⟨A', c', h1, h2⟩ := hcell k o ho
      have c0 := HB.out.cellAt h1
      have HO := Lib.hid (h2.ext HB.out)
      have HD := Lib.hid (any_drop_cons ho fun o => headLt ltI o x)
      clear h1 h2 hcell ho
      go_wp2_with fail
      refine (closI_t o r x _ vl p1 p2 _ HO.out (HL.out.ext HB.out) (HB.out.cellAt HK1.out) (HB.out.cellAt HK2.out)).mono ?_
      rintro e w1 ⟨rfl, hb1⟩
      have HB1 := Lib.hid (HB.out.tr hb1)
      clear hb1
      by_cases hh : headLt ltI o x = true
      · have HH := Lib.hid hh
        go_wp2
        go_ret
        refine ⟨_, rfl, ⟨fun _ => ?_, fun _ => by omega⟩, HB1.out⟩
        rw [HAny.out, HD.out, HH.out]; rfl
      · have hf : headLt ltI o x = false := by simpa using hh
        have HH := Lib.hid hf
        clear hh
        go_wp2
        go_roundw
        case rel => exact ⟨k + 1, by omega, by go_num, by rw [HAny.out, HD.out, HH.out]; rfl, HB1.out⟩
        case measure => simp [intOf]; omega
    · go_wp2
      go_ret
      refine ⟨_, rfl, ⟨fun h => by omega, fun h => ?_⟩, HB.out⟩
      rw [HAny.out, List.drop_of_length_le (by omega)] at h
      cases h

set_option maxHeartbeats 400000 in
theorem contI_t (ls : List (List ElI)) (r : List ElI) (x : ElI) (v vl : Value) (p1 p2 : Nat) (w : World) (hs : SlL encI w v ls) (hl : SlA encI w vl (x :: r))
    (k1 : w.cell? ⟨p1, 0, none⟩ = some (.func (.func 37) #[] #[])) (k2 : w.cell? ⟨p2, 0, none⟩ = some vl) :
    Calls Try.prog 63 #[v, .func (.func 62) #[] #[.pointer (some ⟨p1, 0, none⟩), .pointer (some ⟨p2, 0, none⟩)]] w fun e w' => e = .returned (.bool (ls.any fun o => headLt ltI o x)) ∧ Ext w w' := by
  obtain ⟨b, hb⟩ : ∃ b, b = ls.any fun o => headLt ltI o x := ⟨_, rfl⟩
  have HBb := Lib.hid hb
  rw [← hb]
  have HS := Lib.hid hs
  have HL := Lib.hid hl
  clear hs hl hb
  go_enter Try.func63, Try.ntmps63
  go_wp2_with fail
  refine (idxfI_t ls r x v vl p1 p2 _ HS.out HL.out k1 k2).mono ?_
  rintro e w1 ⟨m, rfl, hm, hb1⟩
  rw [← HBb.out] at hm
  have HM := Lib.hid hm
  clear hm
  go_wp2
  go_ret
  refine ⟨ret_bool ?_, hb1⟩
  have := HM.out
  cases b
  · simp at this ⊢; omega
  · simp at this ⊢; exact this
end Go.Proofs.Ytefeiogbaiodnaa

/- Walks of Ints and queued; no condition. -/
import Derived.Test.YtefeiogbaiodnaaW11
import Derived.Test.YtefeiogbaiodnaaHeap
namespace Go.Proofs.Ytefeiogbaiodnaa
open Go.RowKit

theorem cellsI {w : World} {v : Value} {l : List Int} (h : SlA encI w v l) : ∃ A c, v = .slice A l.length c ∧ l.length ≤ 9223372036854775807 ∧ (0 < l.length → ∃ g off, A = some ⟨g, off, none⟩ ∧ ∀ k, k < l.length → w.cell? ⟨g, off + k, none⟩ = some (.int .i64 (l.getD k 0))) := by
  obtain ⟨A, c, hv, hc, hm, hA⟩ := h.out
  refine ⟨A, c, hv, hm, fun h0 => ?_⟩
  obtain ⟨g, off, hA', hcell⟩ := hA h0
  refine ⟨g, off, hA', fun k hk => ?_⟩
  have := hcell k (l.getD k 0) (by simp [hk]) 0 _ rfl
  rw [show k * encI.size + 0 = k from by show k * 1 + 0 = k; omega] at this
  exact this

/-- the equality of numbers, shut to simp -/
theorem take_snocI {l : List Int} {k : Nat} (h : k < l.length) : l.take (k + 1) = l.take k ++ [l.getD k 0] := by
  rw [List.take_succ_eq_append_getElem h]; simp [h]

set_option maxRecDepth 100000 in
set_option maxHeartbeats 1000000 in
theorem ints_any (a b : List Int) (va vb : Value) (w : World) (ha : SlA encI w va a) (hb : SlA encI w vb b) :
    Calls Try.prog 38 #[va, vb] w fun e w' => e = .returned (.bool (decide (a = b))) ∧ Ext w w' := by
  obtain ⟨A, c, rfl, hm, hA⟩ := cellsI ha
  obtain ⟨B, c', rfl, hm', hB⟩ := cellsI hb
  have HA := Lib.hid hA
  have HB := Lib.hid hB
  clear hA hB ha hb
  by_cases hl : a.length = b.length
  · have h1 : ((a.length : Int) != (b.length : Int)) = false := by simp [hl]
    have HL := Lib.hid hl
    clear hl
    go_enter Try.func38, Try.ntmps38
    go_wp2
    go_loopw [5] (fun i wr => ∃ k : Nat, k ≤ a.length ∧ i = .int .i64 k ∧ a.take k = b.take k ∧ Ext w wr) (fun i _ => a.length - (intOf i).toNat)
    case atStart => exact ⟨0, by omega, rfl, rfl, Ext.rfl_ _⟩
    case round =>
      obtain ⟨k, hk, rfl, ht, he⟩ := hrel
      have HT := Lib.hid ht
      clear ht
      by_cases hlt : k < a.length
      · obtain ⟨g, off, rfl, hc⟩ := HA.out (by omega)
        obtain ⟨g', off', rfl, hc'⟩ := HB.out (by have := HL.out; omega)
        obtain ⟨x, hx⟩ : ∃ x, x = a.getD k 0 := ⟨_, rfl⟩
        obtain ⟨y, hy⟩ : ∃ y, y = b.getD k 0 := ⟨_, rfl⟩
        have hc0 := he.cellAt (hc k hlt)
        have hc2 := he.cellAt (hc' k (by have := HL.out; omega))
        rw [← hx] at hc0
        rw [← hy] at hc2
        have b0 : (0 : Int) ≤ (k : Int) := by omega
        have b1 : (k : Int) < (a.length : Int) := by omega
        have b2 : (k : Int) < (b.length : Int) := by have := HL.out; omega
        have HSa := Lib.hid (take_snocI hlt)
        have HSb := Lib.hid (take_snocI (l := b) (k := k) (by have := HL.out; omega))
        have HX := Lib.hid hx
        have HY := Lib.hid hy
        clear hc hc' hx hy
        have HE := Lib.hid he
        clear he
        by_cases hd : x = y
        · have hd' : (x != y) = false := by simpa using hd
          have HD := Lib.hid hd
          clear hd
          go_wp2
          go_quiet (fail)
          go_wp2
          go_roundw
          case rel => exact ⟨k + 1, by omega, by go_num, by rw [HSa.out, HSb.out, HT.out, ← HX.out, ← HY.out, HD.out], HE.out.drewN' _⟩
          case measure => simp [intOf]; omega
        · have hd' : (x != y) = true := by simpa using hd
          have HR := Lib.hid (show decide (a = b) = false by simp; rintro rfl; exact hd (HX.out.trans HY.out.symm))
          clear hd
          go_wp2
          go_quiet (fail)
          go_wp2
          go_ret
          exact ⟨ret_bool HR.out.symm, HE.out.drewN' _⟩
      · have HE := Lib.hid he
        clear he
        go_wp2
        go_ret
        refine ⟨?_, HE.out⟩
        have h1 := HT.out
        rw [List.take_of_length_le (by omega), List.take_of_length_le (by have := HL.out; omega)] at h1
        exact ret_bool (by simp [h1])
  · have h1 : ((a.length : Int) != (b.length : Int)) = true := by simp; omega
    have HR := Lib.hid (show decide (a = b) = false by simp; rintro rfl; exact hl rfl)
    clear hl
    go_enter Try.func38, Try.ntmps38
    go_wp2
    go_ret
    exact ⟨ret_bool HR.out.symm, Ext.rfl_ _⟩

def L0 : List Ent := [⟨⟨#[97]⟩, 3⟩, ⟨⟨#[99]⟩, 1⟩, ⟨⟨#[98]⟩, 1⟩]
theorem L0_qf : qf L0 false = (0, 0) := by decide +kernel
theorem L0_build : build L0 = [⟨⟨#[98]⟩, 1⟩, ⟨⟨#[99]⟩, 1⟩, ⟨⟨#[97]⟩, 3⟩] := by decide +kernel
theorem m0 : mergeL ltI [[1, 4], [2, 4]] = [1, 2, 4, 4] := by decide +kernel

/-- a block known whole, read as a slice -/
theorem Rd.blk {w : World} {g : Nat} {cs : List Value} {t : TypeId} {fz : Nat × Nat} {size n : Nat} (h : w.heap[g]? = some (.cells cs.toArray t fz)) (hl : cs.length = n * size) (hm : n ≤ 1000000) : Rd w size (.slice (some ⟨g, 0, none⟩) n n) n cs := by
  refine ⟨_, n, rfl, hl, Nat.le_refl _, by simp only [maxLen]; omega, fun _ => ⟨g, 0, rfl, fun j u hu => ?_⟩⟩
  rw [Nat.zero_add, cell_of_row w g j _ t fz h]
  simpa using hu

theorem Rd.two {w : World} {g : Nat} {a b : Value} {size n : Nat} (h0 : w.cell? ⟨g, 0, none⟩ = some a) (h1 : w.cell? ⟨g, 1, none⟩ = some b) (hl : 2 = n * size) (hm : n ≤ 1000000) : Rd w size (.slice (some ⟨g, 0, none⟩) n n) n [a, b] := by
  refine ⟨_, n, rfl, hl, Nat.le_refl _, by simp only [maxLen]; omega, fun _ => ⟨g, 0, rfl, fun j u hu => ?_⟩⟩
  rw [Nat.zero_add]
  match j, hu with
  | 0, hu => injection hu with hu; subst hu; exact h0
  | 1, hu => injection hu with hu; subst hu; exact h1
theorem two_lists (w : World) (g1 g2 g3 : Nat) (a0 : w.cell? ⟨g1, 0, none⟩ = some (.int .i64 1)) (a1 : w.cell? ⟨g1, 1, none⟩ = some (.int .i64 4)) (b0 : w.cell? ⟨g2, 0, none⟩ = some (.int .i64 2)) (b1 : w.cell? ⟨g2, 1, none⟩ = some (.int .i64 4))
    (c0 : w.cell? ⟨g3, 0, none⟩ = some (.slice (some ⟨g1, 0, none⟩) 2 2)) (c1 : w.cell? ⟨g3, 1, none⟩ = some (.slice (some ⟨g2, 0, none⟩) 2 2)) : SlL encI w (.slice (some ⟨g3, 0, none⟩) 2 2) [[1, 4], [2, 4]] := by
  refine ⟨[.slice (some ⟨g1, 0, none⟩) 2 2, .slice (some ⟨g2, 0, none⟩) 2 2], Rd.two c0 c1 rfl (by decide), fun i l hl => ?_⟩
  match i, hl with
  | 0, hl => injection hl with hl; subst hl; exact ⟨_, rfl, Rd.two a0 a1 rfl (by decide)⟩
  | 1, hl => injection hl with hl; subst hl; exact ⟨_, rfl, Rd.two b0 b1 rfl (by decide)⟩

set_option maxRecDepth 100000 in
set_option maxHeartbeats 2000000 in
theorem queued_t (w : World) : Calls Try.prog 13 #[] w fun e w' => e = .returned (.bool true) ∧ Ext w w' := by
  go_enter Try.func13, Try.ntmps13
  go_wp2_with fail
  refine (build_good L0 _ _ (by exact Rd.blk (w := w.alloc _) (heap_alloc_new w _) rfl (by decide)) L0_qf).mono ?_
  rintro e w1 ⟨v1, rfl, hs1, hb1⟩
  have hq1 : qf (build L0) true = (0, 0) := qf_zero (build_law (by rw [L0_qf])).1
  have HS1 := Lib.hid hs1
  have HQ1 := Lib.hid hq1
  have c0 := hb1.cellAt (b := w.heap.size) (o := 4) (v := .string ⟨#[98]⟩) (by simp)
  have c1 := hb1.cellAt (b := w.heap.size) (o := 5) (v := .int .i64 1) (by simp)
  have HB1 := Lib.hid ((Ext.new w _).tr hb1)
  clear hs1 hb1 hq1
  go_wp2_with fail
  refine (pop_good (build L0) _ _ (HS1.out.ext (Ext.new _ _)) HQ1.out (by rw [L0_build]; decide)).mono ?_
  rintro e w2 ⟨v2, rfl, hs2, hb2⟩
  rw [show nth (build L0) 0 = ⟨⟨#[98]⟩, 1⟩ by rw [L0_build]; rfl]
  obtain ⟨A2, c2, rfl, _, _⟩ := hs2.out
  have hl2 : (woutQ (build L0) 0).length = 2 := by rw [woutQ_len, L0_build]; rfl
  rw [hl2]
  have d0 := hb2.cellAt (b := w1.heap.size) (o := 0) (v := .int .i64 0) (by simp)
  have e0 := hb2.cellAt (b := w.heap.size) (o := 4) (v := .string ⟨#[98]⟩) (by simpa using ((Ext.new w1 _).cellAt c0))
  have e1 := hb2.cellAt (b := w.heap.size) (o := 5) (v := .int .i64 1) (by simpa using ((Ext.new w1 _).cellAt c1))
  have HB2 := Lib.hid ((HB1.out.alloc' _).tr hb2)
  clear hs2 hb2 c0 c1 hl2
  go_wp2_with fail
  refine (mergeI_t [[1, 4], [2, 4]] _ _ (by exact two_lists _ (w2.heap.size + 1 + 1) (w2.heap.size + 1 + 1 + 1) (w2.heap.size + 1 + 1 + 1 + 1) (by go_simp) (by go_simp) (by go_simp) (by go_simp) (by go_simp) (by go_simp)) (by decide) (by decide)).mono ?_
  rw [m0]
  rintro e w3 ⟨v3, rfl, hs3, hb3⟩
  have HS3 := Lib.hid hs3
  have hx := (((((Ext.new w2 (.cells #[.string ⟨#[98]⟩, .int .i64 1] 40)).alloc' (.cells #[.int .i64 0, .int .i64 0] 24)).alloc' (.cells #[.int .i64 1, .int .i64 4] 3)).alloc' (.cells #[.int .i64 2, .int .i64 4] 3)).alloc' (.cells #[.slice (some ⟨w2.heap.size + 1 + 1, 0, none⟩) 2 2, .slice (some ⟨w2.heap.size + 1 + 1 + 1, 0, none⟩) 2 2] 59)).tr hb3
  have g0 := hx.cellAt d0
  have g1 := hx.cellAt e0
  have g2 := hx.cellAt e1
  have g3 := hb3.cellAt (b := w2.heap.size) (o := 0) (v := .string ⟨#[98]⟩) (by go_simp)
  have g4 := hb3.cellAt (b := w2.heap.size) (o := 1) (v := .int .i64 1) (by go_simp)
  have g5 := hb3.cellAt (b := w2.heap.size + 1) (o := 0) (v := .int .i64 0) (by go_simp)
  have HX := Lib.hid (HB2.out.tr hx)
  have heq : eqB ⟨⟨#[98]⟩, 1⟩ ⟨⟨#[98]⟩, 1⟩ = true := by decide +kernel
  have hrq := run_eqlE
  clear hx hb3 d0 e0 e1
  go_wp2_with fail
  go_region_held3 (fun w' => w'.cell? ⟨w1.heap.size, 0, none⟩ = some (.int .i64 0) ∧ w'.cell? ⟨w.heap.size, 4, none⟩ = some (.string ⟨#[98]⟩) ∧ w'.cell? ⟨w.heap.size, 5, none⟩ = some (.int .i64 1) ∧ w'.cell? ⟨w2.heap.size, 0, none⟩ = some (.string ⟨#[98]⟩) ∧ w'.cell? ⟨w2.heap.size, 1, none⟩ = some (.int .i64 1) ∧ w'.cell? ⟨w2.heap.size + 1, 0, none⟩ = some (.int .i64 0))
    (first | exact ⟨g0, g1, g2, g3, g4, g5⟩ | exact ⟨(Ext.new w3 _).cellAt g0, (Ext.new w3 _).cellAt g1, (Ext.new w3 _).cellAt g2, (Ext.new w3 _).cellAt g3, (Ext.new w3 _).cellAt g4, (Ext.new w3 _).cellAt g5⟩ | exact ⟨hb4.cellAt ((Ext.new w3 _).cellAt g0), hb4.cellAt ((Ext.new w3 _).cellAt g1), hb4.cellAt ((Ext.new w3 _).cellAt g2), hb4.cellAt ((Ext.new w3 _).cellAt g3), hb4.cellAt ((Ext.new w3 _).cellAt g4), hb4.cellAt ((Ext.new w3 _).cellAt g5)⟩ | go_keep)
    (first | (go_at_call 38; refine (ints_any [1, 2, 4, 4] [1, 2, 4, 4] _ _ _ (by exact HS3.out.ext ((Ext.new w3 _).drew')) (by exact Rd.blk (w := w3.alloc _) (heap_alloc_new w3 _) rfl (by decide))).mono ?_; rintro e w4 ⟨rfl, hb4⟩))
  have HX4 := Lib.hid (HX.out.tr (((Ext.new w3 _).drew').tr hb4))
  clear hb4
  go_wp2
  go_ret
  exact ⟨by simp, HX4.out⟩
end Go.Proofs.Ytefeiogbaiodnaa

/- The walk of least at pairs of numbers; the number of lists is bounded by a premise. -/
import Derived.Test.YtefeiogbaiodnaaMergeBP
namespace Go.Proofs.Ytefeiogbaiodnaa
open Go.RowKit

theorem size33 (w : World) : (sizeOf 33).run Try.prog w = .ok 1 w := by kernel_rfl

theorem leastGo_nilP {ls : List (List ElP)} {n k : Nat} {f : Int} (h : ls[k]? = some []) : leastGo ltP ls (n + 1) k f = leastGo ltP ls n (k + 1) f := by
  rw [leastGo, h]
theorem leastGo_hitP {ls : List (List ElP)} {n k : Nat} {f : Int} {x : ElP} {r : List ElP} (h : ls[k]? = some (x :: r)) (hm : ((ls.take k ++ ls.drop (k + 1)).any fun o => headLt ltP o x) = false) : leastGo ltP ls (n + 1) k f = k := by
  rw [leastGo, h]
  simp only [minAt, hm]
  rfl
theorem leastGo_missP {ls : List (List ElP)} {n k : Nat} {f : Int} {x : ElP} {r : List ElP} (h : ls[k]? = some (x :: r)) (hm : ((ls.take k ++ ls.drop (k + 1)).any fun o => headLt ltP o x) = true) : leastGo ltP ls (n + 1) k f = leastGo ltP ls n (k + 1) (if f < 0 then k else f) := by
  rw [leastGo, h]
  simp only [minAt, hm]
  rfl

/-- the lists but the k-th -/
theorem othersP {w : World} {g off n c : Nat} {ls : List (List ElP)} {k : Nat} {xs : List Value} (hn : n = ls.length) (hk : k < n)
    (h1 : Rd w 1 (.slice (some ⟨g, off, none⟩) n c) n xs) (h2 : ∀ (i : Nat) (l : List ElP), ls[i]? = some l → ∃ x, xs[i]? = some x ∧ SlA encP w x l) (A' : Option Addr) (hA : k + 1 < n → A' = some ⟨g, off + (k + 1) * 1, none⟩) :
    Rd w 1 (.slice (some ⟨g, off, none⟩) k c) k (xs.take k) ∧ Rd w 1 (.slice A' (n - (k + 1)) (c - (k + 1))) (n - (k + 1)) (xs.drop (k + 1)) ∧
    (∀ (i : Nat) (l : List ElP), (ls.take k ++ ls.drop (k + 1))[i]? = some l → ∃ x, (xs.take k ++ xs.drop (k + 1))[i]? = some x ∧ SlA encP w x l) := by
  have hx : xs.length = ls.length := by
    obtain ⟨_, _, _, h, _⟩ := h1
    omega
  have hf := h1.front (m := k) (by omega)
  have hb := h1.back (k := k + 1) (by omega) A' hA
  rw [Nat.mul_one] at hf hb
  refine ⟨hf, hb, fun i l hl => ?_⟩
  by_cases hi : i < k
  · rw [List.getElem?_append_left (by simp; omega), List.getElem?_take_of_lt hi] at hl ⊢
    exact h2 i l hl
  · rw [List.getElem?_append_right (by simp; omega), List.getElem?_drop] at hl ⊢
    simp only [List.length_take] at hl ⊢
    rw [show min k xs.length = min k ls.length by rw [hx]]
    exact h2 _ l hl

theorem othersLP {w w2 : World} {v2 : Value} {base n k : Nat} {ls : List (List ElP)} {xs : List Value} (ho : w2.ownsRow base 33 1 v2 (k + (n - (k + 1))) (xs.take k ++ xs.drop (k + 1))) (hn : n = ls.length) (hk : k < n)
    (h : ∀ (i : Nat) (l : List ElP), (ls.take k ++ ls.drop (k + 1))[i]? = some l → ∃ x, (xs.take k ++ xs.drop (k + 1))[i]? = some x ∧ SlA encP w x l) (hx : Ext w w2) : SlL encP w2 v2 (ls.take k ++ ls.drop (k + 1)) := by
  refine ⟨xs.take k ++ xs.drop (k + 1), ?_, fun i l hl => ?_⟩
  · have h0 := Rd.own ho
    rwa [show k + (n - (k + 1)) = (ls.take k ++ ls.drop (k + 1)).length by simp; omega] at h0
  · obtain ⟨x, h1, h2⟩ := h i l hl
    exact ⟨x, h1, h2.ext hx⟩
theorem oneRowP {w : World} {n : Nat} {ls : List (List ElP)} {xs : List Value} {v : Value} (h1 : Rd w 1 v n xs) (hn : n = ls.length) (h2 : ∀ (i : Nat) (l : List ElP), ls[i]? = some l → ∃ x, xs[i]? = some x ∧ SlA encP w x l) : ∀ u ∈ xs, u.oneCell' = true := by
  intro u hu
  obtain ⟨i, hi, rfl⟩ := List.mem_iff_getElem.1 hu
  have hx : xs.length = ls.length := by
    obtain ⟨_, _, _, h, _⟩ := h1
    omega
  obtain ⟨x, h3, h4⟩ := h2 i _ (List.getElem?_eq_getElem (by omega))
  rw [List.getElem?_eq_getElem hi] at h3
  injection h3 with h3
  obtain ⟨A, c, hv, _⟩ := h4.out
  rw [h3, hv]; rfl

theorem contP_b (b : Bool) (ls : List (List ElP)) {x : ElP} (hb : b = ls.any fun o => headLt ltP o x) (r : List ElP) (v vl : Value) (p1 p2 : Nat) (w : World) (hs : SlL encP w v ls) (hl : SlA encP w vl (x :: r))
    (k1 : w.cell? ⟨p1, 0, none⟩ = some (.func (.func 16) #[] #[])) (k2 : w.cell? ⟨p2, 0, none⟩ = some vl) :
    Calls Try.prog 52 #[v, .func (.func 51) #[] #[.pointer (some ⟨p1, 0, none⟩), .pointer (some ⟨p2, 0, none⟩)]] w fun e w' => e = .returned (.bool b) ∧ Ext w w' := by
  rw [hb]
  exact contP_t ls r x v vl p1 p2 w hs hl k1 k2

set_option maxRecDepth 100000 in
set_option maxHeartbeats 2000000 in
theorem leastP_t (ls : List (List ElP)) (v : Value) (w : World) (hs : SlL encP w v ls) (h1 : ls.length ≤ 2000000) :
    Calls Try.prog 40 #[v, .func (.func 16) #[] #[]] w fun e w' => e = .returned (.int .i64 (leastL ltP ls)) ∧ Ext w w' := by
  obtain ⟨A, c, rfl, hc, hm, hA⟩ := hs.out
  have HA := Lib.hid hA
  have HS := Lib.hid hs
  clear hA hs
  go_enter Try.func40, Try.ntmps40
  go_wp2
  go_loopw [5, 11] (fun f i wr => ∃ (k : Nat) (q : Int), k ≤ ls.length ∧ i = .int .i64 k ∧ f = .int .i64 q ∧ leastGo ltP ls (ls.length - k) k q = leastL ltP ls ∧ Ext (w.alloc (.cells #[.func (.func 16) #[] #[]] 36)) wr) (fun _ i _ => ls.length - (intOf i).toNat)
  case atStart => exact ⟨0, -1, by omega, rfl, rfl, rfl, Ext.rfl_ _⟩
  case round =>
    obtain ⟨k, q, hk, rfl, rfl, hq, hb⟩ := hrel
    have HQ := Lib.hid hq
    have HB := Lib.hid hb
    clear hq hb
    by_cases hlt : k < ls.length
    · obtain ⟨g, off, rfl, hcell⟩ := HA.out (by omega)
      obtain ⟨o, ho⟩ : ∃ o, ls[k]? = some o := ⟨_, List.getElem?_eq_getElem hlt⟩
      obtain ⟨A', c', h2, h3⟩ := hcell k o ho
      have hx : Ext w wr := (Ext.new w _).tr HB.out
      have c0 := hx.cellAt h2
      have HX := Lib.hid hx
      have HO := Lib.hid h3
      have HO2 := Lib.hid ho
      obtain ⟨n, hn⟩ : ∃ n, ls.length - k = n + 1 := ⟨ls.length - k - 1, by omega⟩
      have hn' : ls.length - (k + 1) = n := by omega
      have HN := Lib.hid (And.intro hn hn')
      clear h2 h3 hcell hx ho hn hn'
      rcases o with _ | ⟨x, r⟩
      · have HF := Lib.hid (leastGo_nilP (n := n) (f := q) HO2.out)
        go_wp2
        go_roundw
        case rel => exact ⟨k + 1, q, by omega, by go_num, rfl, by rw [← HQ.out, HN.out.1, HN.out.2, HF.out], HB.out.alloc' _⟩
        case measure => simp [intOf]; omega
      · obtain ⟨B', hsl, hB'⟩ := slice_back (P := Try.prog) Try.underlying32 size33 g off ls.length c (k + 1) ((k : Int) + 1) (by omega) (by omega) hc
        have HB' := Lib.hid hB'
        have s1 : IntKind.i64.wrap ((k : Int) + 1) = (k : Int) + 1 := IntWalk.i64_in _ (by omega)
        have s2 : (0 : Int) ≤ (k : Int) + 1 := by omega
        have s3 : (k : Int) + 1 ≤ (ls.length : Int) := by omega
        have s4 : (0 : Int) ≤ (k : Int) := by omega
        have s5 : (k : Int) ≤ (c : Int) := by omega
        have HW1 := Lib.hid s1
        have e0 : ((r.length : Int) + 1 == 0) = false := beq_eq_false_iff_ne.2 (by omega)
        clear hB' s1
        obtain ⟨xs, hrd, hall⟩ := HS.out
        have oth := othersP rfl hlt (hrd.ext HX.out) (fun i l hl => by obtain ⟨x, h1, h2⟩ := hall i l hl; exact ⟨x, h1, h2.ext HX.out⟩) B' HB'.out
        have R1 := Lib.hid oth.1
        have R2 := Lib.hid oth.2.1
        have R3 := Lib.hid oth.2.2
        have o1 := oneRowP hrd rfl hall
        have O1 := Lib.hid (fun u (hu : u ∈ xs.take k) => o1 u (List.mem_of_mem_take hu))
        have O2 := Lib.hid (fun u (hu : u ∈ xs.drop (k + 1)) => o1 u (List.mem_of_mem_drop hu))
        have kl : wr.cell? ⟨w.heap.size, 0, none⟩ = some (.func (.func 16) #[] #[]) := HB.out.cellAt (by simp)
        have hs0 : w.heap.size < wr.heap.size := World.block_lt_of_cell? wr _ kl
        obtain ⟨bo, hbo⟩ : ∃ bo, bo = ((ls.take k ++ ls.drop (k + 1)).any fun o => headLt ltP o x) := ⟨_, rfl⟩
        have HBo := Lib.hid hbo
        clear oth hrd hall o1 hbo
        by_cases hq0 : q < 0
        · go_wp2_with fail
          have s1 := HW1.out
          go_region_held3 (fun _ => True) (trivial)
            (first | (go_at_call 53; refine (concatP_t (wr.heap.size + 1) k (ls.length - (k + 1)) (.slice (some ⟨g, off, none⟩) k c) (.slice B' (ls.length - (k + 1)) (c - (k + 1))) (xs.take k) (xs.drop (k + 1)) _ (by simp) (by simp) (by exact R1.out.ext (((Ext.new wr _).alloc' _).drew')) (by exact R2.out.ext (((Ext.new wr _).alloc' _).drew')) O1.out O2.out (by omega)).mono ?_; rintro e w2 ⟨v2, rfl, ho2, hb2⟩) | (go_at_call 52; refine (contP_b bo _ HBo.out r _ (.slice A' (r.length + 1) c') w.heap.size wr.heap.size _ (by exact othersLP ho2 rfl hlt R3.out ((((Ext.new wr _).alloc' _).drew').tr hb2)) (by exact HO.out.ext (HX.out.tr ((((Ext.new wr _).alloc' _).drew').tr hb2))) (by exact hb2.cellAt ((((Ext.new wr _).alloc' _).drew').cellAt kl)) (by exact hb2.cellAt (by simp))).mono ?_; rintro e w3 ⟨rfl, hb3⟩))
          have HB3 := Lib.hid (HB.out.tr ((((Ext.new wr _).alloc' _).drew').tr (hb2.tr hb3)))
          clear hb2 hb3 ho2 s1
          rcases bo with _ | _
          rotate_left
          · have HF := Lib.hid (leastGo_missP (n := n) (f := q) HO2.out HBo.out.symm)
            go_wp2
            go_roundw
            case rel => exact ⟨k + 1, (k : Int), by omega, by go_num, rfl, by rw [← HQ.out, HN.out.1, HN.out.2, HF.out, if_pos (by omega)], HB3.out⟩
            case measure => simp [intOf]; omega
          · have HF := Lib.hid (leastGo_hitP (n := n) (f := q) HO2.out HBo.out.symm)
            go_wp2
            go_ret
            exact ⟨ret_int (by rw [← HQ.out, HN.out.1, HF.out]), (Ext.new w _).tr HB3.out⟩
        · go_wp2_with fail
          have s1 := HW1.out
          go_region_held3 (fun _ => True) (trivial)
            (first | (go_at_call 53; refine (concatP_t (wr.heap.size + 1) k (ls.length - (k + 1)) (.slice (some ⟨g, off, none⟩) k c) (.slice B' (ls.length - (k + 1)) (c - (k + 1))) (xs.take k) (xs.drop (k + 1)) _ (by simp) (by simp) (by exact R1.out.ext (((Ext.new wr _).alloc' _).drew')) (by exact R2.out.ext (((Ext.new wr _).alloc' _).drew')) O1.out O2.out (by omega)).mono ?_; rintro e w2 ⟨v2, rfl, ho2, hb2⟩) | (go_at_call 52; refine (contP_b bo _ HBo.out r _ (.slice A' (r.length + 1) c') w.heap.size wr.heap.size _ (by exact othersLP ho2 rfl hlt R3.out ((((Ext.new wr _).alloc' _).drew').tr hb2)) (by exact HO.out.ext (HX.out.tr ((((Ext.new wr _).alloc' _).drew').tr hb2))) (by exact hb2.cellAt ((((Ext.new wr _).alloc' _).drew').cellAt kl)) (by exact hb2.cellAt (by simp))).mono ?_; rintro e w3 ⟨rfl, hb3⟩))
          have HB3 := Lib.hid (HB.out.tr ((((Ext.new wr _).alloc' _).drew').tr (hb2.tr hb3)))
          clear hb2 hb3 ho2 s1
          rcases bo with _ | _
          rotate_left
          · have HF := Lib.hid (leastGo_missP (n := n) (f := q) HO2.out HBo.out.symm)
            go_wp2
            go_roundw
            case rel => exact ⟨k + 1, q, by omega, by go_num, rfl, by rw [← HQ.out, HN.out.1, HN.out.2, HF.out, if_neg (by omega)], HB3.out⟩
            case measure => simp [intOf]; omega
          · have HF := Lib.hid (leastGo_hitP (n := n) (f := q) HO2.out HBo.out.symm)
            go_wp2
            go_ret
            exact ⟨ret_int (by rw [← HQ.out, HN.out.1, HF.out]), (Ext.new w _).tr HB3.out⟩
    · have HE := Lib.hid (show leastL ltP ls = q by rw [← HQ.out, show ls.length - k = 0 by omega]; rfl)
      go_wp2
      go_ret
      exact ⟨ret_int HE.out.symm, (Ext.new w _).tr HB.out⟩
end Go.Proofs.Ytefeiogbaiodnaa

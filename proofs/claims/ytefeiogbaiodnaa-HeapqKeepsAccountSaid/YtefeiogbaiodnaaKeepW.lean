/- The walk of HeapqKeepsAccount: it returns true; no condition. -/
import Derived.Test.YtefeiogbaiodnaaChgW
import Derived.Test.YtefeiogbaiodnaaHeap4
import Derived.Test.YtefeiogbaiodnaaW18
namespace Go.Proofs.Ytefeiogbaiodnaa
open Go.RowKit

def encS : Enc ByteArray := { size := 1, pos := by decide, cells := fun a => [.string a], len := fun _ => rfl, one := fun a u hu => by simp at hu; subst hu; rfl }
theorem cellsS {w : World} {v : Value} {l : List ByteArray} (h : SlA encS w v l) : ∃ A c, v = .slice A l.length c ∧ l.length ≤ 9223372036854775807 ∧ (0 < l.length → ∃ g off, A = some ⟨g, off, none⟩ ∧ ∀ k, k < l.length → w.cell? ⟨g, off + k, none⟩ = some (.string (l.getD k ByteArray.empty))) := by
  obtain ⟨A, c, hv, hc, hm, hA⟩ := h.out
  refine ⟨A, c, hv, hm, fun h0 => ?_⟩
  obtain ⟨g, off, hA', hcell⟩ := hA h0
  refine ⟨g, off, hA', fun k hk => ?_⟩
  have := hcell k (l.getD k ByteArray.empty) (by simp [hk]) 0 _ rfl
  rw [show k * encS.size + 0 = k from by show k * 1 + 0 = k; omega] at this
  exact this

/-- the account: a queue, and the entries that it should have -/
def Acct (w wr : World) (F k : Nat) (vq vl : Value) (q l : List Ent) : Prop :=
  k ≤ 100 ∧ EntS wr vq q ∧ qf q true = (0, 0) ∧ OwnE wr (F + 1) vl l ∧ l.length ≤ k ∧ q.Perm l ∧ Cel wr F 0 (.int .i64 0) ∧ Cel wr F 1 (.int .i64 0) ∧ Ext w wr ∧ w.heap.size ≤ F

theorem nothing_good : qf [] false = (0, 0) ∧ build [] = [] ∧ qf [] true = (0, 0) := by decide +kernel

theorem own_ext {w w' : World} {b : Nat} {e : TypeId} {s n : Nat} {v : Value} {xs : List Value} (h : w.ownsRow b e s v n xs) (hb : Ext w w') : w'.ownsRow b e s v n xs := by
  rcases h.2 with h2 | ⟨g, c, cur, h2, h3, h4, h5⟩
  · exact ⟨h.1, .inl h2⟩
  · refine ⟨h.1, .inr ⟨g, c, cur, h2, h3, ?_, h5⟩⟩
    rw [hb.block g (by rcases Nat.lt_or_ge g w.heap.size with hlt | hge; exact hlt; rw [Array.getElem?_eq_none hge] at h4; cases h4)]
    exact h4
theorem Acct.ext {w wr w' : World} {F k : Nat} {vq vl : Value} {q l : List Ent} (h : Acct w wr F k vq vl q l) (hb : Ext wr w') : Acct w w' F k vq vl q l :=
  let ⟨h1, h2, h3, h4, h5, h6, h7, h8, h9, h10⟩ := h
  ⟨h1, h2.ext hb, h3, own_ext h4 hb, h5, h6, h7.ext hb, h8.ext hb, h9.tr hb, h10⟩
theorem Acct.next {w wr : World} {F k : Nat} {vq vl : Value} {q l : List Ent} (h : Acct w wr F k vq vl q l) (hk : k < 100) : Acct w wr F (k + 1) vq vl q l :=
  let ⟨_, h2, h3, h4, h5, h6, h7, h8, h9, h10⟩ := h
  ⟨hk, h2, h3, h4, by omega, h6, h7, h8, h9, h10⟩

theorem Acct.perm {w wr : World} {F k : Nat} {vq vl : Value} {q l : List Ent} (h : Acct w wr F k vq vl q l) : q.Perm l := h.2.2.2.2.2.1
theorem Acct.low {w wr : World} {F k : Nat} {vq vl : Value} {q l : List Ent} (h : Acct w wr F k vq vl q l) : w.heap.size ≤ F ∧ F < wr.heap.size :=
  ⟨h.2.2.2.2.2.2.2.2.2, World.block_lt_of_cell? wr _ h.2.2.2.2.2.2.1.1⟩
/-- a fault that holds nothing is stored once more -/
theorem fput {w : World} {F : Nat} {u v x y : Value} (h0 : Cel w F 0 x) (h1 : Cel w F 1 y) : Cel ((w.setCell ⟨F, 0, none⟩ u).setCell ⟨F, 1, none⟩ v) F 0 u ∧ Cel ((w.setCell ⟨F, 0, none⟩ u).setCell ⟨F, 1, none⟩ v) F 1 v ∧ w.grownBy ((w.setCell ⟨F, 0, none⟩ u).setCell ⟨F, 1, none⟩ v) (some F) := by
  refine ⟨⟨?_, ?_⟩, ⟨?_, ?_⟩, setCell_G (setCell_G (World.grownBy.refl _ _) _ _) _ _⟩
  · rw [World.cell?_setCell_other _ _ _ _ (by intro e; injection e with _ e; cases e)]
    exact World.cell?_setCell_same _ _ _ h0.1
  · rw [World.frozen?_setCell, World.frozen?_setCell]; exact h0.2
  · refine World.cell?_setCell_same _ _ _ (u := y) ?_
    rw [World.cell?_setCell_other _ _ _ _ (by intro e; injection e with _ e; cases e)]
    exact h1.1
  · rw [World.frozen?_setCell, World.frozen?_setCell]; exact h1.2
theorem Cel.gr {W w1 : World} {b o : Nat} {v : Value} {row : Option Nat} (h : Cel W b o v) (hb : W.grownBy w1 row) (hne : row ≠ some b) : Cel w1 b o v :=
  ⟨hb.cell h.1 (fun e => hne e.symm), (World.frozen?_of_block (w := W) (a := ⟨b, o, none⟩) (hb.block b (World.block_lt_of_cell? W _ h.1) (fun e => hne e.symm))).trans h.2⟩
theorem rank_of {x : Ent} (h : efault x = 0) : ¬ (x.rank < -1000000 ∨ 1000000 < x.rank) := by
  intro hr
  unfold efault at h
  by_cases h1 : x.name.size = 0 ∨ 24 < x.name.size
  · rw [if_pos h1] at h; cases h
  · rw [if_neg h1, if_pos hr] at h; cases h
theorem eqB_self (x : Ent) : eqB x x = true := by simp [eqB]
theorem queue_true {q l : List Ent} (h : (qf q true).1 = 0) (hp : q.Perm l) : (decide ((qf q true).1 = 0) && decide (sorted q = sorted l)) = true := by simp [h, sorted_of_perm hp]

/-- the ways of a step -/
theorem ways (s ef ix : Int) (n : Nat) : ef ≠ 0 ∨ (ef = 0 ∧ ¬ (0 ≤ s ∧ s ≤ 3)) ∨ (ef = 0 ∧ s = 0 ∧ 0 ≤ ix) ∨ (ef = 0 ∧ s = 1 ∧ ix < 0) ∨ (ef = 0 ∧ s = 2 ∧ ix < 0) ∨ (ef = 0 ∧ s = 3 ∧ n = 0) ∨
    (ef = 0 ∧ s = 0 ∧ ix < 0) ∨ (ef = 0 ∧ s = 1 ∧ 0 ≤ ix) ∨ (ef = 0 ∧ s = 2 ∧ 0 ≤ ix) ∨ (ef = 0 ∧ s = 3 ∧ 0 < n) := by omega

set_option maxRecDepth 100000 in
set_option maxHeartbeats 20000000 in
theorem keepLaw_t (st : List Int) (nms : List ByteArray) (rk : List Int) (v0 v1 v2 : Value) (w : World) (h0 : SlA encI w v0 st) (h1 : SlA encS w v1 nms) (h2 : SlA encI w v2 rk) : Calls Try.prog 9 #[v0, v1, v2] w fun e w' => e = .returned (.bool true) ∧ Ext w w' := by
  obtain ⟨i0, hi0, hz0, hz1, hz2⟩ := info_parts info40
  obtain ⟨A0, c0, rfl, m0, H0⟩ := cellsI h0
  obtain ⟨A1, c1, rfl, m1, H1⟩ := cellsS h1
  obtain ⟨A2, c2, rfl, m2, H2⟩ := cellsI h2
  have HC0 := Lib.hid H0
  have HC1 := Lib.hid H1
  have HC2 := Lib.hid H2
  clear h0 h1 h2 H0 H1 H2
  go_enter Try.func9, Try.ntmps9
  go_wp2_with fail
  refine (build_good [] _ _ (EntS.nil_ _) nothing_good.1).mono ?_
  rw [nothing_good.2.1]
  rintro e w1 ⟨vb, rfl, hsb, hb1⟩
  have HS1 := Lib.hid hsb
  have HB1 := Lib.hid hb1
  clear hsb hb1
  go_wp2_with fail
  go_loopw [7, 9, 10] (fun vq vl i wr => ∃ (k : Nat) (q l : List Ent), i = .int .i64 k ∧ Acct w wr w1.heap.size k vq vl q l) (fun _ _ i _ => 100 - (intOf i).toNat)
  case atStart => exact ⟨0, [], [], rfl, by omega, HS1.out.ext (Ext.new _ _), nothing_good.2.2, World.ownsRow_nil _ _ _ _, by simp, List.Perm.refl _, ⟨by simp, by simp⟩, ⟨by simp, by simp⟩, HB1.out.alloc' _, HB1.out.size⟩
  case round =>
    obtain ⟨k, q, l, rfl, hacc⟩ := hrel
    have HAcc := Lib.hid hacc
    have hk100 := hacc.1
    clear hacc
    by_cases hlt : k < st.length ∧ k < nms.length ∧ k < rk.length ∧ k < 100
    · obtain ⟨l0, l1, l2, l3⟩ := hlt
      obtain ⟨g0, o0, rfl, hc0⟩ := HC0.out (by omega)
      obtain ⟨g1, o1, rfl, hc1⟩ := HC1.out (by omega)
      obtain ⟨g2, o2, rfl, hc2⟩ := HC2.out (by omega)
      obtain ⟨s, hs⟩ : ∃ s, s = st.getD k 0 := ⟨_, rfl⟩
      obtain ⟨nm, hnm⟩ : ∃ nm, nm = nms.getD k ByteArray.empty := ⟨_, rfl⟩
      obtain ⟨r, hr⟩ : ∃ r, r = rk.getD k 0 := ⟨_, rfl⟩
      have d0 := hc0 k l0
      have d1 := hc1 k l1
      have d2 := hc2 k l2
      rw [← hs] at d0
      rw [← hnm] at d1
      rw [← hr] at d2
      clear hs hnm hr hc0 hc1 hc2
      have hX := HAcc.out.2.2.2.2.2.2.2.2.1
      have e0 := hX.cellAt d0
      have e1 := hX.cellAt d1
      have e2 := hX.cellAt d2
      have z0 : g0 < wr.heap.size := World.block_lt_of_cell? wr _ e0
      have z1 : g1 < wr.heap.size := World.block_lt_of_cell? wr _ e1
      have z2 : g2 < wr.heap.size := World.block_lt_of_cell? wr _ e2
      clear hX d0 d1 d2
      have b0 : (0 : Int) ≤ (k : Int) := by omega
      have b1 : (k : Int) < (st.length : Int) := by omega
      have b2 : (k : Int) < (nms.length : Int) := by omega
      have b3 : (k : Int) < (rk.length : Int) := by omega
      have b4 : (k : Int) < 100 := by omega
      obtain ⟨ef, hef⟩ : ∃ ef, ef = efault ⟨nm, r⟩ := ⟨_, rfl⟩
      obtain ⟨ix, hix⟩ : ∃ ix, ix = idx l nm := ⟨_, rfl⟩
      obtain ⟨inb, hin⟩ : ∃ b, b = decide (0 ≤ s ∧ s ≤ 3) := ⟨_, rfl⟩
      have HW := Lib.hid (ways s ef ix l.length)
      have HEF := Lib.hid hef
      have HIX := Lib.hid hix
      have HIN := Lib.hid hin
      clear hef hix hin
      rcases HW.out with h | ⟨rfl, h⟩ | ⟨rfl, rfl, h⟩ | ⟨rfl, rfl, h⟩ | ⟨rfl, rfl, h⟩ | ⟨rfl, rfl, h⟩ | ⟨rfl, rfl, h⟩ | ⟨rfl, rfl, h⟩ | ⟨rfl, rfl, h⟩ | ⟨rfl, rfl, h⟩
      · have f1 : (ef != 0) = true := by simpa using h
        clear HW
        go_wp2_with fail
        go_region
        go_wp2_with fail
        refine (entry_any l nm _ _ (HAcc.out.2.2.2.1.ents.ext ((Ext.new _ _).drew'))).mono ?_
        rw [← HIX.out]
        rintro e w2 ⟨rfl, rfl⟩
        go_wp2_with fail
        refine (entryFault_any _ _ _).mono ?_
        rw [← HEF.out]
        rintro e w2 ⟨rfl, hb2⟩
        have HX2 : Hid (Ext wr w2) := Lib.hid (((Ext.new wr (.cells #[.string nm, .int .i64 r] 40)).drew').tr hb2)
        have y0 := HX2.out.cellAt e0
        have y1 := hb2.cellAt (b := wr.heap.size) (o := 0) (v := .string nm) (by simp)
        have y2 := hb2.cellAt (b := wr.heap.size) (o := 1) (v := .int .i64 r) (by simp)
        have y3 : g0 < w2.heap.size := World.block_lt_of_cell? w2 _ y0
        have y4 : wr.heap.size < w2.heap.size := World.block_lt_of_cell? w2 _ y1
        have HA2 := Lib.hid (HAcc.out.ext HX2.out)
        clear hb2 e0 e1 e2 z0 z1 z2
        go_wp2
        go_roundw
        case rel => exact ⟨k + 1, q, l, by go_num, HA2.out.next l3⟩
        case measure => simp [intOf]; omega
      · have f1 : inb = false := by rw [HIN.out]; simpa using h
        clear HW h
        go_wp2_with fail
        go_region
        go_wp2_with fail
        refine (entry_any l nm _ _ (HAcc.out.2.2.2.1.ents.ext ((Ext.new _ _).drew'))).mono ?_
        rw [← HIX.out]
        rintro e w2 ⟨rfl, rfl⟩
        go_wp2_with fail
        refine (entryFault_any _ _ _).mono ?_
        rw [← HEF.out]
        rintro e w2 ⟨rfl, hb2⟩
        have HX2 : Hid (Ext wr w2) := Lib.hid (((Ext.new wr (.cells #[.string nm, .int .i64 r] 40)).drew').tr hb2)
        have y0 := HX2.out.cellAt e0
        have y1 := hb2.cellAt (b := wr.heap.size) (o := 0) (v := .string nm) (by simp)
        have y2 := hb2.cellAt (b := wr.heap.size) (o := 1) (v := .int .i64 r) (by simp)
        have y3 : g0 < w2.heap.size := World.block_lt_of_cell? w2 _ y0
        have y4 : wr.heap.size < w2.heap.size := World.block_lt_of_cell? w2 _ y1
        have HA2 := Lib.hid (HAcc.out.ext HX2.out)
        clear hb2 e0 e1 e2 z0 z1 z2
        go_wp2_with fail
        refine (in_any _ _ _ _).mono ?_
        rw [← HIN.out]
        rintro e w3 ⟨rfl, rfl⟩
        subst f1
        go_wp2
        go_roundw
        case rel => exact ⟨k + 1, q, l, by go_num, HA2.out.next l3⟩
        case measure => simp [intOf]; omega
      · have f1 : inb = true := by rw [HIN.out]; decide
        clear HW
        have f2 : decide (0 ≤ ix) = true := by simpa using h
        go_wp2_with fail
        go_region
        go_wp2_with fail
        refine (entry_any l nm _ _ (HAcc.out.2.2.2.1.ents.ext ((Ext.new _ _).drew'))).mono ?_
        rw [← HIX.out]
        rintro e w2 ⟨rfl, rfl⟩
        go_wp2_with fail
        refine (entryFault_any _ _ _).mono ?_
        rw [← HEF.out]
        rintro e w2 ⟨rfl, hb2⟩
        have HX2 : Hid (Ext wr w2) := Lib.hid (((Ext.new wr (.cells #[.string nm, .int .i64 r] 40)).drew').tr hb2)
        have y0 := HX2.out.cellAt e0
        have y1 := hb2.cellAt (b := wr.heap.size) (o := 0) (v := .string nm) (by simp)
        have y2 := hb2.cellAt (b := wr.heap.size) (o := 1) (v := .int .i64 r) (by simp)
        have y3 : g0 < w2.heap.size := World.block_lt_of_cell? w2 _ y0
        have y4 : wr.heap.size < w2.heap.size := World.block_lt_of_cell? w2 _ y1
        have HA2 := Lib.hid (HAcc.out.ext HX2.out)
        clear hb2 e0 e1 e2 z0 z1 z2
        go_wp2_with fail
        refine (in_any _ _ _ _).mono ?_
        rw [← HIN.out]
        rintro e w3 ⟨rfl, rfl⟩
        subst f1
        go_wp2
        go_roundw
        case rel => exact ⟨k + 1, q, l, by go_num, HA2.out.next l3⟩
        case measure => simp [intOf]; omega
      · have f1 : inb = true := by rw [HIN.out]; decide
        clear HW
        have f2 : decide (ix < 0) = true := by simpa using h
        go_wp2_with fail
        go_region
        go_wp2_with fail
        refine (entry_any l nm _ _ (HAcc.out.2.2.2.1.ents.ext ((Ext.new _ _).drew'))).mono ?_
        rw [← HIX.out]
        rintro e w2 ⟨rfl, rfl⟩
        go_wp2_with fail
        refine (entryFault_any _ _ _).mono ?_
        rw [← HEF.out]
        rintro e w2 ⟨rfl, hb2⟩
        have HX2 : Hid (Ext wr w2) := Lib.hid (((Ext.new wr (.cells #[.string nm, .int .i64 r] 40)).drew').tr hb2)
        have y0 := HX2.out.cellAt e0
        have y1 := hb2.cellAt (b := wr.heap.size) (o := 0) (v := .string nm) (by simp)
        have y2 := hb2.cellAt (b := wr.heap.size) (o := 1) (v := .int .i64 r) (by simp)
        have y3 : g0 < w2.heap.size := World.block_lt_of_cell? w2 _ y0
        have y4 : wr.heap.size < w2.heap.size := World.block_lt_of_cell? w2 _ y1
        have HA2 := Lib.hid (HAcc.out.ext HX2.out)
        clear hb2 e0 e1 e2 z0 z1 z2
        go_wp2_with fail
        refine (in_any _ _ _ _).mono ?_
        rw [← HIN.out]
        rintro e w3 ⟨rfl, rfl⟩
        subst f1
        go_wp2
        go_roundw
        case rel => exact ⟨k + 1, q, l, by go_num, HA2.out.next l3⟩
        case measure => simp [intOf]; omega
      · have f1 : inb = true := by rw [HIN.out]; decide
        clear HW
        have f2 : decide (ix < 0) = true := by simpa using h
        go_wp2_with fail
        go_region
        go_wp2_with fail
        refine (entry_any l nm _ _ (HAcc.out.2.2.2.1.ents.ext ((Ext.new _ _).drew'))).mono ?_
        rw [← HIX.out]
        rintro e w2 ⟨rfl, rfl⟩
        go_wp2_with fail
        refine (entryFault_any _ _ _).mono ?_
        rw [← HEF.out]
        rintro e w2 ⟨rfl, hb2⟩
        have HX2 : Hid (Ext wr w2) := Lib.hid (((Ext.new wr (.cells #[.string nm, .int .i64 r] 40)).drew').tr hb2)
        have y0 := HX2.out.cellAt e0
        have y1 := hb2.cellAt (b := wr.heap.size) (o := 0) (v := .string nm) (by simp)
        have y2 := hb2.cellAt (b := wr.heap.size) (o := 1) (v := .int .i64 r) (by simp)
        have y3 : g0 < w2.heap.size := World.block_lt_of_cell? w2 _ y0
        have y4 : wr.heap.size < w2.heap.size := World.block_lt_of_cell? w2 _ y1
        have HA2 := Lib.hid (HAcc.out.ext HX2.out)
        clear hb2 e0 e1 e2 z0 z1 z2
        go_wp2_with fail
        refine (in_any _ _ _ _).mono ?_
        rw [← HIN.out]
        rintro e w3 ⟨rfl, rfl⟩
        subst f1
        go_wp2
        go_roundw
        case rel => exact ⟨k + 1, q, l, by go_num, HA2.out.next l3⟩
        case measure => simp [intOf]; omega
      · have f1 : inb = true := by rw [HIN.out]; decide
        clear HW
        obtain rfl := List.length_eq_zero_iff.1 h
        obtain ⟨A9, c9, hv9, _, _⟩ := HAcc.out.2.2.2.1.ents.out
        rw [List.length_nil] at hv9
        subst hv9
        clear h
        go_wp2_with fail
        go_region
        go_wp2_with fail
        refine (entry_any [] nm _ _ (HAcc.out.2.2.2.1.ents.ext ((Ext.new _ _).drew'))).mono ?_
        rw [← HIX.out]
        rintro e w2 ⟨rfl, rfl⟩
        go_wp2_with fail
        refine (entryFault_any _ _ _).mono ?_
        rw [← HEF.out]
        rintro e w2 ⟨rfl, hb2⟩
        have HX2 : Hid (Ext wr w2) := Lib.hid (((Ext.new wr (.cells #[.string nm, .int .i64 r] 40)).drew').tr hb2)
        have y0 := HX2.out.cellAt e0
        have y1 := hb2.cellAt (b := wr.heap.size) (o := 0) (v := .string nm) (by simp)
        have y2 := hb2.cellAt (b := wr.heap.size) (o := 1) (v := .int .i64 r) (by simp)
        have y3 : g0 < w2.heap.size := World.block_lt_of_cell? w2 _ y0
        have y4 : wr.heap.size < w2.heap.size := World.block_lt_of_cell? w2 _ y1
        have HA2 := Lib.hid (HAcc.out.ext HX2.out)
        clear hb2 e0 e1 e2 z0 z1 z2
        go_wp2_with fail
        refine (in_any _ _ _ _).mono ?_
        rw [← HIN.out]
        rintro e w3 ⟨rfl, rfl⟩
        subst f1
        go_wp2
        go_roundw
        case rel => exact ⟨k + 1, q, [], by go_num, HA2.out.next l3⟩
        case measure => simp [intOf]; omega
      · have f1 : inb = true := by rw [HIN.out]; decide
        have f2 : decide (0 ≤ ix) = false := by simpa using h
        have HK := Lib.hid (keep_add (x := ⟨nm, r⟩) HAcc.out.perm (by rw [HAcc.out.2.2.1]) (by have := HAcc.out.2.2.2.2.1; omega) HEF.out.symm (by rw [← HIX.out]; exact h))
        have HQ := Lib.hid HK.out.2
        have HLw : Hid ((l ++ [(⟨nm, r⟩ : Ent)]).length ≤ k + 1) := Lib.hid (by have := HAcc.out.2.2.2.2.1; simp; omega)
        clear HW
        go_wp2_with fail
        go_region
        go_wp2_with fail
        refine (entry_any l nm _ _ (HAcc.out.2.2.2.1.ents.ext ((Ext.new _ _).drew'))).mono ?_
        rw [← HIX.out]
        rintro e w2 ⟨rfl, rfl⟩
        go_wp2_with fail
        refine (entryFault_any _ _ _).mono ?_
        rw [← HEF.out]
        rintro e w2 ⟨rfl, hb2⟩
        have HX2 : Hid (Ext wr w2) := Lib.hid (((Ext.new wr (.cells #[.string nm, .int .i64 r] 40)).drew').tr hb2)
        have y0 := HX2.out.cellAt e0
        have y1 := hb2.cellAt (b := wr.heap.size) (o := 0) (v := .string nm) (by simp)
        have y2 := hb2.cellAt (b := wr.heap.size) (o := 1) (v := .int .i64 r) (by simp)
        have y3 : g0 < w2.heap.size := World.block_lt_of_cell? w2 _ y0
        have y4 : wr.heap.size < w2.heap.size := World.block_lt_of_cell? w2 _ y1
        have HA2 := Lib.hid (HAcc.out.ext HX2.out)
        clear hb2 e0 e1 e2 z0 z1 z2
        go_wp2_with fail
        refine (in_any _ _ _ _).mono ?_
        rw [← HIN.out]
        rintro e w3 ⟨rfl, rfl⟩
        subst f1
        go_wp2_with fail
        refine (add_goodF q ⟨nm, r⟩ _ _ HA2.out.2.1 HA2.out.2.2.1 HK.out.1).mono ?_
        rintro e w3 ⟨v3, rfl, hs3, hb3, hn3⟩
        have HA3 := Lib.hid (HA2.out.ext hb3)
        have p0 := HA3.out.2.2.2.2.2.2.1.1
        have p1 := HA3.out.2.2.2.2.2.2.1.2
        have p2 := HA3.out.2.2.2.2.2.2.2.1.1
        have p3 := HA3.out.2.2.2.2.2.2.2.1.2
        have sm0 : w3.setCell ⟨w1.heap.size, 0, none⟩ (.int .i64 0) = w3 := setCell_same p0
        have sm1 : w3.setCell ⟨w1.heap.size, 1, none⟩ (.int .i64 0) = w3 := setCell_same p2
        have y5 := hb3.cellAt y1
        have y6 := hb3.cellAt y2
        have yf := HA3.out.low.2
        have y7 : wr.heap.size ≠ w1.heap.size := by have := HAcc.out.low; omega
        have y8 : wr.heap.size < w3.heap.size := World.block_lt_of_cell? w3 _ y5
        have HS3 := Lib.hid hs3
        have HN3 := Lib.hid hn3
        clear hs3 hb3 hn3 y0 y1 y2 y3 y4
        go_wp2_with (at_builtin; refine wpList_append_rd _ rfl _ _ 22 rfl (w1.heap.size + 1) 40 i0 _ 2 24 Try.underlying22 hi0 hz0 hz1 hz2 rfl (by decide) u9 l.length (flatE l) rfl ?h1 (.slice (some ⟨w3.heap.size, 0, none⟩) 1 1) 1 (flatE [⟨nm, r⟩]) rfl ?h2 (flatE_one _) ?h3 ?h4 ?h5 ?_)
        case h1 => exact HA3.out.2.2.2.1.alloc _
        case h2 => exact Rd.oneE (by simp) (by simp)
        case h3 => simp only [maxLen]; have := HAcc.out.2.2.2.2.1; omega
        case h4 => have := HAcc.out.2.2.2.2.1; omega
        case h5 => simp; omega
        intro v4 w4 hown hgr hat
        have hu9 := HA2.out.2.2.2.1.lt
        have HE4 := Lib.hid ((HS3.out.ext (Ext.new _ _)).g hgr (fun g off n c hv e => by have h1 := (hu9 g e).2; have h2 := HN3.out g off n c hv; omega))
        have hne4 : Value.ownBlock _ ≠ some w1.heap.size := fun e => by have := (hu9 _ e).1; omega
        have HC0' := Lib.hid ((HA3.out.2.2.2.2.2.2.1.ext (Ext.new _ _)).gr hgr hne4)
        have HC1' := Lib.hid ((HA3.out.2.2.2.2.2.2.2.1.ext (Ext.new _ _)).gr hgr hne4)
        have hfl := HC0'.out.1
        have HX4 := Lib.hid (((HA3.out.2.2.2.2.2.2.2.2.1).alloc' _).grow hgr (fun g hg => by have h1 := (hu9 g hg).1; have := HA3.out.low; omega))
        have HO4 : Hid (OwnE w4 (w1.heap.size + 1) v4 (l ++ [⟨nm, r⟩])) := Lib.hid (by unfold OwnE; rw [List.length_append, flatE_append]; exact hown)
        clear hown hgr hat hu9 hne4 p0 p1 p2 p3 y5 y6 sm0 sm1
        go_wp2_with fail
        refine (queue_t _ _ _ _ _ HE4.out HO4.out.ents (by have := HLw.out; omega)).mono ?_
        rw [queue_true HQ.out.1 HQ.out.2]
        rintro e w5 ⟨rfl, hb5⟩
        have HB5 := Lib.hid hb5
        clear hb5
        go_wp2
        go_roundw
        case rel => exact ⟨k + 1, _, _, by go_num, Acct.ext (show Acct w w4 w1.heap.size (k + 1) _ _ _ _ from ⟨by omega, HE4.out, qf_zero HQ.out.1, HO4.out, by have := HLw.out; omega, HQ.out.2, HC0'.out, HC1'.out, HX4.out, HA3.out.low.1⟩) HB5.out⟩
        case measure => simp [intOf]; omega
      · have f1 : inb = true := by rw [HIN.out]; decide
        obtain ⟨kk, hkk⟩ : ∃ kk : Nat, ix = kk := ⟨ix.toNat, by omega⟩
        subst hkk
        obtain ⟨hkl, j, hj, hjl, hq1, hq2⟩ := keep_change (r := r) HAcc.out.perm (by rw [HAcc.out.2.2.1]) HIX.out.symm (rank_of HEF.out.symm)
        have HJ := Lib.hid hj
        have HQ := Lib.hid (And.intro hq1 hq2)
        have f2 : decide ((kk : Int) < 0) = false := by simp
        have hl100 : l.length ≤ k := HAcc.out.2.2.2.2.1
        have HLk := Lib.hid (wout_len hkl)
        have HLw : Hid ((wout l kk ++ [(⟨nm, r⟩ : Ent)]).length ≤ k + 1) := Lib.hid (by rw [List.length_append, wout_len hkl]; simp; omega)
        have HR := Lib.hid (rank_of HEF.out.symm)
        clear HW h hj hq1 hq2
        go_wp2_with fail
        go_region
        go_wp2_with fail
        refine (entry_any l nm _ _ (HAcc.out.2.2.2.1.ents.ext ((Ext.new _ _).drew'))).mono ?_
        rw [← HIX.out]
        rintro e w2 ⟨rfl, rfl⟩
        go_wp2_with fail
        refine (entryFault_any _ _ _).mono ?_
        rw [← HEF.out]
        rintro e w2 ⟨rfl, hb2⟩
        have HX2 : Hid (Ext wr w2) := Lib.hid (((Ext.new wr (.cells #[.string nm, .int .i64 r] 40)).drew').tr hb2)
        have y0 := HX2.out.cellAt e0
        have y1 := hb2.cellAt (b := wr.heap.size) (o := 0) (v := .string nm) (by simp)
        have y2 := hb2.cellAt (b := wr.heap.size) (o := 1) (v := .int .i64 r) (by simp)
        have y3 : g0 < w2.heap.size := World.block_lt_of_cell? w2 _ y0
        have y4 : wr.heap.size < w2.heap.size := World.block_lt_of_cell? w2 _ y1
        have HA2 := Lib.hid (HAcc.out.ext HX2.out)
        clear hb2 e0 e1 e2 z0 z1 z2
        go_wp2_with fail
        refine (in_any _ _ _ _).mono ?_
        rw [← HIN.out]
        rintro e w3 ⟨rfl, rfl⟩
        subst f1
        go_wp2_with fail
        refine (change_good q nm r j _ _ HA2.out.2.1 HA2.out.2.2.1 HJ.out hjl HR.out).mono ?_
        rintro e w3 ⟨v3, rfl, hs3, hb3⟩
        have HA3 := Lib.hid (HA2.out.ext hb3)
        have p0 := HA3.out.2.2.2.2.2.2.1.1
        have p1 := HA3.out.2.2.2.2.2.2.1.2
        have p2 := HA3.out.2.2.2.2.2.2.2.1.1
        have p3 := HA3.out.2.2.2.2.2.2.2.1.2
        have sm0 : w3.setCell ⟨w1.heap.size, 0, none⟩ (.int .i64 0) = w3 := setCell_same p0
        have sm1 : w3.setCell ⟨w1.heap.size, 1, none⟩ (.int .i64 0) = w3 := setCell_same p2
        have y5 := hb3.cellAt y1
        have y6 := hb3.cellAt y2
        have yf := HA3.out.low.2
        have y7 : wr.heap.size ≠ w1.heap.size := by have := HAcc.out.low; omega
        have y8 : wr.heap.size < w3.heap.size := World.block_lt_of_cell? w3 _ y5
        have HS3 := Lib.hid hs3
        clear hs3 hb3 y0 y1 y2 y3 y4
        go_wp2_with fail
        go_region_held3 (fun w' => w'.cell? ⟨wr.heap.size, 0, none⟩ = some (.string nm) ∧ w'.cell? ⟨wr.heap.size, 1, none⟩ = some (.int .i64 r))
          (first | exact ⟨had.1.cellAt y5, had.1.cellAt y6⟩ | exact ⟨hb4.cellAt y5, hb4.cellAt y6⟩ | exact ⟨(hb4.alloc' _).cellAt y5, (hb4.alloc' _).cellAt y6⟩ | exact ⟨(Ext.new w3 _).cellAt y5, (Ext.new w3 _).cellAt y6⟩ | exact ⟨y5, y6⟩ | go_keep)
          (first | (go_at_call 24; refine (refWithout_t l kk _ _ ?_ hkl ?_).mono ?_; (first | exact HA3.out.2.2.2.1.ents.ext ((Ext.rfl_ w3).drew') | exact HA3.out.2.2.2.1.ents.ext ((Ext.new w3 _).drew')); omega; rintro e w4' ⟨v4', rfl, ho4', hb4'⟩; have hb4 : Ext w3 w4' := (by first | exact hb4'.re | exact ((Ext.new w3 _).drew').tr hb4'); have ho4 : w4'.ownsRow w3.heap.size 40 2 v4' (wout l kk).length (flatE (wout l kk)) := (by refine own_low ho4' ?_; simp)) | (refine step_append_rd _ ?_ (.tmp 139) (.tmp 141) 22 ?_ w3.heap.size 40 i0 (.agg #[.string ByteArray.empty, .int .i64 0]) 2 24 Try.underlying22 hi0 hz0 hz1 hz2 rfl ?_ v4' (wout l kk).length (flatE (wout l kk)) ?_ ?_ (.slice (some ⟨w4'.heap.size, 0, none⟩) 1 1) 1 (flatE [⟨nm, r⟩]) ?_ ?_ (flatE_one _) ?_ ?_ ?_ ?_; rfl; rfl; decide; rfl; exact ho4.alloc _; rfl; (refine Rd.oneE ?_ ?_ <;> simp); (simp only [maxLen]; have := HLk.out; omega); (have := HLk.out; omega); (have := hb4.size; simp; omega); intro v4 w4 hown hgr hat; have had : Added w3 w4 v4 (wout l kk) ⟨nm, r⟩ := Added.mkA hb4 ho4 hown hgr) | (refine step_append_rd _ ?_ (.tmp 139) (.tmp 141) 22 ?_ w3.heap.size 40 i0 (.agg #[.string ByteArray.empty, .int .i64 0]) 2 24 Try.underlying22 hi0 hz0 hz1 hz2 rfl ?_ v4' (wout l kk).length (flatE (wout l kk)) ?_ ?_ (.slice (some ⟨w3.heap.size, 0, none⟩) 1 1) 1 (flatE [⟨nm, r⟩]) ?_ ?_ (flatE_one _) ?_ ?_ ?_ ?_; rfl; rfl; decide; rfl; exact ho4; rfl; (refine Rd.oneE ?_ ?_ <;> (refine hb4'.cellAt ?_; simp)); (simp only [maxLen]; have := HLk.out; omega); (have := HLk.out; omega); (have := hb4.size; omega); intro v4 w4 hown hgr hat; have had : Added w3 w4 v4 (wout l kk) ⟨nm, r⟩ := Added.mkB hb4 ho4 hown hgr))
        all_goals
          have HO4 : Hid (OwnE w4 (w1.heap.size + 1) v4 (wout l kk ++ [⟨nm, r⟩])) := Lib.hid (own_low had.2 (by omega))
          have hx4 := had.1
          clear had hown hgr hat hb4 ho4 ho4' hb4'
          have HE4 := Lib.hid (HS3.out.ext hx4)
          have HC0' := Lib.hid (HA3.out.2.2.2.2.2.2.1.ext hx4)
          have HC1' := Lib.hid (HA3.out.2.2.2.2.2.2.2.1.ext hx4)
          have hfl := HC0'.out.1
          have HX4 := Lib.hid ((HA3.out.2.2.2.2.2.2.2.2.1).tr hx4)
          clear hx4 p0 p1 p2 p3 y5 y6 sm0 sm1
          go_wp2_with fail
          refine (queue_t _ _ _ _ _ HE4.out HO4.out.ents (by have := HLw.out; omega)).mono ?_
          rw [queue_true HQ.out.1 HQ.out.2]
          rintro e w5 ⟨rfl, hb5⟩
          have HB5 := Lib.hid hb5
          clear hb5
          go_wp2
          go_roundw
          case rel => exact ⟨k + 1, _, _, by go_num, Acct.ext (show Acct w w4 w1.heap.size (k + 1) _ _ _ _ from ⟨by omega, HE4.out, qf_zero HQ.out.1, HO4.out, by have := HLw.out; omega, HQ.out.2, HC0'.out, HC1'.out, HX4.out, HA3.out.low.1⟩) HB5.out⟩
          case measure => simp [intOf]; omega
      · have f1 : inb = true := by rw [HIN.out]; decide
        obtain ⟨kk, hkk⟩ : ∃ kk : Nat, ix = kk := ⟨ix.toNat, by omega⟩
        subst hkk
        obtain ⟨hkl, j, hj, hjl, hq1, hq2⟩ := keep_remove HAcc.out.perm (by rw [HAcc.out.2.2.1]) HIX.out.symm
        have HJ := Lib.hid hj
        have HQ := Lib.hid (And.intro hq1 hq2)
        have f2 : decide ((kk : Int) < 0) = false := by simp
        have hl100 : l.length ≤ k := HAcc.out.2.2.2.2.1
        have HLw : Hid ((wout l kk).length ≤ k + 1) := Lib.hid (by rw [wout_len hkl]; omega)
        clear HW h hj hq1 hq2
        go_wp2_with fail
        go_region
        go_wp2_with fail
        refine (entry_any l nm _ _ (HAcc.out.2.2.2.1.ents.ext ((Ext.new _ _).drew'))).mono ?_
        rw [← HIX.out]
        rintro e w2 ⟨rfl, rfl⟩
        go_wp2_with fail
        refine (entryFault_any _ _ _).mono ?_
        rw [← HEF.out]
        rintro e w2 ⟨rfl, hb2⟩
        have HX2 : Hid (Ext wr w2) := Lib.hid (((Ext.new wr (.cells #[.string nm, .int .i64 r] 40)).drew').tr hb2)
        have y0 := HX2.out.cellAt e0
        have y1 := hb2.cellAt (b := wr.heap.size) (o := 0) (v := .string nm) (by simp)
        have y2 := hb2.cellAt (b := wr.heap.size) (o := 1) (v := .int .i64 r) (by simp)
        have y3 : g0 < w2.heap.size := World.block_lt_of_cell? w2 _ y0
        have y4 : wr.heap.size < w2.heap.size := World.block_lt_of_cell? w2 _ y1
        have HA2 := Lib.hid (HAcc.out.ext HX2.out)
        clear hb2 e0 e1 e2 z0 z1 z2
        go_wp2_with fail
        refine (in_any _ _ _ _).mono ?_
        rw [← HIN.out]
        rintro e w3 ⟨rfl, rfl⟩
        subst f1
        go_wp2_with fail
        refine (remove_good q nm j _ _ HA2.out.2.1 HA2.out.2.2.1 HJ.out hjl).mono ?_
        rintro e w3 ⟨v3, rfl, hs3, hb3⟩
        have HA3 := Lib.hid (HA2.out.ext hb3)
        have p0 := HA3.out.2.2.2.2.2.2.1.1
        have p1 := HA3.out.2.2.2.2.2.2.1.2
        have p2 := HA3.out.2.2.2.2.2.2.2.1.1
        have p3 := HA3.out.2.2.2.2.2.2.2.1.2
        have sm0 : w3.setCell ⟨w1.heap.size, 0, none⟩ (.int .i64 0) = w3 := setCell_same p0
        have sm1 : w3.setCell ⟨w1.heap.size, 1, none⟩ (.int .i64 0) = w3 := setCell_same p2
        have y5 := hb3.cellAt y1
        have y6 := hb3.cellAt y2
        have yf := HA3.out.low.2
        have y7 : wr.heap.size ≠ w1.heap.size := by have := HAcc.out.low; omega
        have y8 : wr.heap.size < w3.heap.size := World.block_lt_of_cell? w3 _ y5
        have HS3 := Lib.hid hs3
        clear hs3 hb3 y0 y1 y2 y3 y4
        go_wp2_with fail
        refine (refWithout_t l kk _ _ HA3.out.2.2.2.1.ents hkl (by omega)).mono ?_
        rintro e w4 ⟨v4, rfl, ho4, hb4⟩
        have HE4 := Lib.hid (HS3.out.ext hb4)
        have HC0' := Lib.hid (HA3.out.2.2.2.2.2.2.1.ext hb4)
        have HC1' := Lib.hid (HA3.out.2.2.2.2.2.2.2.1.ext hb4)
        have hfl := HC0'.out.1
        have HX4 := Lib.hid ((HA3.out.2.2.2.2.2.2.2.2.1).tr hb4)
        have HO4 : Hid (OwnE w4 (w1.heap.size + 1) v4 (wout l kk)) := Lib.hid (own_low ho4 (by omega))
        clear ho4 hb4 p0 p1 p2 p3 y5 y6 sm0 sm1
        go_wp2_with fail
        refine (queue_t _ _ _ _ _ HE4.out HO4.out.ents (by have := HLw.out; omega)).mono ?_
        rw [queue_true HQ.out.1 HQ.out.2]
        rintro e w5 ⟨rfl, hb5⟩
        have HB5 := Lib.hid hb5
        clear hb5
        go_wp2
        go_roundw
        case rel => exact ⟨k + 1, _, _, by go_num, Acct.ext (show Acct w w4 w1.heap.size (k + 1) _ _ _ _ from ⟨by omega, HE4.out, qf_zero HQ.out.1, HO4.out, by have := HLw.out; omega, HQ.out.2, HC0'.out, HC1'.out, HX4.out, HA3.out.low.1⟩) HB5.out⟩
        case measure => simp [intOf]; omega
      · have f1 : inb = true := by rw [HIN.out]; decide
        have hl100 : l.length ≤ k := HAcc.out.2.2.2.2.1
        obtain ⟨hq0, hfl0, hx0, hq1, hq2⟩ := keep_pop HAcc.out.perm (by rw [HAcc.out.2.2.1]) h
        obtain ⟨kk, hkk⟩ : ∃ kk : Nat, kk = first l := ⟨_, rfl⟩
        rw [← hkk] at hfl0 hx0 hq2
        have HQ := Lib.hid (And.intro hq1 hq2)
        have HLw : Hid ((wout l kk).length ≤ k + 1) := Lib.hid (by rw [wout_len hfl0]; omega)
        have HKK := Lib.hid hkk
        obtain ⟨x, hx⟩ : ∃ x, x = nth l kk := ⟨_, rfl⟩
        rw [← hx] at hx0
        have HX := Lib.hid hx
        have HX0 := Lib.hid hx0
        have f2 : ((l.length : Int) == 0) = false := beq_eq_false_iff_ne.2 (by omega)
        obtain ⟨g9, c9, hv9, hg9, hr9⟩ := HAcc.out.2.2.2.1.row h
        subst hv9
        have f3 : (0 : Int) ≤ (kk : Int) := by omega
        have f4 : (kk : Int) < (l.length : Int) := by omega
        have hnq := run_neqE
        have heBs : eqB { name := x.name, rank := x.rank } { name := x.name, rank := x.rank } = true := eqB_self _
        have heBs' : eqB x x = true := eqB_self _
        clear HW hkk hx hx0 hq1 hq2
        go_wp2_with fail
        go_region
        go_wp2_with fail
        refine (entry_any l nm _ _ (HAcc.out.2.2.2.1.ents.ext ((Ext.new _ _).drew'))).mono ?_
        rw [← HIX.out]
        rintro e w2 ⟨rfl, rfl⟩
        go_wp2_with fail
        refine (entryFault_any _ _ _).mono ?_
        rw [← HEF.out]
        rintro e w2 ⟨rfl, hb2⟩
        have HX2 : Hid (Ext wr w2) := Lib.hid (((Ext.new wr (.cells #[.string nm, .int .i64 r] 40)).drew').tr hb2)
        have y0 := HX2.out.cellAt e0
        have y1 := hb2.cellAt (b := wr.heap.size) (o := 0) (v := .string nm) (by simp)
        have y2 := hb2.cellAt (b := wr.heap.size) (o := 1) (v := .int .i64 r) (by simp)
        have y3 : g0 < w2.heap.size := World.block_lt_of_cell? w2 _ y0
        have y4 : wr.heap.size < w2.heap.size := World.block_lt_of_cell? w2 _ y1
        have HA2 := Lib.hid (HAcc.out.ext HX2.out)
        clear hb2 e0 e1 e2 z0 z1 z2
        go_wp2_with fail
        refine (in_any _ _ _ _).mono ?_
        rw [← HIN.out]
        rintro e w3 ⟨rfl, rfl⟩
        subst f1
        go_wp2_with fail
        refine (first_any l _ _ HA2.out.2.2.2.1.ents).mono ?_
        rw [← HKK.out]
        rintro e w21 ⟨rfl, hb21⟩
        have HA21 := Lib.hid (HA2.out.ext (hb21.alloc' (.cells #[.string ByteArray.empty, .int .i64 0] 40)))
        have HX21 := Lib.hid (HX2.out.tr (hb21.alloc' (.cells #[.string ByteArray.empty, .int .i64 0] 40)))
        have y11 := hb21.cellAt y1
        have y12 := hb21.cellAt y2
        have y13 : wr.heap.size < w21.heap.size := World.block_lt_of_cell? w21 _ y11
        clear hb21 y0 y1 y2 y3 y4
        go_wp2_with fail
        refine (pop_goodF q _ _ HA21.out.2.1 HA21.out.2.2.1 hq0).mono ?_
        rw [HX0.out]
        rintro e w3 ⟨v3, rfl, hs3, hb3, hn3⟩
        have Q0 : Cel w3 w21.heap.size 0 (.string ByteArray.empty) := Cel.ext ⟨by simp, by simp⟩ hb3
        have Q1 : Cel w3 w21.heap.size 1 (.int .i64 0) := Cel.ext ⟨by simp, by simp⟩ hb3
        have HA3 := Lib.hid (HA21.out.ext hb3)
        have HF := Lib.hid (fput (u := .string x.name) (v := .int .i64 x.rank) Q0 Q1)
        have hFX : w1.heap.size < w21.heap.size := by have := HAcc.out.low; omega
        have HG9 : Hid (g9 < wr.heap.size) := Lib.hid hr9.lt
        have HO3 : Hid (OwnE _ (w1.heap.size + 1) _ l) := Lib.hid (HA3.out.2.2.2.1.kept HF.out.2.2 (.inr fun e => by have e' : some g9 = some w21.heap.size := e; injection e' with e'; have := HG9.out; omega))
        have HE3 := Lib.hid (hs3.g HF.out.2.2 (fun g off n c hv e => by injection e with e; have h2 := hn3 g off n c hv; simp at h2; omega))
        have HC0 := Lib.hid (HA3.out.2.2.2.2.2.2.1.gr HF.out.2.2 (fun e => by injection e with e; omega))
        have HC1 := Lib.hid (HA3.out.2.2.2.2.2.2.2.1.gr HF.out.2.2 (fun e => by injection e with e; omega))
        have hlow : w.heap.size ≤ w21.heap.size := by have := HAcc.out.low; omega
        have HX3 := Lib.hid (((HA3.out.2.2.2.2.2.2.2.2.1).set (p := ⟨w21.heap.size, 0, none⟩) hlow (.string x.name)).set (p := ⟨w21.heap.size, 1, none⟩) hlow (.int .i64 x.rank))
        have q0 := Q0.1
        have q1 := Q0.2
        have q2 := Q1.1
        have q3 := Q1.2
        have sm0 := setCell_same HC0.out.1
        have sm1 := setCell_same HC1.out.1
        have p0 := HC0.out.1
        have p1 := HC0.out.2
        have p2 := HC1.out.1
        have p3 := HC1.out.2
        have r0 := HF.out.1.1
        have r1 := HF.out.2.1.1
        obtain ⟨g10, c10, hv10, _, hr10⟩ := HO3.out.row (by omega)
        injection hv10 with hv10 _ hv11
        injection hv10 with hv10
        injection hv10 with hv10
        subst hv10
        subst hv11
        have hcc := hr10.cells
        have s0 := (hcc kk hfl0).1
        have s1 := (hcc kk hfl0).2
        rw [← HX.out] at s0 s1
        simp only [Nat.zero_add] at s0 s1
        clear hs3 hb3 hn3 hcc hr10 Q0 Q1 y11 y12 hr9
        go_wp2_with fail
        go_quiet (fail)
        go_wp2_with fail
        refine (refWithout_t l kk _ _ ?hh hfl0 (by omega)).mono ?_
        case hh => exact HO3.out.ents.ext ((Ext.rfl_ _).drewN' _)
        rintro e w4 ⟨v4, rfl, ho4, hb4'⟩
        have hb4 := hb4'.udN
        have HE4 := Lib.hid (HE3.out.ext hb4)
        have HC0' := Lib.hid (HC0.out.ext hb4)
        have HC1' := Lib.hid (HC1.out.ext hb4)
        have hfl := HC0'.out.1
        have HX4 := Lib.hid (HX3.out.tr hb4)
        have HO4 : Hid (OwnE w4 (w1.heap.size + 1) v4 (wout l kk)) := Lib.hid (own_low ho4 (World.block_lt_of_cell? _ _ HC0.out.1))
        clear ho4 hb4 hb4' p0 p1 p2 p3 q0 q1 q2 q3 r0 r1 s0 s1 sm0 sm1
        go_wp2_with fail
        refine (queue_t _ _ _ _ _ HE4.out HO4.out.ents (by have := HLw.out; omega)).mono ?_
        rw [queue_true HQ.out.1 HQ.out.2]
        rintro e w5 ⟨rfl, hb5⟩
        have HB5 := Lib.hid hb5
        clear hb5
        go_wp2
        go_roundw
        case rel => exact ⟨k + 1, _, _, by go_num, Acct.ext (show Acct w w4 w1.heap.size (k + 1) _ _ _ _ from ⟨by omega, HE4.out, qf_zero HQ.out.1, HO4.out, by have := HLw.out; omega, HQ.out.2, HC0'.out, HC1'.out, HX4.out, HA3.out.low.1⟩) HB5.out⟩
        case measure => simp [intOf]; omega
    · have hq : ¬ k < st.length ∨ (k < st.length ∧ ¬ k < nms.length) ∨ (k < st.length ∧ k < nms.length ∧ ¬ k < rk.length) ∨ (k < st.length ∧ k < nms.length ∧ k < rk.length ∧ ¬ k < 100) := by omega
      have HX := Lib.hid HAcc.out.2.2.2.2.2.2.2.2.1
      clear hlt
      rcases hq with h | ⟨h1, h⟩ | ⟨h1, h2, h⟩ | ⟨h1, h2, h3, h⟩
      all_goals
        go_wp2_with fail
        refine (queued_t _).mono ?_
        rintro e w5 ⟨rfl, hb5⟩
        have HB5 := Lib.hid (HX.out.tr hb5)
        clear hb5
        go_wp2
        go_ret
        exact ⟨rfl, HB5.out⟩
end Go.Proofs.Ytefeiogbaiodnaa

/- Walks of the program's moves on a row of the call's own. -/
import Derived.Test.YtefeiogbaiodnaaW4
import Derived.BigRegion
namespace Go.Proofs.Ytefeiogbaiodnaa
open Go.RowKit

/-- v is a row of the call's own with these entries -/
def OwnE (w : World) (base : Nat) (v : Value) (l : List Ent) : Prop := w.ownsRow base 40 2 v l.length (flatE l)

/-- block g is a row of entries that begins with l -/
def RowE (w : World) (g cap : Nat) (l : List Ent) : Prop :=
  ∃ cur : Array Value, w.heap[g]? = some (.cells cur 40 (0, 0)) ∧ cur.size = cap * 2 ∧ l.length ≤ cap ∧ cap ≤ maxLen ∧ cur.toList.take (l.length * 2) = flatE l

theorem RowE.lt {w : World} {g cap : Nat} {l : List Ent} (h : RowE w g cap l) : g < w.heap.size := by
  obtain ⟨cur, h, _⟩ := h
  exact (Array.getElem?_eq_some_iff.1 h).1
theorem RowE.own {w : World} {g cap base : Nat} {l : List Ent} (h : RowE w g cap l) (hb : base ≤ g) : OwnE w base (.slice (some ⟨g, 0, none⟩) l.length cap) l := by
  obtain ⟨cur, h1, h2, h3, h4, h5⟩ := h
  exact ⟨flatE_len l, .inr ⟨g, cap, cur, rfl, hb, h1, h3, h4, h2, h5⟩⟩
theorem OwnE.row {w : World} {base : Nat} {v : Value} {l : List Ent} (h : OwnE w base v l) (h0 : 0 < l.length) : ∃ g cap, v = .slice (some ⟨g, 0, none⟩) l.length cap ∧ base ≤ g ∧ RowE w g cap l := by
  obtain ⟨_, h2⟩ := h
  rcases h2 with ⟨_, h3⟩ | ⟨g, cap, cur, hv, hb, hg, hn, hm, hs, ht⟩
  · omega
  · exact ⟨g, cap, hv, hb, cur, hg, hs, hn, hm, ht⟩
theorem RowE.cells {w : World} {g cap : Nat} {l : List Ent} (h : RowE w g cap l) : CellsE w g 0 l := by
  have := Rd.own (h.own (base := 0) (Nat.zero_le _))
  obtain ⟨A, c, hv, hl, _, _, hx⟩ := this
  intro k hk
  obtain ⟨g', off', hA, hcell⟩ := hx (by omega)
  injection hv with h1 h2 h3
  rw [hA] at h1
  injection h1 with h1
  injection h1 with e1 e2
  subst e1; subst e2
  exact ⟨hcell _ _ (flatE_name hk), by rw [Nat.add_assoc]; exact hcell _ _ (flatE_rank hk)⟩
theorem RowE.froz {w : World} {g cap : Nat} {l : List Ent} (h : RowE w g cap l) (o : Nat) : w.frozen? ⟨g, o, none⟩ = false := by
  obtain ⟨cur, h1, _⟩ := h
  simp [World.frozen?, h1]
theorem RowE.keep {w w' : World} {g cap : Nat} {l : List Ent} (h : RowE w g cap l) (hb : w'.heap[g]? = w.heap[g]?) : RowE w' g cap l := by
  obtain ⟨cur, h1, r⟩ := h
  exact ⟨cur, hb.trans h1, r⟩
theorem RowE.ext {w w' : World} {g cap : Nat} {l : List Ent} (h : RowE w g cap l) (hb : Ext w w') : RowE w' g cap l := h.keep (hb.block g h.lt)

/-- a store of an entry -/
theorem RowE.put {w : World} {g cap : Nat} {l : List Ent} (h : RowE w g cap l) {i : Nat} (e : Ent) :
    RowE ((w.setCell ⟨g, i * 2, none⟩ (.string e.name)).setCell ⟨g, i * 2 + 1, none⟩ (.int .i64 e.rank)) g cap (l.set i e) := by
  obtain ⟨cur, h1, h2, h3, h4, h5⟩ := h
  refine ⟨(cur.setIfInBounds (i * 2) (.string e.name)).setIfInBounds (i * 2 + 1) (.int .i64 e.rank), ?_, by simpa using h2, by simpa using h3, h4, ?_⟩
  · simp [World.setCell, Array.getElem?_modify, h1]
  · rw [flatE_set, ← h5]
    simp only [Array.toList_setIfInBounds, List.length_set]
    rw [List.take_set, List.take_set]
theorem setCell_G {a w : World} {g : Nat} (h : a.grownBy w (some g)) (o : Nat) (u : Value) : a.grownBy (w.setCell ⟨g, o, none⟩ u) (some g) := G.set h (.inl rfl) u

theorem RowE.swap {w : World} {g cap : Nat} {l : List Ent} (h : RowE w g cap l) {i k : Nat} :
    RowE ((((w.setCell ⟨g, i * 2, none⟩ (.string (nth l k).name)).setCell ⟨g, i * 2 + 1, none⟩ (.int .i64 (nth l k).rank)).setCell ⟨g, k * 2, none⟩ (.string (nth l i).name)).setCell ⟨g, k * 2 + 1, none⟩ (.int .i64 (nth l i).rank)).drew g cap (swp l i k) :=
  ((h.put (nth l k)).put (nth l i))
theorem G.swap {a w : World} {g : Nat} (h : a.grownBy w (some g)) {i j k m : Nat} {v1 v2 v3 v4 : Value} :
    a.grownBy ((((w.setCell ⟨g, i, none⟩ v1).setCell ⟨g, j, none⟩ v2).setCell ⟨g, k, none⟩ v3).setCell ⟨g, m, none⟩ v4).drew (some g) :=
  G.drewN (setCell_G (setCell_G (setCell_G (setCell_G h _ _) _ _) _ _) _ _) 1
theorem down_step {f : Nat} {l : List Ent} {i kd : Nat} (h1 : ¬ l.length ≤ 2 * i + 1) (hk : kid l i = kd) (h : lt (nth l kd) (nth l i) = true) (hf : 0 < f) : downL f l i = downL (f - 1) (swp l i kd) kd := by
  obtain ⟨f, rfl⟩ : ∃ f', f = f' + 1 := ⟨f - 1, by omega⟩
  rw [downL, if_neg h1, hk, if_pos h]
  rfl
theorem down_stop {f : Nat} {l : List Ent} {i kd : Nat} (h1 : ¬ l.length ≤ 2 * i + 1) (hk : kid l i = kd) (h : lt (nth l kd) (nth l i) = false) (hf : 0 < f) : downL f l i = l := by
  obtain ⟨f, rfl⟩ : ∃ f', f = f' + 1 := ⟨f - 1, by omega⟩
  rw [downL, if_neg h1, hk, if_neg (by simp [h])]
theorem down_end {f : Nat} {l : List Ent} {i : Nat} (h1 : l.length ≤ 2 * i + 1) : downL f l i = l := by
  cases f with
  | zero => rfl
  | succ f => rw [downL, if_pos h1]

set_option maxRecDepth 100000 in
set_option maxHeartbeats 2000000 in
theorem down_t (l : List Ent) (i g cap : Nat) (w : World) (hr : RowE w g cap l) (hi : i < l.length) (hm : l.length ≤ 1000) :
    Calls Try.prog 35 #[.slice (some ⟨g, 0, none⟩) l.length cap, .int .i64 i] w fun e w' => e = .returned (.tuple #[]) ∧ RowE w' g cap (down l i) ∧ w.grownBy w' (some g) := by
  have HR := Lib.hid hr
  clear hr
  go_enter Try.func35, Try.ntmps35
  go_wp2
  go_loopw [1] (fun t wr => ∃ (l' : List Ent) (i' f : Nat), l'.length = l.length ∧ i' < l.length ∧ t = .int .i64 i' ∧ l.length ≤ f + i' ∧ downL f l' i' = down l i ∧ RowE wr g cap l' ∧ w.grownBy wr (some g)) (fun t _ => l.length - (intOf t).toNat)
  case atStart => exact ⟨l, i, l.length, rfl, hi, rfl, by omega, rfl, HR.out, World.grownBy.refl _ _⟩
  case round =>
    obtain ⟨l', i', f, hl', hi', rfl, hf, hd, hr, hg⟩ := hrel
    have HD := Lib.hid hd
    have HR' := Lib.hid hr
    have HG := Lib.hid hg
    have HL := Lib.hid hl'
    have hf1 : 0 < f := by omega
    clear hd hr hg hl'
    by_cases hk : l.length ≤ 2 * i' + 1
    · have HE := Lib.hid (down_end (f := f) (show l'.length ≤ 2 * i' + 1 by rw [HL.out]; exact hk))
      go_wp2
      refine bodyPost_ret (results_none rfl _ _ _) rfl ?_
      exact ⟨rfl, by rw [← HD.out, HE.out]; exact HR'.out, HG.out⟩
    · by_cases hk2 : 2 * i' + 1 + 1 < l.length
      · obtain ⟨k1, hk1⟩ : ∃ k1 : Nat, k1 = 2 * i' + 1 := ⟨_, rfl⟩
        obtain ⟨k2, hk2e⟩ : ∃ k2 : Nat, k2 = k1 + 1 := ⟨_, rfl⟩
        have e1 : (2 : Int) * (i' : Int) + 1 = (k1 : Int) := by omega
        have e2 : (k1 : Int) + 1 = (k2 : Int) := by omega
        have s1 : IntKind.i64.wrap (k2 : Int) = (k2 : Int) := IntWalk.i64_in _ (by omega)
        have d1 : decide ((k2 : Int) < (l.length : Int)) = true := by simp; omega
        have d2 : decide (k2 < l.length) = true := by simp; omega
        have ib0 : (0 : Int) ≤ (i' : Int) := by omega
        have ib1 : (i' : Int) < (l.length : Int) := by omega
        have k1b0 : (0 : Int) ≤ (k1 : Int) := by omega
        have k1b1 : (k1 : Int) < (l.length : Int) := by omega
        have k2b0 : (0 : Int) ≤ (k2 : Int) := by omega
        have k2b1 : (k2 : Int) < (l.length : Int) := by omega
        have hkn : k1 < l.length ∧ k2 < l.length ∧ k1 ≠ i' ∧ k2 ≠ i' ∧ i' < k1 ∧ i' < k2 := by omega
        obtain ⟨n1, n2, n3, n4, n5, n6⟩ := hkn
        have HK1 := Lib.hid (And.intro hk1 hk2e)
        have HKD := Lib.hid (show kid l' i' = if lt (nth l' k2) (nth l' k1) = true then k2 else k1 by
          unfold kid
          rw [show 2 * i' + 2 = k2 by omega, show 2 * i' + 1 = k1 by omega, HL.out]
          by_cases hh : lt (nth l' k2) (nth l' k1) = true
          · rw [if_pos ⟨n2, hh⟩, if_pos hh]
          · rw [if_neg (fun x => hh x.2), if_neg hh])
        have hcl := HR'.out.cells
        have c0 := (hcl k1 (by have := HL.out; omega)).1
        have c1 := (hcl k1 (by have := HL.out; omega)).2
        have c2 := (hcl k2 (by have := HL.out; omega)).1
        have c3 := (hcl k2 (by have := HL.out; omega)).2
        simp only [Nat.zero_add] at c0 c1 c2 c3
        have HS := Lib.hid (And.intro s1 (And.intro d1 e2))
        clear hk1 hk2e s1 d1 e2 hcl
        go_wp2_with fail
        obtain ⟨s1, d1, e2⟩ := HS.out
        go_region_held3 (fun w' => w'.cell? ⟨g, k2 * 2, none⟩ = some (.string (nth l' k2).name) ∧ w'.cell? ⟨g, k2 * 2 + 1, none⟩ = some (.int .i64 (nth l' k2).rank) ∧ w'.cell? ⟨g, k1 * 2, none⟩ = some (.string (nth l' k1).name) ∧ w'.cell? ⟨g, k1 * 2 + 1, none⟩ = some (.int .i64 (nth l' k1).rank)) (first | exact ⟨c2, c3, c0, c1⟩ | exact ⟨hb2.cellAt c2, hb2.cellAt c3, hb2.cellAt c0, hb2.cellAt c1⟩ | go_keep)
          (first | (go_at_call 48; refine (compare_E (nth l' k2) (nth l' k1) _).mono ?_; rintro e w2 ⟨rfl, hb2⟩))
        have HR2 := Lib.hid (HR'.out.ext hb2.re)
        have HG2 := Lib.hid (G.ext HG.out hb2.re)
        clear hb2 c0 c1 c2 c3 s1 d1
        by_cases hab : lt (nth l' k2) (nth l' k1) = true
        · have hcm0 : cmpEnt (nth l' k2) (nth l' k1) < 0 := (cmp_lt _ _).2 hab
          have HK := Lib.hid (HKD.out.trans (if_pos hab))
          clear hab
          obtain ⟨kd, hkd⟩ : ∃ kd, kd = k2 := ⟨_, rfl⟩
          subst hkd
          have kn : kd ≠ i' := n4
          have hcl := HR2.out.cells
          have c0 := (hcl i' (by have := HL.out; omega)).1
          have c1 := (hcl i' (by have := HL.out; omega)).2
          have c2 := (hcl kd (by have := HL.out; omega)).1
          have c3 := (hcl kd (by have := HL.out; omega)).2
          simp only [Nat.zero_add] at c0 c1 c2 c3
          clear hcl
          go_wp2_with fail
          go_region_held3 (fun w' => w'.cell? ⟨g, kd * 2, none⟩ = some (.string (nth l' kd).name) ∧ w'.cell? ⟨g, kd * 2 + 1, none⟩ = some (.int .i64 (nth l' kd).rank) ∧ w'.cell? ⟨g, i' * 2, none⟩ = some (.string (nth l' i').name) ∧ w'.cell? ⟨g, i' * 2 + 1, none⟩ = some (.int .i64 (nth l' i').rank)) (first | exact ⟨c2, c3, c0, c1⟩ | exact ⟨hb3.cellAt c2, hb3.cellAt c3, hb3.cellAt c0, hb3.cellAt c1⟩ | go_keep)
            (first | (go_at_call 48; refine (compare_E (nth l' kd) (nth l' i') _).mono ?_; rintro e w3 ⟨rfl, hb3⟩))
          have HR3 := Lib.hid (HR2.out.ext hb3.re)
          have HG3 := Lib.hid (G.ext HG2.out hb3.re)
          clear hb3 c0 c1 c2 c3
          by_cases ha : lt (nth l' kd) (nth l' i') = true
          · have hcm : cmpEnt (nth l' kd) (nth l' i') < 0 := (cmp_lt _ _).2 ha
            have HF := Lib.hid (down_step (by have := HL.out; omega) HK.out ha hf1)
            have hcl := HR3.out.cells
            have c0 := (hcl i' (by have := HL.out; omega)).1
            have c1 := (hcl i' (by have := HL.out; omega)).2
            have c2 := (hcl kd (by have := HL.out; omega)).1
            have c3 := (hcl kd (by have := HL.out; omega)).2
            simp only [Nat.zero_add] at c0 c1 c2 c3
            have z0 := HR3.out.froz (i' * 2)
            have z1 := HR3.out.froz (i' * 2 + 1)
            have z2 := HR3.out.froz (kd * 2)
            have z3 := HR3.out.froz (kd * 2 + 1)
            clear hcl ha
            go_wp2_with fail
            go_region
            go_wp2
            go_roundw
            case rel => exact ⟨swp l' i' kd, kd, f - 1, by rw [swp_len, HL.out], by omega, rfl, by omega, by rw [← HF.out, HD.out], RowE.swap HR3.out, G.swap HG3.out⟩
            case measure => simp [intOf]; omega
          · have hcm : ¬ cmpEnt (nth l' kd) (nth l' i') < 0 := fun h => ha ((cmp_lt _ _).1 h)
            have hcm' : 0 ≤ cmpEnt (nth l' kd) (nth l' i') := by omega
            have HF := Lib.hid (down_stop (by have := HL.out; omega) HK.out (by simpa using ha) hf1)
            clear ha hcm
            go_wp2
            refine bodyPost_ret (results_none rfl _ _ _) rfl ?_
            exact ⟨rfl, by rw [← HD.out, HF.out]; exact HR3.out, HG3.out⟩
        · have hcm0 : ¬ cmpEnt (nth l' k2) (nth l' k1) < 0 := fun h => hab ((cmp_lt _ _).1 h)
          have hcm0' : 0 ≤ cmpEnt (nth l' k2) (nth l' k1) := by omega
          have HK := Lib.hid (HKD.out.trans (if_neg hab))
          clear hab hcm0
          obtain ⟨kd, hkd⟩ : ∃ kd, kd = k1 := ⟨_, rfl⟩
          subst hkd
          have kn : kd ≠ i' := n3
          have hcl := HR2.out.cells
          have c0 := (hcl i' (by have := HL.out; omega)).1
          have c1 := (hcl i' (by have := HL.out; omega)).2
          have c2 := (hcl kd (by have := HL.out; omega)).1
          have c3 := (hcl kd (by have := HL.out; omega)).2
          simp only [Nat.zero_add] at c0 c1 c2 c3
          clear hcl
          go_wp2_with fail
          go_region_held3 (fun w' => w'.cell? ⟨g, kd * 2, none⟩ = some (.string (nth l' kd).name) ∧ w'.cell? ⟨g, kd * 2 + 1, none⟩ = some (.int .i64 (nth l' kd).rank) ∧ w'.cell? ⟨g, i' * 2, none⟩ = some (.string (nth l' i').name) ∧ w'.cell? ⟨g, i' * 2 + 1, none⟩ = some (.int .i64 (nth l' i').rank)) (first | exact ⟨c2, c3, c0, c1⟩ | exact ⟨hb3.cellAt c2, hb3.cellAt c3, hb3.cellAt c0, hb3.cellAt c1⟩ | go_keep)
            (first | (go_at_call 48; refine (compare_E (nth l' kd) (nth l' i') _).mono ?_; rintro e w3 ⟨rfl, hb3⟩))
          have HR3 := Lib.hid (HR2.out.ext hb3.re)
          have HG3 := Lib.hid (G.ext HG2.out hb3.re)
          clear hb3 c0 c1 c2 c3
          by_cases ha : lt (nth l' kd) (nth l' i') = true
          · have hcm : cmpEnt (nth l' kd) (nth l' i') < 0 := (cmp_lt _ _).2 ha
            have HF := Lib.hid (down_step (by have := HL.out; omega) HK.out ha hf1)
            have hcl := HR3.out.cells
            have c0 := (hcl i' (by have := HL.out; omega)).1
            have c1 := (hcl i' (by have := HL.out; omega)).2
            have c2 := (hcl kd (by have := HL.out; omega)).1
            have c3 := (hcl kd (by have := HL.out; omega)).2
            simp only [Nat.zero_add] at c0 c1 c2 c3
            have z0 := HR3.out.froz (i' * 2)
            have z1 := HR3.out.froz (i' * 2 + 1)
            have z2 := HR3.out.froz (kd * 2)
            have z3 := HR3.out.froz (kd * 2 + 1)
            clear hcl ha
            go_wp2_with fail
            go_region
            go_wp2
            go_roundw
            case rel => exact ⟨swp l' i' kd, kd, f - 1, by rw [swp_len, HL.out], by omega, rfl, by omega, by rw [← HF.out, HD.out], RowE.swap HR3.out, G.swap HG3.out⟩
            case measure => simp [intOf]; omega
          · have hcm : ¬ cmpEnt (nth l' kd) (nth l' i') < 0 := fun h => ha ((cmp_lt _ _).1 h)
            have hcm' : 0 ≤ cmpEnt (nth l' kd) (nth l' i') := by omega
            have HF := Lib.hid (down_stop (by have := HL.out; omega) HK.out (by simpa using ha) hf1)
            clear ha hcm
            go_wp2
            refine bodyPost_ret (results_none rfl _ _ _) rfl ?_
            exact ⟨rfl, by rw [← HD.out, HF.out]; exact HR3.out, HG3.out⟩
      · have HK0 := Lib.hid (show kid l' i' = 2 * i' + 1 by unfold kid; rw [if_neg (by rw [HL.out]; omega)])
        obtain ⟨kd, hkd⟩ : ∃ kd : Nat, kd = 2 * i' + 1 := ⟨_, rfl⟩
        have HK := Lib.hid (HK0.out.trans hkd.symm)
        have e1 : (2 : Int) * (i' : Int) + 1 = (kd : Int) := by omega
        have s1 : IntKind.i64.wrap ((kd : Int) + 1) = (kd : Int) + 1 := IntWalk.i64_in _ (by omega)
        have d1 : decide ((kd : Int) + 1 < (l.length : Int)) = false := by simp; omega
        have kb : kd < l.length := by omega
        have kn : kd ≠ i' := by omega
        have kb0 : (0 : Int) ≤ (kd : Int) := by omega
        have kb1 : (kd : Int) < (l.length : Int) := by omega
        have ib0 : (0 : Int) ≤ (i' : Int) := by omega
        have ib1 : (i' : Int) < (l.length : Int) := by omega
        have HS := Lib.hid (And.intro s1 d1)
        clear hkd s1 d1
        go_wp2_with fail
        obtain ⟨s1, d1⟩ := HS.out
        go_quiet (fail)
        clear s1 d1
        have HR2 := Lib.hid (HR'.out.ext ((Ext.rfl_ wr).drewN' nq))
        have HG2 := Lib.hid (G.drewN HG.out nq)
        have hcl := HR2.out.cells
        have c0 := (hcl i' (by have := HL.out; omega)).1
        have c1 := (hcl i' (by have := HL.out; omega)).2
        have c2 := (hcl kd (by have := HL.out; omega)).1
        have c3 := (hcl kd (by have := HL.out; omega)).2
        simp only [Nat.zero_add] at c0 c1 c2 c3
        clear hcl
        go_wp2_with fail
        go_region_held3 (fun w' => w'.cell? ⟨g, kd * 2, none⟩ = some (.string (nth l' kd).name) ∧ w'.cell? ⟨g, kd * 2 + 1, none⟩ = some (.int .i64 (nth l' kd).rank) ∧ w'.cell? ⟨g, i' * 2, none⟩ = some (.string (nth l' i').name) ∧ w'.cell? ⟨g, i' * 2 + 1, none⟩ = some (.int .i64 (nth l' i').rank)) (first | exact ⟨c2, c3, c0, c1⟩ | exact ⟨hb3.cellAt c2, hb3.cellAt c3, hb3.cellAt c0, hb3.cellAt c1⟩ | go_keep)
          (first | (go_at_call 48; refine (compare_E (nth l' kd) (nth l' i') _).mono ?_; rintro e w3 ⟨rfl, hb3⟩))
        have HR3 := Lib.hid (HR2.out.ext hb3.re)
        have HG3 := Lib.hid (G.ext HG2.out hb3.re)
        clear hb3 c0 c1 c2 c3
        by_cases ha : lt (nth l' kd) (nth l' i') = true
        · have hcm : cmpEnt (nth l' kd) (nth l' i') < 0 := (cmp_lt _ _).2 ha
          have HF := Lib.hid (down_step (by have := HL.out; omega) HK.out ha hf1)
          have hcl := HR3.out.cells
          have c0 := (hcl i' (by have := HL.out; omega)).1
          have c1 := (hcl i' (by have := HL.out; omega)).2
          have c2 := (hcl kd (by have := HL.out; omega)).1
          have c3 := (hcl kd (by have := HL.out; omega)).2
          simp only [Nat.zero_add] at c0 c1 c2 c3
          have z0 := HR3.out.froz (i' * 2)
          have z1 := HR3.out.froz (i' * 2 + 1)
          have z2 := HR3.out.froz (kd * 2)
          have z3 := HR3.out.froz (kd * 2 + 1)
          clear hcl ha
          go_wp2_with fail
          go_region
          go_wp2
          go_roundw
          case rel => exact ⟨swp l' i' kd, kd, f - 1, by rw [swp_len, HL.out], by omega, rfl, by omega, by rw [← HF.out, HD.out], RowE.swap HR3.out, G.swap HG3.out⟩
          case measure => simp [intOf]; omega
        · have hcm : ¬ cmpEnt (nth l' kd) (nth l' i') < 0 := fun h => ha ((cmp_lt _ _).1 h)
          have hcm' : 0 ≤ cmpEnt (nth l' kd) (nth l' i') := by omega
          have HF := Lib.hid (down_stop (by have := HL.out; omega) HK.out (by simpa using ha) hf1)
          clear ha hcm
          go_wp2
          refine bodyPost_ret (results_none rfl _ _ _) rfl ?_
          exact ⟨rfl, by rw [← HD.out, HF.out]; exact HR3.out, HG3.out⟩
end Go.Proofs.Ytefeiogbaiodnaa

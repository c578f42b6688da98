/- Walks of up and settle. -/
import Derived.Test.YtefeiogbaiodnaaW5
namespace Go.Proofs.Ytefeiogbaiodnaa
open Go.RowKit

theorem up_step {f : Nat} {l : List Ent} {i m : Nat} (h0 : 0 < i) (hm : m = (i - 1) / 2) (h : lt (nth l i) (nth l m) = true) (hf : 0 < f) : upL f l i = upL (f - 1) (swp l i m) m := by
  obtain ⟨f, rfl⟩ : ∃ f', f = f' + 1 := ⟨f - 1, by omega⟩
  subst hm
  rw [upL, if_pos ⟨h0, h⟩]
  rfl
theorem up_stop {f : Nat} {l : List Ent} {i m : Nat} (hm : m = (i - 1) / 2) (h : lt (nth l i) (nth l m) = false) : upL f l i = l := by
  cases f with
  | zero => rfl
  | succ f =>
    subst hm
    rw [upL, if_neg (by simp [h])]
theorem up_zero {f : Nat} {l : List Ent} : upL f l 0 = l := by
  cases f with
  | zero => rfl
  | succ f => rw [upL, if_neg (by simp)]

set_option maxRecDepth 100000 in
set_option maxHeartbeats 2000000 in
theorem up_t (l : List Ent) (i g cap : Nat) (w : World) (hr : RowE w g cap l) (hi : i < l.length) (hm : l.length ≤ 1000) :
    Calls Try.prog 46 #[.slice (some ⟨g, 0, none⟩) l.length cap, .int .i64 i] w fun e w' => e = .returned (.tuple #[]) ∧ RowE w' g cap (up l i) ∧ w.grownBy w' (some g) := by
  have HR := Lib.hid hr
  clear hr
  go_enter Try.func46, Try.ntmps46
  go_wp2
  go_loopw [1] (fun t wr => ∃ (l' : List Ent) (i' f : Nat), l'.length = l.length ∧ i' < l.length ∧ t = .int .i64 i' ∧ i' < f ∧ upL f l' i' = up l i ∧ RowE wr g cap l' ∧ w.grownBy wr (some g)) (fun t _ => (intOf t).toNat)
  case atStart => exact ⟨l, i, i + 1, rfl, hi, rfl, by omega, rfl, HR.out, World.grownBy.refl _ _⟩
  case round =>
    obtain ⟨l', i', f, hl', hi', rfl, hf, hd, hr, hg⟩ := hrel
    have HD := Lib.hid hd
    have HR' := Lib.hid hr
    have HG := Lib.hid hg
    have HL := Lib.hid hl'
    have hf1 : 0 < f := by omega
    clear hd hr hg hl'
    by_cases hk : i' = 0
    · subst hk
      have HE := Lib.hid (up_zero (f := f) (l := l'))
      go_wp2_with fail
      go_quiet (fail)
      go_wp2
      go_end0
      exact ⟨rfl, by rw [← HD.out, HE.out]; exact HR'.out.ext ((Ext.rfl_ wr).drewN' _), G.drewN HG.out _⟩
    · obtain ⟨m, hmk⟩ : ∃ m, m = (i' - 1) / 2 := ⟨_, rfl⟩
      have s1 : IntKind.i64.wrap ((i' : Int) - 1) = (i' : Int) - 1 := IntWalk.i64_in _ (by omega)
      have s2 : ((i' : Int) - 1).tdiv 2 = (m : Int) := by
        rw [Int.tdiv_eq_ediv_of_nonneg (by omega)]; omega
      have s2' : ((i' : Int) - 1) / 2 = (m : Int) := by omega
      have s3 : IntKind.i64.wrap (m : Int) = (m : Int) := IntWalk.i64_in _ (by omega)
      have s4 : (0 : Int) ≤ (m : Int) := by omega
      have s5 : (m : Int) < (l.length : Int) := by omega
      have b2 : (0 : Int) < (i' : Int) := by omega
      have b0 : (0 : Int) ≤ (i' : Int) := by omega
      have b1 : (i' : Int) < (l.length : Int) := by omega
      have n1 : m ≠ i' := by omega
      have n2 : m < i' := by omega
      have kd1 : decide ((0 : Int) < (i' : Int)) = true := by simpa using b2
      have kd2 : decide (0 < i') = true := by simp; omega
      have HW := Lib.hid (And.intro s1 (And.intro s2 (And.intro s3 s2')))
      have HM := Lib.hid hmk
      have hcl := HR'.out.cells
      have c0 := (hcl i' (by have := HL.out; omega)).1
      have c1 := (hcl i' (by have := HL.out; omega)).2
      have c2 := (hcl m (by have := HL.out; omega)).1
      have c3 := (hcl m (by have := HL.out; omega)).2
      simp only [Nat.zero_add] at c0 c1 c2 c3
      clear s1 s2 s3 s2' hmk hcl
      go_wp2_with fail
      obtain ⟨s1, s2, s3, s2'⟩ := HW.out
      go_region_held3 (fun w' => w'.cell? ⟨g, i' * 2, none⟩ = some (.string (nth l' i').name) ∧ w'.cell? ⟨g, i' * 2 + 1, none⟩ = some (.int .i64 (nth l' i').rank) ∧ w'.cell? ⟨g, m * 2, none⟩ = some (.string (nth l' m).name) ∧ w'.cell? ⟨g, m * 2 + 1, none⟩ = some (.int .i64 (nth l' m).rank)) (first | exact ⟨c0, c1, c2, c3⟩ | exact ⟨hb3.cellAt c0, hb3.cellAt c1, hb3.cellAt c2, hb3.cellAt c3⟩ | go_keep)
        (first | (go_at_call 48; refine (compare_E (nth l' i') (nth l' m) _).mono ?_; rintro e w3 ⟨rfl, hb3⟩))
      have HR3 := Lib.hid (HR'.out.ext hb3.re)
      have HG3 := Lib.hid (G.ext HG.out hb3.re)
      clear hb3 c0 c1 c2 c3
      by_cases ha : lt (nth l' i') (nth l' m) = true
      · have hcm : cmpEnt (nth l' i') (nth l' m) < 0 := (cmp_lt _ _).2 ha
        have HF := Lib.hid (up_step (by omega) HM.out ha hf1)
        have hcl := HR3.out.cells
        have c0 := (hcl i' (by have := HL.out; omega)).1
        have c1 := (hcl i' (by have := HL.out; omega)).2
        have c2 := (hcl m (by have := HL.out; omega)).1
        have c3 := (hcl m (by have := HL.out; omega)).2
        simp only [Nat.zero_add] at c0 c1 c2 c3
        have z0 := HR3.out.froz (i' * 2)
        have z1 := HR3.out.froz (i' * 2 + 1)
        have z2 := HR3.out.froz (m * 2)
        have z3 := HR3.out.froz (m * 2 + 1)
        clear hcl ha
        go_wp2_with fail
        go_region
        clear s1 s2 s3
        go_wp2
        go_roundw
        case rel => exact ⟨swp l' i' m, m, f - 1, by rw [swp_len, HL.out], by omega, by rw [s2'], by omega, by rw [← HF.out, HD.out], RowE.swap HR3.out, G.swap HG3.out⟩
        case measure => simp [intOf]; omega
      · have hcm : ¬ cmpEnt (nth l' i') (nth l' m) < 0 := fun h => ha ((cmp_lt _ _).1 h)
        have hcm' : 0 ≤ cmpEnt (nth l' i') (nth l' m) := by omega
        have HF := Lib.hid (up_stop (f := f) HM.out (by simpa using ha))
        clear ha hcm s1 s2 s3 s2'
        go_wp2
        go_end0
        exact ⟨rfl, by rw [← HD.out, HF.out]; exact HR3.out, HG3.out⟩

set_option maxHeartbeats 400000 in
theorem settle_t (l : List Ent) (i g cap : Nat) (w : World) (hr : RowE w g cap l) (hi : i < l.length) (hm : l.length ≤ 1000) :
    Calls Try.prog 47 #[.slice (some ⟨g, 0, none⟩) l.length cap, .int .i64 i] w fun e w' => e = .returned (.tuple #[]) ∧ RowE w' g cap (settle l i) ∧ w.grownBy w' (some g) := by
  go_enter Try.func47, Try.ntmps47
  go_wp2_with fail
  refine (up_t l i g cap _ hr hi hm).mono ?_
  rintro e w1 ⟨rfl, hr1, hg1⟩
  have HR1 := Lib.hid hr1
  have HG1 := Lib.hid hg1
  clear hr1 hg1 hr
  go_wp2_with fail
  have hd := down_t (up l i) i g cap w1 HR1.out (by rw [up_len]; exact hi) (by rw [up_len]; exact hm)
  rw [up_len] at hd
  refine hd.mono ?_
  rintro e w2 ⟨rfl, hr2, hg2⟩
  go_wp2
  go_end0
  exact ⟨rfl, hr2, G.tr HG1.out hg2⟩
end Go.Proofs.Ytefeiogbaiodnaa

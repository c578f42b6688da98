/- The walk of QueueFault; no condition. -/
import Derived.Test.YtefeiogbaiodnaaW2
namespace Go.Proofs.Ytefeiogbaiodnaa
open Go.RowKit

theorem codeAt_e {l : List Ent} {ord : Bool} {k : Nat} (h : efault (nth l k) ≠ 0) : codeAt l ord k = efault (nth l k) := by unfold codeAt; rw [if_pos h]
theorem codeAt_r {l : List Ent} {ord : Bool} {k : Nat} (h : efault (nth l k) = 0) (h1 : idx l (nth l k).name < k) : codeAt l ord k = 8 := by unfold codeAt; rw [if_neg (by simp [h]), if_pos h1]
theorem codeAt_o {l : List Ent} {ord : Bool} {k : Nat} (h : efault (nth l k) = 0) (h1 : ¬ idx l (nth l k).name < k) (h2 : ord = true ∧ 0 < k ∧ lt (nth l k) (nth l ((k - 1) / 2)) = true) : codeAt l ord k = 11 := by unfold codeAt; rw [if_neg (by simp [h]), if_neg h1, if_pos h2]
theorem codeAt_z {l : List Ent} {ord : Bool} {k : Nat} (h : efault (nth l k) = 0) (h1 : ¬ idx l (nth l k).name < k) (h2 : ¬ (ord = true ∧ 0 < k ∧ lt (nth l k) (nth l ((k - 1) / 2)) = true)) : codeAt l ord k = 0 := by unfold codeAt; rw [if_neg (by simp [h]), if_neg h1, if_neg h2]

/-- the fault as the result of a call -/
def RetF (f : Int × Int) (w : World) (e : Ending) (w' : World) : Prop := e = .returned (.agg #[.int .i64 f.1, .int .i64 f.2]) ∧ Ext w w'

set_option maxHeartbeats 400000 in
theorem queueFault_many (l : List Ent) (ord : Bool) (v : Value) (w : World) (hl : EntS w v l) (h2 : 200 < l.length) :
    Calls Try.prog 11 #[v, .bool ord] w (RetF (2, -1) w) := by
  obtain ⟨A, c, rfl, hm, hA⟩ := hl.out
  clear hA hl
  go_enter Try.func11, Try.ntmps11
  go_wp2_with fail
  refine (at_any _ _ _).mono ?_
  rintro e w1 ⟨rfl, hb⟩
  obtain ⟨hc, hf⟩ := bcell hb
  go_wp2
  exact bodyPost_ret (v := .agg #[.int .i64 2, .int .i64 (-1)]) (by simp [results, Try.results11, go_sem, hc]) rfl ⟨rfl, by
    exact ((((Ext.new w _).tr hb).set (by simp) _).set (by simp) _)⟩
set_option maxHeartbeats 1000000 in
theorem queueFault_few (l : List Ent) (ord : Bool) (v : Value) (w : World) (hl : EntS w v l) (h2 : l.length ≤ 200) :
    Calls Try.prog 11 #[v, .bool ord] w (RetF (qf l ord) w) := by
  obtain ⟨A, c, rfl, hm, hA⟩ := hl.out
  have HA := Lib.hid hA
  have HL := Lib.hid hl
  clear hA hl
  go_enter Try.func11, Try.ntmps11
  go_wp2
  go_loopw [5] (fun i wr => ∃ k : Nat, k ≤ l.length ∧ i = .int .i64 k ∧ (∀ j, j < k → codeAt l ord j = 0) ∧ Ext (w.alloc (.cells #[.int .i64 0, .int .i64 0] 24)) wr) (fun i _ => l.length - (intOf i).toNat)
  case atStart => exact ⟨0, by omega, rfl, by omega, Ext.rfl_ _⟩
  case round =>
    obtain ⟨k, hk, rfl, h0, hb⟩ := hrel
    have H0 := Lib.hid h0
    have HB := Lib.hid hb
    clear h0 hb
    by_cases hlt : k < l.length
    · obtain ⟨g, off, rfl, hc⟩ := HA.out (by omega)
      have hx : Ext w wr := (Ext.new w _).tr HB.out
      have HX := Lib.hid hx
      have hc0 := (hc.ext hx k hlt).1
      have hc1 := (hc.ext hx k hlt).2
      have HC := Lib.hid (hc.ext hx)
      clear hx hc
      go_wp2_with fail
      refine (entryFault_any _ _ _).mono ?_
      rintro e w1 ⟨rfl, hb1⟩
      have hd0 := (HC.out.ext hb1 k hlt).1
      have hd1 := (HC.out.ext hb1 k hlt).2
      have HB1 := Lib.hid (HB.out.tr hb1)
      by_cases he : efault (nth l k) = 0
      · have he' : efault { name := (nth l k).name, rank := (nth l k).rank } = 0 := he
        rw [he']
        go_wp2_with fail
        refine (entry_any l _ _ _ (HL.out.ext (HX.out.tr hb1))).mono ?_
        rintro e w2 ⟨rfl, rfl⟩
        by_cases hi : idx l (nth l k).name < k
        · have HCo := Lib.hid (codeAt_r (ord := ord) he hi)
          go_wp2_with fail
          go_quiet (fail)
          go_wp2_with fail
          refine (at_any _ _ _).mono ?_
          rintro e w2 ⟨rfl, hb2⟩
          have hb3 := HB1.out.tr hb2.udN
          obtain ⟨hc, hf⟩ := bcell hb3
          have HB2 := Lib.hid hb3
          clear hb2 hb3
          go_wp2
          refine bodyPost_ret (v := .agg #[.int .i64 8, .int .i64 k]) (by simp [results, Try.results11, go_sem, hc]) rfl ?_
          exact ⟨by rw [qf_found h2 hlt H0.out (by rw [HCo.out]; decide), HCo.out], (((Ext.new w _).tr HB2.out).set (by simp) _).set (by simp) _⟩
        · have hi' : decide (idx l (nth l k).name < (k : Int)) = false := by simpa using hi
          cases ord with
          | false =>
            have HCo := Lib.hid (codeAt_z (ord := false) he hi (by simp))
            go_wp2_with fail
            go_quiet (fail)
            go_wp2
            go_roundw
            case rel => exact ⟨k + 1, by omega, by go_num, fun j hj => by
              by_cases e : j = k
              · subst e; exact HCo.out
              · exact H0.out j (by omega), HB1.out.drewN' _⟩
            case measure => simp [intOf]; omega
          | true =>
            by_cases hk0 : k = 0
            · subst hk0
              have HCo := Lib.hid (codeAt_z (ord := true) he hi (by simp))
              go_wp2_with fail
              go_quiet (fail)
              go_wp2
              go_roundw
              case rel => exact ⟨0 + 1, by omega, by go_num, fun j hj => by
                by_cases e : j = 0
                · subst e; exact HCo.out
                · exact H0.out j (by omega), HB1.out.drewN' _⟩
              case measure => simp [intOf]; omega
            · have b0 : (0 : Int) ≤ (k : Int) := by omega
              have b1 : (k : Int) < (l.length : Int) := by omega
              have b2 : (0 : Int) < (k : Int) := by omega
              obtain ⟨m, hmk⟩ : ∃ m, m = (k - 1) / 2 := ⟨_, rfl⟩
              have hd2 := (HC.out.ext hb1 m (by omega)).1
              have hd3 := (HC.out.ext hb1 m (by omega)).2
              have s1 : IntKind.i64.wrap ((k : Int) - 1) = (k : Int) - 1 := IntWalk.i64_in _ (by omega)
              have s2 : ((k : Int) - 1).tdiv 2 = (m : Int) := by
                rw [Int.tdiv_eq_ediv_of_nonneg (by omega)]; omega
              have s3 : IntKind.i64.wrap (m : Int) = (m : Int) := IntWalk.i64_in _ (by omega)
              have s4 : (0 : Int) ≤ (m : Int) := by omega
              have s5 : (m : Int) < (l.length : Int) := by omega
              have kd1 : decide ((0 : Int) < (k : Int)) = true := by simpa using b2
              have kd2 : decide (0 < k) = true := by simp; omega
              have HS := Lib.hid (And.intro s1 (And.intro s2 s3))
              have HM := Lib.hid hmk
              have HI := Lib.hid hi
              have HE := Lib.hid he
              clear s1 s2 s3 hmk
              go_wp2_with fail
              obtain ⟨s1, s2, s3⟩ := HS.out
              go_region_held3 (fun w' => w'.cell? ⟨g, off + k * 2, none⟩ = some (.string (nth l k).name) ∧ w'.cell? ⟨g, off + k * 2 + 1, none⟩ = some (.int .i64 (nth l k).rank) ∧ w'.cell? ⟨g, off + m * 2, none⟩ = some (.string (nth l m).name) ∧ w'.cell? ⟨g, off + m * 2 + 1, none⟩ = some (.int .i64 (nth l m).rank)) (first | exact ⟨hd0, hd1, hd2, hd3⟩ | exact ⟨hb2.cellAt hd0, hb2.cellAt hd1, hb2.cellAt hd2, hb2.cellAt hd3⟩ | go_keep)
                (first | (go_at_call 27; refine (ahead_any _ _ _ _ _).mono ?_; rintro e w' ⟨rfl, hb2⟩))
              clear s1 s2 s3
              have HB2 := Lib.hid (HB1.out.tr hb2.ud)
              cases ha : lt (nth l k) (nth l m)
              · have HCo := Lib.hid (codeAt_z (ord := true) HE.out (by have := HI.out; omega) (by rw [← HM.out, ha]; simp))
                go_wp2
                go_roundw
                case rel => exact ⟨k + 1, by omega, by go_num, fun j hj => by
                  by_cases e : j = k
                  · subst e; exact HCo.out
                  · exact H0.out j (by omega), HB2.out⟩
                case measure => simp [intOf]; omega
              · have HCo := Lib.hid (codeAt_o (ord := true) HE.out (by have := HI.out; omega) ⟨rfl, by omega, by rw [← HM.out, ha]⟩)
                go_wp2_with fail
                refine (at_any _ _ _).mono ?_
                rintro e w3 ⟨rfl, hb4⟩
                have hb3 := HB2.out.tr hb4
                obtain ⟨hc, hf⟩ := bcell hb3
                have HB3 := Lib.hid hb3
                clear hb4 hb3
                go_wp2
                refine bodyPost_ret (v := .agg #[.int .i64 11, .int .i64 k]) (by simp [results, Try.results11, go_sem, hc]) rfl ?_
                exact ⟨by rw [qf_found h2 hlt H0.out (by rw [HCo.out]; decide), HCo.out], (((Ext.new w _).tr HB3.out).set (by simp) _).set (by simp) _⟩
      · have hne : (efault { name := (nth l k).name, rank := (nth l k).rank } == 0) = false := by simpa using he
        have hne' : (efault { name := (nth l k).name, rank := (nth l k).rank } != 0) = true := by simpa using he
        have HCo := Lib.hid (codeAt_e (ord := ord) he)
        have HE := Lib.hid he
        clear he
        go_wp2_with fail
        go_quiet (fail)
        go_wp2_with fail
        refine (at_any _ _ _).mono ?_
        rintro e w2 ⟨rfl, hb2⟩
        have hb3 := HB1.out.tr hb2.udN
        obtain ⟨hc, hf⟩ := bcell hb3
        have HB2 := Lib.hid hb3
        clear hb2 hb3
        go_wp2
        refine bodyPost_ret (v := .agg #[.int .i64 (efault (nth l k)), .int .i64 k]) (by simp [results, Try.results11, go_sem, hc]) rfl ?_
        exact ⟨by rw [qf_found h2 hlt H0.out (by rw [HCo.out]; exact HE.out), HCo.out], (((Ext.new w _).tr HB2.out).set (by simp) _).set (by simp) _⟩
    · go_wp2_with fail
      refine (at_any _ _ _).mono ?_
      rintro e w1 ⟨rfl, hb1⟩
      have hb2 := HB.out.tr hb1
      obtain ⟨hc, hf⟩ := bcell hb2
      have HB2 := Lib.hid hb2
      clear hb1 hb2
      go_wp2
      refine bodyPost_ret (v := .agg #[.int .i64 0, .int .i64 0]) (by simp [results, Try.results11, go_sem, hc]) rfl ?_
      exact ⟨by rw [qf_none h2 (fun j hj => H0.out j (by omega))], (((Ext.new w _).tr HB2.out).set (by simp) _).set (by simp) _⟩
end Go.Proofs.Ytefeiogbaiodnaa

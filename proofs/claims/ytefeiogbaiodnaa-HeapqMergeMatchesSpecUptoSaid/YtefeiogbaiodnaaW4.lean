/- The walk of check: it returns what QueueFault returns; no condition. -/
import Derived.Test.YtefeiogbaiodnaaW3
import Derived.Test.YtefeiogbaiodnaaSetM
namespace Go.Proofs.Ytefeiogbaiodnaa
open Go.RowKit

theorem zero4 (w : World) : (zeroValue 4).run Try.prog w = .ok (.bool false) w := by kernel_rfl

/-- one of the first k entries has the name -/
def seenB (l : List Ent) (k : Nat) (s : ByteArray) : Bool := (l.take k).any fun e => decide (e.name = s)
theorem seenB_zero (l : List Ent) (s : ByteArray) : seenB l 0 s = false := by simp [seenB]
theorem seenB_succ {l : List Ent} {k : Nat} (h : k < l.length) (s : ByteArray) : seenB l (k + 1) s = (decide ((nth l k).name = s) || seenB l k s) := by
  unfold seenB
  rw [List.take_succ_eq_append_getElem h, List.any_append, nth_eq h]
  simp [Bool.or_comm]
theorem idxFrom_ge (l : List Ent) (nm : ByteArray) (k : Nat) : idxFrom l nm k = -1 ∨ (k : Int) ≤ idxFrom l nm k := by
  induction l generalizing k with
  | nil => left; rfl
  | cons e l ih =>
    rw [idxFrom]
    split
    · right; omega
    · rcases ih (k + 1) with h | h
      · left; exact h
      · right; omega
theorem idxFrom_lt (l : List Ent) (nm : ByteArray) (i k : Nat) (hk : k < l.length) (hn : (nth l k).name = nm) : (idxFrom l nm i < (i + k : Nat)) ↔ (l.take k).any (fun e => decide (e.name = nm)) = true := by
  induction l generalizing i k with
  | nil => simp at hk
  | cons e l ih =>
    rw [idxFrom]
    cases k with
    | zero =>
      have : e.name = nm := by simpa [nth] using hn
      rw [if_pos this]
      simp
    | succ k =>
      rw [List.take_succ_cons, List.any_cons]
      by_cases h : e.name = nm
      · rw [if_pos h]
        simp [h]
        omega
      · rw [if_neg h]
        have := ih (i + 1) k (by simpa using hk) (by simpa [nth] using hn)
        rw [show (i + 1 + k : Nat) = i + (k + 1) by omega] at this
        rw [this]
        simp [h]
theorem idx_seen {l : List Ent} {k : Nat} (h : k < l.length) : idx l (nth l k).name < k ↔ seenB l k (nth l k).name = true := by
  have := idxFrom_lt l (nth l k).name 0 k h rfl
  rw [Nat.zero_add] at this
  exact this

theorem efault_size {e : Ent} (h : efault e = 0) : e.name.size ≤ 24 := by
  unfold efault at h
  split at h
  · cases h
  · omega

set_option maxHeartbeats 400000 in
theorem check_many (l : List Ent) (ord : Bool) (v : Value) (w : World) (hl : EntS w v l) (h2 : 200 < l.length) :
    Calls Try.prog 33 #[v, .bool ord] w (RetF (2, -1) w) := by
  obtain ⟨A, c, rfl, hm, hA⟩ := hl.out
  clear hA hl
  go_enter Try.func33, Try.ntmps33
  go_wp2
  exact bodyPost_ret (v := .agg #[.int .i64 2, .int .i64 (-1)]) (by simp [results, Try.results33, go_sem]) rfl ⟨rfl, by go_grown⟩

set_option maxRecDepth 100000 in
set_option maxHeartbeats 2000000 in
theorem check_few (l : List Ent) (ord : Bool) (v : Value) (w : World) (hl : EntS w v l) (h2 : l.length ≤ 200) :
    Calls Try.prog 33 #[v, .bool ord] w (RetF (qf l ord) w) := by
  obtain ⟨A, c, rfl, hm, hA⟩ := hl.out
  have HA := Lib.hid hA
  have HL := Lib.hid hl
  clear hA hl
  have hmm := @run_makeMap Try.prog
  go_enter Try.func33, Try.ntmps33
  go_wp2
  clear hmm
  go_loopw [16] (fun i wr => ∃ k : Nat, k ≤ l.length ∧ i = .int .i64 k ∧ (∀ j, j < k → codeAt l ord j = 0) ∧ Ext (w.alloc (.cells #[.int .i64 0, .int .i64 0] 24)) wr ∧
      ∃ S, SetM Try.prog 9 4 wr (w.heap.size + 1) k S ∧ ∀ s, inS s S = seenB l k s) (fun i _ => l.length - (intOf i).toNat)
  case atStart => exact ⟨0, by omega, rfl, by omega, Ext.new _ _, [], by simpa using SetM.made Try.prog 9 4 (w.alloc (.cells #[.int .i64 0, .int .i64 0] 24)), fun s => by rw [seenB_zero]; rfl⟩
  case round =>
    obtain ⟨k, hk, rfl, h0, hb, S, hS, hSS⟩ := hrel
    have H0 := Lib.hid h0
    have HB := Lib.hid hb
    have HS := Lib.hid hS
    have HSS := Lib.hid hSS
    clear h0 hb hS hSS
    by_cases hlt : k < l.length
    · obtain ⟨g, off, rfl, hc⟩ := HA.out (by omega)
      have hx : Ext w wr := (Ext.new w _).tr HB.out
      have HX := Lib.hid hx
      have hc0 := (hc.ext hx k hlt).1
      have hc1 := (hc.ext hx k hlt).2
      have HC := Lib.hid (hc.ext hx)
      have hgl := World.block_lt_of_cell? wr _ hc0
      simp only at hgl
      clear hx hc
      go_wp2_with fail
      refine (entry44_any _ _ _).mono ?_
      rintro e w1 ⟨rfl, hb1⟩
      have HB1 := Lib.hid (HB.out.tr ((Ext.new wr _).tr hb1))
      have HS1 := Lib.hid (HS.out.ext ((Ext.new wr _).tr hb1))
      have hcl := HC.out.ext ((Ext.new wr (.cells #[.string (nth l k).name, .int .i64 (nth l k).rank] 40)).tr hb1)
      have HCL := Lib.hid hcl
      have he0 : w1.cell? ⟨wr.heap.size, 0, none⟩ = some (.string (nth l k).name) := hb1.cellAt (by simp)
      have he1 : w1.cell? ⟨wr.heap.size, 1, none⟩ = some (.int .i64 (nth l k).rank) := hb1.cellAt (by simp)
      clear hcl hb1
      by_cases he : efault (nth l k) = 0
      · have he' : efault { name := (nth l k).name, rank := (nth l k).rank } = 0 := he
        rw [he']
        have HE := Lib.hid he
        have HIS := Lib.hid (idx_seen (l := l) hlt)
        have hlook := HS1.out.look (t := 74) Try.underlying9 Try.underlying4 Try.underlying74 (zero4 _) (nth l k).name (by simp only [maxLen]; have := efault_size he; omega)
        by_cases hi : seenB l k (nth l k).name = true
        · have hin : inS (nth l k).name S = true := by rw [HSS.out]; exact hi
          have HCo := Lib.hid (codeAt_r (ord := ord) he (HIS.out.2 hi))
          obtain ⟨hc, hf⟩ := bcell HB1.out
          clear he he' hi
          go_wp2
          refine bodyPost_ret (v := .agg #[.int .i64 8, .int .i64 k]) (by simp [results, Try.results33, go_sem, hc]) rfl ?_
          exact ⟨by rw [qf_found h2 hlt H0.out (by rw [HCo.out]; decide), HCo.out], (((Ext.new w _).tr HB1.out).set (by simp) _).set (by simp) _⟩
        · have hin : inS (nth l k).name S = false := by rw [HSS.out]; simpa using hi
          have hi2 : ¬ idx l (nth l k).name < k := fun h => hi (HIS.out.1 h)
          have HI := Lib.hid hi2
          clear hi hi2 he he'
          cases ord with
          | false =>
            have HCo := Lib.hid (codeAt_z (ord := false) HE.out (by have := HI.out; omega) (by simp))
            go_wp2_with fail
            go_quiet (fail)
            obtain ⟨w4, hup, hset, hgr⟩ := (HS1.out.ext ((Ext.rfl_ w1).drewN' nq)).put (t := 74) Try.underlying9 Try.underlying4 Try.underlying74 (by simp only [maxLen]; omega) (nth l k).name (by simp only [maxLen]; have := efault_size HE.out; omega)
            have HSet := Lib.hid hset
            have HG := Lib.hid hgr
            clear hset hgr
            go_wp2
            go_roundw
            case rel => exact ⟨k + 1, by omega, by go_num, fun j hj => by
              by_cases e : j = k
              · subst e; exact HCo.out
              · exact H0.out j (by omega), (HB1.out.drewN' _).grow HG.out (by intro k hk; simp at hk; subst hk; simp), _, HSet.out, fun s => by rw [inS_cons, seenB_succ hlt, HSS.out s]⟩
            case measure => simp [intOf]; omega
          | true =>
            by_cases hk0 : k = 0
            · subst hk0
              have HCo := Lib.hid (codeAt_z (ord := true) HE.out (by have := HI.out; omega) (by simp))
              go_wp2_with fail
              go_quiet (fail)
              obtain ⟨w4, hup, hset, hgr⟩ := (HS1.out.ext ((Ext.rfl_ w1).drewN' nq)).put (t := 74) Try.underlying9 Try.underlying4 Try.underlying74 (by simp only [maxLen]; omega) (nth l 0).name (by simp only [maxLen]; have := efault_size HE.out; omega)
              have HSet := Lib.hid hset
              have HG := Lib.hid hgr
              clear hset hgr
              go_wp2
              go_roundw
              case rel => exact ⟨0 + 1, by omega, by go_num, fun j hj => by
                by_cases e : j = 0
                · subst e; exact HCo.out
                · exact H0.out j (by omega), (HB1.out.drewN' _).grow HG.out (by intro k hk; simp at hk; subst hk; simp), _, HSet.out, fun s => by rw [inS_cons, seenB_succ hlt, HSS.out s]⟩
              case measure => simp [intOf]; omega
            · have b0 : (0 : Int) ≤ (k : Int) := by omega
              have b1 : (k : Int) < (l.length : Int) := by omega
              have b2 : (0 : Int) < (k : Int) := by omega
              obtain ⟨m, hmk⟩ : ∃ m, m = (k - 1) / 2 := ⟨_, rfl⟩
              have hd2 := (HCL.out m (by omega)).1
              have hd3 := (HCL.out m (by omega)).2
              have s1 : IntKind.i64.wrap ((k : Int) - 1) = (k : Int) - 1 := IntWalk.i64_in _ (by omega)
              have s2 : ((k : Int) - 1).tdiv 2 = (m : Int) := by
                rw [Int.tdiv_eq_ediv_of_nonneg (by omega)]; omega
              have s3 : IntKind.i64.wrap (m : Int) = (m : Int) := IntWalk.i64_in _ (by omega)
              have s4 : (0 : Int) ≤ (m : Int) := by omega
              have s5 : (m : Int) < (l.length : Int) := by omega
              have kd1 : decide ((0 : Int) < (k : Int)) = true := by simpa using b2
              have kd2 : decide (0 < k) = true := by simp; omega
              have HW := Lib.hid (And.intro s1 (And.intro s2 s3))
              have HM := Lib.hid hmk
              clear s1 s2 s3 hmk
              go_wp2_with fail
              obtain ⟨s1, s2, s3⟩ := HW.out
              go_region_held3 (fun w' => w'.cell? ⟨wr.heap.size, 0, none⟩ = some (.string (nth l k).name) ∧ w'.cell? ⟨wr.heap.size, 1, none⟩ = some (.int .i64 (nth l k).rank) ∧ w'.cell? ⟨g, off + m * 2, none⟩ = some (.string (nth l m).name) ∧ w'.cell? ⟨g, off + m * 2 + 1, none⟩ = some (.int .i64 (nth l m).rank)) (first | exact ⟨he0, he1, hd2, hd3⟩ | exact ⟨hb2.cellAt he0, hb2.cellAt he1, hb2.cellAt hd2, hb2.cellAt hd3⟩ | go_keep)
                (first | (go_at_call 48; refine (compare_E (nth l k) (nth l m) _).mono ?_; rintro e w' ⟨rfl, hb2⟩))
              clear s1 s2 s3
              have HB2 := Lib.hid (HB1.out.tr hb2.ud)
              have he0' := hb2.cellAt he0
              have he1' := hb2.cellAt he1
              have HS2 := Lib.hid (HS1.out.ext hb2.ud)
              clear hb2
              by_cases ha : lt (nth l k) (nth l m) = true
              · have HCo := Lib.hid (codeAt_o (ord := true) HE.out (by have := HI.out; omega) ⟨rfl, by omega, by rw [← HM.out, ha]⟩)
                have hcm : cmpEnt (nth l k) (nth l m) < 0 := (cmp_lt _ _).2 ha
                obtain ⟨hc, hf⟩ := bcell HB2.out
                clear ha
                go_wp2
                refine bodyPost_ret (v := .agg #[.int .i64 11, .int .i64 k]) (by simp [results, Try.results33, go_sem, hc]) rfl ?_
                exact ⟨by rw [qf_found h2 hlt H0.out (by rw [HCo.out]; decide), HCo.out], (((Ext.new w _).tr HB2.out).set (by simp) _).set (by simp) _⟩
              · have HCo := Lib.hid (codeAt_z (ord := true) HE.out (by have := HI.out; omega) (by rw [← HM.out]; simp [ha]))
                have hcm : ¬ cmpEnt (nth l k) (nth l m) < 0 := fun h => ha ((cmp_lt _ _).1 h)
                have hcm' : 0 ≤ cmpEnt (nth l k) (nth l m) := by omega
                clear ha hcm
                obtain ⟨w4, hup, hset, hgr⟩ := (HS2.out).put (t := 74) Try.underlying9 Try.underlying4 Try.underlying74 (by simp only [maxLen]; omega) (nth l k).name (by simp only [maxLen]; have := efault_size HE.out; omega)
                have HSet := Lib.hid hset
                have HG := Lib.hid hgr
                clear hset hgr
                go_wp2
                go_roundw
                case rel => exact ⟨k + 1, by omega, by go_num, fun j hj => by
                  by_cases e : j = k
                  · subst e; exact HCo.out
                  · exact H0.out j (by omega), (HB2.out).grow HG.out (by intro k hk; simp at hk; subst hk; simp), _, HSet.out, fun s => by rw [inS_cons, seenB_succ hlt, HSS.out s]⟩
                case measure => simp [intOf]; omega
      · have hne' : (efault { name := (nth l k).name, rank := (nth l k).rank } != 0) = true := by simpa using he
        have HCo := Lib.hid (codeAt_e (ord := ord) he)
        have HE := Lib.hid he
        clear he
        obtain ⟨hc, hf⟩ := bcell HB1.out
        go_wp2
        refine bodyPost_ret (v := .agg #[.int .i64 (efault (nth l k)), .int .i64 k]) (by simp [results, Try.results33, go_sem, hc]) rfl ?_
        exact ⟨by rw [qf_found h2 hlt H0.out (by rw [HCo.out]; exact HE.out), HCo.out], (((Ext.new w _).tr HB1.out).set (by simp) _).set (by simp) _⟩
    · have hb2 := HB.out
      obtain ⟨hc, hf⟩ := bcell hb2
      clear hb2
      go_wp2
      refine bodyPost_ret (v := .agg #[.int .i64 0, .int .i64 0]) (by simp [results, Try.results33, go_sem, hc]) rfl ?_
      exact ⟨by rw [qf_none h2 (fun j hj => H0.out j (by omega))], (((Ext.new w _).tr HB.out).set (by simp) _).set (by simp) _⟩
end Go.Proofs.Ytefeiogbaiodnaa

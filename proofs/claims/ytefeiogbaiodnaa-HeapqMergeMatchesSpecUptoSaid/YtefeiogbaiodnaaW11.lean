/- Walks of the reference's Sorted, Queue, Ints; the sizes that the calls need are premises. -/
import Derived.Test.YtefeiogbaiodnaaW10
namespace Go.Proofs.Ytefeiogbaiodnaa
open Go.RowKit

/-- the slice v does not lie in this row -/
def Off (v : Value) (row : Option Nat) : Prop := ∀ g off n c, v = .slice (some ⟨g, off, none⟩) n c → row ≠ some g
theorem EntS.g {w w' : World} {v : Value} {l : List Ent} {row : Option Nat} (h : EntS w v l) (hg : w.grownBy w' row) (ha : Off v row) : EntS w' v l := by
  obtain ⟨A, c, rfl, hl, hc, hm, hx⟩ := h
  refine ⟨A, c, rfl, hl, hc, hm, fun h0 => ?_⟩
  obtain ⟨g, off, rfl, hcell⟩ := hx h0
  exact ⟨g, off, rfl, fun j u hu => hg.cell (hcell j u hu) (fun e => ha g off _ _ rfl e.symm)⟩

theorem sortF_step {l : List Ent} {f : Nat} (h : l ≠ []) : sortF (f + 1) l = nth l (first l) :: sortF f (wout l (first l)) := by rw [sortF, if_neg h]

set_option maxRecDepth 100000 in
set_option maxHeartbeats 2000000 in
theorem sorted_t (l : List Ent) (v : Value) (w : World) (hl : EntS w v l) (hm : l.length ≤ 100000) : Calls Try.prog 21 #[v] w (RetOwn w (sorted l)) := by
  obtain ⟨i0, hi, hz0, hz1, hz2⟩ := info_parts info40
  have HL := Lib.hid hl
  have hof : Off v none := fun g off n c _ => by simp
  have HOf := Lib.hid hof
  clear hl hof
  go_enter Try.func21, Try.ntmps21
  go_wp2
  go_loopg [0, 3] l.length (fun m vl vo wr => ∃ (l' out : List Ent), EntS wr vl l' ∧ l'.length = m ∧ OwnE wr w.heap.size vo out ∧ Off vl vo.ownBlock ∧ out ++ sortF m l' = sorted l ∧ out.length + m = l.length ∧ Ext w wr)
  case atStart => exact ⟨l, [], HL.out, rfl, World.ownsRow_nil _ _ _ _, HOf.out, rfl, by simp, Ext.rfl_ _⟩
  case round =>
    obtain ⟨l', out, hs, hlm, ho, hoff, hsr, htot, hb⟩ := hrel
    obtain ⟨A, c, rfl, hmax, hA⟩ := hs.out
    have HS := Lib.hid hs
    have HO := Lib.hid ho
    have HOff := Lib.hid hoff
    have HSr := Lib.hid hsr
    have HB := Lib.hid hb
    have HLm := Lib.hid hlm
    have HA := Lib.hid hA
    have hle : l'.length ≤ l.length := by omega
    have hle2 : out.length + l'.length = l.length := by omega
    have HTot := Lib.hid hle2
    clear hs ho hoff hsr hb hA hlm htot hle2
    by_cases h0 : l'.length = 0
    · have hn : l' = [] := List.length_eq_zero_iff.1 h0
      subst hn
      go_wp2
      go_ret
      refine ⟨_, rfl, ?_, HB.out⟩
      rw [← HSr.out, ← HLm.out]
      simpa [sortF] using HO.out
    · have hpos : 0 < l'.length := by omega
      have hne : l' ≠ [] := by intro e; subst e; simp at h0
      go_wp2_with fail
      refine (first_any l' _ _ HS.out).mono ?_
      rintro e w1 ⟨rfl, hb1⟩
      obtain ⟨k, hk⟩ : ∃ k, k = first l' := ⟨_, rfl⟩
      have hkl : k < l'.length := by rw [hk]; exact first_lt hne
      have HSt := Lib.hid (sortF_step (f := l'.length - 1) hne)
      rw [← hk]
      have HK := Lib.hid hk
      obtain ⟨g, off, rfl, hcl⟩ := HA.out hpos
      have hcl' := HS.out.ext hb1
      obtain ⟨A2, c2, hv2, _, hA2⟩ := hcl'.out
      injection hv2 with hv2a _ hv2c
      subst hv2a
      obtain ⟨g2, off2, hg2, hcl2⟩ := hA2 hpos
      injection hg2 with hg2
      injection hg2 with e1 e2
      subst e1; subst e2
      have c0 := (hcl2 k hkl).1
      have c1 := (hcl2 k hkl).2
      have HS1 := Lib.hid hcl'
      have HO1 := Lib.hid (HO.out.kept (hb1.toG none) (by rcases Value.ownBlock _ <;> simp))
      have HB1 := Lib.hid (HB.out.tr hb1)
      have b0 : (0 : Int) ≤ (k : Int) := by omega
      have b1 : (k : Int) < (l'.length : Int) := by omega
      clear hk hcl hcl' hA2 hcl2 hb1 hv2c hne h0
      go_wp2_with (at_builtin; refine wpList_append_rd _ rfl _ _ 22 rfl w.heap.size 40 i0 _ 2 24 Try.underlying22 hi hz0 hz1 hz2 rfl (by decide) _ out.length (flatE out) rfl ?h1 (.slice (some ⟨w1.heap.size, 0, none⟩) 1 1) 1 (flatE [nth l' k]) rfl ?h2 (flatE_one _) ?h3 ?h4 ?h5 ?_)
      case h1 => exact HO1.out.alloc _
      case h2 => exact ⟨some ⟨w1.heap.size, 0, none⟩, 1, rfl, rfl, Nat.le_refl _, by simp [maxLen], fun _ => ⟨w1.heap.size, 0, rfl, fun j u hu => by
        match j, hu with
        | 0, hu => injection hu with hu; subst hu; simp
        | 1, hu => injection hu with hu; subst hu; simp⟩⟩
      case h3 => simp only [maxLen]; have := HTot.out; omega
      case h4 => have := HTot.out; omega
      case h5 => have := HB1.out.size; simp; omega
      intro v2 w2 hown hgr hat
      have hlt := HO1.out.lt
      have HB2 := Lib.hid ((HB1.out.alloc' _).grow hgr (fun q hq => (hlt q hq).1))
      have HO2 := Lib.hid hown
      have HS2 := Lib.hid ((HS1.out.ext (Ext.new w1 (.cells #[.string (nth l' k).name, .int .i64 (nth l' k).rank] 40))).g hgr HOff.out)
      clear hown hgr hlt c0 c1
      go_wp2_with fail
      refine (refWithout_t l' k _ _ HS2.out hkl (by omega)).mono ?_
      rintro e w3 ⟨v3, rfl, ho3, hb3⟩
      have HO3 := Lib.hid ho3
      have HB3 := Lib.hid (HB2.out.tr hb3)
      have HOut3 := Lib.hid (HO2.out.kept (hb3.toG none) (by rcases Value.ownBlock _ <;> simp))
      have hlt2 := HO2.out.lt
      have HOff3 : Hid (Off v3 v2.ownBlock) := Lib.hid (fun g off n c hv e => by
        have h1 := hlt2 g e
        have h2 := ho3.lt g (by rw [hv]; rfl)
        omega)
      clear ho3 hb3 hlt2 hat
      go_wp2
      go_roundg (l'.length - 1)
      case measure => have := HLm.out; omega
      case rel =>
        refine ⟨wout l' k, out ++ [nth l' k], HO3.out.ents, wout_len hkl, ?_, HOff3.out, ?_, ?_, HB3.out⟩
        · unfold OwnE
          rw [List.length_append, flatE_append]
          exact HOut3.out
        · rw [← HSr.out, ← HLm.out, List.append_assoc]
          have h1 := HSt.out
          rw [show l'.length - 1 + 1 = l'.length by omega] at h1
          rw [h1, HK.out]; rfl
        · have := HTot.out; simp; omega

theorem field24 (a b : Int) (w : World) : (Instr.field 24 (.agg #[.int .i64 a, .int .i64 b]) 0).run Try.prog w = .ok (.int .i64 a) w := by kernel_rfl

set_option maxRecDepth 100000 in
set_option maxHeartbeats 1000000 in
theorem queue_t (q l : List Ent) (vq vl : Value) (w : World) (hq : EntS w vq q) (hl : EntS w vl l) (hm : l.length ≤ 100000) :
    Calls Try.prog 14 #[vq, vl] w fun e w' => e = .returned (.bool (decide ((qf q true).1 = 0) && decide (sorted q = sorted l))) ∧ Ext w w' := by
  have HQ := Lib.hid hq
  have HL := Lib.hid hl
  obtain ⟨f, hf⟩ : ∃ f, f = qf q true := ⟨_, rfl⟩
  have HF := Lib.hid hf
  rw [← hf]
  clear hq hl hf
  by_cases h0 : f.1 = 0
  · have h1 : (f.1 == 0) = true := by simpa using h0
    have hq2 : q.length ≤ 200 := qf_len (ord := true) (by rw [← HF.out]; exact h0)
    have H0 := Lib.hid h0
    clear h0
    have hfd := field24
    go_enter Try.func14, Try.ntmps14
    go_wp2_with fail
    refine (queueFault_any q true _ _ HQ.out).mono ?_
    rw [← HF.out]
    rintro e w1 ⟨rfl, hb1⟩
    go_wp2_with fail
    refine (sorted_t q _ _ (HQ.out.ext hb1) (by omega)).mono ?_
    rintro e w2 ⟨v2, rfl, ho2, hb2⟩
    go_wp2_with fail
    refine (sorted_t l _ _ (HL.out.ext (hb1.tr hb2)) hm).mono ?_
    rintro e w3 ⟨v3, rfl, ho3, hb3⟩
    go_wp2_with fail
    refine (entries_any (sorted q) (sorted l) _ _ _ (ho2.ents.ext hb3) ho3.ents).mono ?_
    rintro e w4 ⟨rfl, hb4⟩
    go_wp2
    go_ret
    exact ⟨ret_bool (by rw [H0.out]; simp), hb1.tr (hb2.tr (hb3.tr hb4))⟩
  · have h1 : (f.1 == 0) = false := by simpa using h0
    have hfd := field24
    go_enter Try.func14, Try.ntmps14
    go_wp2_with fail
    refine (queueFault_any q true _ _ HQ.out).mono ?_
    rw [← HF.out]
    rintro e w1 ⟨rfl, hb1⟩
    go_wp2
    go_ret
    exact ⟨ret_bool (by simp [h0]), hb1⟩
end Go.Proofs.Ytefeiogbaiodnaa

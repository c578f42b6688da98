/- The walk of Drain; no condition. -/
import Derived.Test.YtefeiogbaiodnaaW12
import Derived.Test.YtefeiogbaiodnaaHeap2
namespace Go.Proofs.Ytefeiogbaiodnaa
open Go.RowKit

set_option maxRecDepth 100000 in
set_option maxHeartbeats 1000000 in
theorem drain_bad (l : List Ent) (v : Value) (w : World) (hl : EntS w v l) (h : (qf l true).1 ≠ 0) : Calls Try.prog 19 #[v] w (RetLF [] (qf l true) w) := by
  have HL := Lib.hid hl
  clear hl
  obtain ⟨f, hf⟩ : ∃ f, f = qf l true := ⟨_, rfl⟩
  rw [← hf] at h ⊢
  have hne : (f.1 != 0) = true := by simpa using h
  go_enter Try.func19, Try.ntmps19
  go_wp2_with fail
  refine (validate_any l v _ (HL.out.ext (Ext.new _ _))).mono ?_
  rintro e w1 ⟨rfl, hb⟩
  rw [← hf]
  obtain ⟨hc, hz⟩ := bcell hb
  have hs : w.heap.size < w1.heap.size := by have := hb.size; simp at this; omega
  have HB := Lib.hid hb
  clear hb hf
  go_wp2_with fail
  go_region
  go_wp2
  refine bodyPost_ret (v := .tuple #[.slice none 0 0, .agg #[.int .i64 f.1, .int .i64 f.2]]) (by simp [results, Try.results19, go_sem, hc, hs]) rfl ?_
  exact ⟨_, rfl, EntS.nil_ _, (((((Ext.new w _).tr HB.out).set (by simp) _).set (by simp) _).alloc' _).drew'⟩

theorem drainF_step {l : List Ent} {f : Nat} (h : l ≠ []) : drainF (f + 1) l = nth l 0 :: drainF f (woutQ l 0) := by rw [drainF, if_neg h]

set_option maxRecDepth 100000 in
set_option maxHeartbeats 2000000 in
theorem drain_good (l : List Ent) (v : Value) (w : World) (hl : EntS w v l) (h : qf l true = (0, 0)) : Calls Try.prog 19 #[v] w (RetLF (drain l) (0, 0) w) := by
  obtain ⟨i0, hi, hz0, hz1, hz2⟩ := info_parts info40
  have h200 : l.length ≤ 200 := qf_len (ord := true) (by rw [h])
  have HL := Lib.hid hl
  have HF := Lib.hid h
  clear hl h
  go_enter Try.func19, Try.ntmps19
  go_wp2_with fail
  refine (validate_any l v _ (HL.out.ext (Ext.new _ _))).mono ?_
  rw [HF.out]
  rintro e w1 ⟨rfl, hb⟩
  have hs : w.heap.size < w1.heap.size := by have := hb.size; simp at this; omega
  have HB := Lib.hid hb
  clear hb
  go_wp2_with fail
  refine (clone_t l v _ (HL.out.ext (((Ext.new _ _).tr HB.out).alloc' _)) (by omega)).mono ?_
  rintro e w2 ⟨v', rfl, ho, hb2⟩
  have HO := Lib.hid ho
  have HB2 := Lib.hid (((HB.out).alloc' _).tr hb2)
  have hbase : (w.alloc (.cells #[.int .i64 0, .int .i64 0] 24)).heap.size ≤ (w1.alloc (.cells #[.int .i64 0, .int .i64 0] 24)).heap.size := by simp; omega
  have HO' : Hid (OwnE w2 (w.heap.size + 1) v' l) := Lib.hid ⟨ho.1, by
    rcases ho.2 with h | ⟨g, cap, cur, h1, h2, h3⟩
    · exact .inl h
    · exact .inr ⟨g, cap, cur, h1, by simp at h2; omega, h3⟩⟩
  clear hb2 ho hbase
  go_wp2_with fail
  go_loopg [5, 6] l.length (fun m vl vo wr => ∃ (l' out : List Ent), OwnE wr (w.heap.size + 1) vl l' ∧ l'.length = m ∧ OwnE wr (w.heap.size + 1) vo out ∧ (vl.ownBlock = none ∨ vl.ownBlock ≠ vo.ownBlock) ∧ out ++ drainF m l' = drain l ∧ out.length + m = l.length ∧ Ext (w.alloc (.cells #[.int .i64 0, .int .i64 0] 24)) wr)
  case atStart => exact ⟨l, [], HO'.out, rfl, World.ownsRow_nil _ _ _ _, by rcases Value.ownBlock _ <;> simp [Value.ownBlock], rfl, by simp, HB2.out⟩
  case round =>
    obtain ⟨l', out, hsl, hlm, ho, hoff, hsr, htot, hb⟩ := hrel
    have HSl := Lib.hid hsl
    have HOw := Lib.hid ho
    have HOff := Lib.hid hoff
    have HSr := Lib.hid hsr
    have HBr := Lib.hid hb
    have HLm := Lib.hid hlm
    have hle : l'.length ≤ l.length := by omega
    have hle2 : out.length + l'.length = l.length := by omega
    have HTot := Lib.hid hle2
    clear ho hoff hsr hb hlm htot hle2
    by_cases h0 : l'.length = 0
    · have hn : l' = [] := List.length_eq_zero_iff.1 h0
      subst hn
      obtain ⟨A, c, rfl, _, _⟩ := hsl.ents.out
      obtain ⟨hc, hz⟩ := bcell HBr.out
      clear hsl
      go_wp2
      refine bodyPost_ret (v := .tuple #[u6, .agg #[.int .i64 0, .int .i64 0]]) (by simp [results, Try.results19, go_sem, hc]) rfl ?_
      refine ⟨_, rfl, ?_, (((Ext.new w _).tr HBr.out).set (by simp) _).set (by simp) _⟩
      have hd : out = drain l := by rw [← HSr.out, ← HLm.out]; simp [drainF]
      rw [← hd]
      have he := HOw.out.ents
      have hlt := HOw.out.lt
      refine (he.g (setCell_G (setCell_G (World.grownBy.refl _ (some w.heap.size)) _ _) _ _) ?_)
      intro g off n c hv e
      injection e with e
      have := (hlt g (by rw [hv]; rfl)).1
      omega
    · have hpos : 0 < l'.length := by omega
      have hne : l' ≠ [] := by intro e; subst e; simp at h0
      obtain ⟨g, cap, rfl, hg, hr⟩ := hsl.row hpos
      have HR := Lib.hid hr
      have HSt := Lib.hid (drainF_step (f := l'.length - 1) hne)
      have hcl := hr.cells
      have c0 := (hcl 0 hpos).1
      have c1 := (hcl 0 hpos).2
      simp only [Nat.zero_mul, Nat.add_zero, Nat.zero_add] at c0 c1
      have b1 : (0 : Int) < (l'.length : Int) := by omega
      have hgl : g < wr.heap.size := hr.lt
      clear hr hcl hsl hne h0
      go_wp2_with (at_builtin; refine wpList_append_rd _ rfl _ _ 22 rfl (w.heap.size + 1) 40 i0 _ 2 24 Try.underlying22 hi hz0 hz1 hz2 rfl (by decide) _ out.length (flatE out) rfl ?h1 (.slice (some ⟨wr.heap.size, 0, none⟩) 1 1) 1 (flatE [nth l' 0]) rfl ?h2 (flatE_one _) ?h3 ?h4 ?h5 ?_)
      case h1 => exact HOw.out.alloc _
      case h2 => exact ⟨some ⟨wr.heap.size, 0, none⟩, 1, rfl, rfl, Nat.le_refl _, by simp [maxLen], fun _ => ⟨wr.heap.size, 0, rfl, fun j u hu => by
        match j, hu with
        | 0, hu => injection hu with hu; subst hu; simp
        | 1, hu => injection hu with hu; subst hu; simp⟩⟩
      case h3 => simp only [maxLen]; have := HTot.out; omega
      case h4 => have := HTot.out; omega
      case h5 => have := HBr.out.size; simp at this ⊢; omega
      intro v2 w2' hown hgr hat
      have hlt := HOw.out.lt
      have HB3 := Lib.hid ((HBr.out.alloc' _).grow hgr (fun q hq => by have := (hlt q hq).1; simpa using this))
      have HO3 := Lib.hid hown
      have hng : some g ≠ Value.ownBlock _ := fun e => by
        rcases HOff.out with h | h
        · cases h
        · exact h e
      have HR3 := Lib.hid ((HR.out.ext (Ext.new wr (.cells #[.string (nth l' 0).name, .int .i64 (nth l' 0).rank] 40))).keep (hgr.block g (by simp; omega) hng))
      have HNe : Hid (v2.ownBlock ≠ some g) := Lib.hid (fun e => by
        rcases hat with h | h
        · exact hng (by rw [← h, e])
        · rw [e] at h; injection h with h; omega)
      clear hown hgr hlt c0 c1 hng hat
      go_wp2_with fail
      refine (without_0 l' g cap _ HR3.out hpos (by omega)).mono ?_
      rintro e w4 ⟨rfl, hr4, hg4⟩
      have HR4 := Lib.hid hr4
      have HB4 := Lib.hid (HB3.out.grow hg4 (fun q hq => by injection hq with hq; subst hq; simpa using hg))
      have HO4 := Lib.hid (HO3.out.kept hg4 (.inr HNe.out))
      clear hr4 hg4
      go_wp2
      go_roundg (l'.length - 1)
      case measure => have := HLm.out; omega
      case rel =>
        have hwl : (woutQ l' 0).length = l'.length - 1 := woutQ_len
        refine ⟨woutQ l' 0, out ++ [nth l' 0], ?_, hwl, ?_, .inr (fun e => HNe.out e.symm), ?_, ?_, HB4.out⟩
        · have := HR4.out.own (base := w.heap.size + 1) hg
          rwa [hwl] at this
        · unfold OwnE
          rw [List.length_append, flatE_append]
          exact HO4.out
        · rw [← HSr.out, ← HLm.out, List.append_assoc]
          have h1 := HSt.out
          rw [show l'.length - 1 + 1 = l'.length by omega] at h1
          rw [h1]; rfl
        · have := HTot.out; simp; omega
end Go.Proofs.Ytefeiogbaiodnaa

/- Walks of without, Clone, Validate, Build, Pop. -/
import Derived.Test.YtefeiogbaiodnaaW6
import Derived.Lib.SliceRun
namespace Go.Proofs.Ytefeiogbaiodnaa
open Go.RowKit

theorem RowE.front {w : World} {g cap : Nat} {l : List Ent} (h : RowE w g cap l) {m : Nat} (hm : m ≤ l.length) : RowE w g cap (l.take m) := by
  obtain ⟨cur, h1, h2, h3, h4, h5⟩ := h
  have hl : (l.take m).length = m := by simp; omega
  refine ⟨cur, h1, h2, by omega, h4, ?_⟩
  rw [hl, flatE_take, ← h5, List.take_take, Nat.min_eq_left (by omega)]

theorem ret_sl {A : Option Addr} {a b c : Nat} (h : a = b) : Ending.returned (.slice A a c) = .returned (.slice A b c) := by rw [h]

theorem info40 : (Try.prog.info? 40).map (fun i => (i.zero, i.size, i.bytes)) = some (some (.agg #[.string ByteArray.empty, .int .i64 0]), 2, 24) := by kernel_rfl

set_option maxRecDepth 100000 in
set_option maxHeartbeats 1000000 in
theorem without_t (l : List Ent) (i g cap : Nat) (w : World) (hr : RowE w g cap l) (hi : i < l.length) (hm : l.length ≤ 1000) :
    Calls Try.prog 41 #[.slice (some ⟨g, 0, none⟩) l.length cap, .int .i64 i] w fun e w' => e = .returned (.slice (some ⟨g, 0, none⟩) (l.length - 1) cap) ∧ RowE w' g cap (woutQ l i) ∧ w.grownBy w' (some g) := by
  have hcap : l.length ≤ cap := by obtain ⟨cur, h1, h2, h3, h4, h5⟩ := hr; exact h3
  obtain ⟨n, hn⟩ : ∃ n, n = l.length - 1 := ⟨_, rfl⟩
  have e1 : (l.length : Int) - 1 = (n : Int) := by omega
  have e2 : IntKind.i64.wrap ((l.length : Int) - 1) = (n : Int) := by rw [e1]; exact IntWalk.i64_in _ (by omega)
  have b0 : (0 : Int) ≤ (i : Int) := by omega
  have b1 : (i : Int) < (l.length : Int) := by omega
  have b2 : (0 : Int) ≤ (n : Int) := by omega
  have b3 : (n : Int) < (l.length : Int) := by omega
  have b4 : n ≤ cap := by omega
  have hcl := hr.cells
  have c0 := (hcl i hi).1
  have c1 := (hcl i hi).2
  have c2 := (hcl n (by omega)).1
  have c3 := (hcl n (by omega)).2
  simp only [Nat.zero_add] at c0 c1 c2 c3
  have z0 := hr.froz (i * 2)
  have z1 := hr.froz (i * 2 + 1)
  have HR := Lib.hid ((hr.put (i := i) (nth l n)).front (m := n) (by simp; omega))
  have HN := Lib.hid hn
  have hn1 : n < l.length := by omega
  clear hcl hr
  by_cases hlt : i < n
  · have HV := Lib.hid (show woutQ l i = settle ((l.set i (nth l n)).take n) i by unfold woutQ; rw [← hn, if_pos hlt])
    clear hn
    go_enter Try.func41, Try.ntmps41
    go_wp2_with fail
    have hl : ((l.set i (nth l n)).take n).length = n := by simp; omega
    have hs := settle_t _ i g cap _ HR.out (by rw [hl]; exact hlt) (by rw [hl]; omega)
    rw [hl] at hs
    refine hs.mono ?_
    rintro e w1 ⟨rfl, hr1, hg1⟩
    have HR1 := Lib.hid hr1
    have HG1 := Lib.hid hg1
    clear hs hl hr1 hg1
    go_wp2
    go_ret
    exact ⟨ret_sl HN.out, by rw [HV.out]; exact HR1.out, G.tr (setCell_G (setCell_G (World.grownBy.refl _ _) _ _) _ _) HG1.out⟩
  · have HV := Lib.hid (show woutQ l i = (l.set i (nth l n)).take n by unfold woutQ; rw [← hn, if_neg hlt])
    clear hn
    go_enter Try.func41, Try.ntmps41
    go_wp2
    go_ret
    exact ⟨ret_sl HN.out, by rw [HV.out]; exact HR.out, setCell_G (setCell_G (World.grownBy.refl _ _) _ _) _ _⟩

/-- a new row with these entries is handed back -/
def RetOwn (w : World) (l : List Ent) (e : Ending) (w' : World) : Prop := ∃ v', e = .returned v' ∧ OwnE w' w.heap.size v' l ∧ Ext w w'

set_option maxRecDepth 100000 in
set_option maxHeartbeats 400000 in
theorem clone_t (l : List Ent) (v : Value) (w : World) (hl : EntS w v l) (hm : l.length ≤ 1000000) :
    Calls Try.prog 34 #[v] w (RetOwn w l) := by
  obtain ⟨i0, hi, hz0, hz1, hz2⟩ := info_parts info40
  obtain ⟨A, c, rfl, hm', hA⟩ := hl.out
  rcases A with _ | ad
  · have h0 : l = [] := by
      rcases l with _ | ⟨e, l⟩
      · rfl
      · obtain ⟨g, off, h, _⟩ := hA (by simp)
        cases h
    subst h0
    have heq := fun (w : World) => Lib.run_eql_slice_nil (P := Try.prog) w 22 40 none 0 c 0 0 Try.underlying22
    clear hA hl
    go_enter Try.func34, Try.ntmps34
    go_wp2
    go_ret
    exact ⟨_, rfl, World.ownsRow_nil _ _ _ _, Ext.rfl_ _⟩
  · clear hA
    have HL := Lib.hid hl
    clear hl
    have heq := fun w => Lib.run_eql_slice_nil (P := Try.prog) w 22 40 (some ad) l.length c 0 0 Try.underlying22
    go_enter Try.func34, Try.ntmps34
    go_wp2_with (at_builtin; refine wpList_append_rd _ rfl _ _ 22 rfl w.heap.size 40 i0 _ 2 24 Try.underlying22 hi hz0 hz1 hz2 rfl (by decide) _ 0 [] rfl ?h1 _ l.length (flatE l) rfl ?h2 (flatE_one l) ?h3 ?h4 ?h5 ?_)
    case h1 => exact World.ownsRow_made w #[] 0 (Nat.le_refl _) (by simp [maxLen]) (by simp)
    case h2 => exact HL.out.ext (Ext.new _ _)
    case h3 => simp only [maxLen]; omega
    case h4 => omega
    case h5 => simp
    intro v' w' hown hgr hat
    have HO := Lib.hid hown
    have HG := Lib.hid hgr
    clear hown hgr hat
    go_wp2
    go_ret
    refine ⟨_, rfl, ?_, (Ext.new w _).grow HG.out ?_⟩
    · exact HO.out
    · intro k hk; simp [Value.ownBlock] at hk; omega
end Go.Proofs.Ytefeiogbaiodnaa

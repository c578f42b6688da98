/- Walks of slices.Clone, Grow, Concat at the rows of numbers; the sizes that the calls need are premises of each contract. -/
import Derived.Test.YtefeiogbaiodnaaW9
import Derived.Test.YtefeiogbaiodnaaLst
import Derived.Test.YtefeiogbaiodnaaMrg
import Derived.Lib.AppendZerosOnto
namespace Go.Proofs.Ytefeiogbaiodnaa
open Go.RowKit

theorem info59_row : (Try.prog.info? 59).map (fun i => (i.zero, i.size, i.bytes)) = some (some (.slice none 0 0), 1, 24) := by kernel_rfl

/-- a new row with these cells is handed back -/
def RetRowI (w : World) (n : Nat) (xs : List Value) (e : Ending) (w' : World) : Prop := ∃ v', e = .returned v' ∧ w'.ownsRow w.heap.size 59 1 v' n xs ∧ Ext w w'

set_option maxRecDepth 100000 in
set_option maxHeartbeats 400000 in
theorem cloneI_t (n : Nat) (xs : List Value) (v : Value) (w : World) (hl : Rd w 1 v n xs) (h1 : ∀ u ∈ xs, u.oneCell' = true) (hm : n ≤ 4000000) :
    Calls Try.prog 49 #[v] w (RetRowI w n xs) := by
  obtain ⟨i0, hi, hz0, hz1, hz2⟩ := info_parts info59_row
  have HL := Lib.hid hl
  obtain ⟨A, c, rfl, hlen, hnc, hcm, hA⟩ := hl
  have H1 := Lib.hid h1
  clear h1
  rcases A with _ | ad
  · have h0 : n = 0 := by
      rcases Nat.eq_zero_or_pos n with h | h
      · exact h
      · obtain ⟨g, off, h, _⟩ := hA h
        cases h
    subst h0
    have hx : xs = [] := List.eq_nil_of_length_eq_zero (by simpa using hlen)
    subst hx
    have heq := fun (w : World) => Lib.run_eql_slice_nil (P := Try.prog) w 65 59 none 0 c 0 0 Try.underlying65
    clear hA HL hlen
    go_enter Try.func49, Try.ntmps49
    go_wp2
    go_ret
    exact ⟨_, rfl, World.ownsRow_nil _ _ _ _, Ext.rfl_ _⟩
  · clear hA hlen
    have heq := fun w => Lib.run_eql_slice_nil (P := Try.prog) w 65 59 (some ad) n c 0 0 Try.underlying65
    go_enter Try.func49, Try.ntmps49
    go_wp2_with (at_builtin; refine wpList_append_rd _ rfl _ _ 65 rfl w.heap.size 59 i0 _ 1 24 Try.underlying65 hi hz0 hz1 hz2 rfl (by decide) _ 0 [] rfl ?h1 _ n xs rfl ?h2 H1.out ?h3 ?h4 ?h5 ?_)
    case h1 => exact World.ownsRow_made w #[] 0 (Nat.le_refl _) (by simp [maxLen]) (by simp)
    case h2 => exact HL.out.ext (Ext.new _ _)
    case h3 => simp only [maxLen]; omega
    case h4 => omega
    case h5 => simp
    intro v' w' hown hgr hat
    have HO := Lib.hid hown
    have HG := Lib.hid hgr
    clear hown hgr hat
    go_wp2
    go_ret
    refine ⟨_, rfl, ?_, (Ext.new w _).grow HG.out ?_⟩
    · exact HO.out
    · intro k hk; simp [Value.ownBlock] at hk; omega

set_option maxRecDepth 100000 in
set_option maxHeartbeats 1000000 in
theorem growI_t (n : Nat) (w : World) (hm : n ≤ 4000000) :
    Calls Try.prog 72 #[.slice none 0 0, .int .i64 n] w (RetRowI w 0 []) := by
  obtain ⟨i0, hi, hz0, hz1, hz2⟩ := info_parts info59_row
  by_cases h0 : n = 0
  · subst h0
    go_enter Try.func72, Try.ntmps72
    go_wp2
    go_ret
    exact ⟨_, rfl, World.ownsRow_nil _ _ _ _, Ext.rfl_ _⟩
  · have hrun := fun (w : World) (ty : TypeId) => Lib.run_append_grow_zeros (P := Try.prog) w 65 3 ty 59 i0 _ .i64 .i64 Try.underlying65 Try.underlying3 hi hz0 none 0 0 [] (by exact run_firstCells_none w.drew i0.size 0 0 0) n (by omega) (by omega) (by omega) (by omega) (by rw [hz2]; omega) (by rw [hz2]; exact growslice_fits (by omega) (by omega))
    have hge := grownCap_ge w (0 + n) 0 59
    have hle := grownCap_le_maxLen w (0 + n) 0 59 (by simp only [maxLen]; omega)
    obtain ⟨cp, hcp⟩ : ∃ cp, cp = grownCap w (0 + n) 0 59 := ⟨_, rfl⟩
    have hrun' := fun ty => hrun w ty
    rw [← hcp] at hge hle
    simp only [← hcp] at hrun'
    simp only [Nat.zero_add] at hge hle hrun'
    obtain ⟨cs, hcs⟩ : ∃ cs : Array Value, cs = #[] ++ Builtin.zeroCells (Value.slice none 0 0).cells n ++ Builtin.zeroCells (Value.slice none 0 0).cells (cp - n) := ⟨_, rfl⟩
    simp only [← hcs] at hrun'
    have hsz : cs.size = cp * 1 := by
      rw [hcs]; simp [size_zeroCells, Value.cells]; omega
    have HS := Lib.hid hsz
    have HG := Lib.hid hge
    have HLe := Lib.hid hle
    clear hrun hcs hsz hge hle
    have hn1 : ¬ ((n : Int) < 0) := by omega
    have hn2 : (0 : Int) < (n : Int) := by omega
    go_enter Try.func72, Try.ntmps72
    have HRun := Lib.hid hrun'
    have HC := Lib.hid hcp
    have b1 : 0 ≤ cp := Nat.zero_le _
    clear hrun' hcp
    go_wp2_with (at_builtin; refine wpList_append_run rfl _ _ 65 3 rfl _ _ _ _ rfl rfl (HRun.out _) ?_)
    go_ret
    exact ⟨_, rfl, World.ownsRow_made w.drew cs cp (Nat.le_refl _) HLe.out HS.out, ((Ext.rfl_ w).drew').alloc' _⟩

theorem growI_i (m : Int) (w : World) (h0 : 0 ≤ m) (hm : m ≤ 4000000) : Calls Try.prog 72 #[.slice none 0 0, .int .i64 m] w (RetRowI w 0 []) := by
  obtain ⟨n, rfl⟩ := Int.eq_ofNat_of_zero_le h0
  exact growI_t n w (by omega)

set_option maxRecDepth 100000 in
set_option maxHeartbeats 2000000 in
theorem concatI_t (g na nb : Nat) (va vb : Value) (xa xb : List Value) (w : World) (c0 : w.cell? ⟨g, 0, none⟩ = some va) (c1 : w.cell? ⟨g, 1, none⟩ = some vb)
    (ha : Rd w 1 va na xa) (hb : Rd w 1 vb nb xb) (h1 : ∀ u ∈ xa, u.oneCell' = true) (h2 : ∀ u ∈ xb, u.oneCell' = true) (hm : na + nb ≤ 4000000) :
    Calls Try.prog 64 #[.slice (some ⟨g, 0, none⟩) 2 2] w (RetRowI w (na + nb) (xa ++ xb)) := by
  obtain ⟨i0, hi, hz0, hz1, hz2⟩ := info_parts info59_row
  have HA := Lib.hid ha
  have HB := Lib.hid hb
  obtain ⟨Aa, ca, rfl, _, _, _, _⟩ := ha
  obtain ⟨Ab, cb, rfl, _, _, _, _⟩ := hb
  have H1 := Lib.hid h1
  have H2 := Lib.hid h2
  have HC0 := Lib.hid c0
  have HC1 := Lib.hid c1
  clear h1 h2
  have p0 : ¬ ((na : Int) < 0) := by omega
  have p1 : ¬ ((na : Int) + (nb : Int) < 0) := by omega
  go_enter Try.func64, Try.ntmps64
  go_wp2
  refine wp_loop_rounds 3 ?_
  rw [rounds_succ]
  go_wp2
  rw [rounds_succ]
  go_wp2
  rw [rounds_succ]
  go_wp2_with fail
  refine (growI_i _ _ (by omega) (by omega)).mono ?_
  rintro e w1 ⟨v1, rfl, ho1, hb1⟩
  have HO1 := Lib.hid ho1
  have HB1 := Lib.hid hb1
  have d0 := hb1.cellAt c0
  have d1 := hb1.cellAt c1
  clear ho1 hb1 c0 c1
  go_wp2_with fail
  refine wp_loop_rounds 3 ?_
  rw [rounds_succ]
  go_wp2_with (at_builtin; refine wpList_append_rd _ rfl _ _ 65 rfl w.heap.size 59 i0 _ 1 24 Try.underlying65 hi hz0 hz1 hz2 rfl (by decide) _ 0 [] rfl HO1.out _ na xa rfl ?h2 H1.out ?h3 ?h4 ?h5 ?_)
  case h2 => exact HA.out.ext HB1.out
  case h3 => simp only [maxLen]; omega
  case h4 => omega
  case h5 => exact HB1.out.size
  intro v2 w2 hown hgr hat
  have hlt := HO1.out.lt
  have HB2 := Lib.hid (HB1.out.grow hgr (fun k hk => (hlt k hk).1))
  have HO2 : Hid (w2.ownsRow w.heap.size 59 1 v2 na xa) := Lib.hid (by simpa using hown)
  have d0' := HB2.out.cellAt HC0.out
  have d1' := HB2.out.cellAt HC1.out
  clear hown hgr hat hlt d0 d1
  go_wp2
  rw [rounds_succ]
  go_wp2_with (at_builtin; refine wpList_append_rd _ rfl _ _ 65 rfl w.heap.size 59 i0 _ 1 24 Try.underlying65 hi hz0 hz1 hz2 rfl (by decide) _ na xa rfl HO2.out _ nb xb rfl ?h6 H2.out ?h7 ?h8 ?h9 ?_)
  case h6 => exact HB.out.ext HB2.out
  case h7 => simp only [maxLen]; omega
  case h8 => omega
  case h9 => exact HB2.out.size
  intro v3 w3 hown hgr hat
  have hlt := HO2.out.lt
  have HB3 := Lib.hid (HB2.out.grow hgr (fun k hk => (hlt k hk).1))
  have HO3 := Lib.hid hown
  clear hown hgr hat hlt d0' d1'
  go_wp2
  rw [rounds_succ]
  go_wp2
  go_ret
  exact ⟨_, rfl, HO3.out, HB3.out⟩
end Go.Proofs.Ytefeiogbaiodnaa

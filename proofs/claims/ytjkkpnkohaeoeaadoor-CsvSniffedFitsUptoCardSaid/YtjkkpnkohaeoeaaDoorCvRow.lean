/- The arguments of the laws on tables, opened as plain data; a world that lays the listed tables; no condition. -/
import Derived.Test.YtjkkpnkohaeoeaaDoorAmRow
import Derived.Test.YtjkkpnkohaeoeaaDoorCvA
import Derived.WalkKit
import Derived.ProofKit
import Derived.OpenShut
import Derived.Deep.DeepHandedRow
import Derived.Lib.LaidTab
set_option linter.all false
set_option linter.unusedSimpArgs false
set_option linter.unusedVariables false
namespace Go.Proofs.YtjkkpnkohaeoeaaDoor
open Go.ChangeShapes Go.WideShapes Go.ChangeAt Go.RowKit Go.Deep

theorem sOwn : ownKnob Tryd.prog.godebug = none := by kernel_rfl
theorem sLaid : laidOutB Tryd.prog = true := by kernel_rfl
abbrev Strs : Type := List (List UInt8)
section
variable {H : Type} {enc : TypeId × Value → H} {w : World} {base : Nat} {spare : Nat → Bool} {held : Bool} {fuel : Nat} {v : Value} {x : DataW H × List MemPlace}
theorem cellsStr : Tryd.prog.cellsOf 9 = 1 := by kernel_rfl
theorem cellsStrs : Tryd.prog.cellsOf 39 = 1 := by kernel_rfl
theorem bytesStr : Tryd.prog.bytesOf 9 = 16 := by kernel_rfl
theorem bytesStrs : Tryd.prog.bytesOf 39 = 24 := by kernel_rfl
abbrev WS (l : Strs) : Prop := l.length * Tryd.prog.bytesOf 9 ≤ reachBytes ∧ ∀ a ∈ l, a.length ≤ reachBytes
abbrev qS (l : Strs) : Nat := (l.map fun a => a.length + 1).sum + 1
abbrev WT (l : List Strs) : Prop := l.length * Tryd.prog.bytesOf 39 ≤ reachBytes ∧ ∀ a ∈ l, WS a
abbrev qT (l : List Strs) : Nat := (l.map qS).sum + 1
theorem open_strs (h : DataW.trod enc Tryd.prog w base spare held fuel 39 [v] = some x) : ∃ l : Strs, OpenAs Tryd.prog w 39 aS WS qS [v] x.1 l :=
  open_list AV.str _ _ Tryd.underlying39 cellsStr (by decide) (fun a => ⟨rfl, fun y hy => by simp [AV.cells] at hy; subst hy; rfl⟩) (fun k cs y _ hy => open_strA Tryd.underlying9 hy) h
theorem open_tab (h : DataW.trod enc Tryd.prog w base spare held fuel 22 [v] = some x) : ∃ l : List Strs, OpenAs Tryd.prog w 22 aT WT qT [v] x.1 l :=
  open_list aS _ _ Tryd.underlying22 cellsStrs (by decide) (fun a => ⟨rfl, fun y hy => by simp [AV.cells] at hy; subst hy; rfl⟩) (fun k cs y hc hy => by
    rcases cs with _ | ⟨c, _ | ⟨_, _⟩⟩
    · cases hc
    · exact open_strs hy
    · simp at hc) h
end
theorem str_reach {s : List UInt8} (h : s.length ≤ reachBytes) : s.length ≤ 140737488355328 := Nat.le_trans h (by decide)
theorem strs_reach {l : Strs} (h : WS l) : l.length ≤ 8796093022208 ∧ ∀ a ∈ l, a.length ≤ 140737488355328 := by
  obtain ⟨h1, h2⟩ := h
  rw [bytesStr] at h1
  refine ⟨?_, fun a ha => str_reach (h2 a ha)⟩
  have : reachBytes ≤ 140737488355328 := by decide
  omega
theorem tab_reach {l : List Strs} (h : WT l) : l.length ≤ 140737488355328 ∧ ∀ a ∈ l, a.length ≤ 8796093022208 ∧ ∀ s ∈ a, s.length ≤ 140737488355328 := by
  obtain ⟨h1, h2⟩ := h
  rw [bytesStrs] at h1
  refine ⟨?_, fun a ha => strs_reach (h2 a ha)⟩
  have : reachBytes ≤ 140737488355328 := by decide
  omega
theorem reps_one {w : World} {v : Value} {x : AV} (h : RepL (ghW w) [v] [x]) : Rep (ghW w) v x := by cases h; assumption

def layAs (l : List Int) : Obj → Obj
  | .cells _ t frozen => .cells (l.map fun n => Value.int .u8 n).toArray t frozen
  | o => o
/-- the settled world, the listed tables holding what their initialisers lay -/
noncomputable def laidWorld (os : Os) : World :=
  { World.holding Tryd.prog os ⟨#[], #[], []⟩ with heap := ((World.holding Tryd.prog os ⟨#[], #[], []⟩).heap.modify 1 (layAs (Go.Pinned.utf8FirstZ.map Int.ofNat))).modify 2 (layAs [128, 191, 160, 191, 128, 159, 144, 191, 128, 143, 0, 0, 0, 0, 0, 0, 0, 0, 0, 0, 0, 0, 0, 0, 0, 0, 0, 0, 0, 0, 0, 0]) }
theorem fsDia : (Tryd.prog.fieldsOf 24).toList.map (fun f => (f.type, f.offset, Tryd.prog.cellsOf f.type)) = [(5, 0, 1), (5, 1, 1), (4, 2, 1), (4, 3, 1)] := by kernel_rfl
theorem undDia : Tryd.prog.underlying 24 = some (.struct (Tryd.prog.fieldsOf 24)) := by kernel_rfl
theorem cellsDia : Tryd.prog.cellsOf 24 = 4 := by kernel_rfl
theorem four_of {α : Type} {l : List α} (h : l.length = 4) : ∃ a b c d, l = [a, b, c, d] := by
  rcases l with _ | ⟨a, _ | ⟨b, _ | ⟨c, _ | ⟨d, _ | ⟨e, l⟩⟩⟩⟩⟩
  · cases h
  · cases h
  · cases h
  · cases h
  · exact ⟨a, b, c, d, rfl⟩
  · simp at h
theorem u8_of {n : Int} (h : (Lit.int .u8 n).wf = true) : ∃ b : UInt8, (b.toNat : Int) = n := by
  have h1 : 0 ≤ n ∧ n ≤ 255 := by
    simp [Lit.wf, IntKind.min, IntKind.max, IntKind.bits, IntKind.signed] at h
    omega
  refine ⟨UInt8.ofNat n.toNat, ?_⟩
  have : n.toNat % 256 = n.toNat := Nat.mod_eq_of_lt (by omega)
  simp [UInt8.toNat_ofNat', this]
  omega
theorem open_dia {H : Type} {enc : TypeId × Value → H} {w : World} {base b0 : Nat} {spare : Nat → Bool} {held : Bool} {r : Reach} {v : Value} {fuel : Nat} {x : DataW H × List MemPlace}
    (hv : Value.okWide Tryd.prog w r b0 24 v) (hf : DataW.trod enc Tryd.prog w base spare held fuel 24 v.cells.toList = some x) : ∃ d : Dia, Rep (ghW w) v (aD d) := by
  obtain ⟨cs, rfl, hsz⟩ := okWide_struct undDia hv
  obtain ⟨ys, m, _, _, hcl, hyl, hf⟩ := DataW.trod_struct undDia hf
  have hfs := fsDia
  obtain ⟨f0, f1, f2, f3, hq⟩ := four_of (by have := congrArg List.length fsDia; simpa using this : (Tryd.prog.fieldsOf 24).toList.length = 4)
  rw [hq] at hfs
  simp only [List.map_cons, List.map_nil, List.cons.injEq, Prod.mk.injEq, and_true] at hfs
  obtain ⟨⟨t0, o0, k0⟩, ⟨t1, o1, k1⟩, ⟨t2, o2, k2⟩, ⟨t3, o3, k3⟩⟩ := hfs
  have h0 : (Tryd.prog.fieldsOf 24)[0]? = some f0 := by rw [← Array.getElem?_toList, hq]; rfl
  have h1 : (Tryd.prog.fieldsOf 24)[1]? = some f1 := by rw [← Array.getElem?_toList, hq]; rfl
  have h2 : (Tryd.prog.fieldsOf 24)[2]? = some f2 := by rw [← Array.getElem?_toList, hq]; rfl
  have h3 : (Tryd.prog.fieldsOf 24)[3]? = some f3 := by rw [← Array.getElem?_toList, hq]; rfl
  have hn : (Tryd.prog.fieldsOf 24).size = 4 := by rw [← Array.length_toList, hq]; rfl
  have g0 := hf 0 f0 h0
  have g1 := hf 1 f1 h1
  have g2 := hf 2 f2 h2
  have g3 := hf 3 f3 h3
  rw [k0, o0, t0] at g0
  rw [k1, o1, t1] at g1
  rw [k2, o2, t2] at g2
  rw [k3, o3, t3] at g3
  rw [hn] at hyl
  obtain ⟨y0, y1, y2, y3, hys⟩ := four_of hyl
  subst hys
  have hcs : cs.toList.length = 4 := by rw [Array.length_toList, hsz]; exact cellsDia
  obtain ⟨a, b, c, d, hx⟩ := four_of hcs
  simp only [Value.cells, hx] at g0 g1 g2 g3
  obtain ⟨n0, e0, _, w0⟩ := DataW.trod_int Tryd.underlying5 g0
  obtain ⟨n1, e1, _, w1⟩ := DataW.trod_int Tryd.underlying5 g1
  obtain ⟨n2, e2, _⟩ := DataW.trod_bool Tryd.underlying4 g2
  obtain ⟨n3, e3, _⟩ := DataW.trod_bool Tryd.underlying4 g3
  simp at e0 e1 e2 e3
  subst e0; subst e1; subst e2; subst e3
  obtain ⟨b0, rfl⟩ := u8_of w0
  obtain ⟨b1, rfl⟩ := u8_of w1
  refine ⟨⟨b0, b1, n2, n3⟩, ?_⟩
  have : cs = [Value.int .u8 b0.toNat, .int .u8 b1.toNat, .bool n2, .bool n3].toArray := by rw [← hx]
  rw [this]
  exact .agg (.cons .int (.cons .int (.cons .bool (.cons .bool .nil)))) (by simp [AV.one])
end Go.Proofs.YtjkkpnkohaeoeaaDoor

/- The arguments of the laws on dates, opened as plain data; the listed tables; no condition. -/
import Derived.Test.YtnmkpadgogbgkaaDoorMgR
import Derived.Test.YtnmkpadgogbgkaaDoorMdB
import Derived.WalkKit
import Derived.ProofKit
import Derived.OpenShut
import Derived.Deep.DeepHandedRow
import Derived.Deep.DeepWitnessRowRef
import Derived.Lib.LaidTab
import Derived.Lib.LaidU8
import Derived.MakeChecks
import Derived.Lay
set_option linter.all false
set_option linter.unusedSimpArgs false
set_option linter.unusedVariables false
namespace Go.Proofs.YtnmkpadgogbgkaaDoor
open Go.ChangeShapes Go.WideShapes Go.ChangeAt Go.RowKit Go.Deep
theorem sOwn : ownKnob Tryd.prog.godebug = none := by kernel_rfl
theorem sLaid : laidOutB Tryd.prog = true := by kernel_rfl
theorem str_reach {s : List UInt8} (h : s.length ≤ reachBytes) : s.length ≤ 140737488355328 := Nat.le_trans h (by decide)
theorem reps_one {w : World} {v : Value} {x : AV} (h : RepL (ghW w) [v] [x]) : Rep (ghW w) v x := by cases h; assumption
/-- the listed tables -/
abbrev laidL : List (String × DataW Unit) := Rows.dateFormatMatchesSpecRow.laid
abbrev nmPow : String := Rows.dateFormatMatchesSpecRow.laid[2].1
abbrev nmSpc : String := Rows.dateFormatMatchesSpecRow.laid[4].1
theorem tab_at {P : Program} {w : World} {name : String} {d : DataW Unit} {k : IntKind} {zs : List Int} {g t e : Nat} {n : Nat} (h : Lib.VarReads P w name d) (hd : d = Lib.tabData k zs) (hg : P.globalNamed name = some g) (hty : (P.globals[g]?).map (·.type) = some t)
    (ht : P.underlying t = some (.array n e)) (he : P.underlying e = some (.int k)) (hce : P.cellsOf e = 1) (hct : P.cellsOf t = n) : ∃ t fz, w.heap[g]? = some (.cells (zs.map fun z => Value.int k z).toArray t fz) := by
  subst hd
  obtain ⟨g', t', cs, fuel, p, hg', ht', hvar, htr⟩ := h
  obtain rfl := Option.some.inj (hg.symm.trans hg')
  obtain rfl := Option.some.inj (hty.symm.trans ht')
  have hc := Lib.cells_of_tab ht he hce hct htr
  unfold World.var? at hvar
  rw [hg, Option.bind_some] at hvar
  split at hvar
  · rename_i cs' t2 fz hh
    injection hvar with hvar
    subst hvar
    exact ⟨t2, fz, by rw [hh, ← hc]⟩
  · cases hvar
theorem laid_of {w : World} (h : laidMetH Tryd.prog laidL w) : Laid w := by
  rw [MakeChecks.laidMetH_plain _ _ _ (by kernel_rfl)] at h
  exact ⟨tab_at (Lib.laidMet.reads h (n := nmSpc) (d := Rows.dateFormatMatchesSpecRow.laid[4].2) (List.getElem_mem (by decide : 4 < laidL.length))) (by kernel_rfl) (by kernel_rfl) (by kernel_rfl) Tryd.underlying110 Tryd.underlying5 (by kernel_rfl) (by kernel_rfl),
    tab_at (Lib.laidMet.reads h (n := nmPow) (d := Rows.dateFormatMatchesSpecRow.laid[2].2) (List.getElem_mem (by decide : 2 < laidL.length))) (by kernel_rfl) (by kernel_rfl) (by kernel_rfl) Tryd.underlying146 Tryd.underlying119 (by kernel_rfl) (by kernel_rfl)⟩
/-- the world in which the listed tables hold what their initialisers lay -/
noncomputable def laidWorld (os : Os) : World := World.laidAll Tryd.prog os laidL
theorem fsmo : (Tryd.prog.fieldsOf 23).toList.map (fun f => (f.type, f.offset, Tryd.prog.cellsOf f.type)) = [(3, 0, 1), (3, 1, 1), (3, 2, 1), (3, 3, 1), (3, 4, 1), (3, 5, 1)] := by kernel_rfl
theorem undmo : Tryd.prog.underlying 23 = some (.struct (Tryd.prog.fieldsOf 23)) := by kernel_rfl
theorem cellsmo : Tryd.prog.cellsOf 23 = 6 := by kernel_rfl
theorem lenmo {α : Type} {l : List α} (h : l.length = 6) : ∃ a0 a1 a2 a3 a4 a5, l = [a0, a1, a2, a3, a4, a5] := by
  rcases l with _ | ⟨a0, _ | ⟨a1, _ | ⟨a2, _ | ⟨a3, _ | ⟨a4, _ | ⟨a5, _ | ⟨a6, l⟩⟩⟩⟩⟩⟩⟩
  · simp at h
  · simp at h
  · simp at h
  · simp at h
  · simp at h
  · simp at h
  · exact ⟨a0, a1, a2, a3, a4, a5, rfl⟩
  · simp at h
set_option maxRecDepth 100000 in
theorem open_mo {H : Type} {enc : TypeId × Value → H} {w : World} {base b0 : Nat} {spare : Nat → Bool} {held : Bool} {r : Reach} {v : Value} {fuel : Nat} {x : DataW H × List MemPlace}
    (hv : Value.okWide Tryd.prog w r b0 23 v) (hf : DataW.trod enc Tryd.prog w base spare held fuel 23 v.cells.toList = some x) : ∃ m : Mo, Rep (ghW w) v (aM m) := by
  obtain ⟨cs, rfl, hsz⟩ := okWide_struct undmo hv
  obtain ⟨ys, m, _, _, hcl, hyl, hf⟩ := DataW.trod_struct undmo hf
  have hfs := fsmo
  obtain ⟨f0, f1, f2, f3, f4, f5, hq⟩ := lenmo (by have := congrArg List.length fsmo; simpa using this : (Tryd.prog.fieldsOf 23).toList.length = 6)
  rw [hq] at hfs
  simp only [List.map_cons, List.map_nil, List.cons.injEq, Prod.mk.injEq, and_true] at hfs
  obtain ⟨⟨t0, o0, k0⟩, ⟨t1, o1, k1⟩, ⟨t2, o2, k2⟩, ⟨t3, o3, k3⟩, ⟨t4, o4, k4⟩, ⟨t5, o5, k5⟩⟩ := hfs
  have h0 : (Tryd.prog.fieldsOf 23)[0]? = some f0 := by rw [← Array.getElem?_toList, hq]; rfl
  have h1 : (Tryd.prog.fieldsOf 23)[1]? = some f1 := by rw [← Array.getElem?_toList, hq]; rfl
  have h2 : (Tryd.prog.fieldsOf 23)[2]? = some f2 := by rw [← Array.getElem?_toList, hq]; rfl
  have h3 : (Tryd.prog.fieldsOf 23)[3]? = some f3 := by rw [← Array.getElem?_toList, hq]; rfl
  have h4 : (Tryd.prog.fieldsOf 23)[4]? = some f4 := by rw [← Array.getElem?_toList, hq]; rfl
  have h5 : (Tryd.prog.fieldsOf 23)[5]? = some f5 := by rw [← Array.getElem?_toList, hq]; rfl
  have hn : (Tryd.prog.fieldsOf 23).size = 6 := by rw [← Array.length_toList, hq]; rfl
  have g0 := hf 0 f0 h0
  rw [k0, o0, t0] at g0
  have g1 := hf 1 f1 h1
  rw [k1, o1, t1] at g1
  have g2 := hf 2 f2 h2
  rw [k2, o2, t2] at g2
  have g3 := hf 3 f3 h3
  rw [k3, o3, t3] at g3
  have g4 := hf 4 f4 h4
  rw [k4, o4, t4] at g4
  have g5 := hf 5 f5 h5
  rw [k5, o5, t5] at g5
  rw [hn] at hyl
  obtain ⟨y0, y1, y2, y3, y4, y5, hys⟩ := lenmo hyl
  subst hys
  have hcs : cs.toList.length = 6 := by rw [Array.length_toList, hsz]; exact cellsmo
  obtain ⟨z0, z1, z2, z3, z4, z5, hx⟩ := lenmo hcs
  simp only [Value.cells, hx] at g0 g1 g2 g3 g4 g5
  obtain ⟨n0, e0, _, w0⟩ := DataW.trod_int Tryd.underlying3 g0
  obtain ⟨n1, e1, _, w1⟩ := DataW.trod_int Tryd.underlying3 g1
  obtain ⟨n2, e2, _, w2⟩ := DataW.trod_int Tryd.underlying3 g2
  obtain ⟨n3, e3, _, w3⟩ := DataW.trod_int Tryd.underlying3 g3
  obtain ⟨n4, e4, _, w4⟩ := DataW.trod_int Tryd.underlying3 g4
  obtain ⟨n5, e5, _, w5⟩ := DataW.trod_int Tryd.underlying3 g5
  simp at e0 e1 e2 e3 e4 e5
  subst e0
  subst e1
  subst e2
  subst e3
  subst e4
  subst e5
  refine ⟨⟨n0, n1, n2, n3, n4, n5⟩, ?_⟩
  have : cs = [Value.int .i64 n0, Value.int .i64 n1, Value.int .i64 n2, Value.int .i64 n3, Value.int .i64 n4, Value.int .i64 n5].toArray := by rw [← hx]
  rw [this]
  exact .agg (.cons .int (.cons .int (.cons .int (.cons .int (.cons .int (.cons .int .nil)))))) (by simp [AV.one])
end Go.Proofs.YtnmkpadgogbgkaaDoor

/- The arguments of the laws on rules, opened as plain data; the listed tables; no condition. -/
import Derived.Test.YtecpfmhminkalaaGreatDoorMgR
import Derived.Test.YtecpfmhminkalaaGreatDoorMrB
import Derived.Test.YtecpfmhminkalaaGreatDoorMrZ
import Derived.LaidLaws
import Derived.WalkKit
import Derived.ProofKit
import Derived.OpenShut
import Derived.Deep.DeepHandedRow
import Derived.Deep.DeepWitnessRowRef
import Derived.Lib.LaidTab
import Derived.Lib.LaidU8
import Derived.MakeChecks
import Derived.Lay
set_option linter.all false
set_option linter.unusedSimpArgs false
set_option linter.unusedVariables false
namespace Go.Proofs.YtecpfmhminkalaaGreatDoor
open Go.ChangeShapes Go.WideShapes Go.ChangeAt Go.RowKit Go.Deep
theorem sOwn : ownKnob Tryz.prog.godebug = none := by kernel_rfl
theorem sLaid : laidOutB Tryz.prog = true := by kernel_rfl
theorem str_reach {s : List UInt8} (h : s.length ≤ reachBytes) : s.length ≤ 140737488355328 := Nat.le_trans h (by decide)
theorem reps_one {w : World} {v : Value} {x : AV} (h : RepL (ghW w) [v] [x]) : Rep (ghW w) v x := by cases h; assumption
/-- the listed tables -/
abbrev laidL : List (String × DataW Unit) := Rows.recurPrintMatchesSpecRow.laid
abbrev nmPow : String := Rows.recurPrintMatchesSpecRow.laid[2].1
abbrev nmSpc : String := Rows.recurPrintMatchesSpecRow.laid[7].1
theorem tab_at {P : Program} {w : World} {name : String} {d : DataW Unit} {k : IntKind} {zs : List Int} {g t e : Nat} {n : Nat} (h : Lib.VarReads P w name d) (hd : d = Lib.tabData k zs) (hg : P.globalNamed name = some g) (hty : (P.globals[g]?).map (·.type) = some t)
    (ht : P.underlying t = some (.array n e)) (he : P.underlying e = some (.int k)) (hce : P.cellsOf e = 1) (hct : P.cellsOf t = n) : ∃ t fz, w.heap[g]? = some (.cells (zs.map fun z => Value.int k z).toArray t fz) := by
  subst hd
  obtain ⟨g', t', cs, fuel, p, hg', ht', hvar, htr⟩ := h
  obtain rfl := Option.some.inj (hg.symm.trans hg')
  obtain rfl := Option.some.inj (hty.symm.trans ht')
  have hc := Lib.cells_of_tab ht he hce hct htr
  unfold World.var? at hvar
  rw [hg, Option.bind_some] at hvar
  split at hvar
  · rename_i cs' t2 fz hh
    injection hvar with hvar
    subst hvar
    exact ⟨t2, fz, by rw [hh, ← hc]⟩
  · cases hvar
theorem ifc_at {P : Program} {w : World} {name nm : String} {d0 d : DataW Unit} {g t : Nat} {ms : Array (String × TypeId)} (h : Lib.VarReads P w name d0) (hd : d0 = .iface nm d) (hg : P.globalNamed name = some g) (hty : (P.globals[g]?).map (·.type) = some t)
    (ht : P.underlying t = some (.interface ms)) : ∃ v, w.cell? ⟨g, 0, none⟩ = some v ∧ (v = .nilIface ∨ ∃ te pe, v = .iface te pe) := by
  subst hd
  obtain ⟨g', t', cs, fuel, p, hg', ht', hvar, htr⟩ := h
  obtain rfl := Option.some.inj (hg.symm.trans hg')
  obtain rfl := Option.some.inj (hty.symm.trans ht')
  obtain ⟨_, u, v, hcs, _, _⟩ := iface_of_trod ht htr
  unfold World.var? at hvar
  rw [hg, Option.bind_some] at hvar
  split at hvar
  · rename_i cs' t2 fz hh
    injection hvar with hvar
    subst hvar
    refine ⟨.iface u v, ?_, .inr ⟨u, v, rfl⟩⟩
    simp [World.cell?, hh, hcs]
    rw [← Array.getElem?_toList, hcs]; rfl
  · cases hvar
theorem laid_of {w : World} (h : laidMetH Tryz.prog laidL w) (hsh : w.ShapedOpen Tryz.prog) : Laid w := by
  rw [MakeChecks.laidMetH_plain _ _ _ (by kernel_rfl)] at h
  exact ⟨tab_at (Lib.laidMet.reads h (n := nmSpc) (d := Rows.recurPrintMatchesSpecRow.laid[7].2) (List.getElem_mem (by decide : 7 < laidL.length))) (by kernel_rfl) (by kernel_rfl) (by kernel_rfl) Tryz.underlying129 Tryz.underlying5 (by kernel_rfl) (by kernel_rfl),
    tab_at (Lib.laidMet.reads h (n := nmPow) (d := Rows.recurPrintMatchesSpecRow.laid[2].2) (List.getElem_mem (by decide : 2 < laidL.length))) (by kernel_rfl) (by kernel_rfl) (by kernel_rfl) Tryz.underlying166 Tryz.underlying143 (by kernel_rfl) (by kernel_rfl),
    laysM145.s1_3 w hsh,
    ifc_at (Lib.laidMet.reads h (n := Rows.recurPrintMatchesSpecRow.laid[5].1) (d := Rows.recurPrintMatchesSpecRow.laid[5].2) (List.getElem_mem (by decide : 5 < laidL.length))) (by rfl) (by kernel_rfl) (by kernel_rfl) Tryz.underlying109,
    ifc_at (Lib.laidMet.reads h (n := Rows.recurPrintMatchesSpecRow.laid[4].1) (d := Rows.recurPrintMatchesSpecRow.laid[4].2) (List.getElem_mem (by decide : 4 < laidL.length))) (by rfl) (by kernel_rfl) (by kernel_rfl) Tryz.underlying109⟩
/-- the world in which the listed tables hold what their initialisers lay -/
noncomputable def laidWorld (os : Os) : World := World.laidAll Tryz.prog os laidL
theorem fswd : (Tryz.prog.fieldsOf 56).toList.map (fun f => (f.type, f.offset, Tryz.prog.cellsOf f.type)) = [(3, 0, 1), (3, 1, 1)] := by kernel_rfl
theorem undwd : Tryz.prog.underlying 56 = some (.struct (Tryz.prog.fieldsOf 56)) := by kernel_rfl
theorem cellswd : Tryz.prog.cellsOf 56 = 2 := by kernel_rfl
theorem lenwd {α : Type} {l : List α} (h : l.length = 2) : ∃ a0 a1, l = [a0, a1] := by
  rcases l with _ | ⟨a0, _ | ⟨a1, _ | ⟨a2, l⟩⟩⟩
  · simp at h
  · simp at h
  · exact ⟨a0, a1, rfl⟩
  · simp at h
set_option maxRecDepth 100000 in
theorem open_wd {H : Type} {enc : TypeId × Value → H} {w : World} {base : Nat} {spare : Nat → Bool} {held : Bool} {fuel : Nat} {cs : List Value} {x : DataW H × List MemPlace}
    (hf : DataW.trod enc Tryz.prog w base spare held fuel 56 cs = some x) : ∃ m : Int × Int, RepL (ghW w) cs (aWd m).cells := by
  obtain ⟨ys, m, _, _, hcl, hyl, hf⟩ := DataW.trod_struct undwd hf
  have hfs := fswd
  obtain ⟨f0, f1, hq⟩ := lenwd (by have := congrArg List.length fswd; simpa using this : (Tryz.prog.fieldsOf 56).toList.length = 2)
  rw [hq] at hfs
  simp only [List.map_cons, List.map_nil, List.cons.injEq, Prod.mk.injEq, and_true] at hfs
  obtain ⟨⟨t0, o0, k0⟩, ⟨t1, o1, k1⟩⟩ := hfs
  have h0 : (Tryz.prog.fieldsOf 56)[0]? = some f0 := by rw [← Array.getElem?_toList, hq]; rfl
  have h1 : (Tryz.prog.fieldsOf 56)[1]? = some f1 := by rw [← Array.getElem?_toList, hq]; rfl
  have hn : (Tryz.prog.fieldsOf 56).size = 2 := by rw [← Array.length_toList, hq]; rfl
  have g0 := hf 0 f0 h0
  rw [k0, o0, t0] at g0
  have g1 := hf 1 f1 h1
  rw [k1, o1, t1] at g1
  rw [hn] at hyl
  obtain ⟨y0, y1, hys⟩ := lenwd hyl
  subst hys
  obtain ⟨z0, z1, hx⟩ := lenwd (hcl.trans cellswd)
  subst hx
  simp only [List.drop, List.take] at g0 g1
  obtain ⟨n0, e0, _, w0⟩ := DataW.trod_int Tryz.underlying3 g0
  simp at e0
  subst e0
  obtain ⟨n1, e1, _, w1⟩ := DataW.trod_int Tryz.underlying3 g1
  simp at e1
  subst e1
  refine ⟨⟨n0, n1⟩, ?_⟩
  exact (.cons .int (.cons .int .nil))
section
variable {H : Type} {enc : TypeId × Value → H} {w : World} {base : Nat} {spare : Nat → Bool} {held : Bool} {fuel : Nat} {v : Value} {x : DataW H × List MemPlace}
theorem cellsI : Tryz.prog.cellsOf 3 = 1 := by kernel_rfl
theorem open_ints (h : DataW.trod enc Tryz.prog w base spare held fuel 22 [v] = some x) : ∃ l : List Int, RepL (ghW w) [v] [aL l] := by
  obtain ⟨l, h1, _⟩ := open_list (P := Tryz.prog) aI (fun _ => True) (fun _ => 0) Tryz.underlying22 cellsI (by decide) (fun a => ⟨rfl, fun y hy => by simp [AV.cells] at hy; subst hy; rfl⟩) (fun k cs y _ hy => by
    obtain ⟨n, e, _, _⟩ := DataW.trod_int Tryz.underlying3 hy
    subst e
    exact ⟨n, .cons .int .nil, fun _ => trivial, Nat.zero_le _⟩) h
  exact ⟨l, h1⟩
theorem open_wds (h : DataW.trod enc Tryz.prog w base spare held fuel 23 [v] = some x) : ∃ l : List (Int × Int), RepL (ghW w) [v] [aWs l] := by
  obtain ⟨l, h1, _⟩ := open_list (P := Tryz.prog) aWd (fun _ => True) (fun _ => 0) Tryz.underlying23 cellswd (by decide) (fun a => ⟨rfl, fun y hy => by simp [AV.cells] at hy; rcases hy with rfl | rfl <;> rfl⟩) (fun k cs y _ hy => by
    obtain ⟨n, e⟩ := open_wd hy
    exact ⟨n, e, fun _ => trivial, Nat.zero_le _⟩) h
  exact ⟨l, h1⟩
end
theorem fsrule : (Tryz.prog.fieldsOf 25).toList.map (fun f => (f.type, f.offset, Tryz.prog.cellsOf f.type)) = [(3, 0, 1), (3, 1, 1), (22, 2, 1), (22, 3, 1), (23, 4, 1), (22, 5, 1), (3, 6, 1), (3, 7, 1)] := by kernel_rfl
theorem undrule : Tryz.prog.underlying 25 = some (.struct (Tryz.prog.fieldsOf 25)) := by kernel_rfl
theorem cellsrule : Tryz.prog.cellsOf 25 = 8 := by kernel_rfl
theorem lenrule {α : Type} {l : List α} (h : l.length = 8) : ∃ a0 a1 a2 a3 a4 a5 a6 a7, l = [a0, a1, a2, a3, a4, a5, a6, a7] := by
  rcases l with _ | ⟨a0, _ | ⟨a1, _ | ⟨a2, _ | ⟨a3, _ | ⟨a4, _ | ⟨a5, _ | ⟨a6, _ | ⟨a7, _ | ⟨a8, l⟩⟩⟩⟩⟩⟩⟩⟩⟩
  · simp at h
  · simp at h
  · simp at h
  · simp at h
  · simp at h
  · simp at h
  · simp at h
  · simp at h
  · exact ⟨a0, a1, a2, a3, a4, a5, a6, a7, rfl⟩
  · simp at h
set_option maxRecDepth 100000 in
theorem open_rule {H : Type} {enc : TypeId × Value → H} {w : World} {base : Nat} {spare : Nat → Bool} {held : Bool} {fuel : Nat} {cs : List Value} {x : DataW H × List MemPlace}
    (hf : DataW.trod enc Tryz.prog w base spare held fuel 25 cs = some x) : ∃ m : Rule, RepL (ghW w) cs (aR m).cells := by
  obtain ⟨ys, m, _, _, hcl, hyl, hf⟩ := DataW.trod_struct undrule hf
  have hfs := fsrule
  obtain ⟨f0, f1, f2, f3, f4, f5, f6, f7, hq⟩ := lenrule (by have := congrArg List.length fsrule; simpa using this : (Tryz.prog.fieldsOf 25).toList.length = 8)
  rw [hq] at hfs
  simp only [List.map_cons, List.map_nil, List.cons.injEq, Prod.mk.injEq, and_true] at hfs
  obtain ⟨⟨t0, o0, k0⟩, ⟨t1, o1, k1⟩, ⟨t2, o2, k2⟩, ⟨t3, o3, k3⟩, ⟨t4, o4, k4⟩, ⟨t5, o5, k5⟩, ⟨t6, o6, k6⟩, ⟨t7, o7, k7⟩⟩ := hfs
  have h0 : (Tryz.prog.fieldsOf 25)[0]? = some f0 := by rw [← Array.getElem?_toList, hq]; rfl
  have h1 : (Tryz.prog.fieldsOf 25)[1]? = some f1 := by rw [← Array.getElem?_toList, hq]; rfl
  have h2 : (Tryz.prog.fieldsOf 25)[2]? = some f2 := by rw [← Array.getElem?_toList, hq]; rfl
  have h3 : (Tryz.prog.fieldsOf 25)[3]? = some f3 := by rw [← Array.getElem?_toList, hq]; rfl
  have h4 : (Tryz.prog.fieldsOf 25)[4]? = some f4 := by rw [← Array.getElem?_toList, hq]; rfl
  have h5 : (Tryz.prog.fieldsOf 25)[5]? = some f5 := by rw [← Array.getElem?_toList, hq]; rfl
  have h6 : (Tryz.prog.fieldsOf 25)[6]? = some f6 := by rw [← Array.getElem?_toList, hq]; rfl
  have h7 : (Tryz.prog.fieldsOf 25)[7]? = some f7 := by rw [← Array.getElem?_toList, hq]; rfl
  have hn : (Tryz.prog.fieldsOf 25).size = 8 := by rw [← Array.length_toList, hq]; rfl
  have g0 := hf 0 f0 h0
  rw [k0, o0, t0] at g0
  have g1 := hf 1 f1 h1
  rw [k1, o1, t1] at g1
  have g2 := hf 2 f2 h2
  rw [k2, o2, t2] at g2
  have g3 := hf 3 f3 h3
  rw [k3, o3, t3] at g3
  have g4 := hf 4 f4 h4
  rw [k4, o4, t4] at g4
  have g5 := hf 5 f5 h5
  rw [k5, o5, t5] at g5
  have g6 := hf 6 f6 h6
  rw [k6, o6, t6] at g6
  have g7 := hf 7 f7 h7
  rw [k7, o7, t7] at g7
  rw [hn] at hyl
  obtain ⟨y0, y1, y2, y3, y4, y5, y6, y7, hys⟩ := lenrule hyl
  subst hys
  obtain ⟨z0, z1, z2, z3, z4, z5, z6, z7, hx⟩ := lenrule (hcl.trans cellsrule)
  subst hx
  simp only [List.drop, List.take] at g0 g1 g2 g3 g4 g5 g6 g7
  obtain ⟨n0, e0, _, w0⟩ := DataW.trod_int Tryz.underlying3 g0
  simp at e0
  subst e0
  obtain ⟨n1, e1, _, w1⟩ := DataW.trod_int Tryz.underlying3 g1
  simp at e1
  subst e1
  obtain ⟨n2, r2⟩ := open_ints g2
  obtain ⟨n3, r3⟩ := open_ints g3
  obtain ⟨n4, r4⟩ := open_wds g4
  obtain ⟨n5, r5⟩ := open_ints g5
  obtain ⟨n6, e6, _, w6⟩ := DataW.trod_int Tryz.underlying3 g6
  simp at e6
  subst e6
  obtain ⟨n7, e7, _, w7⟩ := DataW.trod_int Tryz.underlying3 g7
  simp at e7
  subst e7
  refine ⟨⟨n0, n1, n2, n3, n4, n5, n6, n7⟩, ?_⟩
  exact (.cons .int (.cons .int (.cons (reps_one r2) (.cons (reps_one r3) (.cons (reps_one r4) (.cons (reps_one r5) (.cons .int (.cons .int .nil))))))))
set_option maxRecDepth 100000 in
theorem open_rl {H : Type} {enc : TypeId × Value → H} {w : World} {base b0 : Nat} {spare : Nat → Bool} {held : Bool} {r : Reach} {v : Value} {fuel : Nat} {x : DataW H × List MemPlace}
    (hv : Value.okWide Tryz.prog w r b0 25 v) (hf : DataW.trod enc Tryz.prog w base spare held fuel 25 v.cells.toList = some x) : ∃ m : Rule, Rep (ghW w) v (aR m) := by
  obtain ⟨cs, rfl, hsz⟩ := okWide_struct undrule hv
  obtain ⟨m, hm⟩ := open_rule hf
  have h2 : Rep (ghW w) (.agg cs.toList.toArray) (.agg (aRc m)) := .agg hm (by intro x hx; simp only [aRc, List.mem_cons, List.not_mem_nil, or_false] at hx; rcases hx with rfl | rfl | rfl | rfl | rfl | rfl | rfl | rfl <;> rfl)
  exact ⟨m, by simpa only [Array.toArray_toList] using h2⟩
end Go.Proofs.YtecpfmhminkalaaGreatDoor

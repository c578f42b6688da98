/- The arguments of the laws on streams, opened as plain data; the listed tables; no condition. -/
import Derived.Test.YtjdccdelcnmocaaGreatDoorMgJ
import Derived.Test.YtjdccdelcnmocaaGreatDoorMdK
import Derived.WalkKit
import Derived.ProofKit
import Derived.OpenShut
import Derived.LaidLaws
import Derived.Deep.DeepHandedRow
import Derived.Deep.DeepWitnessRowRef
import Derived.Lib.LaidTab
import Derived.Lib.LaidU8
import Derived.MakeChecks
import Derived.Lay
import Derived.Test.YtjdccdelcnmocaaGreatDoorAdE
import Derived.Test.YtjdccdelcnmocaaGreatDoorAdF
set_option linter.all false
set_option linter.unusedSimpArgs false
set_option linter.unusedVariables false
set_option maxHeartbeats 1000000
namespace Go.Proofs.YtjdccdelcnmocaaGreatDoor
open Go.ChangeShapes Go.WideShapes Go.ChangeAt Go.RowKit Go.Deep
theorem YF : ownKnob Tryz.prog.godebug = none := by kernel_rfl
theorem XT : laidOutB Tryz.prog = true := by kernel_rfl
theorem Uj {w : World} {v : Value} {x : AV} (h : RepL (QV w) [v] [x]) : Rep (QV w) v x := by cases h; assumption
abbrev laidL : List (String × DataW Unit) := Rows.streamsBoundMatchesSpecRow.laid
abbrev Xj : String := Rows.streamsBoundMatchesSpecRow.laid[2].1
abbrev X4 : String := Rows.streamsBoundMatchesSpecRow.laid[6].1
theorem U7 {P : Program} {w : World} {name : String} {d : DataW Unit} {k : IntKind} {zs : List Int} {g t e : Nat} {n : Nat} (h : Lib.VarReads P w name d) (hd : d = Lib.tabData k zs) (hg : P.globalNamed name = some g) (hty : (P.globals[g]?).map (·.type) = some t)
  (ht : P.underlying t = some (.array n e)) (he : P.underlying e = some (.int k)) (hce : P.cellsOf e = 1) (hct : P.cellsOf t = n) : ∃ t fz, w.heap[g]? = some (.cells (zs.map fun z => Value.int k z).toArray t fz) := by
 subst hd
 obtain ⟨g', t', cs, fuel, p, hg', ht', hvar, htr⟩ := h
 obtain rfl := Option.some.inj (hg.symm.trans hg')
 obtain rfl := Option.some.inj (hty.symm.trans ht')
 have hc := Lib.cells_of_tab ht he hce hct htr
 unfold World.var? at hvar
 rw [hg, Option.bind_some] at hvar
 split at hvar
 ·rename_i cs' t2 fz hh
  injection hvar with hvar
  subst hvar
  exact ⟨t2, fz, by rw [hh, ← hc]⟩
 ·cases hvar
theorem U6 {P : Program} {w : World} {name nm : String} {d0 d : DataW Unit} {g t : Nat} {ms : Array (String × TypeId)} (h : Lib.VarReads P w name d0) (hd : d0 = .iface nm d) (hg : P.globalNamed name = some g) (hty : (P.globals[g]?).map (·.type) = some t)
  (ht : P.underlying t = some (.interface ms)) : ∃ v, w.cell? ⟨g, 0, none⟩ = some v ∧ (v = .nilIface ∨ ∃ te pe, v = .iface te pe) := by
 subst hd
 obtain ⟨g', t', cs, fuel, p, hg', ht', hvar, htr⟩ := h
 obtain rfl := Option.some.inj (hg.symm.trans hg')
 obtain rfl := Option.some.inj (hty.symm.trans ht')
 obtain ⟨_, u, v, hcs, _, _⟩ := iface_of_trod ht htr
 unfold World.var? at hvar
 rw [hg, Option.bind_some] at hvar
 split at hvar
 ·rename_i cs' t2 fz hh
  injection hvar with hvar
  subst hvar
  refine ⟨.iface u v, ?_, .inr ⟨u, v, rfl⟩⟩
  simp [World.cell?, hh, hcs]
  rw [← Array.getElem?_toList, hcs]; rfl
 ·cases hvar
theorem Vl {w : World} (h : laidMetH Tryz.prog laidL w) : Laid w := by
 rw [MakeChecks.laidMetH_plain _ _ _ (by kernel_rfl)] at h
 exact ⟨U7 (Lib.laidMet.reads h (n := X4) (d := Rows.streamsBoundMatchesSpecRow.laid[6].2) (List.getElem_mem (by decide : 6 < laidL.length))) (by kernel_rfl) (by kernel_rfl) (by kernel_rfl) Tryz.underlying145 Tryz.underlying5 (by kernel_rfl) (by kernel_rfl),
  U7 (Lib.laidMet.reads h (n := Xj) (d := Rows.streamsBoundMatchesSpecRow.laid[2].2) (List.getElem_mem (by decide : 2 < laidL.length))) (by kernel_rfl) (by kernel_rfl) (by kernel_rfl) Tryz.underlying184 Tryz.underlying160 (by kernel_rfl) (by kernel_rfl),
  U6 (Lib.laidMet.reads h (n := Rows.streamsBoundMatchesSpecRow.laid[4].1) (d := Rows.streamsBoundMatchesSpecRow.laid[4].2) (List.getElem_mem (by decide : 4 < laidL.length))) (by rfl) (by kernel_rfl) (by kernel_rfl) Tryz.underlying132,
  U6 (Lib.laidMet.reads h (n := Rows.streamsBoundMatchesSpecRow.laid[3].1) (d := Rows.streamsBoundMatchesSpecRow.laid[3].2) (List.getElem_mem (by decide : 3 < laidL.length))) (by rfl) (by kernel_rfl) (by kernel_rfl) Tryz.underlying132⟩
noncomputable def IS (os : Os) : World := World.laidAll Tryz.prog os laidL
instance : Inhabited St := ⟨.mk 0 0 0 [] []⟩
section
variable {H : Type} {enc : TypeId × Value → H} {w : World} {base : Nat} {spare : Nat → Bool} {held : Bool} {fuel : Nat}
theorem WK : Tryz.prog.cellsOf 3 = 1 := by kernel_rfl
theorem UI : Tryz.prog.cellsOf 25 = 5 := by kernel_rfl
theorem WI : Tryz.prog.bytesOf 3 = 8 := by kernel_rfl
theorem WP : Tryz.prog.bytesOf 25 = 72 := by kernel_rfl
theorem Vo : Tryz.prog.underlying 25 = some (.struct (Tryz.prog.fieldsOf 25)) := by kernel_rfl
theorem YO : (Tryz.prog.fieldsOf 25).toList.map (fun f => (f.type, f.offset, Tryz.prog.cellsOf f.type)) = [(3, 0, 1), (3, 1, 1), (3, 2, 1), (22, 3, 1), (23, 4, 1)] := by kernel_rfl
theorem Gs {α : Type} {l : List α} (h : l.length = 5) : ∃ a0 a1 a2 a3 a4, l = [a0, a1, a2, a3, a4] := by
 rcases l with _ | ⟨a0, _ | ⟨a1, _ | ⟨a2, _ | ⟨a3, _ | ⟨a4, _ | ⟨a5, l⟩⟩⟩⟩⟩⟩
 ·simp at h
 ·simp at h
 ·simp at h
 ·simp at h
 ·simp at h
 ·exact ⟨a0, a1, a2, a3, a4, rfl⟩
 ·simp at h
theorem Qq {v : Value} {x : DataW H × List MemPlace} (h : DataW.trod enc Tryz.prog w base spare held fuel 22 [v] = some x) : ∃ l : List Int, RepL (QV w) [v] [N6 l] ∧ ((∀ y ∈ x.1.weights Tryz.prog 22, y ≤ reachBytes) → l.length ≤ 140737488355328) := by
 obtain ⟨l, h1, h2, _⟩ := open_list (P := Tryz.prog) aI (fun _ => True) (fun _ => 0) Tryz.underlying22 WK (by decide) (fun a => ⟨rfl, fun y hy => by simp [AV.cells] at hy; subst hy; rfl⟩) (fun k cs y _ hy => by
  obtain ⟨n, e, _, _⟩ := DataW.trod_int Tryz.underlying3 hy
  subst e
  exact ⟨n, .cons .int .nil, fun _ => trivial, Nat.zero_le _⟩) h
 refine ⟨l, h1, fun hw => ?_⟩
 have := (h2 hw).1
 rw [WI] at this
 have hr : reachBytes ≤ 140737488355328 := by decide
 omega
theorem QS {es sp : List (DataW H)} {d : DataW H} (h : d ∈ es) : SizeOf.sizeOf d < SizeOf.sizeOf (DataW.slice es sp) := by
 have := List.sizeOf_lt_of_mem h
 simp only [DataW.slice.sizeOf_spec]; omega
theorem UE {es : List (DataW H)} {d : DataW H} (h : d ∈ es) : SizeOf.sizeOf d < SizeOf.sizeOf (DataW.agg es) := by
 have := List.sizeOf_lt_of_mem h
 simp only [DataW.agg.sizeOf_spec]; omega
theorem Po {v : Value} {x : DataW H × List MemPlace} (he : ∀ k cs (y : DataW H × List MemPlace), SizeOf.sizeOf y.1 < SizeOf.sizeOf x.1 → DataW.trod enc Tryz.prog w base spare held k 25 cs = some y → ∃ s : St, RepL (QV w) cs (encS s).cells ∧ ((∀ z ∈ y.1.weights Tryz.prog 25, z ≤ reachBytes) → Cg s))
  (h : DataW.trod enc Tryz.prog w base spare held fuel 23 [v] = some x) : ∃ p : List St, Rep (QV w) v (.sl 5 (AD p) .ro) ∧ ((∀ z ∈ x.1.weights Tryz.prog 23, z ≤ reachBytes) → p.length ≤ 140737488355328 ∧ JM p) := by
 obtain ⟨n, k, X, Y, hr, hX, hY⟩ := J6 Tryz.underlying23 UI (by decide) h
 have hlt : ∀ i, i < n → SizeOf.sizeOf (Y i).1 < SizeOf.sizeOf x.1 := fun i hi => by
  rcases hY with ⟨h0, _⟩ | ⟨sp, h1⟩
  ·omega
  ·rw [h1]; exact QS (List.mem_map.2 ⟨i, List.mem_range.2 hi, rfl⟩)
 obtain ⟨f, hf⟩ := choose_lt (n := n) (p := fun i (s : St) => RepL (QV w) (X i) (encS s).cells ∧ ((∀ z ∈ (Y i).1.weights Tryz.prog 25, z ≤ reachBytes) → Cg s)) (fun i hi => he k (X i) (Y i) (hlt i hi) (hX i hi).2)
 have hlen : (((List.range n).map f).map encS).length = n := by simp
 have hu : ∀ s : St, (encS s).cells.length = 5 ∧ ∀ y ∈ (encS s).cells, y.one = true := fun s => by
  obtain ⟨k, o, m, v, p⟩ := s
  rw [A7]
  refine ⟨rfl, fun y hy => ?_⟩
  simp only [AV.cells, List.mem_cons, List.not_mem_nil, or_false] at hy
  rcases hy with rfl | rfl | rfl | rfl | rfl <;> rfl
 refine ⟨(List.range n).map f, ?_, fun hw => ?_⟩
 ·rw [E2]
  refine Kb hr ?_ hlen (by decide) ?_ ?_
  ·rw [List.map_map]
   exact KX fun i hi => (hf i hi).1
  ·intro y hy
   obtain ⟨a, _, rfl⟩ := List.mem_map.1 hy
   exact (hu a).1
  ·intro y hy
   obtain ⟨z, hz, hy⟩ := List.mem_flatMap.1 hy
   obtain ⟨a, _, rfl⟩ := List.mem_map.1 hz
   exact (hu a).2 y hy
 ·have key : ∀ p : List St, (∀ s ∈ p, Cg s) → JM p := by
   intro p
   induction p with
   | nil => intro _; trivial
   | cons s r ih => intro h; exact ⟨h s List.mem_cons_self, ih fun y hy => h y (List.mem_cons_of_mem _ hy)⟩
  rcases hY with ⟨h0, h1⟩ | ⟨sp, h1⟩
  ·subst h0; exact ⟨by simp, trivial⟩
  ·rw [h1] at hw
   simp only [DataW.weights, Tryz.underlying23, List.mem_cons, List.mem_append, List.length_map, List.length_range] at hw
   refine ⟨?_, key _ fun s hs => ?_⟩
   ·have := hw _ (.inl rfl)
    rw [WP] at this
    have hr : reachBytes ≤ 140737488355328 := by decide
    simp; omega
   ·obtain ⟨i, hi, rfl⟩ := List.mem_map.1 hs
    have hi' : i < n := List.mem_range.1 hi
    exact (hf i hi').2 fun y hy => hw y (.inr (.inl (IW (List.mem_map.2 ⟨i, hi, rfl⟩) hy)))
set_option maxRecDepth 100000 in
theorem LE : ∀ (N : Nat) {fuel : Nat} {cs : List Value} {x : DataW H × List MemPlace}, SizeOf.sizeOf x.1 ≤ N → DataW.trod enc Tryz.prog w base spare held fuel 25 cs = some x → ∃ s : St, RepL (QV w) cs (encS s).cells ∧ ((∀ z ∈ x.1.weights Tryz.prog 25, z ≤ reachBytes) → Cg s) := by
 intro N
 induction N with
 | zero =>
  intro fuel cs x hN h
  obtain ⟨ys, m, _, hx, _⟩ := DataW.trod_struct Vo h
  rw [hx] at hN
  simp at hN
 | succ N ih =>
  intro fuel cs x hN h
  obtain ⟨ys, m, _, hx, hcl, hyl, hf⟩ := DataW.trod_struct Vo h
  have hfs := YO
  obtain ⟨f0, f1, f2, f3, f4, hq⟩ := Gs (by have := congrArg List.length YO; simpa using this : (Tryz.prog.fieldsOf 25).toList.length = 5)
  rw [hq] at hfs
  simp only [List.map_cons, List.map_nil, List.cons.injEq, Prod.mk.injEq, and_true] at hfs
  obtain ⟨⟨t0, o0, k0⟩, ⟨t1, o1, k1⟩, ⟨t2, o2, k2⟩, ⟨t3, o3, k3⟩, ⟨t4, o4, k4⟩⟩ := hfs
  have h0 : (Tryz.prog.fieldsOf 25)[0]? = some f0 := by rw [← Array.getElem?_toList, hq]; rfl
  have h1 : (Tryz.prog.fieldsOf 25)[1]? = some f1 := by rw [← Array.getElem?_toList, hq]; rfl
  have h2 : (Tryz.prog.fieldsOf 25)[2]? = some f2 := by rw [← Array.getElem?_toList, hq]; rfl
  have h3 : (Tryz.prog.fieldsOf 25)[3]? = some f3 := by rw [← Array.getElem?_toList, hq]; rfl
  have h4 : (Tryz.prog.fieldsOf 25)[4]? = some f4 := by rw [← Array.getElem?_toList, hq]; rfl
  have hn : (Tryz.prog.fieldsOf 25).size = 5 := by rw [← Array.length_toList, hq]; rfl
  have g0 := hf 0 f0 h0
  rw [k0, o0, t0] at g0
  have g1 := hf 1 f1 h1
  rw [k1, o1, t1] at g1
  have g2 := hf 2 f2 h2
  rw [k2, o2, t2] at g2
  have g3 := hf 3 f3 h3
  rw [k3, o3, t3] at g3
  have g4 := hf 4 f4 h4
  rw [k4, o4, t4] at g4
  rw [hn] at hyl
  obtain ⟨y0, y1, y2, y3, y4, hys⟩ := Gs hyl
  subst hys
  obtain ⟨z0, z1, z2, z3, z4, hz⟩ := Gs (hcl.trans UI)
  subst hz
  simp only [List.drop, List.take] at g0 g1 g2 g3 g4
  obtain ⟨n0, e0, _, w0⟩ := DataW.trod_int Tryz.underlying3 g0
  simp at e0
  subst e0
  obtain ⟨n1, e1, _, w1⟩ := DataW.trod_int Tryz.underlying3 g1
  simp at e1
  subst e1
  obtain ⟨n2, e2, _, w2⟩ := DataW.trod_int Tryz.underlying3 g2
  simp at e2
  subst e2
  obtain ⟨n3, r3, v3⟩ := Qq g3
  have hy4 : SizeOf.sizeOf y4.1 < SizeOf.sizeOf x.1 := by rw [hx]; exact UE (by simp)
  obtain ⟨n4, r4, v4⟩ := Po (fun k cs y hy hk => ih (by omega) hk) g4
  refine ⟨.mk n0 n1 n2 n3 n4, ?_, fun hw => ?_⟩
  ·rw [A7]
   exact .cons .int (.cons .int (.cons .int (.cons (Uj r3) (.cons r4 .nil))))
  ·rw [hx] at hw
   simp only [DataW.weights, Vo, hq, List.map_cons, List.map_nil, DataW.weightsEach, t0, t1, t2, t3, t4, List.mem_append] at hw
   obtain ⟨a1, a2⟩ := v4 fun z hz => hw z (by simp [hz])
   exact ⟨v3 fun z hz => hw z (by simp [hz]), a1, a2⟩
end
set_option maxRecDepth 100000 in
theorem UO {H : Type} {enc : TypeId × Value → H} {w : World} {base b0 : Nat} {spare : Nat → Bool} {held : Bool} {r : Reach} {v : Value} {fuel : Nat} {x : DataW H × List MemPlace}
  (hv : Value.okWide Tryz.prog w r b0 25 v) (hf : DataW.trod enc Tryz.prog w base spare held fuel 25 v.cells.toList = some x) : ∃ s : St, Rep (QV w) v (encS s) ∧ ((∀ z ∈ x.1.weights Tryz.prog 25, z ≤ reachBytes) → Cg s) := by
 obtain ⟨cs, rfl, hsz⟩ := okWide_struct Vo hv
 obtain ⟨s, hs, hw⟩ := LE _ (Nat.le_refl _) hf
 refine ⟨s, ?_, hw⟩
 obtain ⟨k, o, m, l, p⟩ := s
 rw [A7] at hs ⊢
 have h2 : Rep (QV w) (.agg cs.toList.toArray) (.agg [aI k, aI o, aI m, N6 l, .sl 5 (AD p) .ro]) := .agg hs (by intro y hy; simp only [List.mem_cons, List.not_mem_nil, or_false] at hy; rcases hy with rfl | rfl | rfl | rfl | rfl <;> rfl)
 simpa only [Array.toArray_toList] using h2
def leC (a b : Av) : Prop := a.length = b.length ∧ ∀ (i : Nat) (x y : Int), a[i]? = some x → b[i]? = some y → x ≤ y
theorem leC.rfl_ (a : Av) : leC a a := ⟨rfl, fun i x y h1 h2 => by rw [h1] at h2; injection h2 with h2; omega⟩
theorem leC.tr {a b c : Av} (h : leC a b) (k : leC b c) : leC a c := by
 refine ⟨h.1.trans k.1, fun i x z h1 h2 => ?_⟩
 have hi : i < b.length := by rw [← h.1]; exact (List.getElem?_eq_some_iff.1 h1).1
 have h3 : b[i]? = some b[i] := List.getElem?_eq_getElem hi
 have := h.2 i x _ h1 h3
 have := k.2 i _ z h3 h2
 omega
theorem leC.app {a b c d : Av} (h : leC a b) (k : leC c d) : leC (a ++ c) (b ++ d) := by
 refine ⟨by simp [h.1, k.1], fun i x y h1 h2 => ?_⟩
 by_cases hi : i < a.length
 ·rw [List.getElem?_append_left hi] at h1
  rw [List.getElem?_append_left (by rw [← h.1]; exact hi)] at h2
  exact h.2 i x y h1 h2
 ·rw [List.getElem?_append_right (by omega)] at h1
  rw [List.getElem?_append_right (by rw [← h.1]; omega), ← h.1] at h2
  exact k.2 _ x y h1 h2
def monL : Av → CL → Av → Prop
 | cur, [], fin => leC cur fin
 | cur, (_, c) :: r, fin => leC cur c ∧ monL c r fin
theorem monL.fin : ∀ {l : CL} {cur fin : Av}, monL cur l fin → leC cur fin
 | [], _, _, h => h
 | (_, c) :: r, cur, fin, h => h.1.tr (monL.fin h.2)
theorem monL.cur : ∀ {l : CL} {cur cur' fin : Av}, leC cur' cur → monL cur l fin → monL cur' l fin
 | [], _, _, _, hc, h => hc.tr h
 | (_, c) :: r, _, _, _, hc, h => ⟨hc.tr h.1, h.2⟩
theorem monL.map : ∀ {l : CL} {cur fin : Av} (f : Int → Int), monL cur l fin → monL cur (l.map fun e => (f e.1, e.2)) fin
 | [], _, _, _, h => h
 | (_, c) :: r, _, _, f, h => ⟨h.1, monL.map f h.2⟩
theorem monL.filter : ∀ {l : CL} {cur fin : Av} (p : Int × Av → Bool), monL cur l fin → monL cur (l.filter p) fin
 | [], _, _, _, h => h
 | e :: r, _, _, p, h => by
  rw [List.filter_cons]
  split
  ·exact ⟨h.1, monL.filter p h.2⟩
  ·exact monL.cur h.1 (monL.filter p h.2)
theorem monL.drop : ∀ {l : CL} {cur fin : Av} (n : Nat), monL cur l fin → monL cur (l.drop n) fin
 | _, _, _, 0, h => by simpa using h
 | [], _, _, _ + 1, h => h
 | (_, c) :: r, _, _, n + 1, h => by simpa using monL.cur h.1 (monL.drop n h.2)
theorem monL.sca : ∀ {l : CL} {cur fin : Av} (f : Int → Int → Int) (n : Int), monL cur l fin → monL cur (SF f n l) fin
 | [], _, _, _, _, h => h
 | (x, c) :: r, _, _, f, n, h => ⟨h.1, monL.sca f _ h.2⟩
theorem monL.win : ∀ {l : CL} {cur fin : Av} (f : Int → Int → Int) (N : Nat) (last : List Int), monL cur l fin → monL cur (K6 f N last l) fin
 | [], _, _, _, _, _, h => h
 | (x, c) :: r, _, _, f, N, last, h => by
  simp only [K6]
  split
  ·exact monL.cur h.1 (monL.win f N _ h.2)
  ·exact ⟨h.1, monL.win f N _ h.2⟩
theorem monL.run : ∀ {l : CL} {cur fin : Av} (last : Int), monL cur l fin → monL cur (IN last l) fin
 | [], _, _, _, h => h
 | (x, c) :: r, _, _, last, h => by
  simp only [IN]
  split
  ·exact ⟨h.1, monL.run _ h.2⟩
  ·exact monL.cur h.1 (monL.run _ h.2)
theorem monL.same (xs : List Int) (fin : Av) {l : CL} (h : monL fin l fin) : monL fin (xs.map (fun x => (x, fin)) ++ l) fin := by
 induction xs with
 | nil => exact h
 | cons x xs ih => exact ⟨leC.rfl_ _, ih⟩
theorem monL.rep (xs : List Int) (fin : Av) : ∀ n, monL fin (OZ xs fin n) fin
 | 0 => leC.rfl_ _
 | n + 1 => monL.same xs fin (monL.rep xs fin n)
theorem monL.app : ∀ {l m : CL} {cur mid fin : Av}, monL cur l mid → monL mid m fin → monL cur (l ++ m) fin
 | [], _, _, _, _, h, k => monL.cur h k
 | (_, c) :: r, _, _, _, _, h, k => ⟨h.1, monL.app h.2 k⟩
theorem monL.left : ∀ {l : CL} {cur fin : Av} (d : Av), monL cur l fin → monL (cur ++ d) (l.map fun e => (e.1, e.2 ++ d)) (fin ++ d)
 | [], _, _, d, h => leC.app h (leC.rfl_ d)
 | (_, c) :: r, _, _, d, h => ⟨leC.app h.1 (leC.rfl_ d), monL.left d h.2⟩
theorem monL.right : ∀ {l : CL} {cur fin : Av} (d : Av), monL cur l fin → monL (d ++ cur) (l.map fun e => (e.1, d ++ e.2)) (d ++ fin)
 | [], _, _, d, h => leC.app (leC.rfl_ d) h
 | (_, c) :: r, _, _, d, h => ⟨leC.app (leC.rfl_ d) h.1, monL.right d h.2⟩
theorem monL.zip : ∀ {la lb : CL} {ca cb fa fb : Av} (f : Int → Int → Int), monL ca la fa → monL cb lb fb → monL (ca ++ cb) (Ip f fa fb la cb lb).1 (Ip f fa fb la cb lb).2
 | [], _, _, _, _, _, _, h, _ => leC.app h (leC.rfl_ _)
 | (x, c) :: r, [], _, _, _, _, _, h, k => leC.app h.1 k
 | (x, c) :: r, (y, d) :: t, _, _, _, _, f, h, k => ⟨leC.app h.1 k.1, monL.zip f h.2 k.2⟩
theorem monL.mer : ∀ {la lb : CL} {ca cb fa fb : Av}, monL ca la fa → monL cb lb fb → monL (ca ++ cb) (ET fa fb la lb) (fa ++ fb)
 | [], [], _, _, _, _, h, k => by rw [ET]; exact leC.app h k
 | [], (y, d) :: t, _, _, fa, _, h, k => by
  rw [ET]
  exact ⟨leC.app h k.1, monL.mer (la := []) (leC.rfl_ fa) k.2⟩
 | (x, c) :: r, [], _, _, _, fb, h, k => by
  rw [ET]
  exact ⟨leC.app h.1 k, monL.mer (lb := []) h.2 (leC.rfl_ fb)⟩
 | (x, c) :: r, (y, d) :: t, _, _, _, _, h, k => by
  rw [ET]
  split
  ·exact ⟨leC.app h.1 k.1, monL.mer (lb := (y, d) :: t) h.2 ⟨leC.rfl_ d, k.2⟩⟩
  ·exact ⟨leC.app h.1 k.1, monL.mer (la := (x, c) :: r) ⟨leC.rfl_ c, h.2⟩ k.2⟩
 termination_by la lb => la.length + lb.length
theorem N9 : ∀ (cs : List Av) (i : Nat) (c : Av), leC (cs.getD i []) c → leC cs.flatten (cs.set i c).flatten
 | [], i, c, _ => by simpa using leC.rfl_ []
 | a :: r, 0, c, h => by
  simp only [List.set_cons_zero, List.flatten_cons]
  exact leC.app (by simpa using h) (leC.rfl_ _)
 | a :: r, i + 1, c, h => by
  simp only [List.set_cons_succ, List.flatten_cons]
  exact leC.app (leC.rfl_ _) (N9 r i c (by simpa using h))
theorem getD_set_ne {cs : List Av} {i j : Nat} {c : Av} (h : j ≠ i) : (cs.set i c).getD j [] = cs.getD j [] := by
 simp only [List.getD_eq_getElem?_getD, List.getElem?_set_ne (Ne.symm h)]
theorem Pj {cs : List Av} {i : Nat} {c : Av} (h : i < cs.length) : (cs.set i c).getD i [] = c := by
 simp [List.getD_eq_getElem?_getD, h]
theorem monL.tur : ∀ (m : Nat) (q : List (Nat × CL × Av)) (cs : List Av), (∀ e ∈ q, e.1 < cs.length ∧ monL (cs.getD e.1 []) e.2.1 e.2.2) → (q.map (·.1)).Nodup → monL cs.flatten (Fn m q cs).1 (Fn m q cs).2.flatten
 | 0, _, cs, _, _ => leC.rfl_ _
 | _ + 1, [], cs, _, _ => leC.rfl_ _
 | m + 1, (i, [], fin) :: q, cs, h, hn => by
  obtain ⟨h1, h2⟩ := h _ List.mem_cons_self
  simp only [List.map_cons, List.nodup_cons] at hn
  simp only [Fn]
  refine monL.cur (N9 cs i fin h2) (monL.tur m q (cs.set i fin) (fun e he => ?_) hn.2)
  obtain ⟨h3, h4⟩ := h e (List.mem_cons_of_mem _ he)
  have hne : e.1 ≠ i := fun e1 => hn.1 (by rw [← e1]; exact List.mem_map_of_mem he)
  exact ⟨by simpa using h3, by rw [getD_set_ne hne]; exact h4⟩
 | m + 1, (i, (x, c) :: r, fin) :: q, cs, h, hn => by
  obtain ⟨h1, h2⟩ := h _ List.mem_cons_self
  simp only [List.map_cons, List.nodup_cons] at hn
  simp only [Fn]
  refine ⟨N9 cs i c h2.1, monL.tur m (q ++ [(i, r, fin)]) (cs.set i c) (fun e he => ?_) ?_⟩
  ·rcases List.mem_append.1 he with he | he
   ·obtain ⟨h3, h4⟩ := h e (List.mem_cons_of_mem _ he)
    have hne : e.1 ≠ i := fun e1 => hn.1 (by rw [← e1]; exact List.mem_map_of_mem he)
    exact ⟨by simpa using h3, by rw [getD_set_ne hne]; exact h4⟩
   ·simp only [List.mem_singleton] at he
    subst he
    exact ⟨by simpa using h1, by rw [Pj h1]; exact h2.2⟩
  ·simp only [List.map_append, List.map_cons, List.map_nil]
   exact List.nodup_append.2 ⟨hn.2, by simp, fun a ha b hb => by simp at hb; subst hb; exact fun e => hn.1 (e ▸ ha)⟩
abbrev U1 (gs : Nat) (i : Int) : AObj := .cells 70 [.mp gs, aI i]
def MG (r : Nat × Int) : Int × Int := if r.2 ≠ 0 then (r.2, (r.1 : Int)) else (0, 0)
def LP (r : Nat × Int) : Nat := if r.2 ≠ 0 then r.1 + 1 else r.1
def Li (s : St) (i : Nat) : Prop := ∀ (g gs n : Nat) (H : A6), H g = some (U1 gs i) → H gs = some (.map (some .i64) Df) → AUpd Tryz.prog 40 [.ptr g 0, encS s] n H (aF (MG (DH s i))) g (U1 gs (LP (DH s i)))
attribute [local simp] Nj Fe FS L6 N3 NE LZ Fg F3 Fq HO MF Nf MS MH NT O6 Md Of L5 Me M5 Nc LI M0 TE pe Nt OB NM MM M1 Nw LN Mb Lh Lc NY Mk Lx FX MB MD Nd Lg MO N1 ME MK NN Mf LY LR Ma Ol Mm MC N7 Lm M6 Mr Ly FH ND Fh NJ Mz NC NU Ms Oa NO OS Mx Ld Lw LL LQ L7 OM Ot ON Mg Mn N2 OA O5 Ln O8 MU F9 Oi OY Nu LF Mw Ng Nm Mt Nr Np Nb Oh On OO OK Mo Ny LK Nz Lk LD MJ NK NF M9 L9 Nn LH NW LJ Hv M3 List.mem_cons guardK E5 Er FR HV LU FT Fd FO Fi FD FC F5 FW Fc Lb O9 FZ NH LB Mu Mp ML OW FG OR No OF O4 Lt M2 Hj FY FP F6 Fb Oo N5 FI OJ FF NX F4 FB M7 Fa F8 Ll N0 Ml LW NZ La MZ Lp TF Ju K2 HG KF Jz KD EN Ge Gb Od Ga GX EM E3 Us Jt Jx Gd Jp Jv Dl DQ Bz Bk CH DL BL ev get put EV Ad Cw L8 MP LM Lo K7 OV EF part BO Gn OD GV isNil Ct DJ Dm DN DM Nq Lu MV Mh NV KE NS OQ Og LO Lj M4 N4 Lq OH Mj AV.fits AV.cells ones AV.one E7 CI E1 DI EQ EI MY Es FU CK CB CQ Ew FV Ax Bn VW HB Nx LT List.getElem?_cons_zero List.getElem?_cons_succ FJ FM F7 OI Mc MX Gk Oc OG MI Lv Mi Ok MW Lr Ls MA LX
theorem V0 (s : St) : Cg s → ∀ i : Nat, i ≤ 60 → Li s i := by
 refine St.ind (Q := fun s => Cg s → ∀ i : Nat, i ≤ 60 → Li s i) ?_ s
 intro k o m v p ih hfit i hi g gs n H hg hgs
 obtain ⟨hv, hp, hpp⟩ := hfit
 have hgg : g ≠ gs := fun e => by rw [e, hgs] at hg; cases hg
 have hnode := fun n H h1 h2 => WO k o m v p hv g gs n ((i : Int) + 1) H h1 h2
 rw [DH]
 rw [A7] at hnode ⊢
 refine QE Tryz.func40 X7 rfl (hg) fun hH => ?_
 have hgn : g < n := by
  rcases Nat.lt_or_ge g n with h | h
  ·exact h
  ·rw [hH g h] at hg; cases hg
 have hsn : gs < n := by
  rcases Nat.lt_or_ge gs n with h | h
  ·exact h
  ·rw [hH gs h] at hgs; cases hgs
 by_cases h60 : 60 ≤ i
 ·rw [if_pos h60]
  have h60' : ¬ (i : Int) < 60 := by omega
  repeat' (first | (simp -implicitDefEqProofs [I7, IM, GC, Ej, Hn, IG, c40, -getElem?_pos, hg, h60', splice, MG, LP, A1]) | (simp (disch := omega) only [AH]) | (with_reducible first | refine A8 ?_ ?_ ?_ | exact AF | assumption | refine A4 ?_ | refine KM.of ?_ | refine AG ?_ | refine A2 ?_ | refine A5 ?_ | intro _g _hg | refine AE ?_ ?_ | intro _hc) | omega)
  intro q hq; simp only [upd]; (repeat' split) <;> first | rfl | omega
 ·rw [if_neg h60]
  have h60' : (i : Int) < 60 := by omega
  generalize hc : Bp (.mk k o m v p) = c at *
  have hpl := Ao p
  by_cases hc0 : c = 0
  ·rw [if_neg (by simpa using hc0)]
   subst hc0
   repeat' (first | (simp -implicitDefEqProofs [c40, IG, Hn, -getElem?_pos, hg, h60', splice]) | (simp (disch := omega) only [AH]) | ((with_reducible refine ER 69 ?_); (refine' CallK.sfAt ?_ ((hnode _ _ (by simp (disch := omega) only [upd_ne, Ax]) (by simp (disch := omega) only [upd_ne]; exact hgs))) ?_); (focus first | (with_reducible exact A0 _) | (simp [AK, AI, A1, A0]; done))) | (with_reducible first | refine A8 ?_ ?_ ?_ | exact AF | assumption | refine A4 ?_ | refine KM.of ?_ | refine AG ?_ | refine A2 ?_ | refine A5 ?_ | intro _g _hg | refine AE ?_ ?_ | intro _hc) | omega)
   rename_i g3 hg3
   refine LoopK.go (fun r st => ∃ (j q n1 : Nat) (H1 : A6), j + r = p.length ∧ st = ⟨[(0, .ptr g 0), (4, .ptr _g 0), (32, .sl 5 (AD p) .ro), (33, aI p.length), (34, aI j)], n1, H1⟩ ∧ q ≤ 60 ∧ Gq p (i + 1) = Gq (p.drop j) q ∧ _g < n1 ∧ H1 g = some (U1 gs q) ∧ H1 gs = some (.map (some .i64) Df) ∧ H1 _g = some (.cells 27 [aI 0, aI 0]) ∧ (∀ k, k < n → k ≠ g → H1 k = H k) ∧ ∀ k, n1 ≤ k → H1 k = none) p.length
    ⟨0, i + 1, _, _, by omega, by simp [hpl]; exact ⟨rfl, rfl⟩, by omega, rfl, by omega, by simp (disch := omega) only [upd_ne, Ax]; rfl, by simp (disch := omega) only [upd_ne]; exact hgs, by simp (disch := omega) only [upd_ne, Ax], fun k h1 h2 => by simp (disch := omega) only [upd_ne], fun k h1 => by simp (disch := omega) only [upd_ne]; exact hH k (by omega)⟩ ?_
   rintro r st ⟨j, q, n1, H1, hj, rfl, hq, hE, hn1, q1, q2, q4, hsame, hsup⟩ J hJ
   by_cases hjl : j < p.length
   ·obtain ⟨x, hx⟩ : ∃ x, p[j]? = some x := ⟨_, List.getElem?_eq_getElem hjl⟩
    have hxm := List.mem_of_getElem? hx
    have hst := ih x hxm (CT hpp x hxm) q hq
    have hxe := CP hx
    have hxf := BP x
    have hjl' : (j : Int) < p.length := by omega
    rw [Qz hx] at hE
    unfold Li at hst
    generalize hsx : DH x q = sx at *
    have hok : sx.2 = 0 → sx.1 ≤ 60 := fun h2 => by rw [← hsx] at h2 ⊢; exact (ID x q h2).2.2
    obtain ⟨k', o', m', v', p'⟩ := x
    rw [A7] at hst hxe hxf
    generalize AD p = ep at *
    generalize AD p' = ep' at *
    generalize v'.map aI = ev' at *
    by_cases h2 : sx.2 = 0
    ·rw [if_neg (by simpa using h2)] at hE
     have h3 := hok h2
     have e1 : MG sx = (0, 0) := by unfold MG; rw [if_neg (by simpa using h2)]
     have e2 : LP sx = sx.1 := by unfold LP; rw [if_neg (by simpa using h2)]
     rw [e1, e2] at hst
     
     repeat' (first | (simp -implicitDefEqProofs [Ej, GC, IM, -getElem?_pos, hjl', hxe, splice]) | (simp (disch := omega) only [AH]) | ((with_reducible refine ER 40 ?_); (refine' CallK.sfU ?_ ((hst g gs _ _ (by simp (disch := omega) only [upd_ne, Ax]; exact q1) (by simp (disch := omega) only [upd_ne]; exact q2))) ?_); (focus first | (with_reducible exact A0 _) | (simp [AK, AI, A1, A0]; done))) | (with_reducible first | refine A8 ?_ ?_ ?_ | exact AF | assumption | refine A4 ?_ | refine KM.of ?_ | refine AG ?_ | refine A2 ?_ | refine A5 ?_ | intro _g _hg | refine AE ?_ ?_ | intro _hc) | omega)
     exact hJ (r - 1) _ (by omega) ⟨j + 1, sx.1, _, _, by omega, rfl, h3, hE, by omega, by simp (disch := omega) only [upd_ne, Ax], by simp (disch := omega) only [upd_ne]; exact q2, by simp (disch := omega) only [upd_ne]; exact q4, fun k h1 h2 => by simp (disch := omega) only [upd_ne]; exact hsame k h1 h2, fun k h1 => by simp (disch := omega) only [upd_ne]; exact hsup k (by omega)⟩
    ·rw [if_pos h2] at hE
     rw [hE]
     have e1 : MG sx = (sx.2, (sx.1 : Int)) := by unfold MG; rw [if_pos h2]
     have e2 : LP sx = sx.1 + 1 := by unfold LP; rw [if_pos h2]
     rw [e1, e2] at hst ⊢
     
     repeat' (first | (simp -implicitDefEqProofs [Ej, GC, -getElem?_pos, hjl', hxe, h2, q4, splice, A1]) | (simp (disch := omega) only [AH]) | ((with_reducible refine ER 40 ?_); (refine' CallK.sfU ?_ ((hst g gs _ _ (by simp (disch := omega) only [upd_ne, Ax]; exact q1) (by simp (disch := omega) only [upd_ne]; exact q2))) ?_); (focus first | (with_reducible exact A0 _) | (simp [AK, AI, A1, A0]; done))) | (with_reducible first | refine A8 ?_ ?_ ?_ | exact AF | assumption | refine A4 ?_ | refine KM.of ?_ | refine AG ?_ | refine A2 ?_ | refine A5 ?_ | intro _g _hg | refine AE ?_ ?_ | intro _hc) | omega)
     all_goals first | exact A1 _ | (intro q' hq'; simp only [upd]; (repeat' split) <;> first | rfl | omega | (exact hsame _ hq' (by assumption)))
   ·have hjl' : ¬ (j : Int) < p.length := by omega
    rw [List.drop_eq_nil_of_le (by omega), Gq] at hE
    rw [hE]
    
    repeat' (first | (simp -implicitDefEqProofs [Ej, I7, -getElem?_pos, hjl', q4, splice, MG, LP, A1]) | (simp (disch := omega) only [AH]) | (with_reducible first | refine A8 ?_ ?_ ?_ | exact AF | assumption | refine A4 ?_ | refine KM.of ?_ | refine AG ?_ | refine A2 ?_ | refine A5 ?_ | intro _g _hg | refine AE ?_ ?_ | intro _hc) | omega)
    all_goals first | exact A1 _ | (intro q' hq'; simp only [upd]; (repeat' split) <;> first | rfl | omega | (subst_vars; exact q1) | (exact hsame _ hq' (by assumption)))
  ·rw [if_pos hc0]
   repeat' (first | (simp -implicitDefEqProofs [I7, IM, GC, Ej, Hn, IG, c40, -getElem?_pos, hg, h60', hc0, splice, MG, LP, A1]) | (simp (disch := omega) only [AH]) | ((with_reducible refine ER 69 ?_); (refine' CallK.sfAt ?_ ((hnode _ _ (by simp (disch := omega) only [upd_ne, Ax]) (by simp (disch := omega) only [upd_ne]; exact hgs))) ?_); (focus first | (with_reducible exact A0 _) | (simp [AK, AI, A1, A0]; done))) | (with_reducible first | refine A8 ?_ ?_ ?_ | exact AF | assumption | refine A4 ?_ | refine KM.of ?_ | refine AG ?_ | refine A2 ?_ | refine A5 ?_ | intro _g _hg | refine AE ?_ ?_ | intro _hc) | omega)
   all_goals first | exact A1 _ | (intro q hq; simp only [upd]; (repeat' split) <;> first | rfl | omega)
structure NodeOk (k o n : Int) (v : List Int) (p : List St) : Prop where
 k1 : 1 ≤ k
 k2 : k ≤ 16
 leaf : k = 1 ∨ k = 2 → p = []
 many : k = 13 ∨ k = 14 → p ≠ []
 two : k = 15 ∨ k = 16 → p.length = 2
 one : k ≠ 1 → k ≠ 2 → k ≠ 13 → k ≠ 14 → k ≠ 15 → k ≠ 16 → p.length = 1
 rng : k = 2 → v.length = 3
 nov : k ≠ 1 → k ≠ 2 → v = []
 fn : Kr k = true → (1 ≤ o ∧ o ≤ 5) ∨ (k = 3 ∧ o = 6)
 cnd : Cq k = true → 1 ≤ o ∧ o ≤ 3
 noo : Kr k = false → Cq k = false → o = 0
 num : EP k = true → Jn k o ≤ n ∧ n ≤ Jq k
 non : EP k = false → n = 0
 vals : BS k 0 v = true
theorem nz {p : Prop} [Decidable p] {c x : Int} (hc : c ≠ 0) (h : (if p then c else x) = 0) : ¬ p ∧ x = 0 := by
 by_cases hp : p
 ·rw [if_pos hp] at h; exact absurd h hc
 ·rw [if_neg hp] at h; exact ⟨hp, h⟩
theorem Bl {k o n : Int} {v : List Int} {p : List St} (h : Bp (.mk k o n v p) = 0) : NodeOk k o n v p := by
 rw [Bp] at h
 obtain ⟨h1, h⟩ := nz (by decide) h
 obtain ⟨h2, h⟩ := nz (by decide) h
 obtain ⟨h3, h⟩ := nz (by decide) h
 obtain ⟨h4, h⟩ := nz (by decide) h
 obtain ⟨h5, h⟩ := nz (by decide) h
 have h6 : BS k 0 v = true := by
  by_cases h6 : BS k 0 v = true
  ·exact h6
  ·rw [if_neg h6] at h; cases h
 have h1 := Decidable.not_not.1 h1
 simp only [not_or, not_and, Decidable.not_not] at h2 h3 h4 h5
 obtain ⟨h21, h22, h23, h24, h25⟩ := h2
 obtain ⟨h31, h32, h33⟩ := h3
 obtain ⟨h41, h42⟩ := h4
 have hl : Cl k = true ↔ k = 1 ∨ k = 2 := by simp [Cl]
 have hm : Eq k = true ↔ k = 13 ∨ k = 14 := by simp [Eq]
 have ht : I8 k = true ↔ k = 15 ∨ k = 16 := by simp [I8]
 have hl' : Cl k = false ↔ ¬ (k = 1 ∨ k = 2) := by rw [← hl]; simp
 have hm' : Eq k = false ↔ ¬ (k = 13 ∨ k = 14) := by rw [← hm]; simp
 have ht' : I8 k = false ↔ ¬ (k = 15 ∨ k = 16) := by rw [← ht]; simp
 refine ⟨h1.1, h1.2, fun e => List.length_eq_zero_iff.1 (h21 (hl.2 e)), fun e e2 => (h22 (hm.2 e)) (by rw [e2]; rfl), fun e => h23 (ht.2 e), fun a b c d e f => h24 (hl'.2 (by omega)) (hm'.2 (by omega)) (ht'.2 (by omega)), h25, fun a b => List.length_eq_zero_iff.1 (h31 (hl'.2 (by omega))), ?_, ?_, fun a b => h33 a b, ?_, h32, h6⟩
 ·intro e
  have := h41 e
  by_cases a : 1 ≤ o ∧ o ≤ 5
  ·exact .inl a
  ·exact .inr (by grind)
 ·intro e
  have := h42 e
  grind
 ·intro e
  have := h5 e
  grind
theorem Bq : ∀ p : List St, p.length ≤ Bm p
 | [] => Nat.le_refl _
 | s :: r => by have h1 := Jb s; have h2 := Bq r; simp only [Bm, List.length_cons]; omega
theorem Dn : ∀ {p : List St}, ∀ s ∈ p, An s ≤ Bm p
 | [], s, h => by cases h
 | x :: r, s, hs => by
  simp only [Bm]
  rcases List.mem_cons.1 hs with e | hs
  ·rw [e]; omega
  ·have := Dn s hs; omega
theorem R3 (c : Nat) : ∀ l : List Nat, min l.sum c = min (l.map (min · c)).sum c
 | [] => rfl
 | a :: r => by
  have := R3 c r
  simp only [List.map_cons, List.sum_cons]
  omega
theorem min_mul (c n b : Nat) : min (n * b) c = min (n * min b c) c := by
 rcases Nat.le_total b c with h | h
 ·rw [Nat.min_eq_left h]
 ·rw [Nat.min_eq_right h]
  rcases Nat.eq_zero_or_pos n with e | e
  ·subst e; simp
  ·have h1 : c ≤ n * c := Nat.le_mul_of_pos_left c e
   have h2 : n * c ≤ n * b := Nat.mul_le_mul_left n h
   omega
theorem JE (c : Nat) (k n : Int) (v : List Int) (bs : List Nat) : min (C2 k n v bs) c = min (C2 k n v (bs.map (min · c))) c := by
 have g : ∀ i : Nat, (bs.map (min · c)).getD i 0 = min (bs.getD i 0) c := by
  intro i
  simp only [List.getD_eq_getElem?_getD, List.getElem?_map]
  cases bs[i]? <;> simp
 unfold C2
 rw [g, g]
 split
 ·rfl
 ·split
  ·rfl
  ·split
   ·omega
   ·split
    ·exact min_mul c _ _
    ·split
     ·omega
     ·exact R3 c bs
theorem J5 {v : List Int} (hl : v.length = 3) (hv : BS 2 0 v = true) : ∃ a b c : Int, v = [a, b, c] ∧ 0 ≤ a ∧ a ≤ 9999 ∧ 0 ≤ b ∧ b ≤ 10000 ∧ 1 ≤ c ∧ c ≤ 9999 := by
 match v, hl with
 | [a, b, c], _ =>
  simp [BS, EH] at hv
  exact ⟨a, b, c, rfl, by omega, by omega, by omega, by omega, by omega, by omega⟩
theorem JS (o m : Int) (v : List Int) (p : List St) (hv : v.length ≤ 140737488355328) : APure Tryz.prog 36 [encS (.mk 1 o m v p)] (aI (v.length : Nat)) := by
 have hvl : (v.map aI).length = v.length := by simp
 rw [A7]
 generalize v.map aI = va at *
 
 refine A3 Tryz.func36 KQ rfl fun n H hH => ?_
 repeat' (first | (simp -implicitDefEqProofs [Cx, Cz, Cy, DA, D1, D5, DD, Cu, DE, c36, -getElem?_pos, hvl, AI, AK]) | (simp (disch := omega) only [AH]) | (with_reducible first | refine A8 ?_ ?_ ?_ | exact AF | refine SameB.upd ?_ ?_ _ | assumption | refine A4 ?_ | refine KM.of ?_ | refine AG ?_ | refine A2 ?_ | refine A5 ?_ | intro _g _hg | refine AE ?_ ?_ | intro _hc) | omega)
theorem V5 (a b c : Int) (hc : 1 ≤ c) : max 0 ((b - a + c - 1).tdiv c) = (Gj [a, b, c] : Int) := by
 show _ = ((((b - a + c - 1) / c).toNat : Nat) : Int)
 rcases Int.lt_or_le (b - a + c - 1) 0 with h | h
 ·have h1 : (b - a + c - 1) / c < 0 := Int.ediv_neg_of_neg_of_pos h (by omega)
  have h2 : (b - a + c - 1).tdiv c ≤ 0 := by
   have := Int.tdiv_nonneg (a := -(b - a + c - 1)) (b := c) (by omega) (by omega)
   rw [Int.neg_tdiv] at this
   omega
  omega
 ·rw [Int.tdiv_eq_ediv_of_nonneg h]
  have := Int.ediv_nonneg h (b := c) (by omega)
  omega
theorem KY (o m : Int) (v : List Int) (p : List St) (hl : v.length = 3) (hv : BS 2 0 v = true) : APure Tryz.prog 36 [encS (.mk 2 o m v p)] (aI (Gj v : Nat)) := by
 obtain ⟨a, b, c, rfl, ha, ha', hb, hb', hc, hc'⟩ := J5 hl hv
 have hr := V5 a b c hc
 have hq : -30000 ≤ (b - a + c - 1).tdiv c ∧ (b - a + c - 1).tdiv c ≤ 30000 := by
  have := Int.natAbs_tdiv_le_natAbs (b - a + c - 1) c
  omega
 rw [A7]
 generalize hz : Gj [a, b, c] = z at *
 
 refine A3 Tryz.func36 KQ rfl fun n H hH => ?_
 repeat' (first | (simp -implicitDefEqProofs [Cx, Cz, Cy, DA, D1, D5, DD, Cu, DE, c36, -getElem?_pos, AI, AK]) | (simp (disch := omega) only [AH]) | (with_reducible first | refine A8 ?_ ?_ ?_ | exact AF | refine SameB.upd ?_ ?_ _ | assumption | refine A4 ?_ | refine KM.of ?_ | refine AG ?_ | refine A2 ?_ | refine A5 ?_ | intro _g _hg | refine AE ?_ ?_ | intro _hc) | omega)
 all_goals (rw [IntKind.i64_wrap_id (by omega) (by omega)]; omega)
def rgE (l : CL) : Prop := ∀ e ∈ l, 0 ≤ e.1 ∧ e.1 ≤ 9999
theorem rgE.nil : rgE [] := fun e h => by cases h
theorem rgE.cons {x : Int} {c : Av} {l : CL} (h : 0 ≤ x ∧ x ≤ 9999) (k : rgE l) : rgE ((x, c) :: l) := fun e he => by
 rcases List.mem_cons.1 he with rfl | he
 ·exact h
 ·exact k e he
theorem rgE.hd {x : Int} {c : Av} {l : CL} (h : rgE ((x, c) :: l)) : 0 ≤ x ∧ x ≤ 9999 := h (x, c) List.mem_cons_self
theorem rgE.tl {x : Int} {c : Av} {l : CL} (h : rgE ((x, c) :: l)) : rgE l := fun e he => h e (List.mem_cons_of_mem _ he)
theorem rgE.app {l m : CL} (h : rgE l) (k : rgE m) : rgE (l ++ m) := fun e he => (List.mem_append.1 he).elim (h e) (k e)
theorem Qk {o x y : Int} (hx : 0 ≤ x ∧ x ≤ 9999) (hy : 0 ≤ y ∧ y ≤ 9999) (hz : o = 1 ∨ o = 2 ∨ o = 3 ∨ o = 4 ∨ o = 5 ∨ 1 ≤ y) : 0 ≤ FL o x y ∧ FL o x y ≤ 9999 := by
 unfold FL
 split
 ·omega
 ·split
  ·omega
  ·split
   ·omega
   ·split
    ·omega
    ·split
     ·omega
     ·have h1 := Int.emod_nonneg x (show y ≠ 0 by omega)
      have h2 := Int.emod_lt_of_pos x (show 0 < y by omega)
      omega
theorem NL : ∀ (xs : List Int) (i : Nat), (T8 i xs).length = xs.length
 | [], _ => rfl
 | x :: r, i => by simp [T8, NL r]
theorem NA : ∀ (xs : List Int) (i : Nat), ∀ e ∈ T8 i xs, e.1 ∈ xs
 | [], _, e, h => by cases h
 | x :: r, i, e, h => by
  simp only [T8, List.mem_cons] at h
  rcases h with rfl | h
  ·simp
  ·exact List.mem_cons_of_mem _ (NA r _ e h)
theorem Re : ∀ (n : Nat) (cur : Av) (l : CL) (fin : Av), (Dq n cur l fin).1.length = min n l.length
 | 0, _, _, _ => by simp [Dq]
 | n + 1, _, [], _ => by simp [Dq]
 | n + 1, _, (x, c) :: r, fin => by simp [Dq, Re n c r fin]
theorem Vw : ∀ (n : Nat) (cur : Av) (l : CL) (fin : Av), (Dq n cur l fin).1 = l.take n
 | 0, _, _, _ => by simp [Dq]
 | n + 1, _, [], _ => by simp [Dq]
 | n + 1, _, (x, c) :: r, fin => by simp [Dq, Vw n c r fin]
theorem Na (p : Int → Bool) : ∀ (l : CL) (fin : Av), (QW p l fin).1.Sublist l
 | [], _ => by simp [QW]
 | (x, c) :: r, fin => by
  simp only [QW]
  split
  ·exact (Na p r fin).cons₂ _
  ·exact List.nil_sublist _
theorem Mq (p : Int → Bool) : ∀ (l : CL), (Tn p l).Sublist l
 | [] => by simp [Tn]
 | (x, c) :: r => by
  simp only [Tn]
  split
  ·exact (Mq p r).cons _
  ·exact List.Sublist.refl _
theorem Is : ∀ (last : Int) (l : CL), (IN last l).Sublist l
 | _, [] => by simp [IN]
 | last, (x, c) :: r => by
  simp only [IN]
  split
  ·exact (Is x r).cons₂ _
  ·exact (Is last r).cons _
theorem Rv (f : Int → Int → Int) : ∀ (n : Int) (l : CL), (SF f n l).length = l.length
 | _, [] => rfl
 | n, (x, c) :: r => by simp [SF, Rv f]
theorem NP (f : Int → Int → Int) (N : Nat) : ∀ (last : List Int) (l : CL), (K6 f N last l).length ≤ l.length
 | _, [] => by simp [K6]
 | last, (x, c) :: r => by
  simp only [K6]
  split
  ·have := NP f N (last ++ [x]) r; simp; omega
  ·have := NP f N ((last ++ [x]).drop (last.length + 1 - N)) r; simp; omega
theorem PE (xs : List Int) (fin : Av) : ∀ n, (OZ xs fin n).length = n * xs.length
 | 0 => by simp [OZ]
 | n + 1 => by simp [OZ, PE xs fin n, Nat.succ_mul, Nat.add_comm]
theorem MT : ∀ (m : Nat) (q : List (Nat × CL × Av)) (cs : List Av), (Fn m q cs).1.length ≤ (q.map fun e => e.2.1.length).sum
 | 0, _, _ => by simp [Fn]
 | _ + 1, [], _ => by simp [Fn]
 | m + 1, (i, [], fin) :: q, cs => by
  have := MT m q (cs.set i fin)
  simpa [Fn] using this
 | m + 1, (i, (x, c) :: r, fin) :: q, cs => by
  have := MT m (q ++ [(i, r, fin)]) (cs.set i c)
  simp only [List.map_append, List.sum_append, List.map_cons, List.map_nil, List.sum_cons, List.sum_nil] at this
  simp only [Fn, List.length_cons, List.map_cons, List.sum_cons]
  omega
theorem RA (f : Int → Int → Int) (fa fb : Av) : ∀ (a : CL) (cb : Av) (b : CL), (Ip f fa fb a cb b).1.length ≤ min a.length b.length
 | [], _, _ => by simp [Ip]
 | (_, _) :: _, _, [] => by simp [Ip]
 | (x, c) :: r, _, (y, d) :: t => by have := RA f fa fb r d t; simp [Ip]; omega
theorem H9 (fa fb : Av) : ∀ (a b : CL), (ET fa fb a b).length = a.length + b.length
 | [], [] => by rw [ET]; rfl
 | [], (y, d) :: t => by rw [ET]; simp [H9 fa fb [] t]
 | (x, c) :: r, [] => by rw [ET]; simp [H9 fa fb r []]
 | (x, c) :: r, (y, d) :: t => by
  rw [ET]
  split
  ·simp [H9 fa fb r ((y, d) :: t)]; omega
  ·simp [H9 fa fb ((x, c) :: r) t]; omega
 termination_by a b => a.length + b.length
theorem R7 : ∀ Fs : List Fut, (Eb Fs).l.length = (Fs.map fun F => F.l.length).sum
 | [] => rfl
 | F :: Fs => by simp [Eb, R7 Fs]
theorem VM (k o n : Int) (F : Fut) (hk : 3 ≤ k ∧ k ≤ 12) : (GU k o n F).l.length ≤ (if k = 5 then min n.toNat F.l.length else if k = 12 then n.toNat * F.l.length else F.l.length) := by
 unfold GU
 by_cases h3 : k = 3
 ·subst h3; simp
 by_cases h4 : k = 4
 ·subst h4; simpa using List.length_filter_le _ _
 by_cases h5 : k = 5
 ·subst h5; simp [Re]
 by_cases h6 : k = 6
 ·subst h6; simp
 by_cases h7 : k = 7
 ·subst h7; simpa using (Na _ _ _).length_le
 by_cases h8 : k = 8
 ·subst h8; simpa using (Mq _ _).length_le
 by_cases h9 : k = 9
 ·subst h9; simp [Rv]
 by_cases h10 : k = 10
 ·subst h10; simpa using NP _ _ _ _
 by_cases h11 : k = 11
 ·subst h11; simpa using (Is _ _).length_le
 have h12 : k = 12 := by omega
 subst h12
 simp only [Tx]
 simp
 split
 ·simp
 ·rename_i hn
  simp [PE]
  obtain ⟨m, hm⟩ : ∃ m, n.toNat = m + 1 := ⟨n.toNat - 1, by omega⟩
  rw [hm, Nat.succ_mul]; simp; omega
theorem rgE.sub {l m : CL} (h : rgE m) (k : l.Sublist m) : rgE l := fun e he => h e (k.subset he)
theorem rgE.map {l : CL} (f : Int → Int) (h : ∀ x, 0 ≤ x ∧ x ≤ 9999 → 0 ≤ f x ∧ f x ≤ 9999) (k : rgE l) : rgE (l.map fun e => (f e.1, e.2)) := fun e he => by
 obtain ⟨y, hy, rfl⟩ := List.mem_map.1 he
 exact h _ (k y hy)
theorem rgE.sca {f : Int → Int → Int} (hf : ∀ x y, 0 ≤ x ∧ x ≤ 9999 → 0 ≤ y ∧ y ≤ 9999 → 0 ≤ f x y ∧ f x y ≤ 9999) : ∀ {n : Int} {l : CL}, 0 ≤ n ∧ n ≤ 9999 → rgE l → rgE (SF f n l)
 | _, [], _, _ => rgE.nil
 | n, (x, c) :: r, hn, h => rgE.cons (hf _ _ hn h.hd) (rgE.sca hf (hf _ _ hn h.hd) h.tl)
theorem Rr {f : Int → Int → Int} (hf : ∀ x y, 0 ≤ x ∧ x ≤ 9999 → 0 ≤ y ∧ y ≤ 9999 → 0 ≤ f x y ∧ f x y ≤ 9999) : ∀ (l : List Int) (a : Int), (0 ≤ a ∧ a ≤ 9999) → (∀ x ∈ l, 0 ≤ x ∧ x ≤ 9999) → 0 ≤ l.foldl f a ∧ l.foldl f a ≤ 9999
 | [], a, h, _ => h
 | x :: r, a, h, k => Rr hf r (f a x) (hf _ _ h (k x List.mem_cons_self)) fun y hy => k y (List.mem_cons_of_mem _ hy)
theorem To {f : Int → Int → Int} (hf : ∀ x y, 0 ≤ x ∧ x ≤ 9999 → 0 ≤ y ∧ y ≤ 9999 → 0 ≤ f x y ∧ f x y ≤ 9999) : ∀ (l : List Int), (∀ x ∈ l, 0 ≤ x ∧ x ≤ 9999) → 0 ≤ Qu f l ∧ Qu f l ≤ 9999
 | [], _ => by simp [Qu]
 | x :: r, k => Rr hf r x (k x List.mem_cons_self) fun y hy => k y (List.mem_cons_of_mem _ hy)
theorem rgE.win {f : Int → Int → Int} (hf : ∀ x y, 0 ≤ x ∧ x ≤ 9999 → 0 ≤ y ∧ y ≤ 9999 → 0 ≤ f x y ∧ f x y ≤ 9999) (N : Nat) : ∀ {last : List Int} {l : CL}, (∀ x ∈ last, 0 ≤ x ∧ x ≤ 9999) → rgE l → rgE (K6 f N last l)
 | _, [], _, _ => rgE.nil
 | last, (x, c) :: r, hl, h => by
  have h1 : ∀ y ∈ last ++ [x], 0 ≤ y ∧ y ≤ 9999 := fun y hy => by
   rcases List.mem_append.1 hy with hy | hy
   ·exact hl y hy
   ·simp at hy; subst hy; exact h.hd
  simp only [K6]
  split
  ·exact rgE.win hf N h1 h.tl
  ·have h2 : ∀ y ∈ (last ++ [x]).drop (last.length + 1 - N), 0 ≤ y ∧ y ≤ 9999 := fun y hy => h1 y (List.mem_of_mem_drop hy)
   exact rgE.cons (To hf _ h2) (rgE.win hf N h2 h.tl)
theorem rgE.rep {xs : List Int} {fin : Av} (h : ∀ x ∈ xs, 0 ≤ x ∧ x ≤ 9999) : ∀ n, rgE (OZ xs fin n)
 | 0 => rgE.nil
 | n + 1 => by
  rw [OZ]
  refine rgE.app (fun e he => ?_) (rgE.rep h n)
  obtain ⟨x, hx, rfl⟩ := List.mem_map.1 he
  exact h x hx
theorem rgE.tur : ∀ (m : Nat) (q : List (Nat × CL × Av)) (cs : List Av), (∀ e ∈ q, rgE e.2.1) → rgE (Fn m q cs).1
 | 0, _, _, _ => rgE.nil
 | _ + 1, [], _, _ => rgE.nil
 | m + 1, (i, [], fin) :: q, cs, h => rgE.tur m q _ fun e he => h e (List.mem_cons_of_mem _ he)
 | m + 1, (i, (x, c) :: r, fin) :: q, cs, h => by
  have h1 := h _ List.mem_cons_self
  refine rgE.cons h1.hd (rgE.tur m _ _ fun e he => ?_)
  rcases List.mem_append.1 he with he | he
  ·exact h e (List.mem_cons_of_mem _ he)
  ·simp at he; subst he; exact h1.tl
theorem rgE.zip {f : Int → Int → Int} (hf : ∀ x y, 0 ≤ x ∧ x ≤ 9999 → 0 ≤ y ∧ y ≤ 9999 → 0 ≤ f x y ∧ f x y ≤ 9999) (fa fb : Av) : ∀ {a : CL} {cb : Av} {b : CL}, rgE a → rgE b → rgE (Ip f fa fb a cb b).1
 | [], _, _, _, _ => rgE.nil
 | (_, _) :: _, _, [], _, _ => rgE.nil
 | (x, c) :: r, _, (y, d) :: t, h, k => rgE.cons (hf _ _ h.hd k.hd) (rgE.zip hf fa fb h.tl k.tl)
theorem rgE.mer (fa fb : Av) : ∀ {a b : CL}, rgE a → rgE b → rgE (ET fa fb a b)
 | [], [], _, _ => by rw [ET]; exact rgE.nil
 | [], (y, d) :: t, h, k => by rw [ET]; exact rgE.cons k.hd (rgE.mer fa fb h k.tl)
 | (x, c) :: r, [], h, k => by rw [ET]; exact rgE.cons h.hd (rgE.mer fa fb h.tl k)
 | (x, c) :: r, (y, d) :: t, h, k => by
  rw [ET]
  split
  ·exact rgE.cons h.hd (rgE.mer fa fb h.tl k)
  ·exact rgE.cons k.hd (rgE.mer fa fb h k.tl)
 termination_by a b => a.length + b.length
theorem rgE.cha : ∀ {Fs : List Fut}, (∀ F ∈ Fs, rgE F.l) → rgE (Eb Fs).l
 | [], _ => rgE.nil
 | F :: Fs, h => by
  have h1 := h F List.mem_cons_self
  have h2 := rgE.cha fun G hG => h G (List.mem_cons_of_mem _ hG)
  refine rgE.app (fun e he => ?_) (fun e he => ?_)
  ·obtain ⟨y, hy, rfl⟩ := List.mem_map.1 he; exact h1 y hy
  ·obtain ⟨y, hy, rfl⟩ := List.mem_map.1 he; exact h2 y hy
theorem Ul {o : Int} (ho : 1 ≤ o ∧ o ≤ 5) : ∀ x y, 0 ≤ x ∧ x ≤ 9999 → 0 ≤ y ∧ y ≤ 9999 → 0 ≤ FL o x y ∧ FL o x y ≤ 9999 := fun x y hx hy => Qk hx hy (by omega)
theorem Qt {k : Int} : ∀ {v : List Int} {i : Nat}, k ≠ 2 → BS k i v = true → ∀ x ∈ v, 0 ≤ x ∧ x ≤ 9999
 | [], _, _, _, x, hx => by cases hx
 | y :: r, i, hk, h, x, hx => by
  simp only [BS, Bool.and_eq_true] at h
  rcases List.mem_cons.1 hx with e | hx
  ·rw [e]; have := h.1; simp [EH, hk] at this; omega
  ·exact Qt hk h.2 x hx
theorem VB {a b c : Int} (ha : 0 ≤ a) (hb : b ≤ 10000) (hc : 1 ≤ c) : ∀ x ∈ VP [a, b, c], 0 ≤ x ∧ x ≤ 9999 := by
 intro x hx
 simp only [VP, List.mem_map, List.mem_range, Gj] at hx
 obtain ⟨i, hi, rfl⟩ := hx
 have h0 : 0 ≤ (i : Int) * c := Int.mul_nonneg (by omega) (by omega)
 have h1 : (i : Int) + 1 ≤ (b - a + c - 1) / c := by omega
 have h2 := Int.mul_le_of_le_ediv (a := (i : Int) + 1) (by omega : 0 < c) h1
 rw [Int.add_mul] at h2
 omega
theorem WF {k o n : Int} {v : List Int} {p : List St} (h : NodeOk k o n v p) (hk : 3 ≤ k ∧ k ≤ 12) {F : Fut} (hF : rgE F.l) : rgE (GU k o n F).l := by
 unfold GU
 by_cases h3 : k = 3
 ·subst h3
  have hn := h.num (by decide)
  have ho := h.fn (by decide)
  simp only [Jn, Jq, Cq] at hn
  rw [if_pos rfl]
  exact hF.map (fun x => FL o x n) fun x hx => Qk hx (by grind) (by grind)
 by_cases h4 : k = 4
 ·subst h4; exact hF.sub List.filter_sublist
 by_cases h5 : k = 5
 ·subst h5; simp only [Vw]; exact hF.sub (List.take_sublist _ _)
 by_cases h6 : k = 6
 ·subst h6; exact hF.sub (List.drop_sublist _ _)
 by_cases h7 : k = 7
 ·subst h7; exact hF.sub (Na _ _ _)
 by_cases h8 : k = 8
 ·subst h8; exact hF.sub (Mq _ _)
 by_cases h9 : k = 9
 ·subst h9
  have hn := h.num (by decide)
  have ho := h.fn (by decide)
  simp only [Jn, Jq, Cq] at hn
  exact rgE.sca (Ul (by omega)) (by grind) hF
 by_cases h10 : k = 10
 ·subst h10
  have ho := h.fn (by decide)
  exact rgE.win (Ul (by omega)) _ (by simp) hF
 by_cases h11 : k = 11
 ·subst h11; exact hF.sub (Is _ _)
 have h12 : k = 12 := by omega
 subst h12
 show rgE (Tx n.toNat F).l
 unfold Tx
 split
 ·exact rgE.nil
 ·exact rgE.app hF (rgE.rep (fun x hx => by obtain ⟨e, he, rfl⟩ := List.mem_map.1 hx; exact hF e he) _)
theorem VG {k o n : Int} {v : List Int} {p : List St} (h : NodeOk k o n v p) (hp : ∀ s ∈ p, (Bt s).l.length ≤ Ah s ∧ rgE (Bt s).l) : (Ck k o n v (Fz p)).l.length ≤ C2 k n v (CR p) ∧ rgE (Ck k o n v (Fz p)).l := by
 by_cases h1 : k = 1
 ·subst h1
  refine ⟨by simp [Ck, SU, NL, C2], fun e he => Qt (by decide) h.vals e.1 (NA _ _ e (by simpa [Ck, SU] using he))⟩
 by_cases h2 : k = 2
 ·subst h2
  obtain ⟨a, b, c, rfl, ha, ha', hb, hb', hc, hc'⟩ := J5 (h.rng rfl) h.vals
  refine ⟨by simp [Ck, SU, NL, C2, VP], fun e he => VB ha hb' hc e.1 (NA _ _ e (by simpa [Ck, SU] using he))⟩
 have hsum : ((p.map Bt).map fun F => F.l.length).sum ≤ (p.map Ah).sum := by
  clear h
  induction p with
  | nil => simp
  | cons s r ih =>
   have h3 := (hp s List.mem_cons_self).1
   have h4 := ih fun x hx => hp x (List.mem_cons_of_mem _ hx)
   simp only [List.map_cons, List.sum_cons]; omega
 by_cases h13 : k = 13
 ·subst h13
  have e : Ck 13 o n v (Fz p) = Eb (p.map Bt) := by simp [Ck, JQ]
  rw [e, R7]
  refine ⟨by simpa [C2, E4] using hsum, rgE.cha fun F hF => ?_⟩
  obtain ⟨s, hs, rfl⟩ := List.mem_map.1 hF
  exact (hp s hs).2
 by_cases h14 : k = 14
 ·subst h14
  have e : Ck 14 o n v (Fz p) = VI (p.map Bt) := by simp [Ck, JQ]
  rw [e]
  refine ⟨?_, ?_⟩
  ·refine Nat.le_trans (MT _ _ _) ?_
   have e2 : (((p.map Bt).zipIdx.map fun x => (x.2, x.1.l, x.1.fin)).map fun e => e.2.1.length) = (p.map Bt).map fun F => F.l.length := by
    rw [List.map_map]
    have : ((fun (e : Nat × CL × Av) => e.2.1.length) ∘ fun (x : Fut × Nat) => (x.2, x.1.l, x.1.fin)) = (fun F => F.l.length) ∘ Prod.fst := rfl
    rw [this, ← List.map_map, List.zipIdx_map_fst]
   rw [e2]
   simpa [C2, E4] using hsum
  ·refine rgE.tur _ _ _ fun e he => ?_
   obtain ⟨⟨F, i⟩, hm, rfl⟩ := List.mem_map.1 he
   obtain ⟨s, hs, e2⟩ := List.mem_map.1 (List.fst_mem_of_mem_zipIdx hm)
   simp only at e2 ⊢
   rw [← e2]
   exact (hp s hs).2
 by_cases h15 : k = 15
 ·subst h15
  have hl := h.two (.inl rfl)
  obtain ⟨x, y, rfl⟩ : ∃ x y, p = [x, y] := by
   match p, hl with
   | [x, y], _ => exact ⟨x, y, rfl⟩
  ·have hx := hp x (by simp)
   have hy := hp y (by simp)
   have e : (Ck 15 o n v (Fz [x, y])).l = (Ip (FL o) (Bt x).fin (Bt y).fin (Bt x).l (Bt y).cur (Bt y).l).1 := by simp [Ck, Fz]
   rw [e]
   refine ⟨Nat.le_trans (RA _ _ _ _ _ _) (by simp [C2, CR]; omega), rgE.zip (Ul ?_) _ _ hx.2 hy.2⟩
   have := h.fn (by decide)
   omega
 by_cases h16 : k = 16
 ·subst h16
  have hl := h.two (.inr rfl)
  obtain ⟨x, y, rfl⟩ : ∃ x y, p = [x, y] := by
   match p, hl with
   | [x, y], _ => exact ⟨x, y, rfl⟩
  ·have hx := hp x (by simp)
   have hy := hp y (by simp)
   have e : (Ck 16 o n v (Fz [x, y])).l = ET (Bt x).fin (Bt y).fin (Bt x).l (Bt y).l := by simp [Ck, Fz]
   rw [e]
   exact ⟨by rw [H9]; simp [C2, CR]; omega, rgE.mer _ _ hx.2 hy.2⟩
 have hl := h.one h1 h2 h13 h14 h15 h16
 have hk : 3 ≤ k ∧ k ≤ 12 := by have := h.k1; have := h.k2; omega
 obtain ⟨x, rfl⟩ : ∃ x, p = [x] := by
  match p, hl with
  | [x], _ => exact ⟨x, rfl⟩
 ·have hx := hp x (by simp)
  have e : Ck k o n v (Fz [x]) = GU k o n (Bt x) := by simp [Ck, Fz, h1, h2, h13, h14]
  rw [e]
  refine ⟨Nat.le_trans (VM k o n _ hk) ?_, WF h hk hx.2⟩
  simp only [C2, CR, if_neg h1, if_neg h2, if_neg h15]
  simp
  split
  ·omega
  ·split
   ·exact Nat.mul_le_mul_left _ hx.1
   ·exact hx.1
theorem Rm (s : St) : Gz s → (Bt s).l.length ≤ Ah s ∧ rgE (Bt s).l := by
 refine St.ind (Q := fun s => Gz s → (Bt s).l.length ≤ Ah s ∧ rgE (Bt s).l) ?_ s
 intro k o n v p ih ⟨hn, hp⟩
 rw [Bt, Ah]
 exact VG (Bl hn) fun s hs => ih s hs (Cm hp s hs)
def asks (x : AV) (n : Nat) (H : A6) (R : DP) : Prop := match x with
 | .fn f a b => CV Tryz.prog f = true ∧ ACalls Tryz.prog f (a ++ [] ++ b) n H R
 | _ => False
def EA (cs : Av) (lo : Nat) (c : Av) : Av := cs.take lo ++ c ++ cs.drop (lo + c.length)
theorem Uf {cs : Av} {lo : Nat} {c : Av} (h : lo + c.length ≤ cs.length) : (EA cs lo c).length = cs.length := by simp [EA]; omega
structure Giv (gO lo : Nat) (c : Av) (H : A6) (gg : Nat) (cs : Av) : Prop where
 opn : H gO = some (.cells 74 [.slg 1 gg cs.length])
 giv : H gg = some (.grow 3 (cs.map aI))
 fit : lo + c.length ≤ cs.length
 at_ : (cs.drop lo).take c.length = c
structure Aft (lo gg : Nat) (cs c : Av) (O : Nat → Prop) (n : Nat) (H : A6) (n' : Nat) (H' : A6) (O' : Nat → Prop) : Prop where
 le : n ≤ n'
 sub : ∀ g, O' g → O g ∨ n ≤ g
 bel : ∀ g, O' g → g < n'
 fr : ∀ g, g < n → ¬ O g → g ≠ gg → H' g = H g
 giv : H' gg = some (.grow 3 ((EA cs lo c).map aI))
def Ended (gO lo : Nat) (fin : Av) (x : AV) (O : Nat → Prop) (H0 : A6) (n0 : Nat) : Prop := ∀ n H gg cs, n0 ≤ n → (∀ g, O g → H g = H0 g) → ¬ O gg → ¬ O gO → Giv gO lo fin H gg cs →
 asks x n H fun r n' H' => r = .tup [aI 0, .bool false] ∧ n' = n ∧ H' = H
def Raw (e : Bool) (gO lo : Nat) (fin : Av) (x : AV) : CL → Av → (Nat → Prop) → A6 → Nat → Prop
 | [], cur, O, H0, n0 => ∀ n H gg cs, n0 ≤ n → (∀ g, O g → H g = H0 g) → ¬ O gg → ¬ O gO → Giv gO lo cur H gg cs →
  asks x n H fun r n' H' => ∃ (v : Int) (O' : Nat → Prop), r = .tup [aI v, .bool false] ∧ Aft lo gg cs fin O n H n' H' O' ∧ (e = true → Ended gO lo fin x O' H' n')
 | (y, c) :: l, cur, O, H0, n0 => ∀ n H gg cs, n0 ≤ n → (∀ g, O g → H g = H0 g) → ¬ O gg → ¬ O gO → Giv gO lo cur H gg cs →
  asks x n H fun r n' H' => ∃ (O' : Nat → Prop), r = .tup [aI y, .bool true] ∧ Aft lo gg cs c O n H n' H' O' ∧ Raw e gO lo fin x l c O' H' n'
def Xv (e : Bool) (gO lo : Nat) (fin : Av) (x : AV) (gg : Nat) (cs : Av) (O : Nat → Prop) (n : Nat) (H : A6) : DP := fun r n' H' => ∃ (v : Int) (O' : Nat → Prop), r = .tup [aI v, .bool false] ∧ Aft lo gg cs fin O n H n' H' O' ∧ (e = true → Ended gO lo fin x O' H' n')
def YP (e : Bool) (gO lo : Nat) (fin : Av) (x : AV) (gg : Nat) (cs : Av) (O : Nat → Prop) (n : Nat) (H : A6) (y : Int) (c : Av) (l : CL) : DP := fun r n' H' => ∃ (O' : Nat → Prop), r = .tup [aI y, .bool true] ∧ Aft lo gg cs c O n H n' H' O' ∧ Raw e gO lo fin x l c O' H' n'
def WL (e : Bool) (gO lo : Nat) (fin : Av) (x : AV) (gg : Nat) (cs : Av) (O : Nat → Prop) (n : Nat) (H : A6) : CL → DP
 | [] => Xv e gO lo fin x gg cs O n H
 | (y, c) :: l => YP e gO lo fin x gg cs O n H y c l
theorem Raw.of {e : Bool} {gO lo : Nat} {fin : Av} {x : AV} {l : CL} {cur : Av} {O : Nat → Prop} {H0 : A6} {n0 : Nat} (h : ∀ n H gg cs, n0 ≤ n → (∀ g, O g → H g = H0 g) → ¬ O gg → ¬ O gO → Giv gO lo cur H gg cs → asks x n H (WL e gO lo fin x gg cs O n H l)) : Raw e gO lo fin x l cur O H0 n0 := by
 cases l <;> exact h
theorem Raw.to {e : Bool} {gO lo : Nat} {fin : Av} {x : AV} {l : CL} {cur : Av} {O : Nat → Prop} {H0 : A6} {n0 : Nat} (h : Raw e gO lo fin x l cur O H0 n0) : ∀ n H gg cs, n0 ≤ n → (∀ g, O g → H g = H0 g) → ¬ O gg → ¬ O gO → Giv gO lo cur H gg cs → asks x n H (WL e gO lo fin x gg cs O n H l) := by
 cases l <;> exact h
theorem Ended.at_ {gO lo : Nat} {fin : Av} {x : AV} {O : Nat → Prop} {H0 H1 : A6} {n0 n1 : Nat} (h : Ended gO lo fin x O H0 n0) (hH : ∀ g, O g → H1 g = H0 g) (hn : n0 ≤ n1) : Ended gO lo fin x O H1 n1 :=
 fun n H gg cs h1 h2 => h n H gg cs (Nat.le_trans hn h1) fun g hg => (h2 g hg).trans (hH g hg)
theorem Raw.at_ {e : Bool} {gO lo : Nat} {fin : Av} {x : AV} {l : CL} {cur : Av} {O : Nat → Prop} {H0 H1 : A6} {n0 n1 : Nat} (h : Raw e gO lo fin x l cur O H0 n0) (hH : ∀ g, O g → H1 g = H0 g) (hn : n0 ≤ n1) : Raw e gO lo fin x l cur O H1 n1 := by
 match l, h with
 | [], h => exact fun n H gg cs h1 h2 => h n H gg cs (Nat.le_trans hn h1) fun g hg => (h2 g hg).trans (hH g hg)
 | (y, c) :: l, h => exact fun n H gg cs h1 h2 => h n H gg cs (Nat.le_trans hn h1) fun g hg => (h2 g hg).trans (hH g hg)
structure GoOn (n : Nat) (R : DP) (K : AV → Nat → A6 → Prop) : Prop where
 go : ∀ r n' H', n ≤ n' → (∀ g, n' ≤ g → H' g = none) → R r n' H' → K r n' H'
theorem KN {x : AV} {n : Nat} {H : A6} {R : DP} {d : Option Nat} {K : AS → Prop} {en : Ai} (h : asks x n H R) (hk : GoOn n R fun r n' H' => K ⟨Ad en d r, n', H'⟩) : BL Tryz.prog d K en n H [] x := by
 unfold asks at h
 split at h
 ·exact ⟨h.1, R, h.2, fun r n' H' h1 h2 h3 => hk.go r n' H' h1 h2 h3⟩
 ·exact h.elim
theorem Giv.put {gO lo gg : Nat} {c c' cs : Av} {H H' : A6} (h : Giv gO lo c H gg cs) (hl : c'.length = c.length) (h1 : H' gO = H gO) (h2 : H' gg = some (.grow 3 ((EA cs lo c').map aI))) : Giv gO lo c' H' gg (EA cs lo c') := by
 have h3 := h.fit
 have h4 := Uf (cs := cs) (lo := lo) (c := c') (by omega)
 refine ⟨by rw [h1, h.opn, h4], h2, by rw [h4]; omega, ?_⟩
 unfold EA
 rw [List.append_assoc, List.drop_append_of_le_length (by simp; omega)]
 have : (cs.take lo).drop lo = [] := List.drop_eq_nil_of_le (by simp; omega)
 rw [this]
 simp
theorem Sc {cs c c' : Av} {lo : Nat} (h : lo + c.length ≤ cs.length) (hl : c'.length = c.length) : EA (EA cs lo c) lo c' = EA cs lo c' := by
 unfold EA
 have h1 : (cs.take lo ++ c ++ cs.drop (lo + c.length)).take lo = cs.take lo := by
  rw [List.append_assoc, List.take_append_of_le_length (by simp; omega), List.take_take, Nat.min_self]
 have h2 : (cs.take lo ++ c ++ cs.drop (lo + c.length)).drop (lo + c'.length) = cs.drop (lo + c.length) := by
  rw [List.drop_append]
  have : (cs.take lo ++ c).drop (lo + c'.length) = [] := List.drop_eq_nil_of_le (by simp; omega)
  rw [this]
  have : lo + c'.length - (cs.take lo ++ c).length = 0 := by simp; omega
  rw [this]; simp
 rw [h1, h2, hl]
theorem Kg {gO lo gg : Nat} {c cs : Av} {H : A6} (h : Giv gO lo c H gg cs) : EA cs lo c = cs := by
 unfold EA
 have h1 : c = (cs.drop lo).take c.length := h.at_.symm
 conv => lhs; rw [h1]
 have h2 : ((cs.drop lo).take c.length).length = c.length := by have := h.fit; simp; omega
 rw [h2, List.append_assoc, ← List.drop_drop, List.take_append_drop, List.take_append_drop]
theorem Giv.lt {gO lo gg n : Nat} {c cs : Av} {H : A6} (h : Giv gO lo c H gg cs) (hs : ∀ g, n ≤ g → H g = none) : gO < n ∧ gg < n := by
 refine ⟨?_, ?_⟩
 ·rcases Nat.lt_or_ge gO n with h1 | h1
  ·exact h1
  ·have := h.opn; rw [hs gO h1] at this; cases this
 ·rcases Nat.lt_or_ge gg n with h1 | h1
  ·exact h1
  ·have := h.giv; rw [hs gg h1] at this; cases this
theorem Giv.keep {gO lo gg g : Nat} {c cs : Av} {H : A6} {x : Option AObj} (h : Giv gO lo c H gg cs) (h1 : gO ≠ g) (h2 : gg ≠ g) : Giv gO lo c (upd H g x) gg cs :=
 ⟨by rw [upd_ne h1]; exact h.opn, by rw [upd_ne h2]; exact h.giv, h.fit, h.at_⟩
theorem Giv.ne {gO lo gg : Nat} {c cs : Av} {H : A6} (h : Giv gO lo c H gg cs) : gO ≠ gg := by
 intro e
 have h1 := h.opn
 rw [e, h.giv] at h1
 cases h1
theorem Aft.same {gO lo gg n : Nat} {c cs : Av} {H : A6} {O : Nat → Prop} (h : Giv gO lo c H gg cs) (hb : ∀ g, O g → g < n) : Aft lo gg cs c O n H n H O :=
 ⟨Nat.le_refl _, fun g h => .inl h, hb, fun g _ _ _ => rfl, by rw [Kg h]; exact h.giv⟩
theorem Aft.tr {gO lo gg n n1 n2 : Nat} {cs c c1 c2 : Av} {H H1 H2 : A6} {O O1 O2 : Nat → Prop} (hg : Giv gO lo c H gg cs) (h : Aft lo gg cs c1 O n H n1 H1 O1) (k : Aft lo gg (EA cs lo c1) c2 O1 n1 H1 n2 H2 O2) (l1 : c1.length = c.length) (l2 : c2.length = c.length) : Aft lo gg cs c2 O n H n2 H2 O2 := by
 refine ⟨Nat.le_trans h.le k.le, fun g h1 => ?_, k.bel, fun g h1 h2 h3 => ?_, ?_⟩
 ·rcases k.sub g h1 with h2 | h2
  ·exact h.sub g h2
  ·exact .inr (Nat.le_trans h.le h2)
 ·have h4 : ¬ O1 g := fun h4 => (h.sub g h4).elim h2 (fun h => by omega)
  rw [k.fr g (Nat.lt_of_lt_of_le h1 h.le) h4 h3, h.fr g h1 h2 h3]
 ·rw [k.giv, Sc (by have := hg.fit; omega) (by omega)]
theorem Aft.gv {gO lo gg n n' : Nat} {cs c c1 : Av} {H H' : A6} {O O' : Nat → Prop} (ha : Aft lo gg cs c1 O n H n' H' O') (hg : Giv gO lo c H gg cs) (hs : ∀ g, n ≤ g → H g = none) (h1 : ¬ O gO) (hl : c1.length = c.length) : Giv gO lo c1 H' gg (EA cs lo c1) :=
 hg.put hl (ha.fr gO (hg.lt hs).1 h1 hg.ne) ha.giv
theorem Aft.nO {gO lo gg n n' : Nat} {cs c : Av} {O O' : Nat → Prop} {H H' : A6} (ha : Aft lo gg cs c O n H n' H' O') (h1 : ¬ O gO) (h2 : gO < n) : ¬ O' gO := fun h => (ha.sub gO h).elim h1 (fun h => by omega)
theorem Aft.ext {B : Nat → Prop} {lo gg : Nat} {cs c : Av} {O O' : Nat → Prop} {n n' : Nat} {H H1 H' H2 : A6} (ha : Aft lo gg cs c O n H1 n' H' O') (hB : ∀ g, B g → g < n) (hH1 : ∀ g, ¬ B g → H1 g = H g) (hH : ∀ g, ¬ B g → H2 g = H' g) (hg : ¬ B gg) :
  Aft lo gg cs c (fun g => O g ∨ B g) n H n' H2 (fun g => O' g ∨ B g) := by
 refine ⟨ha.le, fun g h => ?_, fun g h => ?_, fun g h1 h2 h3 => ?_, ?_⟩
 ·rcases h with h | h
  ·exact (ha.sub g h).elim (fun h => .inl (.inl h)) .inr
  ·exact .inl (.inr h)
 ·rcases h with h | h
  ·exact ha.bel g h
  ·have := hB g h; have := ha.le; omega
 ·rw [hH g fun h => h2 (.inr h)]; exact (ha.fr g h1 (fun h => h2 (.inl h)) h3).trans (hH1 g fun h => h2 (.inr h))
 ·rw [hH gg hg]; exact ha.giv
structure Bx (O : Nat → Prop) (gO g : Nat) (H : A6) (n : Nat) (ob : AObj) : Prop where
 no : ¬ O g
 nO : gO ≠ g
 lt : g < n
 at_ : H g = some ob
theorem Bx.to {gO g : Nat} {O : Nat → Prop} {n0 n : Nat} {H0 H : A6} {ob : AObj} (h : Bx O gO g H0 n0 ob) (hn : n0 ≤ n) (hag : H g = H0 g) : Bx O gO g H n ob := ⟨h.no, h.nO, Nat.lt_of_lt_of_le h.lt hn, hag.trans h.at_⟩
theorem Bx.go {lo gg g gO : Nat} {cs c : Av} {O O' : Nat → Prop} {n n' : Nat} {H H' : A6} {ob : AObj} (h : Bx O gO g H n ob) (hg : gg ≠ g) (ha : Aft lo gg cs c O n H n' H' O') : Bx O' gO g H' n' ob := by
 have h1 := h.lt
 have h2 := ha.le
 exact ⟨fun h => (ha.sub g h).elim ‹Bx O gO g H n ob›.no (fun h => by omega), h.nO, by omega, (ha.fr g h1 h.no (Ne.symm hg)).trans h.at_⟩
theorem Bx.set {gO g : Nat} {O : Nat → Prop} {n : Nat} {H : A6} {ob : AObj} (ob' : AObj) (h : Bx O gO g H n ob) : Bx O gO g (upd H g (some ob')) n ob' := ⟨h.no, h.nO, h.lt, Ax _ _ _⟩
theorem Bx.keep {gO g g' : Nat} {O : Nat → Prop} {n : Nat} {H : A6} {ob : AObj} {x : Option AObj} (h : Bx O gO g H n ob) (hn : g ≠ g') : Bx O gO g (upd H g' x) n ob := ⟨h.no, h.nO, h.lt, by rw [upd_ne hn]; exact h.at_⟩
abbrev Rs (k o m : Int) (a b : AV) : AObj := .cells 25 [aI k, aI o, aI m, a, b]
abbrev XV (x : AV) : AObj := .cells 76 [x]
abbrev X0 (i : Int) : AObj := .cells 3 [aI i]
theorem U2 : CV Tryz.prog 132 = true := by kernel_rfl
theorem take_zero {gO lo : Nat} {fin : Av} {px : AV} {g1 g2 : Nat} (l : CL) (cur : Av) (O : Nat → Prop) (H0 : A6) (n0 : Nat) (noO : ¬ O gO) (hbel : ∀ g, O g → g < n0) (B1 : Bx O gO g1 H0 n0 (X0 0)) (B2 : Bx O gO g2 H0 n0 (XV px)) :
  Raw false gO lo (Dq 0 cur l fin).2 (.fn 132 [] [.ptr g1 0, .ptr g2 0]) (Dq 0 cur l fin).1 cur (fun g => O g ∨ g = g1 ∨ g = g2) H0 n0 := by
 have hr : Raw false gO lo fin px [] cur (fun _ => False) H0 n0 ∨ True := .inr trivial
 refine Raw.of fun n H gg cs hn hag hgg hgO hgv => ?_
 replace B1 := B1.to hn (hag g1 (.inr (.inl rfl)))
 have q1 := B1.at_
 replace B2 := B2.to hn (hag g2 (.inr (.inr rfl)))
 have ng1 : gg ≠ g1 := fun h => hgg (.inr (.inl h))
 have ng2 : gg ≠ g2 := fun h => hgg (.inr (.inr h))
 replace hbel : ∀ g, O g → g < n := fun g h => Nat.lt_of_lt_of_le (hbel g h) hn
 refine ⟨U2, ?_⟩
 have e1 : Dq 0 cur l fin = ([], cur) := by cases l <;> rfl
 rw [e1]
 generalize hR : WL _ _ _ _ _ _ _ _ _ _ _ = R
 refine Bi Tryz.func132 Wg rfl fun hs => ?_
 repeat' (first | (simp -implicitDefEqProofs [QI, c132, -getElem?_pos, q1, splice, -BL]) | (simp (disch := omega) only [AH]) | (with_reducible first | refine A8 ?_ ?_ ?_ | exact AF | assumption | refine A4 ?_ | refine KM.of ?_ | refine AG ?_ | intro _g _hg | refine AE ?_ ?_ | intro _hc) | omega)
 subst hR
 exact Ir (r := .tup [_, _]) rfl (by omega) hs ⟨0, _, rfl, (((Aft.same hgv hbel)).ext (B := fun g => g = g1 ∨ g = g2) (fun g h => by have := B1.lt; have := B2.lt; rcases h with rfl | rfl <;> omega) (fun _ _ => rfl) (fun _ _ => rfl) (fun h => h.elim ng1 ng2)), fun h => by cases h⟩
structure Pt where
 x : AV
 l : Option CL
 cur : Av
 fin : Av
 O : Nat → Prop
def PtOk (gO lo : Nat) (p : Pt) (H : A6) (n : Nat) : Prop := match p.l with
 | some l => Raw true gO lo p.fin p.x l p.cur p.O H n ∧ monL p.cur l p.fin
 | none => Ended gO lo p.fin p.x p.O H n ∧ p.cur = p.fin
def CJ : List Pt → Av
 | [] => []
 | p :: ps => p.cur ++ CJ ps
def OU : List Pt → Nat → Prop
 | [], _ => False
 | p :: ps, g => p.O g ∨ OU ps g
def Pts (gO lo : Nat) : List Pt → A6 → Nat → Prop
 | [], _, _ => True
 | p :: ps, H, n => PtOk gO lo p H n ∧ (∀ g, p.O g → g < n) ∧ (∀ g, p.O g → ¬ OU ps g) ∧ Pts gO (lo + p.cur.length) ps H n
theorem Ha : ∀ a b : List Pt, CJ (a ++ b) = CJ a ++ CJ b
 | [], b => rfl
 | p :: a, b => by simp [CJ, Ha a b]
theorem EW : ∀ (a b : List Pt) (g : Nat), OU (a ++ b) g ↔ OU a g ∨ OU b g
 | [], b, g => by simp [OU]
 | p :: a, b, g => by simp [OU, EW a b g, or_assoc]
theorem PtOk.at_ {gO lo : Nat} {p : Pt} {H H1 : A6} {n n1 : Nat} (h : PtOk gO lo p H n) (hH : ∀ g, p.O g → H1 g = H g) (hn : n ≤ n1) : PtOk gO lo p H1 n1 := by
 unfold PtOk at h ⊢
 split at h
 ·exact ⟨h.1.at_ hH hn, h.2⟩
 ·exact ⟨h.1.at_ hH hn, h.2⟩
theorem Pts.at_ : ∀ {ps : List Pt} {gO lo : Nat} {H H1 : A6} {n n1 : Nat}, Pts gO lo ps H n → (∀ g, OU ps g → H1 g = H g) → n ≤ n1 → Pts gO lo ps H1 n1
 | [], _, _, _, _, _, _, _, _, _ => trivial
 | p :: ps, _, _, _, _, _, _, h, hH, hn => ⟨h.1.at_ (fun g hg => hH g (.inl hg)) hn, fun g hg => Nat.lt_of_lt_of_le (h.2.1 g hg) hn, h.2.2.1, h.2.2.2.at_ (fun g hg => hH g (.inr hg)) hn⟩
theorem Pts.bel : ∀ {ps : List Pt} {gO lo : Nat} {H : A6} {n : Nat}, Pts gO lo ps H n → ∀ g, OU ps g → g < n
 | [], _, _, _, _, _, g, hg => hg.elim
 | p :: ps, _, _, _, _, h, g, hg => hg.elim (h.2.1 g) (h.2.2.2.bel g)
theorem Giv.cut {gO lo gg : Nat} {c cs : Av} {H : A6} (h : Giv gO lo c H gg cs) : ∃ X Y, cs = X ++ (c ++ Y) ∧ X.length = lo := by
 refine ⟨cs.take lo, cs.drop (lo + c.length), ?_, ?_⟩
 ·have h1 := Kg h
  unfold EA at h1
  rw [List.append_assoc] at h1
  exact h1.symm
 ·have := h.fit; simp; omega
theorem Rt {X Y c c' : Av} (h : c'.length = c.length) : EA (X ++ (c ++ Y)) X.length c' = X ++ (c' ++ Y) := by
 unfold EA
 rw [List.take_left, List.append_assoc, ← List.append_assoc X c Y, List.drop_left' (by simp; omega)]
theorem Giv.mid {gO lo gg : Nat} {p a s cs : Av} {H : A6} (h : Giv gO lo (p ++ (a ++ s)) H gg cs) : Giv gO (lo + p.length) a H gg cs := by
 obtain ⟨X, Y, rfl, rfl⟩ := h.cut
 refine ⟨h.opn, h.giv, by simp; omega, ?_⟩
 have : X ++ (p ++ (a ++ s) ++ Y) = (X ++ p) ++ (a ++ (s ++ Y)) := by simp
 rw [this, List.drop_left' (by simp), List.take_left]
theorem Td {gO lo gg : Nat} {p a a' s cs : Av} {H : A6} (h : Giv gO lo (p ++ (a ++ s)) H gg cs) (hl : a'.length = a.length) : EA cs (lo + p.length) a' = EA cs lo (p ++ (a' ++ s)) := by
 obtain ⟨X, Y, rfl, rfl⟩ := h.cut
 rw [Rt (by simp; omega)]
 have h1 : X ++ (p ++ (a ++ s) ++ Y) = (X ++ p) ++ (a ++ (s ++ Y)) := by simp
 rw [h1, show X.length + p.length = (X ++ p).length by simp, Rt hl]
 simp
theorem Aft.mid {gO lo gg n n' : Nat} {p a a' s cs : Av} {H H' : A6} {O O' : Nat → Prop} (h : Giv gO lo (p ++ (a ++ s)) H gg cs) (hl : a'.length = a.length) (ha : Aft (lo + p.length) gg cs a' O n H n' H' O') : Aft lo gg cs (p ++ (a' ++ s)) O n H n' H' O' :=
 ⟨ha.le, ha.sub, ha.bel, ha.fr, by rw [← Td h hl]; exact ha.giv⟩
theorem Aft.congr {lo gg n n' : Nat} {c cs : Av} {H H' : A6} {O O' P P' : Nat → Prop} (ha : Aft lo gg cs c O n H n' H' O') (h : ∀ g, O g ↔ P g) (h' : ∀ g, O' g ↔ P' g) : Aft lo gg cs c P n H n' H' P' :=
 ⟨ha.le, fun g hg => (ha.sub g ((h' g).2 hg)).elim (fun k => .inl ((h g).1 k)) .inr, fun g hg => ha.bel g ((h' g).2 hg), fun g h1 h2 h3 => ha.fr g h1 (fun k => h2 ((h g).1 k)) h3, ha.giv⟩
theorem Pts.repl : ∀ {qs bs : List Pt} {p p' : Pt} {gO lo n n' : Nat} {H H' : A6}, Pts gO lo (qs ++ p :: bs) H n → p'.cur.length = p.cur.length → n ≤ n' → (∀ g, p'.O g → p.O g ∨ n ≤ g) → (∀ g, p'.O g → g < n') → (∀ g, g < n → ¬ p.O g → OU (qs ++ p :: bs) g → H' g = H g) →
  PtOk gO (lo + (CJ qs).length) p' H' n' → Pts gO lo (qs ++ p' :: bs) H' n'
 | [], bs, p, p', gO, lo, n, n', H, H', h, hl, hn, hsub, hbel, hfr, hk => by
  refine ⟨by simpa [CJ] using hk, hbel, fun g hg => ?_, ?_⟩
  ·rcases hsub g hg with h1 | h1
   ·exact h.2.2.1 g h1
   ·intro h2; have := h.2.2.2.bel g h2; omega
  ·rw [hl]
   refine h.2.2.2.at_ (fun g hg => hfr g (h.2.2.2.bel g hg) (fun h1 => h.2.2.1 g h1 hg) (.inr hg)) hn
 | q :: qs, bs, p, p', gO, lo, n, n', H, H', h, hl, hn, hsub, hbel, hfr, hk => by
  obtain ⟨h1, h2, h3, h4⟩ := h
  have hd : ∀ g, q.O g → ¬ p.O g := fun g hg hp => h3 g hg ((EW qs (p :: bs) g).2 (.inr (.inl hp)))
  refine ⟨h1.at_ (fun g hg => hfr g (h2 g hg) (hd g hg) (.inl hg)) hn, fun g hg => Nat.lt_of_lt_of_le (h2 g hg) hn, fun g hg hg' => ?_, ?_⟩
  ·rcases (EW qs (p' :: bs) g).1 hg' with h5 | h5 | h5
   ·exact h3 g hg ((EW qs (p :: bs) g).2 (.inl h5))
   ·rcases hsub g h5 with h6 | h6
    ·exact hd g hg h6
    ·have := h2 g hg; omega
   ·exact h3 g hg ((EW qs (p :: bs) g).2 (.inr (.inr h5)))
  ·exact h4.repl hl hn hsub hbel (fun g h5 h6 h7 => hfr g h5 h6 (.inr h7)) (by simpa [CJ, Nat.add_assoc] using hk)
def PtR (p : Pt) (r : AV) (p' : Pt) : Prop := p'.x = p.x ∧ p'.fin = p.fin ∧ match p.l with
 | none => r = .tup [aI 0, .bool false] ∧ p'.l = none ∧ p'.cur = p.cur
 | some [] => (∃ v : Int, r = .tup [aI v, .bool false]) ∧ p'.l = none ∧ p'.cur = p.fin
 | some ((y, c) :: l) => r = .tup [aI y, .bool true] ∧ p'.l = some l ∧ p'.cur = c
theorem Pts.part : ∀ {qs bs : List Pt} {p : Pt} {gO lo n : Nat} {H : A6}, Pts gO lo (qs ++ p :: bs) H n → PtOk gO (lo + (CJ qs).length) p H n
 | [], bs, p, gO, lo, n, H, h => by simpa [CJ] using h.1
 | q :: qs, bs, p, gO, lo, n, H, h => by
  have := h.2.2.2.part
  simpa [CJ, Nat.add_assoc] using this
theorem Pts.call {qs bs : List Pt} {p : Pt} {gO lo gg n : Nat} {cs : Av} {H : A6} {d : Option Nat} {K : AS → Prop} {en : Ai} (h : Pts gO lo (qs ++ p :: bs) H n) (hg : Giv gO lo (CJ (qs ++ p :: bs)) H gg cs) (h1 : ¬ OU (qs ++ p :: bs) gg) (h2 : ¬ OU (qs ++ p :: bs) gO)
  (hk : ∀ r n' H' p', n ≤ n' → (∀ g, n' ≤ g → H' g = none) → PtR p r p' → Pts gO lo (qs ++ p' :: bs) H' n' → Aft lo gg cs (CJ (qs ++ p' :: bs)) (OU (qs ++ p :: bs)) n H n' H' (OU (qs ++ p' :: bs)) → K ⟨Ad en d r, n', H'⟩) :
  BL Tryz.prog d K en n H [] p.x := by
 have hpO : ∀ g, p.O g → OU (qs ++ p :: bs) g := fun g hg => (EW qs (p :: bs) g).2 (.inr (.inl hg))
 have hgw : Giv gO lo (CJ qs ++ (p.cur ++ CJ bs)) H gg cs := by rw [Ha] at hg; exact hg
 have hgp := hgw.mid
 have main : ∀ (n' : Nat) (H' : A6) (p' : Pt), Aft (lo + (CJ qs).length) gg cs p'.cur p.O n H n' H' p'.O → p'.cur.length = p.cur.length → PtOk gO (lo + (CJ qs).length) p' H' n' → Pts gO lo (qs ++ p' :: bs) H' n' ∧ Aft lo gg cs (CJ (qs ++ p' :: bs)) (OU (qs ++ p :: bs)) n H n' H' (OU (qs ++ p' :: bs)) := by
  intro n' H' p' ha hl hok
  refine ⟨h.repl hl ha.le ha.sub ha.bel (fun g k1 k2 k3 => ha.fr g k1 k2 (fun e => h1 (e ▸ k3))) hok, ?_⟩
  have h3 := Aft.mid hgw hl ha
  have h4 := h3.ext (B := fun g => OU qs g ∨ OU bs g) (H := H) (H2 := H') (fun g hb => h.bel g ((EW qs (p :: bs) g).2 (hb.elim .inl fun k => .inr (.inr k)))) (fun _ _ => rfl) (fun _ _ => rfl) (fun hb => h1 ((EW qs (p :: bs) gg).2 (hb.elim .inl fun k => .inr (.inr k))))
  have h5 : CJ (qs ++ p' :: bs) = CJ qs ++ (p'.cur ++ CJ bs) := by rw [Ha]; rfl
  rw [h5]
  refine h4.congr (fun g => ?_) (fun g => ?_)
  ·rw [EW]; simp only [OU]; grind
  ·rw [EW]; simp only [OU]; grind
 have hok := h.part
 obtain ⟨x, l, cur, fin, O⟩ := p
 cases l with
 | none =>
  obtain ⟨h3, h4⟩ := hok
  simp only at h4 hgp h3 hgw
  subst h4
  have hc := h3 n H gg cs (Nat.le_refl _) (fun _ _ => rfl) (fun k => h1 (hpO _ k)) (fun k => h2 (hpO _ k)) hgp
  refine KN hc ⟨?_⟩
  rintro r n' H' hle hsup ⟨rfl, rfl, rfl⟩
  have hb : Aft (lo + (CJ qs).length) gg cs cur O n' H' n' H' O := Aft.same hgp fun g k => h.bel g (hpO g k)
  obtain ⟨m1, m2⟩ := main n' H' ⟨x, none, cur, cur, O⟩ hb rfl ⟨h3, rfl⟩
  exact hk _ _ _ _ hle hsup ⟨rfl, rfl, rfl, rfl, rfl⟩ m1 m2
 | some l =>
  obtain ⟨h3, h4⟩ := hok
  simp only at h4 hgp h3 hgw
  have hc := h3.to n H gg cs (Nat.le_refl _) (fun _ _ => rfl) (fun k => h1 (hpO _ k)) (fun k => h2 (hpO _ k)) hgp
  refine KN hc ⟨?_⟩
  cases l with
  | nil =>
   rintro r n' H' hle hsup ⟨v, O', rfl, ha, he⟩
   obtain ⟨m1, m2⟩ := main n' H' ⟨x, none, fin, fin, O'⟩ ha h4.1.symm ⟨he rfl, rfl⟩
   exact hk _ _ _ ⟨x, none, fin, fin, O'⟩ hle hsup ⟨rfl, rfl, ⟨v, rfl⟩, rfl, rfl⟩ m1 m2
  | cons e l =>
   obtain ⟨y, c⟩ := e
   rintro r n' H' hle hsup ⟨O', rfl, ha, hr⟩
   obtain ⟨m1, m2⟩ := main n' H' ⟨x, some l, c, fin, O'⟩ ha h4.1.1.symm ⟨hr, h4.2⟩
   exact hk _ _ _ ⟨x, some l, c, fin, O'⟩ hle hsup ⟨rfl, rfl, rfl, rfl, rfl⟩ m1 m2
theorem PtOk.len {gO lo n : Nat} {p : Pt} {H : A6} (h : PtOk gO lo p H n) : p.fin.length = p.cur.length := by
 unfold PtOk at h
 split at h
 ·exact (monL.fin h.2).1.symm
 ·rw [h.2]
theorem PtR.len {gO lo n n' lo' : Nat} {p p' : Pt} {H H' : A6} {r : AV} (h : PtR p r p') (k : PtOk gO lo p H n) : p'.cur.length = p.cur.length := by
 obtain ⟨x, l, cur, fin, O⟩ := p
 have h1 := k.len
 unfold PtR at h
 unfold PtOk at k
 match l, h, k with
 | none, h, k => rw [h.2.2.2.2]
 | some [], h, k => rw [h.2.2.2.2]; exact h1
 | some ((y, c) :: l), h, k => rw [h.2.2.2.2]; exact k.2.1.1.symm
structure Sit (gO lo : Nat) (ps : List Pt) (H : A6) (n gg : Nat) (cs : Av) : Prop where
 pts : Pts gO lo ps H n
 giv : Giv gO lo (CJ ps) H gg cs
 ngg : ¬ OU ps gg
 ngO : ¬ OU ps gO
 sup : ∀ g, n ≤ g → H g = none
theorem Sit.call {qs bs : List Pt} {p : Pt} {gO lo gg n : Nat} {cs : Av} {H : A6} {d : Option Nat} {K : AS → Prop} {en : Ai} (h : Sit gO lo (qs ++ p :: bs) H n gg cs)
  (hk : ∀ r n' H' p', n ≤ n' → PtR p r p' → (CJ (qs ++ p' :: bs)).length = (CJ (qs ++ p :: bs)).length → Sit gO lo (qs ++ p' :: bs) H' n' gg (EA cs lo (CJ (qs ++ p' :: bs))) → Aft lo gg cs (CJ (qs ++ p' :: bs)) (OU (qs ++ p :: bs)) n H n' H' (OU (qs ++ p' :: bs)) → K ⟨Ad en d r, n', H'⟩) :
  BL Tryz.prog d K en n H [] p.x := by
 have hlt := h.giv.lt h.sup
 refine h.pts.call h.giv h.ngg h.ngO (fun r n' H' p' hle hsup hr hP ha => ?_)
 have hl : (CJ (qs ++ p' :: bs)).length = (CJ (qs ++ p :: bs)).length := by
  have := hr.len (n' := n') (lo' := lo) (H' := H') h.pts.part
  simp only [Ha, CJ, List.length_append]; omega
 refine hk r n' H' p' hle hr hl ⟨hP, ha.gv h.giv h.sup h.ngO hl, fun k => (ha.sub gg k).elim h.ngg (fun k => by omega), ha.nO h.ngO hlt.1, hsup⟩ ha
theorem Sit.keep {ps : List Pt} {gO lo gg n g : Nat} {cs : Av} {H : A6} {x : Option AObj} (h : Sit gO lo ps H n gg cs) (h1 : ¬ OU ps g) (h2 : gO ≠ g) (h3 : gg ≠ g) (h4 : g < n) : Sit gO lo ps (upd H g x) n gg cs :=
 ⟨h.pts.at_ (fun k hk => upd_ne (fun e => h1 (e ▸ hk))) (Nat.le_refl _), h.giv.keep h2 h3, h.ngg, h.ngO, fun k hk => by rw [upd_ne (by omega)]; exact h.sup k hk⟩
theorem Sit.start {ps : List Pt} {gO lo gg n n0 : Nat} {cs : Av} {H H0 : A6} (h : Pts gO lo ps H0 n0) (hn : n0 ≤ n) (hag : ∀ g, OU ps g → H g = H0 g) (h1 : ¬ OU ps gg) (h2 : ¬ OU ps gO) (hg : Giv gO lo (CJ ps) H gg cs) (hs : ∀ g, n ≤ g → H g = none) : Sit gO lo ps H n gg cs :=
 ⟨h.at_ hag hn, hg, h1, h2, hs⟩
theorem Aft.box {lo gg n n' g : Nat} {c cs : Av} {H H' : A6} {O O' : Nat → Prop} {x : Option AObj} (ha : Aft lo gg cs c O n H n' H' O') (h1 : O g) (h2 : gg ≠ g) : Aft lo gg cs c O n H n' (upd H' g x) O' :=
 ⟨ha.le, ha.sub, ha.bel, fun k k1 k2 k3 => by rw [upd_ne (fun e => k2 (by rw [e]; exact h1))]; exact ha.fr k k1 k2 k3, by rw [upd_ne h2]; exact ha.giv⟩
end Go.Proofs.YtjdccdelcnmocaaGreatDoor

/- StreamsMapParts: for every input the law returns true, and its arguments read as they did; the package-level tables that the row lists start as the program lays them. -/
import Derived.Test.YtjdccdelcnmocaaGreatDoorFcMap
import Derived.Test.YtjdccdelcnmocaaGreatDoorCards
import Derived.Test.YtjdccdelcnmocaaGreatDoorTie
import Derived.Test.YtjdccdelcnmocaaGreatDoorMdQ
import Derived.Test.YtjdccdelcnmocaaGreatDoorLwMap
set_option linter.all false
set_option linter.unusedSimpArgs false
set_option linter.unusedVariables false
namespace Go.Proofs.YtjdccdelcnmocaaGreatDoor
open Go.ChangeShapes Go.WideShapes Go.ChangeAt Go.RowKit Go.Deep
theorem params9_ok : ∀ t ∈ Tryz.f9.params.toList, Tryz.prog.readableRec t = true ∧ t < Tryz.prog.types.size := by
  intro t ht
  rw [Tryz.params9] at ht
  have ht : t ∈ [25, 25, 3, 3, 3, 3] := ht
  simp only [List.mem_cons, List.not_mem_nil, or_false] at ht
  rcases ht with rfl | rfl | rfl | rfl | rfl | rfl
  · exact ⟨by kernel_rfl, of_decide_eq_true (by kernel_rfl)⟩
  · exact ⟨by kernel_rfl, of_decide_eq_true (by kernel_rfl)⟩
  · exact ⟨by kernel_rfl, of_decide_eq_true (by kernel_rfl)⟩
  · exact ⟨by kernel_rfl, of_decide_eq_true (by kernel_rfl)⟩
  · exact ⟨by kernel_rfl, of_decide_eq_true (by kernel_rfl)⟩
  · exact ⟨by kernel_rfl, of_decide_eq_true (by kernel_rfl)⟩
set_option maxRecDepth 100000 in
theorem contract9 (H : Type) (enc : TypeId × Value → H) (W : World) (base : Nat) (args : Array Value) (ds gs : List (DataW H)) (before : List MemPlace)
    (hval0 : ∀ (j : Nat) t v, Tryz.f9.params[j]? = some t → args[j]? = some v → Value.okWide Tryz.prog W .any base t v)
    (hW0 : DataW.Whole enc Tryz.prog Tryz.f9.params.toList Rows.streamsMapPartsSpec.vars false W args.toList ds gs before) (hreach : ∀ y ∈ DataW.weightsEach Tryz.prog Tryz.f9.params.toList ds, y ≤ reachBytes) (hlaid : Laid W) :
    Calls Tryz.prog 9 args W fun e W' => ∃ v, e = .returned v ∧ Rows.streamsMapPartsSpec.post enc Tryz.prog Tryz.f9 false true false false W args v W' := by
  have hval : ∀ (j : Nat) t v, Tryz.f9.params[j]? = some t → args[j]? = some v → Value.okWide Tryz.prog W .any base t v := hval0
  have hW1 : DataW.Whole enc Tryz.prog Tryz.f9.params.toList [] false W args.toList ds gs before := hW0
  have hW' := hW1
  obtain ⟨p, q, hA0, hV, rfl, hfz, hnd⟩ := hW1
  have hA : DataW.TrodAll enc Tryz.prog W 0 (fun _ => true) true Tryz.f9.params.toList args.toList ds p := hA0
  rw [Tryz.params9] at hA hval hreach
  obtain ⟨v0, vs0, d0, ds0, p0, q0, hargs, rfl, rfl, h0, r0⟩ := trodAll_cons hA
  obtain ⟨v1, vs1, d1, ds1, p1, q1, rfl, rfl, rfl, h1, r1⟩ := trodAll_cons r0
  obtain ⟨v2, vs2, d2, ds2, p2, q2, rfl, rfl, rfl, h2, r2⟩ := trodAll_cons r1
  obtain ⟨v3, vs3, d3, ds3, p3, q3, rfl, rfl, rfl, h3, r3⟩ := trodAll_cons r2
  obtain ⟨v4, vs4, d4, ds4, p4, q4, rfl, rfl, rfl, h4, r4⟩ := trodAll_cons r3
  obtain ⟨v5, vs5, d5, ds5, p5, q5, rfl, rfl, rfl, h5, r5⟩ := trodAll_cons r4
  obtain ⟨rfl, rfl, rfl⟩ := trodAll_nil r5
  obtain rfl : args = #[v0, v1, v2, v3, v4, v5] := by cases args; simp_all
  obtain ⟨rfl, rfl⟩ := trodVars_none hV
  simp only [DataW.weightsEach, List.append_nil, List.mem_append] at hreach
  have R0 : ∀ y ∈ d0.weights Tryz.prog 25, y ≤ reachBytes := fun y hy => hreach y (.inl hy)
  obtain ⟨f0, t0⟩ := h0
  obtain ⟨l0, e0, w0⟩ := GQ (hval 0 25 v0 rfl rfl) t0
  replace w0 := w0 R0
  have R1 : ∀ y ∈ d1.weights Tryz.prog 25, y ≤ reachBytes := fun y hy => hreach y (.inr (.inl hy))
  obtain ⟨f1, t1⟩ := h1
  obtain ⟨l1, e1, w1⟩ := GQ (hval 1 25 v1 rfl rfl) t1
  replace w1 := w1 R1
  have R2 : ∀ y ∈ d2.weights Tryz.prog 3, y ≤ reachBytes := fun y hy => hreach y (.inr (.inr (.inl hy)))
  obtain ⟨l2, rfl, rfl, rfl, w2⟩ := open_int Tryz.underlying3 (hval 2 3 v2 rfl rfl) h2
  have R3 : ∀ y ∈ d3.weights Tryz.prog 3, y ≤ reachBytes := fun y hy => hreach y (.inr (.inr (.inr (.inl hy))))
  obtain ⟨l3, rfl, rfl, rfl, w3⟩ := open_int Tryz.underlying3 (hval 3 3 v3 rfl rfl) h3
  have R4 : ∀ y ∈ d4.weights Tryz.prog 3, y ≤ reachBytes := fun y hy => hreach y (.inr (.inr (.inr (.inr (.inl hy)))))
  obtain ⟨l4, rfl, rfl, rfl, w4⟩ := open_int Tryz.underlying3 (hval 4 3 v4 rfl rfl) h4
  have R5 : ∀ y ∈ d5.weights Tryz.prog 3, y ≤ reachBytes := fun y hy => hreach y (.inr (.inr (.inr (.inr (.inr (hy))))))
  obtain ⟨l5, rfl, rfl, rfl, w5⟩ := open_int Tryz.underlying3 (hval 5 3 v5 rfl rfl) h5
  have hap : APure Tryz.prog 9 _ (.bool true) := (Wm l0 l1 w0 w1 l2 l3 l4 l5)
  refine (H9 hlaid hap (.cons e0 (.cons e1 (.cons Rep.int (.cons Rep.int (.cons Rep.int (.cons Rep.int .nil))))))).mono fun e W' ⟨he, hb⟩ => ?_
  subst he
  exact ⟨_, rfl, IT (tb := 4) hW' rfl Sc params9_ok rfl Tryz.underlying4 rfl rfl rfl hb⟩
theorem ZX (os : Os) : laidMet Tryz.prog Rows.streamsMapPartsRow.laid ((BP os).forCall (fun _ _ => 0) ⟨#[], #[.agg #[.int .i64 0, .int .i64 0, .int .i64 0, .slice none 0 0, .slice none 0 0], .agg #[.int .i64 0, .int .i64 0, .int .i64 0, .slice none 0 0, .slice none 0 0], .int .i64 0, .int .i64 0, .int .i64 0, .int .i64 0], []⟩).memory :=
  laidMet_laidAll _ (by kernel_rfl) (by kernel_rfl)
theorem ZQ (os : Os) {H : Type} (enc : TypeId × Value → H) : ∃ places, DataW.whole enc Tryz.prog ((BP os).forCall (fun _ _ => 0) ⟨#[], #[.agg #[.int .i64 0, .int .i64 0, .int .i64 0, .slice none 0 0, .slice none 0 0], .agg #[.int .i64 0, .int .i64 0, .int .i64 0, .slice none 0 0, .slice none 0 0], .int .i64 0, .int .i64 0, .int .i64 0, .int .i64 0], []⟩).memory Tryz.f9.params.toList Rows.streamsMapPartsSpec.vars false (#[.agg #[.int .i64 0, .int .i64 0, .int .i64 0, .slice none 0 0, .slice none 0 0], .agg #[.int .i64 0, .int .i64 0, .int .i64 0, .slice none 0 0, .slice none 0 0], .int .i64 0, .int .i64 0, .int .i64 0, .int .i64 0] : Array Value).toList 8 = some ([.agg [.lit (.int .i64 0), .lit (.int .i64 0), .lit (.int .i64 0), .nil, .nil], .agg [.lit (.int .i64 0), .lit (.int .i64 0), .lit (.int .i64 0), .nil, .nil], .lit (.int .i64 0), .lit (.int .i64 0), .lit (.int .i64 0), .lit (.int .i64 0)], [], places) :=
  ⟨[], by kernel_rfl⟩
set_option maxRecDepth 100000 in
theorem YE (os : Os) (started : os.Started) (H : Type) (enc : TypeId × Value → H) (F : Stop.Interp) :
    ReturnsInHanded {} Tryz.checked os 9 .any ((OpenSpec.ofChange Rows.streamsMapPartsSpec).preRow enc Tryz.prog Tryz.f9 Rows.streamsMapPartsRow.domain false Rows.streamsMapPartsRow.laid) (((OpenSpec.ofChange Rows.streamsMapPartsSpec).at F).post enc Tryz.prog Tryz.f9 false true false false) := by
  obtain ⟨places, hx⟩ := ZQ os enc
  refine returnsInHanded_of_row (C := Tryz.checked) (s := (OpenSpec.ofChange Rows.streamsMapPartsSpec)) X4 started (by kernel_rfl) Tryz.func9
    (witness_row_atRef (enc := enc) (C := Tryz.checked) false (BP os) #[.agg #[.int .i64 0, .int .i64 0, .int .i64 0, .slice none 0 0, .slice none 0 0], .agg #[.int .i64 0, .int .i64 0, .int .i64 0, .slice none 0 0, .slice none 0 0], .int .i64 0, .int .i64 0, .int .i64 0, .int .i64 0] (World.laidAll_os _ _ _) (by kernel_rfl) (by kernel_rfl) (by kernel_rfl)
      (OpenSpec.preRow_of_cond 8 hx (by kernel_rfl) (fun k hk => by cases hk) (by kernel_rfl) (ZX os))) ?_
  intro W base args ds gs before hval hW _ hcond hr hL _ _
  have hr0 : (DataW.weightsEach Tryz.prog (Tryz.f9.params.toList ++ []) (ds ++ gs)).all (· ≤ reachBytes) = true := hr
  have hgs : gs = [] := by obtain ⟨_, _, _, hV, _⟩ := hW; exact (trodVars_none hV).1
  subst hgs
  rw [List.append_nil, List.append_nil] at hr0
  exact contract9 H enc W base args ds [] before hval hW (fun y hy => of_decide_eq_true (List.all_eq_true.1 hr0 y hy)) (K8 hL)
theorem Gb : Rows.StreamsMapPartsSaid :=
  OpenClaim.holds_of_cond 9 Tryz.f9 rfl rfl rfl rfl rfl rfl rfl ⟨rfl, rfl, rfl, rfl, rfl⟩ rfl rfl rfl rfl rfl (by kernel_rfl) Tryz.func9 closed9
    (of_decide_eq_true (by kernel_rfl)) (by unfold Func.isWrapper; first | (rw [if_pos (by decide +kernel)]; kernel_rfl) | (rw [if_neg (by decide +kernel)]; exact ⟨rfl, rfl⟩))
    (fun os started H enc _ F => by rw [OpenClaim.pre_eq_preRow]; exact YE os started H enc F)
theorem ZK (f : FuncId) (fn : Func) (hf : Tryz.pinned.checked.prog.funcNamed Rows.streamsMapPartsRow.func = some f) (hfn : Tryz.pinned.checked.prog.funcs[f]? = some fn) :
    true = Tryz.pinned.checked.prog.looks [] ∧ ∀ (j : Nat) t, fn.params[j]? = some t → Tryz.pinned.checked.prog.wantsStandIn t = false := by
  obtain rfl : f = 9 := Option.some.inj ((show Tryz.prog.funcNamed Rows.streamsMapPartsRow.func = some 9 by kernel_rfl).symm.trans hf) |>.symm
  obtain rfl : fn = Tryz.f9 := (Option.some.inj (Tryz.func9.symm.trans hfn)).symm
  refine ⟨by kernel_rfl, fun j t ht => ?_⟩
  rw [Tryz.params9] at ht
  have hm := Array.mem_of_getElem? ht
  have hm : t ∈ [25, 25, 3, 3, 3, 3] := hm.val
  simp only [List.mem_cons, List.not_mem_nil, or_false] at hm
  rcases hm with rfl | rfl | rfl | rfl | rfl | rfl
  · exact (show Tryz.prog.wantsStandIn 25 = false by kernel_rfl)
  · exact (show Tryz.prog.wantsStandIn 25 = false by kernel_rfl)
  · exact (show Tryz.prog.wantsStandIn 3 = false by kernel_rfl)
  · exact (show Tryz.prog.wantsStandIn 3 = false by kernel_rfl)
  · exact (show Tryz.prog.wantsStandIn 3 = false by kernel_rfl)
  · exact (show Tryz.prog.wantsStandIn 3 = false by kernel_rfl)
theorem streamsMapCard_holds : Rows.StreamsMapPartsCardSaid :=
  Claim7.holds_tied_plain_at .later [] _ _ _ _ Gb (fun _ h => by cases h) (by kernel_rfl) (fun _ h => by cases h) streamsMapParts_row_tie rfl ⟨rfl, rfl⟩ (by kernel_rfl) rfl ZK (by kernel_rfl)
#print axioms streamsMapCard_holds
end Go.Proofs.YtjdccdelcnmocaaGreatDoor

/- TemplateParseMatchesSpec: for every input the law returns true, and its arguments read as they did; the package-level tables that the row lists start as the program lays them. -/
import Derived.Test.YtnfjgphfaemjcaaGreatDoorFcTps
import Derived.Test.YtnfjgphfaemjcaaGreatDoorCards
import Derived.Test.YtnfjgphfaemjcaaGreatDoorTie
import Derived.Test.YtnfjgphfaemjcaaGreatDoorMdT
import Derived.Test.YtnfjgphfaemjcaaGreatDoorLwTps
set_option linter.all false
set_option linter.unusedSimpArgs false
set_option linter.unusedVariables false
namespace Go.Proofs.YtnfjgphfaemjcaaGreatDoor
open Go.ChangeShapes Go.WideShapes Go.ChangeAt Go.RowKit Go.Deep
theorem params4_ok : ∀ t ∈ Tryz.f4.params.toList, Tryz.prog.readableRec t = true ∧ t < Tryz.prog.types.size := by
  intro t ht
  rw [Tryz.params4] at ht
  have ht : t ∈ [9] := ht
  simp only [List.mem_cons, List.not_mem_nil, or_false] at ht
  subst ht
  exact ⟨by kernel_rfl, of_decide_eq_true (by kernel_rfl)⟩
set_option maxRecDepth 100000 in
theorem contract4 (H : Type) (enc : TypeId × Value → H) (W : World) (base : Nat) (args : Array Value) (ds gs : List (DataW H)) (before : List MemPlace)
    (hval0 : ∀ (j : Nat) t v, Tryz.f4.params[j]? = some t → args[j]? = some v → Value.okWide Tryz.prog W .any base t v)
    (hW0 : DataW.Whole enc Tryz.prog Tryz.f4.params.toList Rows.templateParseMatchesSpecSpec.vars false W args.toList ds gs before) (hreach : ∀ y ∈ DataW.weightsEach Tryz.prog Tryz.f4.params.toList ds, y ≤ reachBytes) (hlaid : Laid W) :
    Calls Tryz.prog 4 args W fun e W' => ∃ v, e = .returned v ∧ Rows.templateParseMatchesSpecSpec.post enc Tryz.prog Tryz.f4 false true false false W args v W' := by
  have hval : ∀ (j : Nat) t v, Tryz.f4.params[j]? = some t → args[j]? = some v → Value.okWide Tryz.prog W .any base t v := hval0
  have hW1 : DataW.Whole enc Tryz.prog Tryz.f4.params.toList [] false W args.toList ds gs before := hW0
  have hW' := hW1
  obtain ⟨p, q, hA0, hV, rfl, hfz, hnd⟩ := hW1
  have hA : DataW.TrodAll enc Tryz.prog W 0 (fun _ => true) true Tryz.f4.params.toList args.toList ds p := hA0
  rw [Tryz.params4] at hA hval hreach
  obtain ⟨v0, vs0, d0, ds0, p0, q0, hargs, rfl, rfl, h0, r0⟩ := trodAll_cons hA
  obtain ⟨rfl, rfl, rfl⟩ := trodAll_nil r0
  obtain rfl : args = #[v0] := by cases args; simp_all
  obtain ⟨rfl, rfl⟩ := trodVars_none hV
  simp only [DataW.weightsEach, List.append_nil, List.mem_append] at hreach
  have R0 : ∀ y ∈ d0.weights Tryz.prog 9, y ≤ reachBytes := fun y hy => hreach y (hy)
  obtain ⟨s0, rfl⟩ := okWide_string Tryz.underlying9 (hval 0 9 v0 rfl rfl)
  obtain ⟨f0, t0⟩ := h0
  obtain ⟨l0, e0, w0, b0⟩ := We Tryz.underlying9 (by simpa [Value.cells] using t0)
  have hap : APure Tryz.prog 4 _ (.bool true) := (VP l0)
  refine (IW hlaid hap (.cons (XR e0) .nil)).mono fun e W' ⟨he, hb⟩ => ?_
  subst he
  exact ⟨_, rfl, MK (tb := 4) hW' rfl VT params4_ok rfl Tryz.underlying4 rfl rfl rfl hb⟩
theorem A4h (os : Os) : laidMet Tryz.prog Rows.templateParseMatchesSpecRow.laid ((CP os).forCall (fun _ _ => 0) ⟨#[], #[.string ⟨#[]⟩], []⟩).memory :=
  laidMet_laidAll _ (by kernel_rfl) (by kernel_rfl)
theorem A4b (os : Os) {H : Type} (enc : TypeId × Value → H) : ∃ places, DataW.whole enc Tryz.prog ((CP os).forCall (fun _ _ => 0) ⟨#[], #[.string ⟨#[]⟩], []⟩).memory Tryz.f4.params.toList Rows.templateParseMatchesSpecSpec.vars false (#[.string ⟨#[]⟩] : Array Value).toList 8 = some ([.lit (.string [])], [], places) :=
  ⟨[], by kernel_rfl⟩
set_option maxRecDepth 100000 in
theorem A10 (os : Os) (started : os.Started) (H : Type) (enc : TypeId × Value → H) (F : Stop.Interp) :
    ReturnsInHanded {} Tryz.checked os 4 .any ((OpenSpec.ofChange Rows.templateParseMatchesSpecSpec).preRow enc Tryz.prog Tryz.f4 Rows.templateParseMatchesSpecRow.domain false Rows.templateParseMatchesSpecRow.laid) (((OpenSpec.ofChange Rows.templateParseMatchesSpecSpec).at F).post enc Tryz.prog Tryz.f4 false true false false) := by
  obtain ⟨places, hx⟩ := A4b os enc
  refine returnsInHanded_of_row (C := Tryz.checked) (s := (OpenSpec.ofChange Rows.templateParseMatchesSpecSpec)) A03 started (by kernel_rfl) Tryz.func4
    (witness_row_atRef (enc := enc) (C := Tryz.checked) false (CP os) #[.string ⟨#[]⟩] (World.laidAll_os _ _ _) (by kernel_rfl) (by kernel_rfl) (by kernel_rfl)
      (OpenSpec.preRow_of_cond 8 hx (by kernel_rfl) (fun k hk => by cases hk) (by kernel_rfl) (A4h os))) ?_
  intro W base args ds gs before hval hW _ hcond hr hL hsh _
  have hr0 : (DataW.weightsEach Tryz.prog (Tryz.f4.params.toList ++ []) (ds ++ gs)).all (· ≤ reachBytes) = true := hr
  have hgs : gs = [] := by obtain ⟨_, _, _, hV, _⟩ := hW; exact (trodVars_none hV).1
  subst hgs
  rw [List.append_nil, List.append_nil] at hr0
  exact contract4 H enc W base args ds [] before hval hW (fun y hy => of_decide_eq_true (List.all_eq_true.1 hr0 y hy)) (Ov hL hsh)
theorem Fi : Rows.TemplateParseMatchesSpecSaid :=
  OpenClaim.holds_of_cond 4 Tryz.f4 rfl rfl rfl rfl rfl rfl rfl ⟨rfl, rfl, rfl, rfl, rfl⟩ rfl rfl rfl rfl rfl (by kernel_rfl) Tryz.func4 closed4
    (of_decide_eq_true (by kernel_rfl)) (by unfold Func.isWrapper; first | (rw [if_pos (by decide +kernel)]; kernel_rfl) | (rw [if_neg (by decide +kernel)]; exact ⟨rfl, rfl⟩))
    (fun os started H enc _ F => by rw [OpenClaim.pre_eq_preRow]; exact A10 os started H enc F)
theorem A1v (f : FuncId) (fn : Func) (hf : Tryz.pinned.checked.prog.funcNamed Rows.templateParseMatchesSpecRow.func = some f) (hfn : Tryz.pinned.checked.prog.funcs[f]? = some fn) :
    true = Tryz.pinned.checked.prog.looks [] ∧ ∀ (j : Nat) t, fn.params[j]? = some t → Tryz.pinned.checked.prog.wantsStandIn t = false := by
  obtain rfl : f = 4 := Option.some.inj ((show Tryz.prog.funcNamed Rows.templateParseMatchesSpecRow.func = some 4 by kernel_rfl).symm.trans hf) |>.symm
  obtain rfl : fn = Tryz.f4 := (Option.some.inj (Tryz.func4.symm.trans hfn)).symm
  refine ⟨by kernel_rfl, fun j t ht => ?_⟩
  rw [Tryz.params4] at ht
  have hm := Array.mem_of_getElem? ht
  have hm : t ∈ [9] := hm.val
  simp only [List.mem_cons, List.not_mem_nil, or_false] at hm
  subst hm
  exact (show Tryz.prog.wantsStandIn 9 = false by kernel_rfl)
theorem templateParseCard_holds : Rows.TemplateParseMatchesSpecCardSaid :=
  Claim7.holds_tied_plain_at .later [] _ _ _ _ Fi (fun _ h => by cases h) (by kernel_rfl) (fun _ h => by cases h) templateParseMatchesSpec_row_tie rfl ⟨rfl, rfl⟩ (by kernel_rfl) rfl A1v (by kernel_rfl)
#print axioms templateParseCard_holds
end Go.Proofs.YtnfjgphfaemjcaaGreatDoor

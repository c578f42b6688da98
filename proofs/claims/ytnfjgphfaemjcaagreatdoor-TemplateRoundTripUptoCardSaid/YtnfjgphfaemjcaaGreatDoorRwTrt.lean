/- TemplateRoundTrip: for every input of bulk at most 1048576 the law returns true, and its arguments read as they did; the package-level tables that the row lists start as the program lays them. -/
import Derived.Test.YtnfjgphfaemjcaaGreatDoorFcTrt
import Derived.Test.YtnfjgphfaemjcaaGreatDoorCards
import Derived.Test.YtnfjgphfaemjcaaGreatDoorTie
import Derived.Test.YtnfjgphfaemjcaaGreatDoorMdR
import Derived.Test.YtnfjgphfaemjcaaGreatDoorLwTrt
set_option linter.all false
set_option linter.unusedSimpArgs false
set_option linter.unusedVariables false
namespace Go.Proofs.YtnfjgphfaemjcaaGreatDoor
open Go.ChangeShapes Go.WideShapes Go.ChangeAt Go.RowKit Go.Deep
theorem params7_ok : ∀ t ∈ Tryz.f7.params.toList, Tryz.prog.readableRec t = true ∧ t < Tryz.prog.types.size := by
  intro t ht
  rw [Tryz.params7] at ht
  have ht : t ∈ [22] := ht
  simp only [List.mem_cons, List.not_mem_nil, or_false] at ht
  subst ht
  exact ⟨by kernel_rfl, of_decide_eq_true (by kernel_rfl)⟩
set_option maxRecDepth 100000 in
theorem contract7 (H : Type) (enc : TypeId × Value → H) (W : World) (base : Nat) (args : Array Value) (ds gs : List (DataW H)) (before : List MemPlace)
    (hval0 : ∀ (j : Nat) t v, Tryz.f7.params[j]? = some t → args[j]? = some v → Value.okWide Tryz.prog W .any base t v)
    (hW0 : DataW.Whole enc Tryz.prog Tryz.f7.params.toList Rows.templateRoundTripSpec.vars false W args.toList ds gs before) (hreach : ∀ y ∈ DataW.weightsEach Tryz.prog Tryz.f7.params.toList ds, y ≤ reachBytes) (hlaid : Laid W) (hbulk : Rows.uptoBulkAll ds ≤ 1048576) :
    Calls Tryz.prog 7 args W fun e W' => ∃ v, e = .returned v ∧ Rows.templateRoundTripSpec.post enc Tryz.prog Tryz.f7 false true false false W args v W' := by
  have hval : ∀ (j : Nat) t v, Tryz.f7.params[j]? = some t → args[j]? = some v → Value.okWide Tryz.prog W .any base t v := hval0
  have hW1 : DataW.Whole enc Tryz.prog Tryz.f7.params.toList [] false W args.toList ds gs before := hW0
  have hW' := hW1
  obtain ⟨p, q, hA0, hV, rfl, hfz, hnd⟩ := hW1
  have hA : DataW.TrodAll enc Tryz.prog W 0 (fun _ => true) true Tryz.f7.params.toList args.toList ds p := hA0
  rw [Tryz.params7] at hA hval hreach
  obtain ⟨v0, vs0, d0, ds0, p0, q0, hargs, rfl, rfl, h0, r0⟩ := trodAll_cons hA
  obtain ⟨rfl, rfl, rfl⟩ := trodAll_nil r0
  obtain rfl : args = #[v0] := by cases args; simp_all
  obtain ⟨rfl, rfl⟩ := trodVars_none hV
  simp only [DataW.weightsEach, List.append_nil, List.mem_append] at hreach
  simp only [Rows.uptoBulkAll, Nat.add_zero] at hbulk
  have R0 : ∀ y ∈ d0.weights Tryz.prog 22, y ≤ reachBytes := fun y hy => hreach y (hy)
  obtain ⟨a0, n0, c0, rfl⟩ := okWide_slice Tryz.underlying22 (hval 0 22 v0 rfl rfl)
  obtain ⟨f0, t0⟩ := h0
  obtain ⟨l0, e0, w0⟩ := Gy (v := .slice a0 n0 c0) (by simpa [Value.cells] using t0)
  replace w0 := w0 (by omega)
  have hap : APure Tryz.prog 7 _ (.bool true) := (Tc l0 w0.1 w0.2)
  refine (Il hlaid hap (.cons e0 .nil)).mono fun e W' ⟨he, hb⟩ => ?_
  subst he
  exact ⟨_, rfl, LJ (tb := 4) hW' rfl Vo params7_ok rfl Tryz.underlying4 rfl rfl rfl hb⟩
theorem YP (os : Os) : laidMet Tryz.prog Rows.templateRoundTripUptoRow.laid ((Cg os).forCall (fun _ _ => 0) ⟨#[], #[.slice none 0 0], []⟩).memory :=
  laidMet_laidAll _ (by kernel_rfl) (by kernel_rfl)
theorem Xx (os : Os) {H : Type} (enc : TypeId × Value → H) : ∃ places, DataW.whole enc Tryz.prog ((Cg os).forCall (fun _ _ => 0) ⟨#[], #[.slice none 0 0], []⟩).memory Tryz.f7.params.toList Rows.templateRoundTripSpec.vars false (#[.slice none 0 0] : Array Value).toList 8 = some ([.nil], [], places) :=
  ⟨[], by kernel_rfl⟩
set_option maxRecDepth 100000 in
theorem Vq (os : Os) (started : os.Started) (H : Type) (enc : TypeId × Value → H) (F : Stop.Interp) :
    ReturnsInHanded {} Tryz.checked os 7 .any ((Rows.OpenSpec.upto Rows.templateRoundTripSpec).preRow enc Tryz.prog Tryz.f7 Rows.templateRoundTripUptoRow.domain false Rows.templateRoundTripUptoRow.laid) (((Rows.OpenSpec.upto Rows.templateRoundTripSpec).at F).post enc Tryz.prog Tryz.f7 false true false false) := by
  obtain ⟨places, hx⟩ := Xx os enc
  refine returnsInHanded_of_row (C := Tryz.checked) (s := (Rows.OpenSpec.upto Rows.templateRoundTripSpec)) Yc started (by kernel_rfl) Tryz.func7
    (witness_row_atRef (enc := enc) (C := Tryz.checked) false (Cg os) #[.slice none 0 0] (World.laidAll_os _ _ _) (by kernel_rfl) (by kernel_rfl) (by kernel_rfl)
      (OpenSpec.preRow_of_cond 8 hx (by kernel_rfl) (fun k hk => by cases hk; kernel_rfl) (by kernel_rfl) (YP os))) ?_
  intro W base args ds gs before hval hW _ hcond hr hL hsh _
  have hr0 : (DataW.weightsEach Tryz.prog (Tryz.f7.params.toList ++ []) (ds ++ gs)).all (· ≤ reachBytes) = true := hr
  have hgs : gs = [] := by obtain ⟨_, _, _, hV, _⟩ := hW; exact (trodVars_none hV).1
  subst hgs
  rw [List.append_nil, List.append_nil] at hr0
  have hb : Rows.uptoBulkAll ds ≤ 1048576 := by
    have := hcond _ rfl
    rw [List.append_nil] at this
    exact of_decide_eq_true this
  exact contract7 H enc W base args ds [] before hval hW (fun y hy => of_decide_eq_true (List.all_eq_true.1 hr0 y hy)) (P7 hL hsh) hb
theorem E7 : Rows.TemplateRoundTripUptoSaid :=
  OpenClaim.holds_of_cond 7 Tryz.f7 rfl rfl rfl rfl rfl rfl rfl ⟨rfl, rfl, rfl, rfl, rfl⟩ rfl rfl rfl rfl rfl (by kernel_rfl) Tryz.func7 closed7
    (of_decide_eq_true (by kernel_rfl)) (by unfold Func.isWrapper; first | (rw [if_pos (by decide +kernel)]; kernel_rfl) | (rw [if_neg (by decide +kernel)]; exact ⟨rfl, rfl⟩))
    (fun os started H enc _ F => by rw [OpenClaim.pre_eq_preRow]; exact Vq os started H enc F)
theorem Y8 (f : FuncId) (fn : Func) (hf : Tryz.pinned.checked.prog.funcNamed Rows.templateRoundTripUptoRow.func = some f) (hfn : Tryz.pinned.checked.prog.funcs[f]? = some fn) :
    true = Tryz.pinned.checked.prog.looks [] ∧ ∀ (j : Nat) t, fn.params[j]? = some t → Tryz.pinned.checked.prog.wantsStandIn t = false := by
  obtain rfl : f = 7 := Option.some.inj ((show Tryz.prog.funcNamed Rows.templateRoundTripUptoRow.func = some 7 by kernel_rfl).symm.trans hf) |>.symm
  obtain rfl : fn = Tryz.f7 := (Option.some.inj (Tryz.func7.symm.trans hfn)).symm
  refine ⟨by kernel_rfl, fun j t ht => ?_⟩
  rw [Tryz.params7] at ht
  have hm := Array.mem_of_getElem? ht
  have hm : t ∈ [22] := hm.val
  simp only [List.mem_cons, List.not_mem_nil, or_false] at hm
  subst hm
  exact (show Tryz.prog.wantsStandIn 22 = false by kernel_rfl)
theorem templateTripCard_holds : Rows.TemplateRoundTripUptoCardSaid :=
  Claim7.holds_tied_plain_at .later [] _ _ _ _ E7 (fun _ h => by cases h) (by kernel_rfl) (fun _ h => by cases h) templateRoundTripUpto_row_tie rfl ⟨rfl, rfl⟩ (by kernel_rfl) rfl Y8 (by kernel_rfl)
#print axioms templateTripCard_holds
end Go.Proofs.YtnfjgphfaemjcaaGreatDoor

/- StreamsFusedRunAlike: for every input the law returns true, and its arguments read as they did; the package-level tables that the row lists start as the program lays them. -/
import Derived.Test.YtjdccdelcnmocaaGreatDoorFcFra
import Derived.Test.YtjdccdelcnmocaaGreatDoorCards
import Derived.Test.YtjdccdelcnmocaaGreatDoorTie
import Derived.Test.YtjdccdelcnmocaaGreatDoorMdK
import Derived.Test.YtjdccdelcnmocaaGreatDoorLwFra
set_option linter.all false
set_option linter.unusedSimpArgs false
set_option linter.unusedVariables false
namespace Go.Proofs.YtjdccdelcnmocaaGreatDoor
open Go.ChangeShapes Go.WideShapes Go.ChangeAt Go.RowKit Go.Deep
theorem params12_ok : ∀ t ∈ Tryz.f12.params.toList, Tryz.prog.readableRec t = true ∧ t < Tryz.prog.types.size := by
  intro t ht
  rw [Tryz.params12] at ht
  have ht : t ∈ [25, 3] := ht
  simp only [List.mem_cons, List.not_mem_nil, or_false] at ht
  rcases ht with rfl | rfl
  · exact ⟨by kernel_rfl, of_decide_eq_true (by kernel_rfl)⟩
  · exact ⟨by kernel_rfl, of_decide_eq_true (by kernel_rfl)⟩
set_option maxRecDepth 100000 in
theorem contract12 (H : Type) (enc : TypeId × Value → H) (W : World) (base : Nat) (args : Array Value) (ds gs : List (DataW H)) (before : List MemPlace)
    (hval0 : ∀ (j : Nat) t v, Tryz.f12.params[j]? = some t → args[j]? = some v → Value.okWide Tryz.prog W .any base t v)
    (hW0 : DataW.Whole enc Tryz.prog Tryz.f12.params.toList Rows.streamsFusedRunAlikeSpec.vars false W args.toList ds gs before) (hreach : ∀ y ∈ DataW.weightsEach Tryz.prog Tryz.f12.params.toList ds, y ≤ reachBytes) (hlaid : Laid W) :
    Calls Tryz.prog 12 args W fun e W' => ∃ v, e = .returned v ∧ Rows.streamsFusedRunAlikeSpec.post enc Tryz.prog Tryz.f12 false true false false W args v W' := by
  have hval : ∀ (j : Nat) t v, Tryz.f12.params[j]? = some t → args[j]? = some v → Value.okWide Tryz.prog W .any base t v := hval0
  have hW1 : DataW.Whole enc Tryz.prog Tryz.f12.params.toList [] false W args.toList ds gs before := hW0
  have hW' := hW1
  obtain ⟨p, q, hA0, hV, rfl, hfz, hnd⟩ := hW1
  have hA : DataW.TrodAll enc Tryz.prog W 0 (fun _ => true) true Tryz.f12.params.toList args.toList ds p := hA0
  rw [Tryz.params12] at hA hval hreach
  obtain ⟨v0, vs0, d0, ds0, p0, q0, hargs, rfl, rfl, h0, r0⟩ := trodAll_cons hA
  obtain ⟨v1, vs1, d1, ds1, p1, q1, rfl, rfl, rfl, h1, r1⟩ := trodAll_cons r0
  obtain ⟨rfl, rfl, rfl⟩ := trodAll_nil r1
  obtain rfl : args = #[v0, v1] := by cases args; simp_all
  obtain ⟨rfl, rfl⟩ := trodVars_none hV
  simp only [DataW.weightsEach, List.append_nil, List.mem_append] at hreach
  have R0 : ∀ y ∈ d0.weights Tryz.prog 25, y ≤ reachBytes := fun y hy => hreach y (.inl hy)
  obtain ⟨f0, t0⟩ := h0
  obtain ⟨l0, e0, w0⟩ := WV (hval 0 25 v0 rfl rfl) t0
  replace w0 := w0 R0
  have R1 : ∀ y ∈ d1.weights Tryz.prog 3, y ≤ reachBytes := fun y hy => hreach y (.inr (hy))
  obtain ⟨l1, rfl, rfl, rfl, w1⟩ := open_int Tryz.underlying3 (hval 1 3 v1 rfl rfl) h1
  have hap : APure Tryz.prog 12 _ (.bool true) := (Ti l0 w0 l1)
  refine (W1 hlaid hap (.cons e0 (.cons Rep.int .nil))).mono fun e W' ⟨he, hb⟩ => ?_
  subst he
  exact ⟨_, rfl, Ww (tb := 4) hW' rfl A26 params12_ok rfl Tryz.underlying4 rfl rfl rfl hb⟩
theorem Za (os : Os) : laidMet Tryz.prog Rows.streamsFusedRunAlikeRow.laid ((JV os).forCall (fun _ _ => 0) ⟨#[], #[.agg #[.int .i64 0, .int .i64 0, .int .i64 0, .slice none 0 0, .slice none 0 0], .int .i64 0], []⟩).memory :=
  laidMet_laidAll _ (by kernel_rfl) (by kernel_rfl)
theorem ZT (os : Os) {H : Type} (enc : TypeId × Value → H) : ∃ places, DataW.whole enc Tryz.prog ((JV os).forCall (fun _ _ => 0) ⟨#[], #[.agg #[.int .i64 0, .int .i64 0, .int .i64 0, .slice none 0 0, .slice none 0 0], .int .i64 0], []⟩).memory Tryz.f12.params.toList Rows.streamsFusedRunAlikeSpec.vars false (#[.agg #[.int .i64 0, .int .i64 0, .int .i64 0, .slice none 0 0, .slice none 0 0], .int .i64 0] : Array Value).toList 8 = some ([.agg [.lit (.int .i64 0), .lit (.int .i64 0), .lit (.int .i64 0), .nil, .nil], .lit (.int .i64 0)], [], places) :=
  ⟨[], by kernel_rfl⟩
set_option maxRecDepth 100000 in
theorem XT (os : Os) (started : os.Started) (H : Type) (enc : TypeId × Value → H) (F : Stop.Interp) :
    ReturnsInHanded {} Tryz.checked os 12 .any ((OpenSpec.ofChange Rows.streamsFusedRunAlikeSpec).preRow enc Tryz.prog Tryz.f12 Rows.streamsFusedRunAlikeRow.domain false Rows.streamsFusedRunAlikeRow.laid) (((OpenSpec.ofChange Rows.streamsFusedRunAlikeSpec).at F).post enc Tryz.prog Tryz.f12 false true false false) := by
  obtain ⟨places, hx⟩ := ZT os enc
  refine returnsInHanded_of_row (C := Tryz.checked) (s := (OpenSpec.ofChange Rows.streamsFusedRunAlikeSpec)) A2z started (by kernel_rfl) Tryz.func12
    (witness_row_atRef (enc := enc) (C := Tryz.checked) false (JV os) #[.agg #[.int .i64 0, .int .i64 0, .int .i64 0, .slice none 0 0, .slice none 0 0], .int .i64 0] (World.laidAll_os _ _ _) (by kernel_rfl) (by kernel_rfl) (by kernel_rfl)
      (OpenSpec.preRow_of_cond 8 hx (by kernel_rfl) (fun k hk => by cases hk) (by kernel_rfl) (Za os))) ?_
  intro W base args ds gs before hval hW _ hcond hr hL _ _
  have hr0 : (DataW.weightsEach Tryz.prog (Tryz.f12.params.toList ++ []) (ds ++ gs)).all (· ≤ reachBytes) = true := hr
  have hgs : gs = [] := by obtain ⟨_, _, _, hV, _⟩ := hW; exact (trodVars_none hV).1
  subst hgs
  rw [List.append_nil, List.append_nil] at hr0
  exact contract12 H enc W base args ds [] before hval hW (fun y hy => of_decide_eq_true (List.all_eq_true.1 hr0 y hy)) (ZC hL)
theorem EB : Rows.StreamsFusedRunAlikeSaid :=
  OpenClaim.holds_of_cond 12 Tryz.f12 rfl rfl rfl rfl rfl rfl rfl ⟨rfl, rfl, rfl, rfl, rfl⟩ rfl rfl rfl rfl rfl (by kernel_rfl) Tryz.func12 closed12
    (of_decide_eq_true (by kernel_rfl)) (by unfold Func.isWrapper; first | (rw [if_pos (by decide +kernel)]; kernel_rfl) | (rw [if_neg (by decide +kernel)]; exact ⟨rfl, rfl⟩))
    (fun os started H enc _ F => by rw [OpenClaim.pre_eq_preRow]; exact XT os started H enc F)
theorem Z6 (f : FuncId) (fn : Func) (hf : Tryz.pinned.checked.prog.funcNamed Rows.streamsFusedRunAlikeRow.func = some f) (hfn : Tryz.pinned.checked.prog.funcs[f]? = some fn) :
    true = Tryz.pinned.checked.prog.looks [] ∧ ∀ (j : Nat) t, fn.params[j]? = some t → Tryz.pinned.checked.prog.wantsStandIn t = false := by
  obtain rfl : f = 12 := Option.some.inj ((show Tryz.prog.funcNamed Rows.streamsFusedRunAlikeRow.func = some 12 by kernel_rfl).symm.trans hf) |>.symm
  obtain rfl : fn = Tryz.f12 := (Option.some.inj (Tryz.func12.symm.trans hfn)).symm
  refine ⟨by kernel_rfl, fun j t ht => ?_⟩
  rw [Tryz.params12] at ht
  have hm := Array.mem_of_getElem? ht
  have hm : t ∈ [25, 3] := hm.val
  simp only [List.mem_cons, List.not_mem_nil, or_false] at hm
  rcases hm with rfl | rfl
  · exact (show Tryz.prog.wantsStandIn 25 = false by kernel_rfl)
  · exact (show Tryz.prog.wantsStandIn 3 = false by kernel_rfl)
theorem streamsFusedAlikeCard_holds : Rows.StreamsFusedRunAlikeCardSaid :=
  Claim7.holds_tied_plain_at .later [] _ _ _ _ EB (fun _ h => by cases h) (by kernel_rfl) (fun _ h => by cases h) streamsFusedRunAlike_row_tie rfl ⟨rfl, rfl⟩ (by kernel_rfl) rfl Z6 (by kernel_rfl)
#print axioms streamsFusedAlikeCard_holds
end Go.Proofs.YtjdccdelcnmocaaGreatDoor

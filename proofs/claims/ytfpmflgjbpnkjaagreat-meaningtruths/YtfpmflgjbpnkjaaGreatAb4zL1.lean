/-
  Holds and Truths return the answers or the error of the reference, for every policy, schemas and fields that the form reads.
-/
import Derived.Test.YtfpmflgjbpnkjaaGreatAb4zQ8
import Derived.Test.YtfpmflgjbpnkjaaGreatRows
import Derived.Test.YtfpmflgjbpnkjaaGreatAb4zK1
import Derived.Test.YtfpmflgjbpnkjaaGreatAb4zK2
import Derived.Test.YtfpmflgjbpnkjaaGreatAb4zK3
import Derived.JoinedOf
import Derived.Handed
set_option linter.unusedVariables false
namespace Go.Proofs.YtfpmflgjbpnkjaaGreat
open Go.ChangeShapes Go.WideShapes Go.RowKit _root_.Go.Ab _root_.Go.Ab.Pz
theorem Tryz.own : ownKnob Tryz.prog.godebug = none := by kernel_rfl
theorem Tryz.laidOut : laidOutB Tryz.prog = true := by kernel_rfl
set_option maxRecDepth 100000 in
theorem holds_lifted (os : Os) (started : os.Started) (H : Type) (enc : TypeId × Value → H) :
  ReturnsInHanded {} Tryz.checked os 3 .any (Rows.meaningHoldsSpec.pre6 enc Tryz.prog Tryz.f3 Rows.meaningHoldsRow.domain false) (Rows.meaningHoldsSpec.post enc Tryz.prog Tryz.f3 Rows.meaningHoldsRow.apart Rows.meaningHoldsRow.fresh Rows.meaningHoldsRow.handsOn Rows.meaningHoldsRow.again) := by
 refine returnsInHanded_of_change_sized (C := Tryz.checked) Tryz.own started (by kernel_rfl) Tryz.func3
  (ChangeSpec.witness6 (enc := enc) (C := Tryz.checked) false ⟨#[],#[.agg #[.string .empty,.slice none 0 0,.slice none 0 0,.slice none 0 0,.int .i64 0,.string .empty,.int .i64 0,.string .empty,.slice none 0 0,.slice none 0 0]],[]⟩ 8 (by kernel_rfl) (by kernel_rfl) (by kernel_rfl) (by kernel_rfl)) ?_
 intro W base args ds gs before hval0 hW _ hz0 _
 have hval : ∀ (j : Nat) t v,Tryz.f3.params[j]? = some t → args[j]? = some v → Value.okWide Tryz.prog W .any base t v := hval0
 have hz : (DataW.weightsEach Tryz.prog (Tryz.f3.params.toList ++ []) (ds ++ gs)).all (· ≤ reachBytes) = true := hz0
 have hW' := hW
 obtain ⟨p,q,hA0,hV,rfl,_,_⟩ := hW
 have hA : DataW.TrodAll enc Tryz.prog W 0 (fun _ => true) true Tryz.f3.params.toList args.toList ds p := hA0
 rw [Tryz.params3] at hA hval hz
 obtain ⟨v0,d0,rfl,rfl,t0⟩ := trodAll_one hA
 obtain ⟨rfl,rfl⟩ := trodVars_none hV
 have z0 : ∀ n ∈ d0.weights Tryz.prog 30,n ≤ reachBytes := fun n hn => by
  have := List.all_eq_true.1 hz n (by simp [DataW.weightsEach,hn])
  simpa using this
 obtain ⟨x0,o0,r0⟩ := arg_Cas (hval 0 30 v0 rfl rfl) t0 z0
 refine law_calls sound Tryz.laidOut (by rw [Tryz.params3]; decide +kernel) (tb := 4) (by kernel_rfl) (by kernel_rfl) rfl hW' rfl (law3c x0 o0) ⟨rfl,fun j hj => ?_⟩
 have : j = 0 := by simp at hj; omega
 subst this
 exact r0
theorem holds_closed : joinedFacts Tryz.prog 3 Tryz.f3 Rows.meaningHoldsSpec Rows.meaningHoldsRow = true := by
 unfold joinedFacts
 rw [mayEnterF,liftsF,makeF]
 kernel_rfl
theorem holds_holds : Rows.MeaningHoldsSaid :=
 OpenClaim.holds_of_wide 3 Tryz.f3 rfl rfl rfl rfl rfl rfl rfl ⟨rfl,rfl,rfl,rfl,rfl⟩ rfl rfl rfl rfl rfl (by kernel_rfl) Tryz.func3 holds_closed
  (of_decide_eq_true (by kernel_rfl)) (by unfold Func.isWrapper; rw [if_neg (of_decide_eq_false (by kernel_rfl))]; exact ⟨rfl,rfl⟩)
  (fun os started H enc _ => holds_lifted os started H enc)
#print axioms holds_holds
set_option maxRecDepth 100000 in
theorem truths_lifted (os : Os) (started : os.Started) (H : Type) (enc : TypeId × Value → H) :
  ReturnsInHanded {} Tryz.checked os 4 .any (Rows.meaningTruthsSpec.pre6 enc Tryz.prog Tryz.f4 Rows.meaningTruthsRow.domain false) (Rows.meaningTruthsSpec.post enc Tryz.prog Tryz.f4 Rows.meaningTruthsRow.apart Rows.meaningTruthsRow.fresh Rows.meaningTruthsRow.handsOn Rows.meaningTruthsRow.again) := by
 refine returnsInHanded_of_change_sized (C := Tryz.checked) Tryz.own started (by kernel_rfl) Tryz.func4
  (ChangeSpec.witness6 (enc := enc) (C := Tryz.checked) false ⟨#[],#[.agg #[.string .empty,.slice none 0 0,.slice none 0 0,.slice none 0 0,.int .i64 0,.string .empty,.int .i64 0,.string .empty,.slice none 0 0,.slice none 0 0]],[]⟩ 8 (by kernel_rfl) (by kernel_rfl) (by kernel_rfl) (by kernel_rfl)) ?_
 intro W base args ds gs before hval0 hW _ hz0 _
 have hval : ∀ (j : Nat) t v,Tryz.f4.params[j]? = some t → args[j]? = some v → Value.okWide Tryz.prog W .any base t v := hval0
 have hz : (DataW.weightsEach Tryz.prog (Tryz.f4.params.toList ++ []) (ds ++ gs)).all (· ≤ reachBytes) = true := hz0
 have hW' := hW
 obtain ⟨p,q,hA0,hV,rfl,_,_⟩ := hW
 have hA : DataW.TrodAll enc Tryz.prog W 0 (fun _ => true) true Tryz.f4.params.toList args.toList ds p := hA0
 rw [Tryz.params4] at hA hval hz
 obtain ⟨v0,d0,rfl,rfl,t0⟩ := trodAll_one hA
 obtain ⟨rfl,rfl⟩ := trodVars_none hV
 have z0 : ∀ n ∈ d0.weights Tryz.prog 30,n ≤ reachBytes := fun n hn => by
  have := List.all_eq_true.1 hz n (by simp [DataW.weightsEach,hn])
  simpa using this
 obtain ⟨x0,o0,r0⟩ := arg_Cas (hval 0 30 v0 rfl rfl) t0 z0
 refine law_calls sound Tryz.laidOut (by rw [Tryz.params4]; decide +kernel) (tb := 4) (by kernel_rfl) (by kernel_rfl) rfl hW' rfl (law4c x0 o0) ⟨rfl,fun j hj => ?_⟩
 have : j = 0 := by simp at hj; omega
 subst this
 exact r0
theorem truths_closed : joinedFacts Tryz.prog 4 Tryz.f4 Rows.meaningTruthsSpec Rows.meaningTruthsRow = true := by
 unfold joinedFacts
 rw [mayEnterF,liftsF,makeF]
 kernel_rfl
theorem truths_holds : Rows.MeaningTruthsSaid :=
 OpenClaim.holds_of_wide 4 Tryz.f4 rfl rfl rfl rfl rfl rfl rfl ⟨rfl,rfl,rfl,rfl,rfl⟩ rfl rfl rfl rfl rfl (by kernel_rfl) Tryz.func4 truths_closed
  (of_decide_eq_true (by kernel_rfl)) (by unfold Func.isWrapper; rw [if_neg (of_decide_eq_false (by kernel_rfl))]; exact ⟨rfl,rfl⟩)
  (fun os started H enc _ => truths_lifted os started H enc)
#print axioms truths_holds
end Go.Proofs.YtfpmflgjbpnkjaaGreat

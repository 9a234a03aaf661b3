/-
  A policy whose root is negated holds exactly if the policy does not, for every policy, schemas and fields that the form reads.
-/
import Derived.Test.YtfpmflgjbpnkjaaAb41P83
import Derived.Test.YtfpmflgjbpnkjaaRows
import Derived.Test.YtfpmflgjbpnkjaaAb41K1
import Derived.Test.YtfpmflgjbpnkjaaAb41K2
import Derived.Test.YtfpmflgjbpnkjaaAb41K3
import Derived.JoinedOf
import Derived.Handed
set_option linter.unusedVariables false
namespace Go.Proofs.Ytfpmflgjbpnkjaa
open Go.ChangeShapes Go.WideShapes Go.RowKit _root_.Go.Ab _root_.Go.Ab.Pl
theorem Try.own : ownKnob Try.prog.godebug = none := by kernel_rfl
theorem Try.laidOut : laidOutB Try.prog = true := by kernel_rfl
set_option maxRecDepth 100000 in
theorem negates_lifted (os : Os) (started : os.Started) (H : Type) (enc : TypeId × Value → H) :
  ReturnsInHanded {} Try.checked os 18 .any (Rows.meaningNegatesSpec.pre6 enc Try.prog Try.f18 Rows.meaningNegatesRow.domain false) (Rows.meaningNegatesSpec.post enc Try.prog Try.f18 Rows.meaningNegatesRow.apart Rows.meaningNegatesRow.fresh Rows.meaningNegatesRow.handsOn Rows.meaningNegatesRow.again) := by
 refine returnsInHanded_of_change_sized (C := Try.checked) Try.own started (by kernel_rfl) Try.func18
  (ChangeSpec.witness6 (enc := enc) (C := Try.checked) false ⟨#[],#[.agg #[.string .empty,.slice none 0 0,.slice none 0 0,.slice none 0 0,.int .i64 0,.string .empty,.int .i64 0,.string .empty,.slice none 0 0,.slice none 0 0]],[]⟩ 8 (by kernel_rfl) (by kernel_rfl) (by kernel_rfl) (by kernel_rfl)) ?_
 intro W base args ds gs before hval0 hW _ hz0 _
 have hval : ∀ (j : Nat) t v,Try.f18.params[j]? = some t → args[j]? = some v → Value.okWide Try.prog W .any base t v := hval0
 have hz : (DataW.weightsEach Try.prog (Try.f18.params.toList ++ []) (ds ++ gs)).all (· ≤ reachBytes) = true := hz0
 have hW' := hW
 obtain ⟨p,q,hA0,hV,rfl,_,_⟩ := hW
 have hA : DataW.TrodAll enc Try.prog W 0 (fun _ => true) true Try.f18.params.toList args.toList ds p := hA0
 rw [Try.params18] at hA hval hz
 obtain ⟨v0,d0,rfl,rfl,t0⟩ := trodAll_one hA
 obtain ⟨rfl,rfl⟩ := trodVars_none hV
 have z0 : ∀ n ∈ d0.weights Try.prog 83,n ≤ reachBytes := fun n hn => by
  have := List.all_eq_true.1 hz n (by simp [DataW.weightsEach,hn])
  simpa using this
 obtain ⟨x0,o0,r0⟩ := arg_Cas (hval 0 83 v0 rfl rfl) t0 z0
 refine law_calls sound Try.laidOut (by rw [Try.params18]; decide +kernel) (tb := 4) (by kernel_rfl) (by kernel_rfl) rfl hW' rfl (law18c x0 o0) ⟨rfl,fun j hj => ?_⟩
 have : j = 0 := by simp at hj; omega
 subst this
 exact r0
theorem negates_closed : joinedFacts Try.prog 18 Try.f18 Rows.meaningNegatesSpec Rows.meaningNegatesRow = true := by
 unfold joinedFacts
 rw [mayEnterF,liftsF,makeF]
 kernel_rfl
theorem negates_holds : Rows.MeaningNegatesSaid :=
 OpenClaim.holds_of_wide 18 Try.f18 rfl rfl rfl rfl rfl rfl rfl ⟨rfl,rfl,rfl,rfl,rfl⟩ rfl rfl rfl rfl rfl (by kernel_rfl) Try.func18 negates_closed
  (of_decide_eq_true (by kernel_rfl)) (by unfold Func.isWrapper; rw [if_neg (of_decide_eq_false (by kernel_rfl))]; exact ⟨rfl,rfl⟩)
  (fun os started H enc _ => negates_lifted os started H enc)
#print axioms negates_holds
end Go.Proofs.Ytfpmflgjbpnkjaa

/-
  The policy holds for the fields that Search finds; if it finds none, it does not hold for any admitted fields that are small enough; for every policy, schemas, fields and bound that the form reads.
-/
import Derived.Test.YtfpmflgjbpnkjaaAb41P84
import Derived.Test.YtfpmflgjbpnkjaaRows
import Derived.Test.YtfpmflgjbpnkjaaAb41K1
import Derived.Test.YtfpmflgjbpnkjaaAb41K2
import Derived.Test.YtfpmflgjbpnkjaaAb41K3
import Derived.JoinedOf
import Derived.Handed
set_option linter.unusedVariables false
namespace Go.Proofs.Ytfpmflgjbpnkjaa
open Go.ChangeShapes Go.WideShapes Go.RowKit _root_.Go.Ab _root_.Go.Ab.Pl
theorem Try.own : ownKnob Try.prog.godebug = none := by kernel_rfl
theorem Try.laidOut : laidOutB Try.prog = true := by kernel_rfl
set_option maxRecDepth 100000 in
theorem finds_lifted (os : Os) (started : os.Started) (H : Type) (enc : TypeId × Value → H) :
  ReturnsInHanded {} Try.checked os 17 .any (Rows.meaningFindsSpec.pre6 enc Try.prog Try.f17 Rows.meaningFindsRow.domain false) (Rows.meaningFindsSpec.post enc Try.prog Try.f17 Rows.meaningFindsRow.apart Rows.meaningFindsRow.fresh Rows.meaningFindsRow.handsOn Rows.meaningFindsRow.again) := by
 refine returnsInHanded_of_change_sized (C := Try.checked) Try.own started (by kernel_rfl) Try.func17
  (ChangeSpec.witness6 (enc := enc) (C := Try.checked) false ⟨#[],#[.agg #[.string .empty,.slice none 0 0,.slice none 0 0,.slice none 0 0,.int .i64 0,.string .empty,.int .i64 0,.string .empty,.slice none 0 0,.slice none 0 0],.int .i64 0],[]⟩ 8 (by kernel_rfl) (by kernel_rfl) (by kernel_rfl) (by kernel_rfl)) ?_
 intro W base args ds gs before hval0 hW _ hz0 _
 have hval : ∀ (j : Nat) t v,Try.f17.params[j]? = some t → args[j]? = some v → Value.okWide Try.prog W .any base t v := hval0
 have hz : (DataW.weightsEach Try.prog (Try.f17.params.toList ++ []) (ds ++ gs)).all (· ≤ reachBytes) = true := hz0
 have hW' := hW
 obtain ⟨p,q,hA0,hV,rfl,_,_⟩ := hW
 have hA : DataW.TrodAll enc Try.prog W 0 (fun _ => true) true Try.f17.params.toList args.toList ds p := hA0
 rw [Try.params17] at hA hval hz
 obtain ⟨v0,v1,d0,d1,p0,p1,rfl,rfl,rfl,t0,t1⟩ := trodAll_two hA
 obtain ⟨rfl,rfl⟩ := trodVars_none hV
 have z0 : ∀ n ∈ d0.weights Try.prog 83,n ≤ reachBytes := fun n hn => by
  have := List.all_eq_true.1 hz n (by simp [DataW.weightsEach,hn])
  simpa using this
 obtain ⟨x0,o0,r0⟩ := arg_Cas (hval 0 83 v0 rfl rfl) t0 z0
 have z1 : ∀ n ∈ d1.weights Try.prog 3,n ≤ reachBytes := fun n hn => by
  have := List.all_eq_true.1 hz n (by simp [DataW.weightsEach,hn])
  simpa using this
 obtain ⟨x1,o1,r1⟩ := arg_int (hval 1 3 v1 rfl rfl) t1 z1
 refine law_calls sound Try.laidOut (by rw [Try.params17]; decide +kernel) (tb := 4) (by kernel_rfl) (by kernel_rfl) rfl hW' rfl (law17c x0 x1 o0) ⟨rfl,fun j hj => ?_⟩
 match j,hj with
 | 0,_ => exact r0
 | 1,_ => exact r1
 | j + 2,hj => simp at hj; omega
theorem finds_closed : joinedFacts Try.prog 17 Try.f17 Rows.meaningFindsSpec Rows.meaningFindsRow = true := by
 unfold joinedFacts
 rw [mayEnterF,liftsF,makeF]
 kernel_rfl
theorem finds_holds : Rows.MeaningFindsSaid :=
 OpenClaim.holds_of_wide 17 Try.f17 rfl rfl rfl rfl rfl rfl rfl ⟨rfl,rfl,rfl,rfl,rfl⟩ rfl rfl rfl rfl rfl (by kernel_rfl) Try.func17 finds_closed
  (of_decide_eq_true (by kernel_rfl)) (by unfold Func.isWrapper; rw [if_neg (of_decide_eq_false (by kernel_rfl))]; exact ⟨rfl,rfl⟩)
  (fun os started H enc _ => finds_lifted os started H enc)
#print axioms finds_holds
end Go.Proofs.Ytfpmflgjbpnkjaa

/-
  The laws of the encoding: Encode, Decode and Read return what the reference returns; what is encoded is decoded, and what is decoded was so encoded.
-/
import Derived.Test.YtggkoocpokfogaaAb08Args
import Derived.Test.YtggkoocpokfogaaAb08F16
import Derived.JoinedOf
import Derived.Handed
import Derived.Test.YtggkoocpokfogaaAb08F21
set_option linter.unusedVariables false
namespace Go.Proofs.Ytggkoocpokfogaa
open Go.ChangeShapes Go.WideShapes Go.RowKit Go.Ab Go.Ab.Enc

theorem Try.own : ownKnob Try.prog.godebug = none := by kernel_rfl
theorem Try.laidOut : laidOutB Try.prog = true := by kernel_rfl
set_option maxRecDepth 100000 in
theorem ints_lifted (os : Os) (started : os.Started) (H : Type) (enc : TypeId × Value → H) :
    ReturnsInHanded {} Try.checked os 10 .any (Rows.encodingIntsSpec.pre6 enc Try.prog Try.f10 Rows.encodingIntsRow.domain false) (Rows.encodingIntsSpec.post enc Try.prog Try.f10 Rows.encodingIntsRow.apart Rows.encodingIntsRow.fresh Rows.encodingIntsRow.handsOn Rows.encodingIntsRow.again) := by
  refine returnsInHanded_of_change_sized (C := Try.checked) Try.own started (by kernel_rfl) Try.func10
    (ChangeSpec.witness6 (enc := enc) (C := Try.checked) false ⟨#[], #[.agg #[.bool false, .string .empty], .agg #[.int .i64 0, .string .empty, .string .empty, .slice none 0 0]], []⟩ 8 (by kernel_rfl) (by kernel_rfl) (by kernel_rfl) (by kernel_rfl)) ?_
  intro W base args ds gs before hval0 hW _ hz0 _
  have hval : ∀ (j : Nat) t v, Try.f10.params[j]? = some t → args[j]? = some v → Value.okWide Try.prog W .any base t v := hval0
  have hz : (DataW.weightsEach Try.prog (Try.f10.params.toList ++ []) (ds ++ gs)).all (· ≤ reachBytes) = true := hz0
  have hW' := hW
  obtain ⟨p, q, hA0, hV, rfl, _, _⟩ := hW
  have hA : DataW.TrodAll enc Try.prog W 0 (fun _ => true) true Try.f10.params.toList args.toList ds p := hA0
  rw [Try.params10] at hA hval hz
  obtain ⟨v0, v1, d0, d1, p0, p1, rfl, rfl, rfl, t0, t1⟩ := trodAll_two hA
  obtain ⟨rfl, rfl⟩ := trodVars_none hV
  have z0 : ∀ n ∈ d0.weights Try.prog 50, n ≤ reachBytes := fun n hn => by
    have := List.all_eq_true.1 hz n (by simp [DataW.weightsEach, hn])
    simpa using this
  obtain ⟨x0_ng, x0, x0_le, r0⟩ := arg_int (hval 0 50 v0 rfl rfl) t0 z0
  have z1 : ∀ n ∈ d1.weights Try.prog 25, n ≤ reachBytes := fun n hn => by
    have := List.all_eq_true.1 hz n (by simp [DataW.weightsEach, hn])
    simpa using this
  obtain ⟨x1, x1_ok, r1⟩ := arg_item (hval 1 25 v1 rfl rfl) t1 z1
  refine law_calls sound Try.laidOut (by rw [Try.params10]; decide +kernel) (tb := 4) (by kernel_rfl) (by kernel_rfl) rfl hW' rfl (law10 x0_ng x0 x0_le x1 x1_ok) ⟨rfl, fun j hj => ?_⟩
  match j, hj with
  | 0, _ => exact r0
  | 1, _ => exact r1
  | j + 2, hj => simp at hj; omega
theorem ints_holds : Rows.EncodingIntsSaid :=
  OpenClaim.holds_of_wide 10 Try.f10 rfl rfl rfl rfl rfl rfl rfl ⟨rfl, rfl, rfl, rfl, rfl⟩ rfl rfl rfl rfl rfl (by kernel_rfl) Try.func10 (by kernel_rfl)
    (of_decide_eq_true (by kernel_rfl)) (by unfold Func.isWrapper; rw [if_neg (of_decide_eq_false (by kernel_rfl))]; exact ⟨rfl, rfl⟩)
    (fun os started H enc _ => ints_lifted os started H enc)
#print axioms ints_holds
end Go.Proofs.Ytggkoocpokfogaa

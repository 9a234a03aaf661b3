/-
  Held credentials and deltas are written and read as the reference says; different presentations have different encodings; an int can be written if it is not greater than 2147483647.
-/
import Derived.Test.YtcbhkkeoncmigaaAb5sA
import Derived.JoinedOf
import Derived.Handed
set_option linter.unusedVariables false
namespace Go.Proofs.Ytcbhkkeoncmigaa
open Go.ChangeShapes Go.WideShapes Go.RowKit Go.Ab Go.Ab.WireS

theorem Try.own : ownKnob Try.prog.godebug = none := by kernel_rfl
theorem Try.laidOut : laidOutB Try.prog = true := by kernel_rfl
set_option maxRecDepth 100000 in
theorem holds_lifted (os : Os) (started : os.Started) (H : Type) (enc : TypeId × Value → H) :
    ReturnsInHanded {} Try.checked os 4 .any (Rows.wireHoldsSpec.pre6 enc Try.prog Try.f4 Rows.wireHoldsRow.domain false) (Rows.wireHoldsSpec.post enc Try.prog Try.f4 Rows.wireHoldsRow.apart Rows.wireHoldsRow.fresh Rows.wireHoldsRow.handsOn Rows.wireHoldsRow.again) := by
  refine returnsInHanded_of_change_sized (C := Try.checked) Try.own started (by kernel_rfl) Try.func4
    (ChangeSpec.witness6 (enc := enc) (C := Try.checked) false ⟨#[], #[.agg #[.string .empty, .string .empty, .int .i64 0, .slice none 0 0, .string .empty, .string .empty, .string .empty, .int .i64 0, .string .empty], .agg #[.int .i64 0, .int .i64 0, .slice none 0 0, .slice none 0 0, .string .empty, .string .empty, .string .empty, .string .empty]], []⟩ 8 (by kernel_rfl) (by kernel_rfl) (by kernel_rfl) (by kernel_rfl)) ?_
  intro W base args ds gs before hval0 hW _ hz0 _
  have hval : ∀ (j : Nat) t v, Try.f4.params[j]? = some t → args[j]? = some v → Value.okWide Try.prog W .any base t v := hval0
  have hz : (DataW.weightsEach Try.prog (Try.f4.params.toList ++ []) (ds ++ gs)).all (· ≤ reachBytes) = true := hz0
  have hW' := hW
  obtain ⟨p, q, hA0, hV, rfl, _, _⟩ := hW
  have hA : DataW.TrodAll enc Try.prog W 0 (fun _ => true) true Try.f4.params.toList args.toList ds p := hA0
  rw [Try.params4] at hA hval hz
  obtain ⟨v0, v1, d0, d1, p0, p1, rfl, rfl, rfl, t0, t1⟩ := trodAll_two hA
  obtain ⟨rfl, rfl⟩ := trodVars_none hV
  have z0 : ∀ n ∈ d0.weights Try.prog 40, n ≤ reachBytes := fun n hn => by
    have := List.all_eq_true.1 hz n (by simp [DataW.weightsEach, hn])
    simpa using this
  obtain ⟨x0, r0⟩ := arg_Hd (hval 0 40 v0 rfl rfl) t0 z0
  have z1 : ∀ n ∈ d1.weights Try.prog 44, n ≤ reachBytes := fun n hn => by
    have := List.all_eq_true.1 hz n (by simp [DataW.weightsEach, hn])
    simpa using this
  obtain ⟨x1, r1⟩ := arg_Dl (hval 1 44 v1 rfl rfl) t1 z1
  refine law_calls sound Try.laidOut (by rw [Try.params4]; decide +kernel) (tb := 4) (by kernel_rfl) (by kernel_rfl) rfl hW' rfl (law4 x0 x1) ⟨rfl, fun j hj => ?_⟩
  match j, hj with
  | 0, _ => exact r0
  | 1, _ => exact r1
  | j + 2, hj => simp at hj; omega
theorem holds_holds : Rows.WireHoldsSaid :=
  OpenClaim.holds_of_wide 4 Try.f4 rfl rfl rfl rfl rfl rfl rfl ⟨rfl, rfl, rfl, rfl, rfl⟩ rfl rfl rfl rfl rfl (by kernel_rfl) Try.func4 (by kernel_rfl)
    (of_decide_eq_true (by kernel_rfl)) (by unfold Func.isWrapper; rw [if_neg (of_decide_eq_false (by kernel_rfl))]; exact ⟨rfl, rfl⟩)
    (fun os started H enc _ => holds_lifted os started H enc)
#print axioms holds_holds
set_option maxRecDepth 100000 in
theorem differs_lifted (os : Os) (started : os.Started) (H : Type) (enc : TypeId × Value → H) :
    ReturnsInHanded {} Try.checked os 5 .any (Rows.wireDiffersSpec.pre6 enc Try.prog Try.f5 Rows.wireDiffersRow.domain false) (Rows.wireDiffersSpec.post enc Try.prog Try.f5 Rows.wireDiffersRow.apart Rows.wireDiffersRow.fresh Rows.wireDiffersRow.handsOn Rows.wireDiffersRow.again) := by
  refine returnsInHanded_of_change_sized (C := Try.checked) Try.own started (by kernel_rfl) Try.func5
    (ChangeSpec.witness6 (enc := enc) (C := Try.checked) false ⟨#[], #[.agg #[.slice none 0 0, .slice none 0 0, .slice none 0 0, .slice none 0 0, .string .empty, .string .empty, .string .empty, .slice none 0 0, .string .empty, .string .empty, .string .empty, .slice none 0 0, .slice none 0 0, .slice none 0 0], .agg #[.slice none 0 0, .slice none 0 0, .slice none 0 0, .slice none 0 0, .string .empty, .string .empty, .string .empty, .slice none 0 0, .string .empty, .string .empty, .string .empty, .slice none 0 0, .slice none 0 0, .slice none 0 0]], []⟩ 8 (by kernel_rfl) (by kernel_rfl) (by kernel_rfl) (by kernel_rfl)) ?_
  intro W base args ds gs before hval0 hW _ hz0 _
  have hval : ∀ (j : Nat) t v, Try.f5.params[j]? = some t → args[j]? = some v → Value.okWide Try.prog W .any base t v := hval0
  have hz : (DataW.weightsEach Try.prog (Try.f5.params.toList ++ []) (ds ++ gs)).all (· ≤ reachBytes) = true := hz0
  have hW' := hW
  obtain ⟨p, q, hA0, hV, rfl, _, _⟩ := hW
  have hA : DataW.TrodAll enc Try.prog W 0 (fun _ => true) true Try.f5.params.toList args.toList ds p := hA0
  rw [Try.params5] at hA hval hz
  obtain ⟨v0, v1, d0, d1, p0, p1, rfl, rfl, rfl, t0, t1⟩ := trodAll_two hA
  obtain ⟨rfl, rfl⟩ := trodVars_none hV
  have z0 : ∀ n ∈ d0.weights Try.prog 66, n ≤ reachBytes := fun n hn => by
    have := List.all_eq_true.1 hz n (by simp [DataW.weightsEach, hn])
    simpa using this
  obtain ⟨x0, r0⟩ := arg_Pr (hval 0 66 v0 rfl rfl) t0 z0
  have z1 : ∀ n ∈ d1.weights Try.prog 66, n ≤ reachBytes := fun n hn => by
    have := List.all_eq_true.1 hz n (by simp [DataW.weightsEach, hn])
    simpa using this
  obtain ⟨x1, r1⟩ := arg_Pr (hval 1 66 v1 rfl rfl) t1 z1
  refine law_calls sound Try.laidOut (by rw [Try.params5]; decide +kernel) (tb := 4) (by kernel_rfl) (by kernel_rfl) rfl hW' rfl (law5 x0 x1) ⟨rfl, fun j hj => ?_⟩
  match j, hj with
  | 0, _ => exact r0
  | 1, _ => exact r1
  | j + 2, hj => simp at hj; omega
theorem differs_holds : Rows.WireDiffersSaid :=
  OpenClaim.holds_of_wide 5 Try.f5 rfl rfl rfl rfl rfl rfl rfl ⟨rfl, rfl, rfl, rfl, rfl⟩ rfl rfl rfl rfl rfl (by kernel_rfl) Try.func5 (by kernel_rfl)
    (of_decide_eq_true (by kernel_rfl)) (by unfold Func.isWrapper; rw [if_neg (of_decide_eq_false (by kernel_rfl))]; exact ⟨rfl, rfl⟩)
    (fun os started H enc _ => differs_lifted os started H enc)
#print axioms differs_holds
set_option maxRecDepth 100000 in
theorem limits_lifted (os : Os) (started : os.Started) (H : Type) (enc : TypeId × Value → H) :
    ReturnsInHanded {} Try.checked os 6 .any (Rows.wireLimitsSpec.pre6 enc Try.prog Try.f6 Rows.wireLimitsRow.domain false) (Rows.wireLimitsSpec.post enc Try.prog Try.f6 Rows.wireLimitsRow.apart Rows.wireLimitsRow.fresh Rows.wireLimitsRow.handsOn Rows.wireLimitsRow.again) := by
  refine returnsInHanded_of_change_sized (C := Try.checked) Try.own started (by kernel_rfl) Try.func6
    (ChangeSpec.witness6 (enc := enc) (C := Try.checked) false ⟨#[], #[.int .i64 0, .bool false], []⟩ 8 (by kernel_rfl) (by kernel_rfl) (by kernel_rfl) (by kernel_rfl)) ?_
  intro W base args ds gs before hval0 hW _ hz0 _
  have hval : ∀ (j : Nat) t v, Try.f6.params[j]? = some t → args[j]? = some v → Value.okWide Try.prog W .any base t v := hval0
  have hz : (DataW.weightsEach Try.prog (Try.f6.params.toList ++ []) (ds ++ gs)).all (· ≤ reachBytes) = true := hz0
  have hW' := hW
  obtain ⟨p, q, hA0, hV, rfl, _, _⟩ := hW
  have hA : DataW.TrodAll enc Try.prog W 0 (fun _ => true) true Try.f6.params.toList args.toList ds p := hA0
  rw [Try.params6] at hA hval hz
  obtain ⟨v0, v1, d0, d1, p0, p1, rfl, rfl, rfl, t0, t1⟩ := trodAll_two hA
  obtain ⟨rfl, rfl⟩ := trodVars_none hV
  have z0 : ∀ n ∈ d0.weights Try.prog 3, n ≤ reachBytes := fun n hn => by
    have := List.all_eq_true.1 hz n (by simp [DataW.weightsEach, hn])
    simpa using this
  obtain ⟨x0, r0⟩ := arg_int (hval 0 3 v0 rfl rfl) t0 z0
  have z1 : ∀ n ∈ d1.weights Try.prog 4, n ≤ reachBytes := fun n hn => by
    have := List.all_eq_true.1 hz n (by simp [DataW.weightsEach, hn])
    simpa using this
  obtain ⟨x1, r1⟩ := arg_bool (hval 1 4 v1 rfl rfl) t1 z1
  refine law_calls sound Try.laidOut (by rw [Try.params6]; decide +kernel) (tb := 4) (by kernel_rfl) (by kernel_rfl) rfl hW' rfl (law6 x0 x1) ⟨rfl, fun j hj => ?_⟩
  match j, hj with
  | 0, _ => exact r0
  | 1, _ => exact r1
  | j + 2, hj => simp at hj; omega
theorem limits_holds : Rows.WireLimitsSaid :=
  OpenClaim.holds_of_wide 6 Try.f6 rfl rfl rfl rfl rfl rfl rfl ⟨rfl, rfl, rfl, rfl, rfl⟩ rfl rfl rfl rfl rfl (by kernel_rfl) Try.func6 (by kernel_rfl)
    (of_decide_eq_true (by kernel_rfl)) (by unfold Func.isWrapper; rw [if_neg (of_decide_eq_false (by kernel_rfl))]; exact ⟨rfl, rfl⟩)
    (fun os started H enc _ => limits_lifted os started H enc)
#print axioms limits_holds
end Go.Proofs.Ytcbhkkeoncmigaa

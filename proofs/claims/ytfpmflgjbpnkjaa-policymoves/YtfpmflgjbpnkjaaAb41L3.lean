/-
  The statements of chapter 41 for every policy that the form reads: Check, Refs, Tidy, Depth and Equal against the reference's or the statement's own; other numbers for the nodes change nothing.
-/
import Derived.Test.YtfpmflgjbpnkjaaAb41P46
import Derived.Test.YtfpmflgjbpnkjaaRows
import Derived.Test.YtfpmflgjbpnkjaaAb41K1
import Derived.Test.YtfpmflgjbpnkjaaAb41K2
import Derived.Test.YtfpmflgjbpnkjaaAb41K3
import Derived.JoinedOf
import Derived.Handed
set_option linter.unusedVariables false
namespace Go.Proofs.Ytfpmflgjbpnkjaa
open Go.ChangeShapes Go.WideShapes Go.RowKit _root_.Go.Ab _root_.Go.Ab.Pl

theorem Try.own : ownKnob Try.prog.godebug = none := by kernel_rfl
theorem Try.laidOut : laidOutB Try.prog = true := by kernel_rfl
set_option maxRecDepth 100000 in
theorem chk_lifted (os : Os) (started : os.Started) (H : Type) (enc : TypeId × Value → H) :
    ReturnsInHanded {} Try.checked os 3 .any (Rows.policyChecksSpec.pre6 enc Try.prog Try.f3 Rows.policyChecksRow.domain false) (Rows.policyChecksSpec.post enc Try.prog Try.f3 Rows.policyChecksRow.apart Rows.policyChecksRow.fresh Rows.policyChecksRow.handsOn Rows.policyChecksRow.again) := by
  refine returnsInHanded_of_change_sized (C := Try.checked) Try.own started (by kernel_rfl) Try.func3
    (ChangeSpec.witness6 (enc := enc) (C := Try.checked) false ⟨#[], #[.agg #[.string .empty, .slice none 0 0, .slice none 0 0, .slice none 0 0, .int .i64 0, .string .empty, .int .i64 0, .string .empty]], []⟩ 8 (by kernel_rfl) (by kernel_rfl) (by kernel_rfl) (by kernel_rfl)) ?_
  intro W base args ds gs before hval0 hW _ hz0 _
  have hval : ∀ (j : Nat) t v, Try.f3.params[j]? = some t → args[j]? = some v → Value.okWide Try.prog W .any base t v := hval0
  have hz : (DataW.weightsEach Try.prog (Try.f3.params.toList ++ []) (ds ++ gs)).all (· ≤ reachBytes) = true := hz0
  have hW' := hW
  obtain ⟨p, q, hA0, hV, rfl, _, _⟩ := hW
  have hA : DataW.TrodAll enc Try.prog W 0 (fun _ => true) true Try.f3.params.toList args.toList ds p := hA0
  rw [Try.params3] at hA hval hz
  obtain ⟨v0, d0, rfl, rfl, t0⟩ := trodAll_one hA
  obtain ⟨rfl, rfl⟩ := trodVars_none hV
  have z0 : ∀ n ∈ d0.weights Try.prog 26, n ≤ reachBytes := fun n hn => by
    have := List.all_eq_true.1 hz n (by simp [DataW.weightsEach, hn])
    simpa using this
  obtain ⟨x0, o0, r0⟩ := arg_Po (hval 0 26 v0 rfl rfl) t0 z0
  refine law_calls sound2 Try.laidOut (by rw [Try.params3]; decide +kernel) (tb := 4) (by kernel_rfl) (by kernel_rfl) rfl hW' rfl (law3 x0 o0) ⟨rfl, fun j hj => ?_⟩
  have : j = 0 := by simp at hj; omega
  subst this
  exact r0
theorem chk_closed : joinedFacts Try.prog 3 Try.f3 Rows.policyChecksSpec Rows.policyChecksRow = true := by
  unfold joinedFacts
  rw [mayEnterF, liftsF, makeF]
  kernel_rfl
theorem chk_holds : Rows.PolicyChecksSaid :=
  OpenClaim.holds_of_wide 3 Try.f3 rfl rfl rfl rfl rfl rfl rfl ⟨rfl, rfl, rfl, rfl, rfl⟩ rfl rfl rfl rfl rfl (by kernel_rfl) Try.func3 chk_closed
    (of_decide_eq_true (by kernel_rfl)) (by unfold Func.isWrapper; rw [if_neg (of_decide_eq_false (by kernel_rfl))]; exact ⟨rfl, rfl⟩)
    (fun os started H enc _ => chk_lifted os started H enc)
#print axioms chk_holds
set_option maxRecDepth 100000 in
theorem refs_lifted (os : Os) (started : os.Started) (H : Type) (enc : TypeId × Value → H) :
    ReturnsInHanded {} Try.checked os 4 .any (Rows.policyRefsSpec.pre6 enc Try.prog Try.f4 Rows.policyRefsRow.domain false) (Rows.policyRefsSpec.post enc Try.prog Try.f4 Rows.policyRefsRow.apart Rows.policyRefsRow.fresh Rows.policyRefsRow.handsOn Rows.policyRefsRow.again) := by
  refine returnsInHanded_of_change_sized (C := Try.checked) Try.own started (by kernel_rfl) Try.func4
    (ChangeSpec.witness6 (enc := enc) (C := Try.checked) false ⟨#[], #[.agg #[.string .empty, .slice none 0 0, .slice none 0 0, .slice none 0 0, .int .i64 0, .string .empty, .int .i64 0, .string .empty], .int .i64 0], []⟩ 8 (by kernel_rfl) (by kernel_rfl) (by kernel_rfl) (by kernel_rfl)) ?_
  intro W base args ds gs before hval0 hW _ hz0 _
  have hval : ∀ (j : Nat) t v, Try.f4.params[j]? = some t → args[j]? = some v → Value.okWide Try.prog W .any base t v := hval0
  have hz : (DataW.weightsEach Try.prog (Try.f4.params.toList ++ []) (ds ++ gs)).all (· ≤ reachBytes) = true := hz0
  have hW' := hW
  obtain ⟨p, q, hA0, hV, rfl, _, _⟩ := hW
  have hA : DataW.TrodAll enc Try.prog W 0 (fun _ => true) true Try.f4.params.toList args.toList ds p := hA0
  rw [Try.params4] at hA hval hz
  obtain ⟨v0, v1, d0, d1, p0, p1, rfl, rfl, rfl, t0, t1⟩ := trodAll_two hA
  obtain ⟨rfl, rfl⟩ := trodVars_none hV
  have z0 : ∀ n ∈ d0.weights Try.prog 26, n ≤ reachBytes := fun n hn => by
    have := List.all_eq_true.1 hz n (by simp [DataW.weightsEach, hn])
    simpa using this
  obtain ⟨x0, o0, r0⟩ := arg_Po (hval 0 26 v0 rfl rfl) t0 z0
  have z1 : ∀ n ∈ d1.weights Try.prog 3, n ≤ reachBytes := fun n hn => by
    have := List.all_eq_true.1 hz n (by simp [DataW.weightsEach, hn])
    simpa using this
  obtain ⟨x1, o1, r1⟩ := arg_int (hval 1 3 v1 rfl rfl) t1 z1
  refine law_calls sound2 Try.laidOut (by rw [Try.params4]; decide +kernel) (tb := 4) (by kernel_rfl) (by kernel_rfl) rfl hW' rfl (law4 x0 o0 x1) ⟨rfl, fun j hj => ?_⟩
  match j, hj with
  | 0, _ => exact r0
  | 1, _ => exact r1
  | j + 2, hj => simp at hj; omega
theorem refs_closed : joinedFacts Try.prog 4 Try.f4 Rows.policyRefsSpec Rows.policyRefsRow = true := by
  unfold joinedFacts
  rw [mayEnterF, liftsF, makeF]
  kernel_rfl
theorem refs_holds : Rows.PolicyRefsSaid :=
  OpenClaim.holds_of_wide 4 Try.f4 rfl rfl rfl rfl rfl rfl rfl ⟨rfl, rfl, rfl, rfl, rfl⟩ rfl rfl rfl rfl rfl (by kernel_rfl) Try.func4 refs_closed
    (of_decide_eq_true (by kernel_rfl)) (by unfold Func.isWrapper; rw [if_neg (of_decide_eq_false (by kernel_rfl))]; exact ⟨rfl, rfl⟩)
    (fun os started H enc _ => refs_lifted os started H enc)
#print axioms refs_holds
set_option maxRecDepth 100000 in
theorem tidies_lifted (os : Os) (started : os.Started) (H : Type) (enc : TypeId × Value → H) :
    ReturnsInHanded {} Try.checked os 5 .any (Rows.policyTidiesSpec.pre6 enc Try.prog Try.f5 Rows.policyTidiesRow.domain false) (Rows.policyTidiesSpec.post enc Try.prog Try.f5 Rows.policyTidiesRow.apart Rows.policyTidiesRow.fresh Rows.policyTidiesRow.handsOn Rows.policyTidiesRow.again) := by
  refine returnsInHanded_of_change_sized (C := Try.checked) Try.own started (by kernel_rfl) Try.func5
    (ChangeSpec.witness6 (enc := enc) (C := Try.checked) false ⟨#[], #[.agg #[.string .empty, .slice none 0 0, .slice none 0 0, .slice none 0 0, .int .i64 0, .string .empty, .int .i64 0, .string .empty]], []⟩ 8 (by kernel_rfl) (by kernel_rfl) (by kernel_rfl) (by kernel_rfl)) ?_
  intro W base args ds gs before hval0 hW _ hz0 _
  have hval : ∀ (j : Nat) t v, Try.f5.params[j]? = some t → args[j]? = some v → Value.okWide Try.prog W .any base t v := hval0
  have hz : (DataW.weightsEach Try.prog (Try.f5.params.toList ++ []) (ds ++ gs)).all (· ≤ reachBytes) = true := hz0
  have hW' := hW
  obtain ⟨p, q, hA0, hV, rfl, _, _⟩ := hW
  have hA : DataW.TrodAll enc Try.prog W 0 (fun _ => true) true Try.f5.params.toList args.toList ds p := hA0
  rw [Try.params5] at hA hval hz
  obtain ⟨v0, d0, rfl, rfl, t0⟩ := trodAll_one hA
  obtain ⟨rfl, rfl⟩ := trodVars_none hV
  have z0 : ∀ n ∈ d0.weights Try.prog 26, n ≤ reachBytes := fun n hn => by
    have := List.all_eq_true.1 hz n (by simp [DataW.weightsEach, hn])
    simpa using this
  obtain ⟨x0, o0, r0⟩ := arg_Po (hval 0 26 v0 rfl rfl) t0 z0
  refine law_calls sound2 Try.laidOut (by rw [Try.params5]; decide +kernel) (tb := 4) (by kernel_rfl) (by kernel_rfl) rfl hW' rfl (law5 x0 o0) ⟨rfl, fun j hj => ?_⟩
  have : j = 0 := by simp at hj; omega
  subst this
  exact r0
theorem tidies_closed : joinedFacts Try.prog 5 Try.f5 Rows.policyTidiesSpec Rows.policyTidiesRow = true := by
  unfold joinedFacts
  rw [mayEnterF, liftsF, makeF]
  kernel_rfl
theorem tidies_holds : Rows.PolicyTidiesSaid :=
  OpenClaim.holds_of_wide 5 Try.f5 rfl rfl rfl rfl rfl rfl rfl ⟨rfl, rfl, rfl, rfl, rfl⟩ rfl rfl rfl rfl rfl (by kernel_rfl) Try.func5 tidies_closed
    (of_decide_eq_true (by kernel_rfl)) (by unfold Func.isWrapper; rw [if_neg (of_decide_eq_false (by kernel_rfl))]; exact ⟨rfl, rfl⟩)
    (fun os started H enc _ => tidies_lifted os started H enc)
#print axioms tidies_holds
set_option maxRecDepth 100000 in
theorem depths_lifted (os : Os) (started : os.Started) (H : Type) (enc : TypeId × Value → H) :
    ReturnsInHanded {} Try.checked os 6 .any (Rows.policyDepthsSpec.pre6 enc Try.prog Try.f6 Rows.policyDepthsRow.domain false) (Rows.policyDepthsSpec.post enc Try.prog Try.f6 Rows.policyDepthsRow.apart Rows.policyDepthsRow.fresh Rows.policyDepthsRow.handsOn Rows.policyDepthsRow.again) := by
  refine returnsInHanded_of_change_sized (C := Try.checked) Try.own started (by kernel_rfl) Try.func6
    (ChangeSpec.witness6 (enc := enc) (C := Try.checked) false ⟨#[], #[.agg #[.string .empty, .slice none 0 0, .slice none 0 0, .slice none 0 0, .int .i64 0, .string .empty, .int .i64 0, .string .empty]], []⟩ 8 (by kernel_rfl) (by kernel_rfl) (by kernel_rfl) (by kernel_rfl)) ?_
  intro W base args ds gs before hval0 hW _ hz0 _
  have hval : ∀ (j : Nat) t v, Try.f6.params[j]? = some t → args[j]? = some v → Value.okWide Try.prog W .any base t v := hval0
  have hz : (DataW.weightsEach Try.prog (Try.f6.params.toList ++ []) (ds ++ gs)).all (· ≤ reachBytes) = true := hz0
  have hW' := hW
  obtain ⟨p, q, hA0, hV, rfl, _, _⟩ := hW
  have hA : DataW.TrodAll enc Try.prog W 0 (fun _ => true) true Try.f6.params.toList args.toList ds p := hA0
  rw [Try.params6] at hA hval hz
  obtain ⟨v0, d0, rfl, rfl, t0⟩ := trodAll_one hA
  obtain ⟨rfl, rfl⟩ := trodVars_none hV
  have z0 : ∀ n ∈ d0.weights Try.prog 26, n ≤ reachBytes := fun n hn => by
    have := List.all_eq_true.1 hz n (by simp [DataW.weightsEach, hn])
    simpa using this
  obtain ⟨x0, o0, r0⟩ := arg_Po (hval 0 26 v0 rfl rfl) t0 z0
  refine law_calls sound2 Try.laidOut (by rw [Try.params6]; decide +kernel) (tb := 4) (by kernel_rfl) (by kernel_rfl) rfl hW' rfl (law6 x0 o0) ⟨rfl, fun j hj => ?_⟩
  have : j = 0 := by simp at hj; omega
  subst this
  exact r0
theorem depths_closed : joinedFacts Try.prog 6 Try.f6 Rows.policyDepthsSpec Rows.policyDepthsRow = true := by
  unfold joinedFacts
  rw [mayEnterF, liftsF, makeF]
  kernel_rfl
theorem depths_holds : Rows.PolicyDepthsSaid :=
  OpenClaim.holds_of_wide 6 Try.f6 rfl rfl rfl rfl rfl rfl rfl ⟨rfl, rfl, rfl, rfl, rfl⟩ rfl rfl rfl rfl rfl (by kernel_rfl) Try.func6 depths_closed
    (of_decide_eq_true (by kernel_rfl)) (by unfold Func.isWrapper; rw [if_neg (of_decide_eq_false (by kernel_rfl))]; exact ⟨rfl, rfl⟩)
    (fun os started H enc _ => depths_lifted os started H enc)
#print axioms depths_holds
set_option maxRecDepth 100000 in
theorem same_lifted (os : Os) (started : os.Started) (H : Type) (enc : TypeId × Value → H) :
    ReturnsInHanded {} Try.checked os 7 .any (Rows.policySameSpec.pre6 enc Try.prog Try.f7 Rows.policySameRow.domain false) (Rows.policySameSpec.post enc Try.prog Try.f7 Rows.policySameRow.apart Rows.policySameRow.fresh Rows.policySameRow.handsOn Rows.policySameRow.again) := by
  refine returnsInHanded_of_change_sized (C := Try.checked) Try.own started (by kernel_rfl) Try.func7
    (ChangeSpec.witness6 (enc := enc) (C := Try.checked) false ⟨#[], #[.agg #[.string .empty, .slice none 0 0, .slice none 0 0, .slice none 0 0, .int .i64 0, .string .empty, .int .i64 0, .string .empty], .agg #[.string .empty, .slice none 0 0, .slice none 0 0, .slice none 0 0, .int .i64 0, .string .empty, .int .i64 0, .string .empty]], []⟩ 8 (by kernel_rfl) (by kernel_rfl) (by kernel_rfl) (by kernel_rfl)) ?_
  intro W base args ds gs before hval0 hW _ hz0 _
  have hval : ∀ (j : Nat) t v, Try.f7.params[j]? = some t → args[j]? = some v → Value.okWide Try.prog W .any base t v := hval0
  have hz : (DataW.weightsEach Try.prog (Try.f7.params.toList ++ []) (ds ++ gs)).all (· ≤ reachBytes) = true := hz0
  have hW' := hW
  obtain ⟨p, q, hA0, hV, rfl, _, _⟩ := hW
  have hA : DataW.TrodAll enc Try.prog W 0 (fun _ => true) true Try.f7.params.toList args.toList ds p := hA0
  rw [Try.params7] at hA hval hz
  obtain ⟨v0, v1, d0, d1, p0, p1, rfl, rfl, rfl, t0, t1⟩ := trodAll_two hA
  obtain ⟨rfl, rfl⟩ := trodVars_none hV
  have z0 : ∀ n ∈ d0.weights Try.prog 26, n ≤ reachBytes := fun n hn => by
    have := List.all_eq_true.1 hz n (by simp [DataW.weightsEach, hn])
    simpa using this
  obtain ⟨x0, o0, r0⟩ := arg_Po (hval 0 26 v0 rfl rfl) t0 z0
  have z1 : ∀ n ∈ d1.weights Try.prog 26, n ≤ reachBytes := fun n hn => by
    have := List.all_eq_true.1 hz n (by simp [DataW.weightsEach, hn])
    simpa using this
  obtain ⟨x1, o1, r1⟩ := arg_Po (hval 1 26 v1 rfl rfl) t1 z1
  refine law_calls sound2 Try.laidOut (by rw [Try.params7]; decide +kernel) (tb := 4) (by kernel_rfl) (by kernel_rfl) rfl hW' rfl (law7 x0 x1 o0 o1) ⟨rfl, fun j hj => ?_⟩
  match j, hj with
  | 0, _ => exact r0
  | 1, _ => exact r1
  | j + 2, hj => simp at hj; omega
theorem same_closed : joinedFacts Try.prog 7 Try.f7 Rows.policySameSpec Rows.policySameRow = true := by
  unfold joinedFacts
  rw [mayEnterF, liftsF, makeF]
  kernel_rfl
theorem same_holds : Rows.PolicySameSaid :=
  OpenClaim.holds_of_wide 7 Try.f7 rfl rfl rfl rfl rfl rfl rfl ⟨rfl, rfl, rfl, rfl, rfl⟩ rfl rfl rfl rfl rfl (by kernel_rfl) Try.func7 same_closed
    (of_decide_eq_true (by kernel_rfl)) (by unfold Func.isWrapper; rw [if_neg (of_decide_eq_false (by kernel_rfl))]; exact ⟨rfl, rfl⟩)
    (fun os started H enc _ => same_lifted os started H enc)
#print axioms same_holds
set_option maxRecDepth 100000 in
theorem tidied_lifted (os : Os) (started : os.Started) (H : Type) (enc : TypeId × Value → H) :
    ReturnsInHanded {} Try.checked os 8 .any (Rows.policyTidiedSpec.pre6 enc Try.prog Try.f8 Rows.policyTidiedRow.domain false) (Rows.policyTidiedSpec.post enc Try.prog Try.f8 Rows.policyTidiedRow.apart Rows.policyTidiedRow.fresh Rows.policyTidiedRow.handsOn Rows.policyTidiedRow.again) := by
  refine returnsInHanded_of_change_sized (C := Try.checked) Try.own started (by kernel_rfl) Try.func8
    (ChangeSpec.witness6 (enc := enc) (C := Try.checked) false ⟨#[], #[.agg #[.string .empty, .slice none 0 0, .slice none 0 0, .slice none 0 0, .int .i64 0, .string .empty, .int .i64 0, .string .empty]], []⟩ 8 (by kernel_rfl) (by kernel_rfl) (by kernel_rfl) (by kernel_rfl)) ?_
  intro W base args ds gs before hval0 hW _ hz0 _
  have hval : ∀ (j : Nat) t v, Try.f8.params[j]? = some t → args[j]? = some v → Value.okWide Try.prog W .any base t v := hval0
  have hz : (DataW.weightsEach Try.prog (Try.f8.params.toList ++ []) (ds ++ gs)).all (· ≤ reachBytes) = true := hz0
  have hW' := hW
  obtain ⟨p, q, hA0, hV, rfl, _, _⟩ := hW
  have hA : DataW.TrodAll enc Try.prog W 0 (fun _ => true) true Try.f8.params.toList args.toList ds p := hA0
  rw [Try.params8] at hA hval hz
  obtain ⟨v0, d0, rfl, rfl, t0⟩ := trodAll_one hA
  obtain ⟨rfl, rfl⟩ := trodVars_none hV
  have z0 : ∀ n ∈ d0.weights Try.prog 26, n ≤ reachBytes := fun n hn => by
    have := List.all_eq_true.1 hz n (by simp [DataW.weightsEach, hn])
    simpa using this
  obtain ⟨x0, o0, r0⟩ := arg_Po (hval 0 26 v0 rfl rfl) t0 z0
  refine law_calls sound2 Try.laidOut (by rw [Try.params8]; decide +kernel) (tb := 4) (by kernel_rfl) (by kernel_rfl) rfl hW' rfl (law8 x0 o0) ⟨rfl, fun j hj => ?_⟩
  have : j = 0 := by simp at hj; omega
  subst this
  exact r0
theorem tidied_closed : joinedFacts Try.prog 8 Try.f8 Rows.policyTidiedSpec Rows.policyTidiedRow = true := by
  unfold joinedFacts
  rw [mayEnterF, liftsF, makeF]
  kernel_rfl
theorem tidied_holds : Rows.PolicyTidiedSaid :=
  OpenClaim.holds_of_wide 8 Try.f8 rfl rfl rfl rfl rfl rfl rfl ⟨rfl, rfl, rfl, rfl, rfl⟩ rfl rfl rfl rfl rfl (by kernel_rfl) Try.func8 tidied_closed
    (of_decide_eq_true (by kernel_rfl)) (by unfold Func.isWrapper; rw [if_neg (of_decide_eq_false (by kernel_rfl))]; exact ⟨rfl, rfl⟩)
    (fun os started H enc _ => tidied_lifted os started H enc)
#print axioms tidied_holds
set_option maxRecDepth 100000 in
theorem moves_lifted (os : Os) (started : os.Started) (H : Type) (enc : TypeId × Value → H) :
    ReturnsInHanded {} Try.checked os 9 .any (Rows.policyMovesSpec.pre6 enc Try.prog Try.f9 Rows.policyMovesRow.domain false) (Rows.policyMovesSpec.post enc Try.prog Try.f9 Rows.policyMovesRow.apart Rows.policyMovesRow.fresh Rows.policyMovesRow.handsOn Rows.policyMovesRow.again) := by
  refine returnsInHanded_of_change_sized (C := Try.checked) Try.own started (by kernel_rfl) Try.func9
    (ChangeSpec.witness6 (enc := enc) (C := Try.checked) false ⟨#[], #[.agg #[.string .empty, .slice none 0 0, .slice none 0 0, .slice none 0 0, .int .i64 0, .string .empty, .int .i64 0, .string .empty], .slice none 0 0], []⟩ 8 (by kernel_rfl) (by kernel_rfl) (by kernel_rfl) (by kernel_rfl)) ?_
  intro W base args ds gs before hval0 hW _ hz0 _
  have hval : ∀ (j : Nat) t v, Try.f9.params[j]? = some t → args[j]? = some v → Value.okWide Try.prog W .any base t v := hval0
  have hz : (DataW.weightsEach Try.prog (Try.f9.params.toList ++ []) (ds ++ gs)).all (· ≤ reachBytes) = true := hz0
  have hW' := hW
  obtain ⟨p, q, hA0, hV, rfl, _, _⟩ := hW
  have hA : DataW.TrodAll enc Try.prog W 0 (fun _ => true) true Try.f9.params.toList args.toList ds p := hA0
  rw [Try.params9] at hA hval hz
  obtain ⟨v0, v1, d0, d1, p0, p1, rfl, rfl, rfl, t0, t1⟩ := trodAll_two hA
  obtain ⟨rfl, rfl⟩ := trodVars_none hV
  have z0 : ∀ n ∈ d0.weights Try.prog 26, n ≤ reachBytes := fun n hn => by
    have := List.all_eq_true.1 hz n (by simp [DataW.weightsEach, hn])
    simpa using this
  obtain ⟨x0, o0, r0⟩ := arg_Po (hval 0 26 v0 rfl rfl) t0 z0
  have z1 : ∀ n ∈ d1.weights Try.prog 43, n ≤ reachBytes := fun n hn => by
    have := List.all_eq_true.1 hz n (by simp [DataW.weightsEach, hn])
    simpa using this
  obtain ⟨x1, o1, r1⟩ := arg_Ints (hval 1 43 v1 rfl rfl) t1 z1
  refine law_calls sound2 Try.laidOut (by rw [Try.params9]; decide +kernel) (tb := 4) (by kernel_rfl) (by kernel_rfl) rfl hW' rfl (law9 x0 o0 x1 o1) ⟨rfl, fun j hj => ?_⟩
  match j, hj with
  | 0, _ => exact r0
  | 1, _ => exact r1
  | j + 2, hj => simp at hj; omega
theorem moves_closed : joinedFacts Try.prog 9 Try.f9 Rows.policyMovesSpec Rows.policyMovesRow = true := by
  unfold joinedFacts
  rw [mayEnterF, liftsF, makeF]
  kernel_rfl
theorem moves_holds : Rows.PolicyMovesSaid :=
  OpenClaim.holds_of_wide 9 Try.f9 rfl rfl rfl rfl rfl rfl rfl ⟨rfl, rfl, rfl, rfl, rfl⟩ rfl rfl rfl rfl rfl (by kernel_rfl) Try.func9 moves_closed
    (of_decide_eq_true (by kernel_rfl)) (by unfold Func.isWrapper; rw [if_neg (of_decide_eq_false (by kernel_rfl))]; exact ⟨rfl, rfl⟩)
    (fun os started H enc _ => moves_lifted os started H enc)
#print axioms moves_holds
end Go.Proofs.Ytfpmflgjbpnkjaa

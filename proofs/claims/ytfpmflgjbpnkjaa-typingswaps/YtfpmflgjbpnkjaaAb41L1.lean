/-
  Check and Field of typing return what the reference returns, for every policy and schemas (and attribute) that the form reads; exchanged values of a comparison and other numbers do not matter for a policy that fits.
-/
import Derived.Test.YtfpmflgjbpnkjaaAb41P27
import Derived.Test.YtfpmflgjbpnkjaaRows
import Derived.Test.YtfpmflgjbpnkjaaAb41K1
import Derived.Test.YtfpmflgjbpnkjaaAb41K2
import Derived.Test.YtfpmflgjbpnkjaaAb41K3
import Derived.JoinedOf
import Derived.Handed
set_option linter.unusedVariables false
namespace Go.Proofs.Ytfpmflgjbpnkjaa
open Go.ChangeShapes Go.WideShapes Go.RowKit Go.Ab Go.Ab.Pl

theorem Try.own : ownKnob Try.prog.godebug = none := by kernel_rfl
theorem Try.laidOut : laidOutB Try.prog = true := by kernel_rfl
set_option maxRecDepth 100000 in
theorem checks_lifted (os : Os) (started : os.Started) (H : Type) (enc : TypeId × Value → H) :
    ReturnsInHanded {} Try.checked os 10 .any (Rows.typingChecksSpec.pre6 enc Try.prog Try.f10 Rows.typingChecksRow.domain false) (Rows.typingChecksSpec.post enc Try.prog Try.f10 Rows.typingChecksRow.apart Rows.typingChecksRow.fresh Rows.typingChecksRow.handsOn Rows.typingChecksRow.again) := by
  refine returnsInHanded_of_change_sized (C := Try.checked) Try.own started (by kernel_rfl) Try.func10
    (ChangeSpec.witness6 (enc := enc) (C := Try.checked) false ⟨#[], #[.agg #[.string .empty, .slice none 0 0, .slice none 0 0, .slice none 0 0, .int .i64 0, .string .empty, .int .i64 0, .string .empty], .slice none 0 0], []⟩ 8 (by kernel_rfl) (by kernel_rfl) (by kernel_rfl) (by kernel_rfl)) ?_
  intro W base args ds gs before hval0 hW _ hz0 _
  have hval : ∀ (j : Nat) t v, Try.f10.params[j]? = some t → args[j]? = some v → Value.okWide Try.prog W .any base t v := hval0
  have hz : (DataW.weightsEach Try.prog (Try.f10.params.toList ++ []) (ds ++ gs)).all (· ≤ reachBytes) = true := hz0
  have hW' := hW
  obtain ⟨p, q, hA0, hV, rfl, _, _⟩ := hW
  have hA : DataW.TrodAll enc Try.prog W 0 (fun _ => true) true Try.f10.params.toList args.toList ds p := hA0
  rw [Try.params10] at hA hval hz
  obtain ⟨v0, v1, d0, d1, p0, p1, rfl, rfl, rfl, t0, t1⟩ := trodAll_two hA
  obtain ⟨rfl, rfl⟩ := trodVars_none hV
  have z0 : ∀ n ∈ d0.weights Try.prog 26, n ≤ reachBytes := fun n hn => by
    have := List.all_eq_true.1 hz n (by simp [DataW.weightsEach, hn])
    simpa using this
  obtain ⟨x0, o0, r0⟩ := arg_Po (hval 0 26 v0 rfl rfl) t0 z0
  have z1 : ∀ n ∈ d1.weights Try.prog 47, n ≤ reachBytes := fun n hn => by
    have := List.all_eq_true.1 hz n (by simp [DataW.weightsEach, hn])
    simpa using this
  obtain ⟨x1, o1, r1⟩ := arg_Scs (hval 1 47 v1 rfl rfl) t1 z1
  refine law_calls sound Try.laidOut (by rw [Try.params10]; decide +kernel) (tb := 4) (by kernel_rfl) (by kernel_rfl) rfl hW' rfl (law10 x0 o0 x1 o1) ⟨rfl, fun j hj => ?_⟩
  match j, hj with
  | 0, _ => exact r0
  | 1, _ => exact r1
  | j + 2, hj => simp at hj; omega
theorem checks_closed : joinedFacts Try.prog 10 Try.f10 Rows.typingChecksSpec Rows.typingChecksRow = true := by
  unfold joinedFacts
  rw [mayEnterF, liftsF, makeF]
  kernel_rfl
theorem checks_holds : Rows.TypingChecksSaid :=
  OpenClaim.holds_of_wide 10 Try.f10 rfl rfl rfl rfl rfl rfl rfl ⟨rfl, rfl, rfl, rfl, rfl⟩ rfl rfl rfl rfl rfl (by kernel_rfl) Try.func10 checks_closed
    (of_decide_eq_true (by kernel_rfl)) (by unfold Func.isWrapper; rw [if_neg (of_decide_eq_false (by kernel_rfl))]; exact ⟨rfl, rfl⟩)
    (fun os started H enc _ => checks_lifted os started H enc)
#print axioms checks_holds
set_option maxRecDepth 100000 in
theorem fields_lifted (os : Os) (started : os.Started) (H : Type) (enc : TypeId × Value → H) :
    ReturnsInHanded {} Try.checked os 11 .any (Rows.typingFieldsSpec.pre6 enc Try.prog Try.f11 Rows.typingFieldsRow.domain false) (Rows.typingFieldsSpec.post enc Try.prog Try.f11 Rows.typingFieldsRow.apart Rows.typingFieldsRow.fresh Rows.typingFieldsRow.handsOn Rows.typingFieldsRow.again) := by
  refine returnsInHanded_of_change_sized (C := Try.checked) Try.own started (by kernel_rfl) Try.func11
    (ChangeSpec.witness6 (enc := enc) (C := Try.checked) false ⟨#[], #[.agg #[.string .empty, .slice none 0 0, .slice none 0 0, .slice none 0 0, .int .i64 0, .string .empty, .int .i64 0, .string .empty], .slice none 0 0, .agg #[.string .empty, .string .empty]], []⟩ 8 (by kernel_rfl) (by kernel_rfl) (by kernel_rfl) (by kernel_rfl)) ?_
  intro W base args ds gs before hval0 hW _ hz0 _
  have hval : ∀ (j : Nat) t v, Try.f11.params[j]? = some t → args[j]? = some v → Value.okWide Try.prog W .any base t v := hval0
  have hz : (DataW.weightsEach Try.prog (Try.f11.params.toList ++ []) (ds ++ gs)).all (· ≤ reachBytes) = true := hz0
  have hW' := hW
  obtain ⟨p, q, hA0, hV, rfl, _, _⟩ := hW
  have hA : DataW.TrodAll enc Try.prog W 0 (fun _ => true) true Try.f11.params.toList args.toList ds p := hA0
  rw [Try.params11] at hA hval hz
  obtain ⟨v0, v1, v2, d0, d1, d2, p0, p1, p2, rfl, rfl, rfl, t0, t1, t2⟩ := trodAll_three hA
  obtain ⟨rfl, rfl⟩ := trodVars_none hV
  have z0 : ∀ n ∈ d0.weights Try.prog 26, n ≤ reachBytes := fun n hn => by
    have := List.all_eq_true.1 hz n (by simp [DataW.weightsEach, hn])
    simpa using this
  obtain ⟨x0, o0, r0⟩ := arg_Po (hval 0 26 v0 rfl rfl) t0 z0
  have z1 : ∀ n ∈ d1.weights Try.prog 47, n ≤ reachBytes := fun n hn => by
    have := List.all_eq_true.1 hz n (by simp [DataW.weightsEach, hn])
    simpa using this
  obtain ⟨x1, o1, r1⟩ := arg_Scs (hval 1 47 v1 rfl rfl) t1 z1
  have z2 : ∀ n ∈ d2.weights Try.prog 34, n ≤ reachBytes := fun n hn => by
    have := List.all_eq_true.1 hz n (by simp [DataW.weightsEach, hn])
    simpa using this
  obtain ⟨x2, o2, r2⟩ := arg_Rf (hval 2 34 v2 rfl rfl) t2 z2
  refine law_calls sound Try.laidOut (by rw [Try.params11]; decide +kernel) (tb := 4) (by kernel_rfl) (by kernel_rfl) rfl hW' rfl (law11 x0 o0 x1 o1 x2 o2) ⟨rfl, fun j hj => ?_⟩
  match j, hj with
  | 0, _ => exact r0
  | 1, _ => exact r1
  | 2, _ => exact r2
  | j + 3, hj => simp at hj; omega
theorem fields_closed : joinedFacts Try.prog 11 Try.f11 Rows.typingFieldsSpec Rows.typingFieldsRow = true := by
  unfold joinedFacts
  rw [mayEnterF, liftsF, makeF]
  kernel_rfl
theorem fields_holds : Rows.TypingFieldsSaid :=
  OpenClaim.holds_of_wide 11 Try.f11 rfl rfl rfl rfl rfl rfl rfl ⟨rfl, rfl, rfl, rfl, rfl⟩ rfl rfl rfl rfl rfl (by kernel_rfl) Try.func11 fields_closed
    (of_decide_eq_true (by kernel_rfl)) (by unfold Func.isWrapper; rw [if_neg (of_decide_eq_false (by kernel_rfl))]; exact ⟨rfl, rfl⟩)
    (fun os started H enc _ => fields_lifted os started H enc)
#print axioms fields_holds
set_option maxRecDepth 100000 in
theorem swaps_lifted (os : Os) (started : os.Started) (H : Type) (enc : TypeId × Value → H) :
    ReturnsInHanded {} Try.checked os 13 .any (Rows.typingSwapsSpec.pre6 enc Try.prog Try.f13 Rows.typingSwapsRow.domain false) (Rows.typingSwapsSpec.post enc Try.prog Try.f13 Rows.typingSwapsRow.apart Rows.typingSwapsRow.fresh Rows.typingSwapsRow.handsOn Rows.typingSwapsRow.again) := by
  refine returnsInHanded_of_change_sized (C := Try.checked) Try.own started (by kernel_rfl) Try.func13
    (ChangeSpec.witness6 (enc := enc) (C := Try.checked) false ⟨#[], #[.agg #[.string .empty, .slice none 0 0, .slice none 0 0, .slice none 0 0, .int .i64 0, .string .empty, .int .i64 0, .string .empty], .slice none 0 0, .agg #[.int .u8 0, .int .i32 0]], []⟩ 8 (by kernel_rfl) (by kernel_rfl) (by kernel_rfl) (by kernel_rfl)) ?_
  intro W base args ds gs before hval0 hW _ hz0 _
  have hval : ∀ (j : Nat) t v, Try.f13.params[j]? = some t → args[j]? = some v → Value.okWide Try.prog W .any base t v := hval0
  have hz : (DataW.weightsEach Try.prog (Try.f13.params.toList ++ []) (ds ++ gs)).all (· ≤ reachBytes) = true := hz0
  have hW' := hW
  obtain ⟨p, q, hA0, hV, rfl, _, _⟩ := hW
  have hA : DataW.TrodAll enc Try.prog W 0 (fun _ => true) true Try.f13.params.toList args.toList ds p := hA0
  rw [Try.params13] at hA hval hz
  obtain ⟨v0, v1, v2, d0, d1, d2, p0, p1, p2, rfl, rfl, rfl, t0, t1, t2⟩ := trodAll_three hA
  obtain ⟨rfl, rfl⟩ := trodVars_none hV
  have z0 : ∀ n ∈ d0.weights Try.prog 26, n ≤ reachBytes := fun n hn => by
    have := List.all_eq_true.1 hz n (by simp [DataW.weightsEach, hn])
    simpa using this
  obtain ⟨x0, o0, r0⟩ := arg_Po (hval 0 26 v0 rfl rfl) t0 z0
  have z1 : ∀ n ∈ d1.weights Try.prog 47, n ≤ reachBytes := fun n hn => by
    have := List.all_eq_true.1 hz n (by simp [DataW.weightsEach, hn])
    simpa using this
  obtain ⟨x1, o1, r1⟩ := arg_Scs (hval 1 47 v1 rfl rfl) t1 z1
  have z2 : ∀ n ∈ d2.weights Try.prog 71, n ≤ reachBytes := fun n hn => by
    have := List.all_eq_true.1 hz n (by simp [DataW.weightsEach, hn])
    simpa using this
  obtain ⟨x2, o2, r2⟩ := arg_Sw (hval 2 71 v2 rfl rfl) t2 z2
  refine law_calls sound Try.laidOut (by rw [Try.params13]; decide +kernel) (tb := 4) (by kernel_rfl) (by kernel_rfl) rfl hW' rfl (law13 x0 o0 x1 o1 x2 o2) ⟨rfl, fun j hj => ?_⟩
  match j, hj with
  | 0, _ => exact r0
  | 1, _ => exact r1
  | 2, _ => exact r2
  | j + 3, hj => simp at hj; omega
theorem swaps_closed : joinedFacts Try.prog 13 Try.f13 Rows.typingSwapsSpec Rows.typingSwapsRow = true := by
  unfold joinedFacts
  rw [mayEnterF, liftsF, makeF]
  kernel_rfl
theorem swaps_holds : Rows.TypingSwapsSaid :=
  OpenClaim.holds_of_wide 13 Try.f13 rfl rfl rfl rfl rfl rfl rfl ⟨rfl, rfl, rfl, rfl, rfl⟩ rfl rfl rfl rfl rfl (by kernel_rfl) Try.func13 swaps_closed
    (of_decide_eq_true (by kernel_rfl)) (by unfold Func.isWrapper; rw [if_neg (of_decide_eq_false (by kernel_rfl))]; exact ⟨rfl, rfl⟩)
    (fun os started H enc _ => swaps_lifted os started H enc)
#print axioms swaps_holds
end Go.Proofs.Ytfpmflgjbpnkjaa

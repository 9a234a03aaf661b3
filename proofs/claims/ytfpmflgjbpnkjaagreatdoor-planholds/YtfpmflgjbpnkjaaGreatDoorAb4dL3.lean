/-
  Holds returns the answer and the error of the reference, for every plan and all values that the form reads.
-/
import Derived.Test.YtfpmflgjbpnkjaaGreatDoorAb4dS18
import Derived.Test.YtfpmflgjbpnkjaaGreatDoorAb4dB
import Derived.Test.YtfpmflgjbpnkjaaGreatDoorRows
import Derived.Test.YtfpmflgjbpnkjaaGreatDoorAb4dK4
import Derived.Test.YtfpmflgjbpnkjaaGreatDoorTie
import Derived.Test.YtfpmflgjbpnkjaaGreatDoorCards
import Derived.SevenTiedAt
import Derived.JoinedOf
import Derived.Handed
set_option linter.unusedVariables false
namespace Go.Proofs.YtfpmflgjbpnkjaaGreatDoor
open Go.ChangeShapes Go.WideShapes Go.RowKit _root_.Go.Ab _root_.Go.Ab.Pn

theorem Tryz.own : ownKnob Tryz.prog.godebug = none := by kernel_rfl
theorem Tryz.laidOut : laidOutB Tryz.prog = true := by kernel_rfl
set_option maxRecDepth 100000 in
theorem holds_lifted (os : Os) (started : os.Started) (H : Type) (enc : TypeId × Value → H) :
    ReturnsInHanded {} Tryz.checked os 8 .any (fun w args => (Rows.planHoldsSpec.pre enc Tryz.prog Tryz.f8 Rows.planHoldsRow.domain false w args ∧ laidMet Tryz.prog Rows.planHoldsRow.laid w) ∧ sizedMet enc Tryz.prog Tryz.f8 (OpenSpec.ofChange Rows.planHoldsSpec) false w args)
      (Rows.planHoldsSpec.post enc Tryz.prog Tryz.f8 Rows.planHoldsRow.apart Rows.planHoldsRow.fresh Rows.planHoldsRow.handsOn Rows.planHoldsRow.again) := by
  refine returnsInHanded_of_change_and (C := Tryz.checked) (X := fun w _ => laidMet Tryz.prog Rows.planHoldsRow.laid w) (fun _ _ _ hh h => h.of_heap hh) Tryz.own started (by kernel_rfl) Tryz.func8
    (ChangeSpec.witness_at (enc := enc) (C := Tryz.checked) (os := os) (X := fun w _ => laidMet Tryz.prog Rows.planHoldsRow.laid w) false (laidWorld os) #[.agg #[.slice none 0 0, .slice none 0 0, .slice none 0 0, .slice none 0 0, .slice none 0 0], .slice none 0 0] 8 rfl (laid_vars os _) (laid_rest os _) (by kernel_rfl) (by kernel_rfl) (by kernel_rfl) (laid_met os _)) ?_
  intro W base args ds gs before hval0 hW _ hz0 _ _
  have hval : ∀ (j : Nat) t v, Tryz.f8.params[j]? = some t → args[j]? = some v → Value.okWide Tryz.prog W .any base t v := hval0
  have hz : (DataW.weightsEach Tryz.prog (Tryz.f8.params.toList ++ []) (ds ++ gs)).all (· ≤ reachBytes) = true := hz0
  have hW' := hW
  obtain ⟨p, q, hA0, hV, rfl, _, _⟩ := hW
  have hA : DataW.TrodAll enc Tryz.prog W 0 (fun _ => true) true Tryz.f8.params.toList args.toList ds p := hA0
  rw [Tryz.params8] at hA hval hz
  obtain ⟨v0, v1, d0, d1, p0, p1, rfl, rfl, rfl, t0, t1⟩ := trodAll_two hA
  obtain ⟨rfl, rfl⟩ := trodVars_none hV
  have z0 : ∀ n ∈ d0.weights Tryz.prog 36, n ≤ reachBytes := fun n hn => by
    have := List.all_eq_true.1 hz n (by simp [DataW.weightsEach, hn])
    simpa using this
  obtain ⟨x0, o0, r0⟩ := arg_Pl (hval 0 36 v0 rfl rfl) t0 z0
  have z1 : ∀ n ∈ d1.weights Tryz.prog 57, n ≤ reachBytes := fun n hn => by
    have := List.all_eq_true.1 hz n (by simp [DataW.weightsEach, hn])
    simpa using this
  obtain ⟨x1, o1, r1⟩ := arg_Ints (hval 1 57 v1 rfl rfl) t1 z1
  refine law_calls sound4 Tryz.laidOut (by rw [Tryz.params8]; decide +kernel) (tb := 4) (by kernel_rfl) (by kernel_rfl) rfl hW' rfl (law8 x0 o0 x1) ⟨rfl, fun j hj => ?_⟩
  match j, hj with
  | 0, _ => exact r0
  | 1, _ => exact r1
  | j + 2, hj => simp at hj; omega
theorem holds_closed : joinedFacts Tryz.prog 8 Tryz.f8 Rows.planHoldsSpec Rows.planHoldsRow = true := by
  unfold joinedFacts
  rw [mayEnterF, liftsF, makeF]
  kernel_rfl
theorem holds_holds : Rows.PlanHoldsSaid :=
  OpenClaim.holds_of_wide 8 Tryz.f8 rfl rfl rfl rfl rfl rfl rfl ⟨rfl, rfl, rfl, rfl, rfl⟩ rfl rfl rfl rfl rfl (by kernel_rfl) Tryz.func8 holds_closed
    (of_decide_eq_true (by kernel_rfl)) (by unfold Func.isWrapper; rw [if_neg (of_decide_eq_false (by kernel_rfl))]; exact ⟨rfl, rfl⟩)
    (fun os started H enc _ => holds_lifted os started H enc)
#print axioms holds_holds
/-- THE TIED CARD. -/
theorem holds_card : Rows.PlanHoldsCardSaid :=
  Claim7.holds_tied_plain_at .later [] [.data, .data, .data] true (true, "2e48ec5bba7d3347c238abbc395756201c6a009abbd3b22e80ed09689c82c687") true
    holds_holds (fun _ h => by cases h) (by kernel_rfl) (fun _ h => by cases h) planHolds_row_tie rfl ⟨rfl, rfl⟩ (by kernel_rfl) rfl
    (fun f fn hf hfn => by
      obtain rfl : f = 8 := Option.some.inj ((show Tryz.prog.funcNamed "domino/dominolaw47.PlanHolds" = some 8 by kernel_rfl).symm.trans hf) |>.symm
      obtain rfl : fn = Tryz.f8 := (Option.some.inj (Tryz.func8.symm.trans hfn)).symm
      exact ⟨by kernel_rfl, fun j t ht => by
        rw [Tryz.params8] at ht
        have hm : t ∈ [36, 57] := by simpa using Array.mem_of_getElem? ht
        have hall : ([36, 57].all fun u => !Tryz.prog.wantsStandIn u) = true := by kernel_rfl
        exact (show Tryz.prog.wantsStandIn t = false by simpa using List.all_eq_true.1 hall t hm)⟩)
    (by kernel_rfl)
#print axioms holds_card
end Go.Proofs.YtfpmflgjbpnkjaaGreatDoor

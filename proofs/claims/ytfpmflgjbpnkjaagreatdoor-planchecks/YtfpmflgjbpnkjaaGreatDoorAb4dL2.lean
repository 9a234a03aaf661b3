/-
  Cost and Check return the specified results for every plan that the form reads.
-/
import Derived.Test.YtfpmflgjbpnkjaaGreatDoorAb4dS13
import Derived.Test.YtfpmflgjbpnkjaaGreatDoorAb4dB
import Derived.Test.YtfpmflgjbpnkjaaGreatDoorRows
import Derived.Test.YtfpmflgjbpnkjaaGreatDoorAb4dK4
import Derived.Test.YtfpmflgjbpnkjaaGreatDoorTie
import Derived.Test.YtfpmflgjbpnkjaaGreatDoorCards
import Derived.SevenTiedAt
import Derived.JoinedOf
import Derived.Handed
set_option linter.unusedVariables false
namespace Go.Proofs.YtfpmflgjbpnkjaaGreatDoor
open Go.ChangeShapes Go.WideShapes Go.RowKit _root_.Go.Ab _root_.Go.Ab.Pn

theorem Tryz.own : ownKnob Tryz.prog.godebug = none := by kernel_rfl
theorem Tryz.laidOut : laidOutB Tryz.prog = true := by kernel_rfl
set_option maxRecDepth 100000 in
theorem checks_lifted (os : Os) (started : os.Started) (H : Type) (enc : TypeId × Value → H) :
    ReturnsInHanded {} Tryz.checked os 6 .any (fun w args => (Rows.planChecksSpec.pre enc Tryz.prog Tryz.f6 Rows.planChecksRow.domain false w args ∧ laidMet Tryz.prog Rows.planChecksRow.laid w) ∧ sizedMet enc Tryz.prog Tryz.f6 (OpenSpec.ofChange Rows.planChecksSpec) false w args)
      (Rows.planChecksSpec.post enc Tryz.prog Tryz.f6 Rows.planChecksRow.apart Rows.planChecksRow.fresh Rows.planChecksRow.handsOn Rows.planChecksRow.again) := by
  refine returnsInHanded_of_change_and (C := Tryz.checked) (X := fun w _ => laidMet Tryz.prog Rows.planChecksRow.laid w) (fun _ _ _ hh h => h.of_heap hh) Tryz.own started (by kernel_rfl) Tryz.func6
    (ChangeSpec.witness_at (enc := enc) (C := Tryz.checked) (os := os) (X := fun w _ => laidMet Tryz.prog Rows.planChecksRow.laid w) false (laidWorld os) #[.agg #[.slice none 0 0, .slice none 0 0, .slice none 0 0, .slice none 0 0, .slice none 0 0]] 8 rfl (laid_vars os _) (laid_rest os _) (by kernel_rfl) (by kernel_rfl) (by kernel_rfl) (laid_met os _)) ?_
  intro W base args ds gs before hval0 hW _ hz0 _ _
  have hval : ∀ (j : Nat) t v, Tryz.f6.params[j]? = some t → args[j]? = some v → Value.okWide Tryz.prog W .any base t v := hval0
  have hz : (DataW.weightsEach Tryz.prog (Tryz.f6.params.toList ++ []) (ds ++ gs)).all (· ≤ reachBytes) = true := hz0
  have hW' := hW
  obtain ⟨p, q, hA0, hV, rfl, _, _⟩ := hW
  have hA : DataW.TrodAll enc Tryz.prog W 0 (fun _ => true) true Tryz.f6.params.toList args.toList ds p := hA0
  rw [Tryz.params6] at hA hval hz
  obtain ⟨v0, d0, rfl, rfl, t0⟩ := trodAll_one hA
  obtain ⟨rfl, rfl⟩ := trodVars_none hV
  have z0 : ∀ n ∈ d0.weights Tryz.prog 36, n ≤ reachBytes := fun n hn => by
    have := List.all_eq_true.1 hz n (by simp [DataW.weightsEach, hn])
    simpa using this
  obtain ⟨x0, o0, r0⟩ := arg_Pl (hval 0 36 v0 rfl rfl) t0 z0
  refine law_calls sound4 Tryz.laidOut (by rw [Tryz.params6]; decide +kernel) (tb := 4) (by kernel_rfl) (by kernel_rfl) rfl hW' rfl (law6 x0 o0) ⟨rfl, fun j hj => ?_⟩
  have : j = 0 := by simp at hj; omega
  subst this
  exact r0
theorem checks_closed : joinedFacts Tryz.prog 6 Tryz.f6 Rows.planChecksSpec Rows.planChecksRow = true := by
  unfold joinedFacts
  rw [mayEnterF, liftsF, makeF]
  kernel_rfl
theorem checks_holds : Rows.PlanChecksSaid :=
  OpenClaim.holds_of_wide 6 Tryz.f6 rfl rfl rfl rfl rfl rfl rfl ⟨rfl, rfl, rfl, rfl, rfl⟩ rfl rfl rfl rfl rfl (by kernel_rfl) Tryz.func6 checks_closed
    (of_decide_eq_true (by kernel_rfl)) (by unfold Func.isWrapper; rw [if_neg (of_decide_eq_false (by kernel_rfl))]; exact ⟨rfl, rfl⟩)
    (fun os started H enc _ => checks_lifted os started H enc)
#print axioms checks_holds
/-- THE TIED CARD. -/
theorem checks_card : Rows.PlanChecksCardSaid :=
  Claim7.holds_tied_plain_at .later [] [.data, .data, .data] true (true, "2e48ec5bba7d3347c238abbc395756201c6a009abbd3b22e80ed09689c82c687") true
    checks_holds (fun _ h => by cases h) (by kernel_rfl) (fun _ h => by cases h) planChecks_row_tie rfl ⟨rfl, rfl⟩ (by kernel_rfl) rfl
    (fun f fn hf hfn => by
      obtain rfl : f = 6 := Option.some.inj ((show Tryz.prog.funcNamed "domino/dominolaw47.PlanChecks" = some 6 by kernel_rfl).symm.trans hf) |>.symm
      obtain rfl : fn = Tryz.f6 := (Option.some.inj (Tryz.func6.symm.trans hfn)).symm
      exact ⟨by kernel_rfl, fun j t ht => by
        rw [Tryz.params6] at ht
        have hm : t ∈ [36] := by simpa using Array.mem_of_getElem? ht
        have hall : ([36].all fun u => !Tryz.prog.wantsStandIn u) = true := by kernel_rfl
        exact (show Tryz.prog.wantsStandIn t = false by simpa using List.all_eq_true.1 hall t hm)⟩)
    (by kernel_rfl)
#print axioms checks_card
end Go.Proofs.YtfpmflgjbpnkjaaGreatDoor

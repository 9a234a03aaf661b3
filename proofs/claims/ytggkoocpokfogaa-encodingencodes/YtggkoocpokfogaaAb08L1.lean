/-
  Encode returns the encoding or error of the reference for every item.
-/
import Derived.Test.YtggkoocpokfogaaAb08Top
import Derived.Test.YtggkoocpokfogaaRows
import Derived.JoinedOf
import Derived.Handed
set_option linter.unusedVariables false
namespace Go.Proofs.Ytggkoocpokfogaa
open Go.ChangeShapes Go.WideShapes Go.RowKit Go.Ab Go.Ab.Enc

theorem Try.own : ownKnob Try.prog.godebug = none := by kernel_rfl
theorem Try.laidOut : laidOutB Try.prog = true := by kernel_rfl
theorem item_rel {W : World} {base : Nat} {v : Value} {i : It} (hv : Value.okWide Try.prog W .any base 25 v) (hi : IsItem W i v.cells.toList) : VRel W (G0 W) NoLoc i.av v := by
  obtain ⟨cs, rfl, _⟩ := okWide_struct Try.underlying25 hv
  obtain ⟨ok, hl, h⟩ := hi
  cases i with
  | mk k n t nl l =>
    simp only [Value.cells] at hl h
    have h2 : ∀ j, j < 4 → (cs.getD j undef).oneCell' = true ∧ VRel W (G0 W) NoLoc (((It.mk k n t nl l).av).cells.getD j .top) (cs.getD j undef) := fun j hj => by
      have := h j hj
      simpa [List.getD_eq_getElem?_getD, Array.getD_eq_getD_getElem?] using this
    simp only [It.av, AV.cells] at h2 ⊢
    exact .agg _ _ _ (by simpa using hl) (fun i hi => (h2 i (by simpa using hi)).1) (fun i hi => (h2 i (by simpa using hi)).2)
set_option maxRecDepth 100000 in
theorem encodes_lifted (os : Os) (started : os.Started) (H : Type) (enc : TypeId × Value → H) :
    ReturnsInHanded {} Try.checked os 3 .any (Rows.encodingEncodesSpec.pre6 enc Try.prog Try.f3 Rows.encodingEncodesRow.domain false) (Rows.encodingEncodesSpec.post enc Try.prog Try.f3 Rows.encodingEncodesRow.apart Rows.encodingEncodesRow.fresh Rows.encodingEncodesRow.handsOn Rows.encodingEncodesRow.again) := by
  refine returnsInHanded_of_change_sized (C := Try.checked) Try.own started (by kernel_rfl) Try.func3
    (ChangeSpec.witness6 (enc := enc) (C := Try.checked) false ⟨#[], #[.agg #[.int .i64 0, .string .empty, .string .empty, .slice none 0 0]], []⟩ 8 (by kernel_rfl) (by kernel_rfl) (by kernel_rfl) (by kernel_rfl)) ?_
  intro W base args ds gs before hval0 hW _ hz0 _
  have hval : ∀ (j : Nat) t v, Try.f3.params[j]? = some t → args[j]? = some v → Value.okWide Try.prog W .any base t v := hval0
  have hz : (DataW.weightsEach Try.prog (Try.f3.params.toList ++ []) (ds ++ gs)).all (· ≤ reachBytes) = true := hz0
  have hW' := hW
  obtain ⟨p, q, hA0, hV, rfl, _, _⟩ := hW
  have hA : DataW.TrodAll enc Try.prog W 0 (fun _ => true) true Try.f3.params.toList args.toList ds p := hA0
  rw [Try.params3] at hA hval hz
  obtain ⟨v0, d0, rfl, rfl, h0⟩ := trodAll_one hA
  obtain ⟨rfl, rfl⟩ := trodVars_none hV
  obtain ⟨fuel, hf⟩ := h0
  obtain ⟨i, hi⟩ := read_item fuel _ _ hf fun n hn => by
    have := List.all_eq_true.1 hz n (by simp [DataW.weightsEach, hn])
    simpa using this
  exact law_calls sound Try.laidOut (by rw [Try.params3]; decide +kernel) (tb := 4) (by kernel_rfl) (by kernel_rfl) rfl hW' rfl (law3 i hi.1) ⟨rfl, fun j hj => by
    have : j = 0 := by simp at hj; omega
    subst this
    exact item_rel (hval 0 25 v0 rfl rfl) hi⟩

theorem encodes_holds : Rows.EncodingEncodesSaid :=
  OpenClaim.holds_of_wide 3 Try.f3 rfl rfl rfl rfl rfl rfl rfl ⟨rfl, rfl, rfl, rfl, rfl⟩ rfl rfl rfl rfl rfl (by kernel_rfl) Try.func3 (by kernel_rfl)
    (of_decide_eq_true (by kernel_rfl)) (by unfold Func.isWrapper; rw [if_neg (of_decide_eq_false (by kernel_rfl))]; exact ⟨rfl, rfl⟩)
    (fun os started H enc _ => encodes_lifted os started H enc)
#print axioms encodes_holds
end Go.Proofs.Ytggkoocpokfogaa

/-
  The form's reading of an argument, as a value of the evaluator's.
-/
import Derived.Test.YtggkoocpokfogaaAb08Top
import Derived.Test.YtggkoocpokfogaaRows
import Derived.ChangeMaps5
set_option linter.unusedVariables false
namespace Go.Ab.Enc
open Go.Proofs Go.ChangeMaps Go.ChangeShapes Go.WideShapes Go.RowKit

section
variable {H : Type} {enc : TypeId × Value → H} {W : World} {base b : Nat} {sp : Nat → Bool} {hd : Bool} {v : Value} {d : DataW H} {ps : List MemPlace}
theorem arg_item (hv : Value.okWide Try.prog W .any base 25 v) (h : DataW.Trod enc Try.prog W b sp hd 25 v d ps) (hz : ∀ n ∈ d.weights Try.prog 25, n ≤ reachBytes) :
    ∃ i : It, okI i ∧ VRel W (G0 W) NoLoc i.av v := by
  obtain ⟨fuel, hf⟩ := h
  obtain ⟨i, ok, hl, h⟩ := read_item fuel _ _ hf hz
  refine ⟨i, ok, ?_⟩
  obtain ⟨cs, rfl, _⟩ := okWide_struct Try.underlying25 hv
  cases i with
  | mk k n t nl l =>
    simp only [Value.cells] at hl h
    have h2 : ∀ j, j < 4 → (cs.getD j undef).oneCell' = true ∧ VRel W (G0 W) NoLoc (((It.mk k n t nl l).av).cells.getD j .top) (cs.getD j undef) := fun j hj => by
      have := h j hj
      simpa [List.getD_eq_getElem?_getD, Array.getD_eq_getD_getElem?] using this
    simp only [It.av, AV.cells] at h2 ⊢
    exact .agg _ _ _ (by simpa using hl) (fun i hi => (h2 i (by simpa using hi)).1) (fun i hi => (h2 i (by simpa using hi)).2)
theorem arg_items (hv : Value.okWide Try.prog W .any base 23 v) (h : DataW.Trod enc Try.prog W b sp hd 23 v d ps) (hz : ∀ n ∈ d.weights Try.prog 23, n ≤ reachBytes) :
    ∃ (nl : Bool) (l : List It), l.length ≤ 140737488355328 ∧ okL l ∧ VRel W (G0 W) NoLoc (lv nl (It.avs l)) v := by
  obtain ⟨fuel, hf⟩ := h
  obtain ⟨o, l, c, rfl⟩ := okWide_slice Try.underlying23 hv
  obtain ⟨nl, l, l1, l2, l3, l4⟩ := read_list (fun m hm cs x h1 h2 => read_item m cs x h1 h2) hf hz
  exact ⟨nl, l, l1, l2, l4⟩
theorem arg_str (hv : Value.okWide Try.prog W .any base 9 v) (h : DataW.Trod enc Try.prog W b sp hd 9 v d ps) (hz : ∀ n ∈ d.weights Try.prog 9, n ≤ reachBytes) :
    ∃ s : List UInt8, s.length ≤ 140737488355328 ∧ VRel W (G0 W) NoLoc (.str s) v := by
  obtain ⟨s, rfl, rfl, rfl, _⟩ := open_string Try.underlying9 hv h
  refine ⟨s.data.toList, ?_, .str _ s.data.toList⟩
  have := hz s.data.toList.length (by simp [DataW.weights])
  have rb : reachBytes ≤ 140737488355328 := by decide
  omega
theorem arg_u8 (hv : Value.okWide Try.prog W .any base 5 v) (h : DataW.Trod enc Try.prog W b sp hd 5 v d ps) (hz : ∀ n ∈ d.weights Try.prog 5, n ≤ reachBytes) :
    ∃ n : Int, 0 ≤ n ∧ n ≤ 255 ∧ VRel W (G0 W) NoLoc (.int .u8 n) v := by
  obtain ⟨n, rfl, rfl, rfl, hw⟩ := open_int Try.underlying5 hv h
  have hw2 : IntKind.u8.min ≤ n ∧ n ≤ IntKind.u8.max := by simpa [Lit.wf] using hw
  have e1 : IntKind.u8.min = 0 := rfl
  have e2 : IntKind.u8.max = 255 := rfl
  exact ⟨n, by omega, by omega, .int _ _ _⟩
theorem arg_int (hv : Value.okWide Try.prog W .any base 50 v) (h : DataW.Trod enc Try.prog W b sp hd 50 v d ps) (hz : ∀ n ∈ d.weights Try.prog 50, n ≤ reachBytes) :
    ∃ (ng : Bool) (s : List UInt8), s.length ≤ 140737488355328 ∧ VRel W (G0 W) NoLoc (.agg [.bool ng, .str s]) v := by
  obtain ⟨fuel, hf⟩ := h
  obtain ⟨cs, rfl, _⟩ := okWide_struct Try.underlying50 hv
  obtain ⟨xs, n, rfl, hx, hl, hlen, hfs⟩ := DataW.trod_struct Try.underlying50 hf
  have k50 : Try.prog.cellsOf 50 = 2 := by kernel_rfl
  have k4 : Try.prog.cellsOf 4 = 1 := by kernel_rfl
  have k22 : Try.prog.cellsOf 22 = 1 := by kernel_rfl
  rw [k50] at hl
  have f0 : DataW.trod enc Try.prog W b sp hd n 4 (((Value.agg cs).cells.toList.drop 0).take (Try.prog.cellsOf 4)) = xs[0]? := hfs 0 _ rfl
  have f1 : DataW.trod enc Try.prog W b sp hd n 22 (((Value.agg cs).cells.toList.drop 1).take (Try.prog.cellsOf 22)) = xs[1]? := hfs 1 _ rfl
  obtain ⟨cs⟩ := cs
  simp only [Value.cells] at hl f0 f1
  match xs, hlen, cs, hl with
  | [y0, y1], _, [c0, c1], _ =>
    simp only [k4, k22, List.drop, List.take, List.getElem?_cons_zero, List.getElem?_cons_succ] at f0 f1
    obtain ⟨kk, e0, rfl⟩ := DataW.trod_bool Try.underlying4 f0
    obtain ⟨s1, e1, rfl, w1⟩ := DataW.trod_string Try.underlying22 f1
    simp only [List.cons.injEq, and_true] at e0 e1
    subst e0; subst e1
    injection hx with hx _
    subst hx
    have n1 := hz s1.data.toList.length (by simp [DataW.weights, DataW.weightsEach, Try.underlying50])
    have rb : reachBytes ≤ 140737488355328 := by decide
    refine ⟨kk, s1.data.toList, by omega, .agg _ _ _ rfl (fun i hi => ?_) fun i hi => ?_⟩
    · match i, hi with
      | 0, _ => rfl
      | 1, _ => rfl
    · match i, hi with
      | 0, _ => exact .bool _ _
      | 1, _ => exact .str _ s1.data.toList
end
end Go.Ab.Enc

/-
  The form's reading of a question, as a value of the evaluator's.
-/
import Derived.Test.YtcbhkkeoncmigaaAb54W11
import Derived.Test.YtcbhkkeoncmigaaAbTop
import Derived.Test.YtcbhkkeoncmigaaRows
import Derived.ChangeMaps5
set_option linter.unusedVariables false
namespace Go.Ab.Wire
open Go.Proofs Go.ChangeMaps Go.ChangeShapes Go.WideShapes Go.RowKit
set_option maxRecDepth 100000

section
variable {H : Type} {enc : TypeId × Value → H} {W : World} {base b : Nat} {sp : Nat → Bool} {hd : Bool} {v : Value} {d : DataW H} {ps : List MemPlace}
theorem arg_qu (hv : Value.okWide Try.prog W .any base 23 v) (h : DataW.Trod enc Try.prog W b sp hd 23 v d ps) (hz : ∀ n ∈ d.weights Try.prog 23, n ≤ reachBytes) :
    ∃ q : Qu, q.p.length ≤ 140737488355328 ∧ q.v.length ≤ 140737488355328 ∧ q.n.length ≤ 140737488355328 ∧ VRel W (G0 W) NoLoc q.av v := by
  obtain ⟨fuel, hf⟩ := h
  obtain ⟨cs, rfl, _⟩ := okWide_struct Try.underlying23 hv
  obtain ⟨xs, n, rfl, hx, hl, hlen, hfs⟩ := DataW.trod_struct Try.underlying23 hf
  have k23 : Try.prog.cellsOf 23 = 5 := by kernel_rfl
  have k9 : Try.prog.cellsOf 9 = 1 := by kernel_rfl
  have k3 : Try.prog.cellsOf 3 = 1 := by kernel_rfl
  rw [k23] at hl
  have f0 : DataW.trod enc Try.prog W b sp hd n 9 (((Value.agg cs).cells.toList.drop 0).take (Try.prog.cellsOf 9)) = xs[0]? := hfs 0 _ rfl
  have f1 : DataW.trod enc Try.prog W b sp hd n 9 (((Value.agg cs).cells.toList.drop 1).take (Try.prog.cellsOf 9)) = xs[1]? := hfs 1 _ rfl
  have f2 : DataW.trod enc Try.prog W b sp hd n 9 (((Value.agg cs).cells.toList.drop 2).take (Try.prog.cellsOf 9)) = xs[2]? := hfs 2 _ rfl
  have f3 : DataW.trod enc Try.prog W b sp hd n 3 (((Value.agg cs).cells.toList.drop 3).take (Try.prog.cellsOf 3)) = xs[3]? := hfs 3 _ rfl
  have f4 : DataW.trod enc Try.prog W b sp hd n 3 (((Value.agg cs).cells.toList.drop 4).take (Try.prog.cellsOf 3)) = xs[4]? := hfs 4 _ rfl
  obtain ⟨cs⟩ := cs
  simp only [Value.cells] at hl f0 f1 f2 f3 f4
  match xs, hlen, cs, hl with
  | [y0, y1, y2, y3, y4], _, [c0, c1, c2, c3, c4], _ =>
    simp only [k9, k3, List.drop, List.take, List.getElem?_cons_zero, List.getElem?_cons_succ] at f0 f1 f2 f3 f4
    obtain ⟨s0, e0, rfl, w0⟩ := DataW.trod_string Try.underlying9 f0
    obtain ⟨s1, e1, rfl, w1⟩ := DataW.trod_string Try.underlying9 f1
    obtain ⟨s2, e2, rfl, w2⟩ := DataW.trod_string Try.underlying9 f2
    obtain ⟨n3, e3, rfl, w3⟩ := DataW.trod_int Try.underlying3 f3
    obtain ⟨n4, e4, rfl, w4⟩ := DataW.trod_int Try.underlying3 f4
    simp only [List.cons.injEq, and_true] at e0 e1 e2 e3 e4
    subst e0; subst e1; subst e2; subst e3; subst e4
    injection hx with hx _
    subst hx
    have rb : reachBytes ≤ 140737488355328 := by decide
    have n0 := hz s0.data.toList.length (by simp [DataW.weights, DataW.weightsEach, Try.underlying23])
    have n1 := hz s1.data.toList.length (by simp [DataW.weights, DataW.weightsEach, Try.underlying23])
    have n2 := hz s2.data.toList.length (by simp [DataW.weights, DataW.weightsEach, Try.underlying23])
    refine ⟨⟨s0.data.toList, s1.data.toList, s2.data.toList, n3, n4⟩, Nat.le_trans n0 rb, Nat.le_trans n1 rb, Nat.le_trans n2 rb, .agg _ _ _ rfl (fun i hi => ?_) fun i hi => ?_⟩
    · match i, hi with
      | 0, _ => rfl
      | 1, _ => rfl
      | 2, _ => rfl
      | 3, _ => rfl
      | 4, _ => rfl
    · match i, hi with
      | 0, _ => exact .str _ s0.data.toList
      | 1, _ => exact .str _ s1.data.toList
      | 2, _ => exact .str _ s2.data.toList
      | 3, _ => exact .int _ _ _
      | 4, _ => exact .int _ _ _
end
end Go.Ab.Wire

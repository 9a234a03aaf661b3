/-
  From the form's reading of an item to an item of the evaluator's.
-/
import Derived.Test.YtggkoocpokfogaaAb08F8
import Derived.Test.YtggkoocpokfogaaAbTop
import Derived.RowKit
import Derived.ChangeShapes
import Derived.ChangeArms
import Derived.ChangeSame
import Derived.DataReads
import GoSem.ClaimJoined
set_option linter.unusedVariables false
set_option linter.unusedSimpArgs false
namespace Go.Ab.Enc
open Go.Proofs
set_option maxRecDepth 100000

theorem okL_of : ∀ l : List It, (∀ (i : Nat) (a : It), l[i]? = some a → okI a) → okL l
  | [], _ => trivial
  | a :: l, h => ⟨h 0 a rfl, okL_of l fun i b hb => h (i + 1) b (by simpa using hb)⟩
def IsItem (w : World) (i : It) (cs : List Value) : Prop :=
  okI i ∧ cs.length = 4 ∧ ∀ j, j < 4 → (cs.getD j undef).oneCell' = true ∧ VRel w (G0 w) NoLoc (i.av.cells.getD j .top) (cs.getD j undef)
theorem k25 : Try.prog.cellsOf 25 = 4 := by kernel_rfl
theorem k3 : Try.prog.cellsOf 3 = 1 := by kernel_rfl
theorem k22 : Try.prog.cellsOf 22 = 1 := by kernel_rfl
theorem k9 : Try.prog.cellsOf 9 = 1 := by kernel_rfl
theorem k23 : Try.prog.cellsOf 23 = 1 := by kernel_rfl
theorem b25 : Try.prog.bytesOf 25 = 64 := by kernel_rfl

theorem weightsAll_mem {H : Type} {es : List (DataW H × List MemPlace)} {i n : Nat} (hi : i < es.length) (hn : n ∈ DataW.weights Try.prog 25 es[i].1) : n ∈ DataW.weightsAll Try.prog 25 (es.map (·.1)) := by
  induction es generalizing i with
  | nil => simp at hi
  | cons e es ih =>
    simp only [List.map_cons, DataW.weightsAll, List.mem_append]
    cases i with
    | zero => exact .inl hn
    | succ i => exact .inr (ih (by simpa using hi) hn)
theorem read_list {H : Type} {enc : TypeId × Value → H} {w : World} {base : Nat} {spare : Nat → Bool} {held : Bool} {n : Nat} {c3 : Value} {y3 : DataW H × List MemPlace}
    (ih : ∀ m, m < n → ∀ (cs : List Value) (x : DataW H × List MemPlace), DataW.trod enc Try.prog w base spare held m 25 cs = some x → (∀ n ∈ x.1.weights Try.prog 25, n ≤ reachBytes) → ∃ i : It, IsItem w i cs)
    (f3 : DataW.trod enc Try.prog w base spare held n 23 [c3] = some y3) (n3 : ∀ n ∈ y3.1.weights Try.prog 23, n ≤ reachBytes) :
    ∃ (nl : Bool) (l : List It), l.length ≤ 140737488355328 ∧ okL l ∧ c3.oneCell' = true ∧ VRel w (G0 w) NoLoc (lv nl (It.avs l)) c3 := by
  have rb : reachBytes ≤ 140737488355328 := by decide
  rcases DataW.trod_slice Try.underlying23 f3 with ⟨e3, _⟩ | ⟨a, len, cap, elems, rest, m, rfl, e3, rfl, hb, hle, hcap, hel, hget, _⟩
  · simp only [List.cons.injEq, and_true] at e3
    subst e3
    exact ⟨true, [], by simp, trivial, rfl, .nils _⟩
  · simp only [List.cons.injEq, and_true] at e3
    subst e3
    have hW : ∀ n ∈ DataW.weights Try.prog 23 (.slice (elems.map (·.1)) (rest.map (·.1))), n ≤ reachBytes := n3
    have hS : DataW.weights Try.prog 23 (.slice (elems.map (·.1)) (rest.map (·.1))) = (elems.length + rest.length) * 64 :: (DataW.weightsAll Try.prog 25 (elems.map (·.1)) ++ DataW.weightsAll Try.prog 25 (rest.map (·.1))) := by
      simp [DataW.weights, Try.underlying23, b25]
    rw [hS] at hW
    have hlen : (elems.length + rest.length) * 64 ≤ reachBytes := hW _ (by simp)
    have hall : ∀ n ∈ DataW.weightsAll Try.prog 25 (elems.map (·.1)), n ≤ reachBytes := fun n hn => hW n (by simp [hn])
    have each : ∀ i, i < len → ∃ it : It, ∃ cs', w.cells? base (a.add (i * 4)) 4 = some cs' ∧ IsItem w it cs' := fun i hi => by
      have h1 := hget i hi
      rw [k25] at h1
      have hi' : i < elems.length := by omega
      rw [List.getElem?_eq_getElem hi'] at h1
      obtain ⟨cs', h2, h3⟩ := Option.bind_eq_some_iff.1 h1
      obtain ⟨it, hit⟩ := ih m (by omega) cs' _ h3 fun n hn => hall n (weightsAll_mem hi' hn)
      exact ⟨it, cs', h2, hit⟩
    obtain ⟨l, hl1, hl2⟩ := list_of len each
    refine ⟨false, l, by omega, okL_of l fun i it hi => (hl2 i it hi).choose_spec.2.1, rfl, ?_⟩
    cases len with
    | zero =>
      have : l = [] := List.eq_nil_of_length_eq_zero hl1
      subst this
      exact .lst0 _ _ _
    | succ len =>
      have hne : It.avs l ≠ [] := by rw [avs_map]; intro e0; have := congrArg List.length e0; simp at this; subst this; simp at hl1
      rw [lv_lst false hne]
      have hlen2 : (It.avs l).length = len + 1 := by simp [hl1]
      have cell : ∀ i, i < len + 1 → ∃ it cs', l[i]? = some it ∧ cs'.length = 4 ∧ (∀ j, j < 4 → w.cell? ((a.add (i * 4)).add j) = cs'[j]?) ∧ IsItem w it cs' := fun i hi => by
        obtain ⟨it, hit⟩ : ∃ it, l[i]? = some it := ⟨_, List.getElem?_eq_getElem (by omega)⟩
        obtain ⟨cs', h1, h2⟩ := hl2 i it hit
        obtain ⟨_, h3, h4⟩ := World.cells?_some h1
        exact ⟨it, cs', hit, h3, h4, h2⟩
      have spot : a.spot = none := by
        obtain ⟨it, cs', _, h3, h4, _⟩ := cell 0 (by omega)
        have := h4 0 (by omega)
        rw [List.getElem?_eq_getElem (by omega)] at this
        have := (cell_block this).1
        simpa [Addr.add] using this
      obtain ⟨b, off, sp⟩ := a
      simp only at spot
      subst spot
      have addr : ∀ i j, ((⟨b, off, none⟩ : Addr).add (i * 4)).add j = ⟨b, off + i * 4 + j, none⟩ := fun i j => by
        unfold Addr.add
        split <;> split <;> simp_all
      have got : ∀ i j, i < len + 1 → j < 4 → ∃ v it, w.cell? ⟨b, off + i * 4 + j, none⟩ = some v ∧ l[i]? = some it ∧ v.oneCell' = true ∧ VRel w (G0 w) NoLoc (it.av.cells.getD j .top) v := fun i j hi hj => by
        obtain ⟨it, cs', hit, h3, h4, h5⟩ := cell i hi
        have h6 := h4 j hj
        rw [addr] at h6
        have h9 : cs'[j]? = some (cs'.getD j undef) := by
          have : j < cs'.length := by omega
          simp [List.getD_eq_getElem?_getD, this]
        rw [h9] at h6
        exact ⟨_, it, h6, hit, (h5.2.2 j hj).1, (h5.2.2 j hj).2⟩
      have at_ : ∀ i it, l[i]? = some it → (It.avs l).getD i .top = it.av := fun i it hi => by
        rw [avs_map, List.getD_eq_getElem?_getD, List.getElem?_map, hi]; rfl
      rw [← hlen2]
      refine VRel.lst _ (It.avs l) b off cap 4 (fun i j => (w.cell? ⟨b, off + i * 4 + j, none⟩).getD undef) (by omega) (fun i hi => ?_) (fun i j hi hj => ?_) (fun i j hi hj => ?_)
      · obtain ⟨v, it, _, h2, _⟩ := got i 0 (by omega) (by omega)
        rw [at_ i it h2]; exact av_cells it
      · obtain ⟨v, it, h1, h2, h3, h4⟩ := got i j (by omega) hj
        rw [h1]
        exact ⟨rfl, (cell_block h1).2, h3⟩
      · obtain ⟨v, it, h1, h2, h3, h4⟩ := got i j (by omega) hj
        rw [at_ i it h2]
        simp only [h1]
        exact h4
theorem read_item {H : Type} {enc : TypeId × Value → H} {w : World} {base : Nat} {spare : Nat → Bool} {held : Bool} : ∀ (fuel : Nat) (cs : List Value) (x : DataW H × List MemPlace),
    DataW.trod enc Try.prog w base spare held fuel 25 cs = some x → (∀ n ∈ x.1.weights Try.prog 25, n ≤ reachBytes) → ∃ i : It, IsItem w i cs := by
  intro fuel
  induction fuel using Nat.strongRecOn with
  | ind fuel ih =>
    intro cs x h hw
    obtain ⟨xs, n, rfl, rfl, hl, hlen, hf⟩ := DataW.trod_struct Try.underlying25 h
    rw [k25] at hl
    have f0 : DataW.trod enc Try.prog w base spare held n 3 ((cs.drop 0).take (Try.prog.cellsOf 3)) = xs[0]? := hf 0 _ rfl
    have f1 : DataW.trod enc Try.prog w base spare held n 22 ((cs.drop 1).take (Try.prog.cellsOf 22)) = xs[1]? := hf 1 _ rfl
    have f2 : DataW.trod enc Try.prog w base spare held n 9 ((cs.drop 2).take (Try.prog.cellsOf 9)) = xs[2]? := hf 2 _ rfl
    have f3 : DataW.trod enc Try.prog w base spare held n 23 ((cs.drop 3).take (Try.prog.cellsOf 23)) = xs[3]? := hf 3 _ rfl
    match xs, hlen, cs, hl with
    | [y0, y1, y2, y3], _, [c0, c1, c2, c3], _ =>
      simp only [k3, k22, k9, k23, List.drop, List.take, List.getElem?_cons_zero, List.getElem?_cons_succ] at f0 f1 f2 f3
      obtain ⟨kk, e0, rfl, w0⟩ := DataW.trod_int Try.underlying3 f0
      obtain ⟨s1, e1, rfl, w1⟩ := DataW.trod_string Try.underlying22 f1
      obtain ⟨s2, e2, rfl, w2⟩ := DataW.trod_string Try.underlying9 f2
      simp only [List.cons.injEq, and_true] at e0 e1 e2
      subst e0; subst e1; subst e2
      have hw0 : ∀ n ∈ DataW.weights Try.prog 25 (.agg [.lit (.int .i64 kk), .lit (.string s1.data.toList), .lit (.string s2.data.toList), y3.1]), n ≤ reachBytes := hw
      have hE : DataW.weights Try.prog 25 (.agg [.lit (.int .i64 kk), .lit (.string s1.data.toList), .lit (.string s2.data.toList), y3.1]) = [s1.data.toList.length] ++ ([s2.data.toList.length] ++ y3.1.weights Try.prog 23) := by
        simp [DataW.weights, DataW.weightsEach, Try.underlying25]
      rw [hE] at hw0
      have n1 : s1.data.toList.length ≤ reachBytes := hw0 _ (by simp)
      have n2 : s2.data.toList.length ≤ reachBytes := hw0 _ (by simp)
      have n3 : ∀ n ∈ y3.1.weights Try.prog 23, n ≤ reachBytes := fun n hn => hw0 n (by simp [hn])
      have rb : reachBytes ≤ 140737488355328 := by decide
      obtain ⟨nl, l, l1, l2, l3, l4⟩ := read_list (fun m hm => ih m (by omega)) f3 n3
      refine ⟨.mk kk s1.data.toList s2.data.toList nl l, ⟨by omega, by omega, l1, l2⟩, rfl, fun j hj => ?_⟩
      simp only [It.av, AV.cells]
      rcases j with _ | _ | _ | _ | j
      · exact ⟨rfl, .int _ _ _⟩
      · exact ⟨rfl, .str _ s1.data.toList⟩
      · exact ⟨rfl, .str _ s2.data.toList⟩
      · exact ⟨l3, l4⟩
      · omega
end Go.Ab.Enc

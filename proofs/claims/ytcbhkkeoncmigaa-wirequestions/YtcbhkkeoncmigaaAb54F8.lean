/-
  The chapter's examples, by the kernel; the first law on the evaluator.
-/
import Derived.Test.YtcbhkkeoncmigaaAb54F7
set_option linter.unusedVariables false
set_option linter.unusedSimpArgs false
namespace Go.Ab.Wire
attribute [local simp] evC evOps evD
set_option maxRecDepth 100000
set_option maxHeartbeats 1000000

mutual
theorem ok_wt : ∀ (i : It), wt i ≤ 1000000 → okI i
  | .mk k n t nl l, h => by
    simp only [wt] at h
    obtain ⟨h1, h2⟩ := okL_wt l (by omega)
    simp only [okI]
    exact ⟨by omega, by omega, by omega, h1⟩
theorem okL_wt : ∀ (l : List It), wts l ≤ 1000000 → okL l ∧ l.length ≤ wts l
  | [], h => ⟨trivial, by simp [wts]⟩
  | .mk k n t nl l' :: r, h => by
    simp only [wts, wt] at h
    obtain ⟨h1, h2⟩ := okL_wt r (by omega)
    refine ⟨⟨ok_wt _ (by simp only [wt]; omega), h1⟩, by simp only [wts, wt, List.length_cons]; omega⟩
end
mutual
theorem dep_wt : ∀ (i : It), dep i ≤ wt i
  | .mk k n t nl l => by
    have := deps_wt l
    simp only [dep, wt]
    split <;> omega
theorem deps_wt : ∀ (l : List It), deps l ≤ wts l
  | [] => by simp [deps, wts]
  | i :: r => by
    have h1 := dep_wt i
    have h2 := deps_wt r
    simp only [deps, wts]; omega
end
mutual
theorem wr_wt : ∀ (i : It), wt i ≤ 1000000 → (wr i).length ≤ 10 * wt i
  | .mk k n t nl l, h => by
    simp only [wt] at h ⊢
    have h1 := wrs_wt l (by omega)
    have h2 := len128_len 6 (n ++ t ++ wrs l).length (by simp; omega) (by omega)
    simp only [wr, List.length_cons, List.length_append] at h2 ⊢
    omega
theorem wrs_wt : ∀ (l : List It), wts l ≤ 1000000 → (wrs l).length ≤ 10 * wts l
  | [], h => by simp [wrs, wts]
  | i :: r, h => by
    simp only [wts] at h ⊢
    have h1 := wr_wt i (by omega)
    have h2 := wrs_wt r (by omega)
    simp only [wrs, List.length_append]; omega
end
end Go.Ab.Wire

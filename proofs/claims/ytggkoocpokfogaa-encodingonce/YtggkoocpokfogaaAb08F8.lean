/-
  The chapter's examples, by the kernel; the first law on the evaluator.
-/
import Derived.Test.YtggkoocpokfogaaAb08F7
set_option linter.unusedVariables false
set_option linter.unusedSimpArgs false
namespace Go.Ab.Enc
attribute [local simp] evC evOps evD
set_option maxRecDepth 100000
set_option maxHeartbeats 1000000

theorem awake_run (f : List Blk) : (evF K 60).fn 12 [] [f] = some (.val (.bool true) [f]) := by kernel_rfl
theorem awake (f : List Blk) : (mu K).fn 12 [] [f] = some (.val (.bool true) [f]) := (evF_le K 60).fn _ _ _ _ (awake_run f)

mutual
theorem ok_wt : ∀ (i : It), wt i ≤ 1000000 → okI i
  | .mk k n t nl l, h => by
    simp only [wt] at h
    obtain ⟨h1, h2⟩ := okL_wt l (by omega)
    simp only [okI]
    exact ⟨by omega, by omega, by omega, h1⟩
theorem okL_wt : ∀ (l : List It), wts l ≤ 1000000 → okL l ∧ l.length ≤ wts l
  | [], h => ⟨trivial, by simp [wts]⟩
  | .mk k n t nl l' :: r, h => by
    simp only [wts, wt] at h
    obtain ⟨h1, h2⟩ := okL_wt r (by omega)
    refine ⟨⟨ok_wt _ (by simp only [wt]; omega), h1⟩, by simp only [wts, wt, List.length_cons]; omega⟩
end
mutual
theorem dep_wt : ∀ (i : It), dep i ≤ wt i
  | .mk k n t nl l => by
    have := deps_wt l
    simp only [dep, wt]
    split <;> omega
theorem deps_wt : ∀ (l : List It), deps l ≤ wts l
  | [] => by simp [deps, wts]
  | i :: r => by
    have h1 := dep_wt i
    have h2 := deps_wt r
    simp only [deps, wts]; omega
end
mutual
theorem wr_wt : ∀ (i : It), wt i ≤ 1000000 → (wr i).length ≤ 10 * wt i
  | .mk k n t nl l, h => by
    simp only [wt] at h ⊢
    have h1 := wrs_wt l (by omega)
    have h2 := len128_len 6 (n ++ t ++ wrs l).length (by simp; omega) (by omega)
    simp only [wr, List.length_cons, List.length_append] at h2 ⊢
    omega
theorem wrs_wt : ∀ (l : List It), wts l ≤ 1000000 → (wrs l).length ≤ 10 * wts l
  | [], h => by simp [wrs, wts]
  | i :: r, h => by
    simp only [wts] at h ⊢
    have h1 := wr_wt i (by omega)
    have h2 := wrs_wt r (by omega)
    simp only [wrs, List.length_append]; omega
end
theorem law3 (i : It) (ok : okI i) : (mu K).fn 3 [i.av] [] = some (.val (.bool true) []) := by
  have h11 := fun h => f11 i h ok
  rw [fn_code (KX _ _ _) fn3 rfl (by simp [c3])]
  by_cases hf : wg i 0 < 400
  · have hw : wt i ≤ 1000 := by have := wg_eq i 0 hf; omega
    have h13 := fun h => f13 i h ok (by have := dep_wt i; omega) (by have := wr_wt i (by omega); omega)
    have h14 := fun h => f14 i h ok (by have := dep_wt i; omega) (by have := wr_wt i (by omega); omega)
    simp [c3, KL, h11, hf, h13, h14, awake]
  · simp [c3, KL, h11, hf, awake]
end Go.Ab.Enc

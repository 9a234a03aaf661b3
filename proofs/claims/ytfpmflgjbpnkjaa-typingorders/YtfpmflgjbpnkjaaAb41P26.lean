/-
  The statements of chapter 44 on the evaluator: other orders of the schemas.
-/
import Derived.Test.YtfpmflgjbpnkjaaAb41P25
set_option linter.unusedVariables false
set_option linter.unusedSimpArgs false
set_option linter.unusedSectionVars false
namespace Go.Ab.Pl
open Go.Ab.Pol
set_option maxRecDepth 100000
set_option maxHeartbeats 1000000
def oneMore : Sc := ⟨[111, 110, 101, 95, 109, 111, 114, 101], ⟨false, [⟨[97, 103, 101], 1, 0, 0, ⟨false, [[113]]⟩⟩]⟩⟩
theorem one_ok : schE oneMore = 0 := by decide
theorem one_okSc : okSc oneMore := by
  refine ⟨by decide, by decide, fun f hf => ?_⟩
  simp only [oneMore, List.mem_singleton] at hf
  subst hf
  exact ⟨by decide, by decide, fun w hw => by
    simp only [List.mem_singleton] at hw
    subst hw
    decide⟩
theorem f45 (x : Sc) (h : Heap) : (mu K).fn 45 [x.av] h = some (.val (.bool (decide (x.name = oneMore.name))) h) := by
  rw [fn_go (KX _ _ _) fn45 rfl (by simp [c45])]
  have e : oneMore.name = [111, 110, 101, 95, 109, 111, 114, 101] := rfl
  rw [e]
  by_cases q : x.name = [111, 110, 101, 95, 109, 111, 114, 101]
  · have d : (x.name = [111, 110, 101, 95, 109, 111, 114, 101]) = True := by simp [q]
    simp [c45, KL, lendF, d]
  · simp [c45, KL, lendF, q]
/-- The schemas in another order. -/
def rot (l : List Sc) (n : Nat) : List Sc := l.drop n ++ l.take n
theorem rot_perm (l : List Sc) (n : Nat) : (rot l n).Perm l := by
  unfold rot
  have := List.perm_append_comm (l₁ := l.drop n) (l₂ := l.take n)
  rwa [List.take_append_drop] at this
theorem fits_of {p : Po} {l : List Sc} {t : Tr} (h : (decide ((typT p l t).1 = 0) && decide ((typT p l t).2 = 0)) = true) : FitP p l t := by
  simp only [Bool.and_eq_true, decide_eq_true_eq] at h
  exact (fit_of h.2).1
theorem of_fits {p : Po} {l : List Sc} {t : Tr} (h : FitP p l t) : (decide ((typT p l t).1 = 0) && decide ((typT p l t).2 = 0)) = true := by
  rw [of_fit h]
  simp
theorem fit_rot {p : Po} {l : List Sc} {t : Tr} (h : FitP p l t) (n : Nat) : FitP p (rot l n) t := by
  have r := ready_of h.ready
  have hp := rot_perm l n
  exact fit_more h (fun s hs => r.sch s (hp.mem_iff.1 hs)) ((hp.map _).nodup_iff.2 r.nd) fun s hs => hp.mem_iff.2 hs
theorem fit_rot1 {p : Po} {l : List Sc} {t : Tr} (h : FitP p l t) (n : Nat) (hno : l.any (fun s => decide (s.name = oneMore.name)) = false) : FitP p (rot l n ++ [oneMore]) t := by
  have r := ready_of h.ready
  have hp := rot_perm l n
  refine fit_more h (fun s hs => ?_) ?_ fun s hs => List.mem_append_left _ (hp.mem_iff.2 hs)
  · rcases List.mem_append.1 hs with hs | hs
    · exact r.sch s (hp.mem_iff.1 hs)
    · rw [List.mem_singleton.1 hs]; exact one_ok
  · rw [List.map_append, List.nodup_append]
    refine ⟨(hp.map _).nodup_iff.2 r.nd, by simp, fun a ha b hb e => ?_⟩
    simp only [List.map_cons, List.map_nil, List.mem_singleton] at hb
    subst hb
    obtain ⟨s, hs, rfl⟩ := List.mem_map.1 ha
    have := List.any_eq_false.1 hno s (hp.mem_iff.1 hs)
    simp [e] at this
theorem wf_u8 {n : Int} (h : okI .u8 n) : 0 ≤ n ∧ n ≤ 255 := by
  have e1 : IntKind.u8.min = 0 := by decide
  have e2 : IntKind.u8.max = 255 := by decide
  have h : (Lit.int .u8 n).wf = true := h
  simp only [Lit.wf, Bool.and_eq_true, decide_eq_true_eq, e1, e2] at h
  exact h
end Go.Ab.Pl

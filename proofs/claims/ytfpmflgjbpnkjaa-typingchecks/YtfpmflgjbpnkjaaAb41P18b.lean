/-
  The field of a policy: the program.
-/
import Derived.Test.YtfpmflgjbpnkjaaAb41P18
set_option linter.unusedVariables false
set_option linter.unusedSimpArgs false
set_option linter.unusedSectionVars false
namespace Go.Ab.Pl
open Go.Ab.Pol
set_option maxRecDepth 100000
set_option maxHeartbeats 1000000
theorem f98e (h : Heap) : (mu K).fn 98 [.lst []] h = some (.val (.lst []) h) := by
  have hX : K.X 98 [.lst []] h = some (.val (.lst []) h) := rfl
  rw [step_mu_fn]
  simp [step, stepFn, hX]
theorem f98n (h : Heap) : (mu K).fn 98 [.nils] h = some (.val .nils h) := by
  rw [fn_go (KXc _ _ _ (by decide) (by simp)) fn98 rfl (by simp [c98])]
  simp [c98, KL, lendF]
theorem f98 (s : Sl Bs) (hs : s.l.length ≤ 1000) (h : Heap) : (mu K).fn 98 [s.avS .str] h = some (.val (s.avS .str) h) := by
  obtain ⟨nl, l⟩ := s
  cases l with
  | nil =>
    cases nl
    · exact f98e h
    · exact f98n h
  | cons x l =>
    have e : Sl.avS AV.str ⟨nl, x :: l⟩ = .lst (.str x :: l.map .str) := rfl
    simp only [List.length_cons] at hs
    have r1 : (l.length + 1) * 16 ≤ room := by unfold room; omega
    have r2 : l.length + 1 ≤ room := by unfold room; omega
    rw [e]
    rw [fn_go (KXc _ _ _ (by decide) (by simp)) fn98 rfl (by simp [c98])]
    simp [c98, KL, lendF, r1, r2]
def fieldR (p : Po) (l : List Sc) (r : Rf) : Option (Nat × Nat × Pol.Fd) × Int := if readyE p l ≠ 0 then (none, readyE p l) else match findF p.uses.l l r with
  | none => (none, 9)
  | some q => (some q, 0)
theorem f40 (p : Po) (hp : Sz p) (l : Sl Sc) (hl : okL l) (r : Rf) (h : Heap) :
    (mu K).fn 40 [p.av, l.avS Sc.av, r.av] h = some (.val (.tup [plAV (fieldR p l.l r).1, fdAV (fieldR p l.l r).1, .int .i64 (fieldR p l.l r).2]) h) := by
  have k92 := fun h => f92 p hp l hl h
  have k93 := fun h => f93 p hp.uses.1 l hl r h
  rw [fn_go (KX _ _ _) fn40 rfl (by simp [c40])]
  unfold fieldR
  by_cases hr : readyE p l.l = 0
  case neg =>
    rw [if_pos hr]
    simp [c40, KL, lendF, k92, hr, plAV, fdAV]
  rw [if_neg (by simp [hr])]
  cases e : findF p.uses.l l.l r with
  | none =>
    rw [e] at k93
    simp only [plAV, fdAV] at k93
    simp [c40, KL, lendF, k92, hr, k93, plAV, fdAV]
  | some q =>
    obtain ⟨u, k', f⟩ := q
    rw [e] at k93
    simp only [plAV, fdAV] at k93
    obtain ⟨s, h1, h2⟩ := find_mem e
    have k98 := fun h => f98 f.words ((hl.sc s h1).fields f h2).len h
    have q2 := beq_avS _ beq_strS f.words
    simp [c40, KL, lendF, k92, hr, k93, k98, plAV, fdAV, q2]
end Go.Ab.Pl

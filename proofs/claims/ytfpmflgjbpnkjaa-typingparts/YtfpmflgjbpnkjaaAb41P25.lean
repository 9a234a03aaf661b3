/-
  The statements of chapter 44 on the evaluator: Check, Field.
-/
import Derived.Test.YtfpmflgjbpnkjaaAb41P24
import Derived.Test.YtfpmflgjbpnkjaaAb41T0
import Derived.Test.YtfpmflgjbpnkjaaAb41A
set_option linter.unusedVariables false
set_option linter.unusedSimpArgs false
set_option linter.unusedSectionVars false
namespace Go.Ab.Pl
open Go.Ab.Pol
set_option maxRecDepth 100000
set_option maxHeartbeats 1000000
theorem few_sz {p : Po} {l : Sl Sc} (hp : aPo p) (hl : okSl aSc l) (h : few44 p l.l = true) : Sz p ∧ okL l := by
  unfold few44 at h
  simp only [Bool.and_eq_true, decide_eq_true_eq] at h
  obtain ⟨⟨⟨⟨⟨c1, c2⟩, c3⟩, c4⟩, c5⟩, c6⟩ := h
  refine ⟨⟨hp.name, hp.scope, hp.escrow, ⟨by omega, fun u hu => ⟨(hp.uses.2 u hu).al, (hp.uses.2 u hu).sc⟩⟩, ⟨by omega, fun u hu => ⟨(hp.reveal.2 u hu).al, (hp.reveal.2 u hu).attr⟩⟩, by omega, fun n hn => ⟨⟨(hp.nodes.2 n hn).nm, (hp.nodes.2 n hn).attr⟩, ?_⟩⟩, ⟨by omega, fun s hs => ?_⟩⟩
  · have := List.all_eq_true.1 c5 n hn
    unfold fewN at this
    simp only [Bool.and_eq_true, decide_eq_true_eq] at this
    omega
  · have a := hl.2 s hs
    have b : bigS s = false := by
      have : l.l.any bigS = false := by simpa using c6
      have := List.any_eq_false.1 this s hs
      simpa using this
    unfold bigS at b
    simp only [Bool.or_eq_false_iff, decide_eq_false_iff_not] at b
    obtain ⟨⟨b1, b2⟩, b3⟩ := b
    refine ⟨a.name, by omega, fun f hf => ?_⟩
    have c := a.fields.2 f hf
    have d := List.any_eq_false.1 b3 f hf
    unfold bigF at d
    simp only [Bool.or_eq_true, decide_eq_true_eq, not_or] at d
    exact ⟨c.name, by omega, c.words.2⟩
theorem tree_of (p : Po) : ∃ t, chk p = 0 → Pol.Good p t := by
  by_cases h : chk p = 0
  · obtain ⟨t, g⟩ := chk_good h
    exact ⟨t, fun _ => g⟩
  · exact ⟨.nd 0 zNd [], fun q => absurd q h⟩
theorem law10 (p : Po) (hp : aPo p) (l : Sl Sc) (hl : okSl aSc l) : (mu K).fn 10 [p.av, l.avS Sc.av] [] = some (.val (.bool true) []) := by
  have k36 := fun h => f36 p l h
  rw [fn_go (KX _ _ _) fn10 rfl (by simp [c10])]
  cases hf : few44 p l.l
  · rw [hf] at k36
    simp [c10, KL, lendF, k36, awake44]
  · rw [hf] at k36
    obtain ⟨s1, s2⟩ := few_sz hp hl hf
    obtain ⟨t, ht⟩ := tree_of p
    have k1 := fun h => f38 p s1 l s2 t ht h
    have k2 := fun h => f39 p s1 l s2 t ht h
    simp [c10, KL, lendF, k36, k1, k2, awake44]
theorem law11 (p : Po) (hp : aPo p) (l : Sl Sc) (hl : okSl aSc l) (r : Rf) (hr : aRf r) : (mu K).fn 11 [p.av, l.avS Sc.av, r.av] [] = some (.val (.bool true) []) := by
  have k36 := fun h => f36 p l h
  rw [fn_go (KX _ _ _) fn11 rfl (by simp [c11])]
  cases hf : few44 p l.l
  · rw [hf] at k36
    simp [c11, KL, lendF, k36, awake44]
  rw [hf] at k36
  obtain ⟨s1, s2⟩ := few_sz hp hl hf
  by_cases c1 : r.al.length ≤ 80
  case neg =>
    have d1 : ((80 : Int) < (r.al.length : Int)) = True := by simp; omega
    simp [c11, KL, lendF, k36, awake44, d1]
  have d1 : ((80 : Int) < (r.al.length : Int)) = False := by simp; omega
  by_cases c2 : r.attr.length ≤ 80
  case neg =>
    have d2 : ((80 : Int) < (r.attr.length : Int)) = True := by simp; omega
    simp [c11, KL, lendF, k36, awake44, d1, d2]
  have d2 : ((80 : Int) < (r.attr.length : Int)) = False := by simp; omega
  have k1 := fun h => f40 p s1 l s2 r h
  have k2 := fun h => f41 p s1 l s2 r h
  generalize hq : fieldR p l.l r = q at *
  obtain ⟨q, e⟩ := q
  simp only at k1 k2
  cases q with
  | none =>
    simp only [plAV, fdAV] at k1 k2
    have k3 := fun h => f42 ⟨[], 0, 0, 0, ⟨true, []⟩⟩ ⟨[], 0, 0, 0, ⟨true, []⟩⟩ (by simp) h
    have z0 : Fd.av ⟨[], 0, 0, 0, ⟨true, []⟩⟩ = .agg [.str [], iV 0, iV 0, iV 0, .nils] := rfl
    rw [z0] at k3
    simp [c11, KL, lendF, k36, awake44, d1, d2, k1, k2, k3, eqFs, eqF]
  | some q =>
    obtain ⟨u, k, f⟩ := q
    simp only [plAV, fdAV] at k1 k2
    have hfl : f.words.l.length ≤ 1000 := by
      unfold fieldR at hq
      split at hq
      · simp at hq
      · split at hq
        · simp at hq
        · rename_i q' e'
          simp only [Prod.mk.injEq, Option.some.injEq] at hq
          rw [hq.1] at e'
          obtain ⟨s, h1, h2⟩ := find_mem e'
          exact ((s2.sc s h1).fields f h2).len
    have k3 := fun h => f42 f f hfl h
    have q5 := beq_avS _ beq_strS f.words
    simp [c11, KL, lendF, k36, awake44, d1, d2, k1, k2, k3, q5, eqFs, eqF]
end Go.Ab.Pl

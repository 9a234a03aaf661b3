/-
  The statements of chapter 41 on the evaluator: tidying.
-/
import Derived.Test.YtfpmflgjbpnkjaaAb41P40
import Derived.Test.YtfpmflgjbpnkjaaAb41P42
import Derived.Test.YtfpmflgjbpnkjaaAbMoves
set_option linter.unusedVariables false
set_option linter.unusedSimpArgs false
namespace Go.Ab.Pl
open Go.Ab.Pol
set_option maxRecDepth 100000
set_option maxHeartbeats 4000000
theorem sz_z : Sz zPo := by
  refine ⟨?_, ?_, ?_, ⟨?_, ?_⟩, ⟨?_, ?_⟩, ?_, ?_⟩
  all_goals simp [zPo, okS, okU, okR, okN]
theorem pre_le {p : Po} (z : Sz p) {t : Tr} (hr : rea p.nodes.l (p.nodes.l.length + 1) p.root [] = (true, ints t.pre)) : t.pre.length ≤ 1000 := by
  have := in_rea p.nodes.l (p.nodes.l.length + 1) p.root [] ⟨by simp, by simp⟩
  rw [hr] at this
  have h1 := this.1.len
  have h2 := z.nodes.1
  simp at h1
  omega
/-- What Tidy answers, in the program and in the reference. -/
theorem tidy_cases (p : Po) (z : Sz p) : ((∀ h, (mu K2).fn 31 [p.av] h = some (.val (.tup [zPo.av, iV 3]) h)) ∧ (∀ h, (mu K2).fn 32 [p.av] h = some (.val (.tup [zPo.av, iV 3]) h)) ∧ chk p ≠ 0) ∨
    ∃ t : Tr, Pol.IsT p.nodes.l t ∧ (t.i : Int) = p.root ∧ t.pre.Nodup ∧ t.pre.length ≤ 1000 ∧ (∀ h, (mu K2).fn 31 [p.av] h = some (.val (.tup [(tidyR p t.pre).1.av, iV (tidyR p t.pre).2]) h)) ∧
      (∀ h, (mu K2).fn 32 [p.av] h = some (.val (.tup [(tidyR p t.pre).1.av, iV (tidyR p t.pre).2]) h)) := by
  cases hb : (rea p.nodes.l (p.nodes.l.length + 1) p.root []).1 with
  | false =>
    refine .inl ⟨fun h => up (f31_0 p z hb h), fun h => up (f32_0 p z hb h), fun hc => ?_⟩
    obtain ⟨t, g⟩ := chk_good hc
    rw [rea_good g] at hb
    cases hb
  | true =>
    obtain ⟨s', hs⟩ : ∃ s', rea p.nodes.l (p.nodes.l.length + 1) p.root [] = (true, s') := ⟨_, Prod.ext hb rfl⟩
    obtain ⟨t, a1, a2, a3, a4, a5⟩ := rea_tree _ _ _ _ (by simp) hs
    simp only [List.nil_append] at a4
    subst a4
    exact .inr ⟨t, a1, a2, ints_nodup.1 a5, pre_le z hs, fun h => up (f31t p z t hs a1 (ints_nodup.1 a5) h), fun h => up (f32t p z t hs a1 (ints_nodup.1 a5) h)⟩
theorem sz_tidyR {p : Po} (z : Sz p) {t : Tr} (ht : Pol.IsT p.nodes.l t) (hl : t.pre.length ≤ 1000) : Sz (tidyR p t.pre).1 := by
  unfold tidyR
  split
  · exact sz_tidy z ht hl
  · exact sz_z
theorem law5 (p : Po) (hp : aPo p) : (mu K2).fn 5 [p.av] [] = some (.val (.bool true) []) := by
  have k22 := fun h => up (f22 p h)
  have aw := awake41
  rw [fn_go (KX2 _ _ _) (fn2 fn5) rfl (by simp [c5])]
  by_cases hf : few41 p = true
  case neg =>
    have hf : few41 p = false := by simpa using hf
    rw [hf] at k22
    simp [c5, KL2, lendF, k22, aw]
  have z := few_sz41 hp hf
  rw [hf] at k22
  have bq := beq_po p
  have main : ∀ (r : Po) (e : Int), Sz r → (∀ h, (mu K2).fn 31 [p.av] h = some (.val (.tup [r.av, iV e]) h)) → (∀ h, (mu K2).fn 32 [p.av] h = some (.val (.tup [r.av, iV e]) h)) →
      goF c5.res (evC K2 (mu K2) (match c5.body with | .code c => c | _ => .skip) { env := envOf 0 [p.av], h := [] :: [] }) = some (.val (.bool true) []) := fun r e zr k31 k32 => by
    have k33 := fun h => up (f33 r zr h)
    have br := beq_po r
    simp [c5, KL2, lendF, k22, k31, k32, k33, aw, bq, br]
  rcases tidy_cases p z with ⟨k31, k32, _⟩ | ⟨t, ht, _, _, hl, k31, k32⟩
  · exact main zPo 3 sz_z k31 k32
  · exact main _ _ (sz_tidyR z ht hl) k31 k32
theorem sameH_td (p : Po) (L : List Nat) : sameH p (tdP p L) = true := by simp [sameH, tdP]
theorem law8 (p : Po) (hp : aPo p) : (mu K2).fn 8 [p.av] [] = some (.val (.bool true) []) := by
  have k22 := fun h => up (f22 p h)
  have aw := awake41
  rw [fn_go (KX2 _ _ _) (fn2 fn8) rfl (by simp [c8])]
  by_cases hf : few41 p = true
  case neg =>
    have hf : few41 p = false := by simpa using hf
    rw [hf] at k22
    simp [c8, KL2, lendF, k22, aw]
  have z := few_sz41 hp hf
  rw [hf] at k22
  have bq := beq_po p
  have k24 := fun h => up (f24 p z h)
  have hz0 : zPo.av = .agg [.str [], .nils, .nils, .nils, iV 0, .str [], iV 0, .str []] := rfl
  have bad : ∀ (e : Int), e ≠ 0 → chk p ≠ 0 → (∀ h, (mu K2).fn 31 [p.av] h = some (.val (.tup [zPo.av, iV e]) h)) →
      goF c8.res (evC K2 (mu K2) (match c8.body with | .code c => c | _ => .skip) { env := envOf 0 [p.av], h := [] :: [] }) = some (.val (.bool true) []) := fun e he hc k31 => by
    rw [hz0] at k31
    simp [c8, KL2, lendF, k22, k31, k24, aw, bq, he, hc]
  rcases tidy_cases p z with ⟨k31, _, hc⟩ | ⟨t, ht, hroot, hnd, hl, k31, _⟩
  · exact bad 3 (by decide) hc k31
  by_cases hc : chk (tidyP p t.pre) = 0
  case neg =>
    simp only [tidyR, if_neg hc] at k31
    refine bad _ hc (fun e => ?_) k31
    obtain ⟨u, g⟩ := chk_good e
    have : t = u := isT_unique ht g.isT (by have := g.root; omega)
    subst this
    exact hc (good_chk (good_tidy g))
  simp only [tidyR, if_pos hc] at k31
  have zq := sz_tidy z ht hl
  have gq : Pol.Good (tidyP p t.pre) (relT (fun k => t.pre.idxOf k) t) := good_td ht hc
  have hq31 : ∀ h, (mu K2).fn 31 [(tidyP p t.pre).av] h = some (.val (.tup [(tidyP p t.pre).av, iV 0]) h) := fun h => by
    have := up (f31t (tidyP p t.pre) zq _ (rea_good gq) gq.isT gq.nodup h)
    have e : tidyP (tidyP p t.pre) (relT (fun k => t.pre.idxOf k) t).pre = tidyP p t.pre := td_td ht hnd
    simp only [tidyR, e, if_pos hc] at this
    exact this
  have q24 := fun h => up (f24 (tidyP p t.pre) zq h)
  rw [hc] at q24
  have q33 := fun h => up (f33 (tidyP p t.pre) zq h)
  have bqq := beq_po (tidyP p t.pre)
  by_cases hp0 : chk p = 0
  · obtain ⟨u, g⟩ := chk_good hp0
    have : t = u := isT_unique ht g.isT (by have := g.root; omega)
    subst this
    have k34 := fun h => up (f34 p (tidyP p t.pre) z zq t _ g gq h)
    have hs : sameP p (tidyP p t.pre) t (relT (fun k => t.pre.idxOf k) t) = true := by
      simp only [sameP, sameT_rel, Bool.and_true]
      exact sameH_td p t.pre
    rw [hs] at k34
    generalize tidyP p t.pre = q at *
    simp [c8, KL2, lendF, k22, k31, hq31, q24, q33, k34, k24, hp0, aw, bq, bqq]
  · have k34 := fun h => up (f34_0 p (tidyP p t.pre) z zq (.inl hp0) h)
    generalize tidyP p t.pre = q at *
    simp [c8, KL2, lendF, k22, k31, hq31, q24, q33, k34, k24, hp0, aw, bq, bqq]
end Go.Ab.Pl

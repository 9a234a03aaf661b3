/-
  The statements of chapter 44 on the evaluator: other orders of the schemas.
-/
import Derived.Test.YtfpmflgjbpnkjaaAb41P26a
set_option linter.unusedVariables false
set_option linter.unusedSimpArgs false
set_option linter.unusedSectionVars false
namespace Go.Ab.Pl
open Go.Ab.Pol
set_option maxRecDepth 100000
set_option maxHeartbeats 8000000
theorem law12 (p : Po) (hp : aPo p) (l : Sl Sc) (hl : okSl aSc l) (by_ : Int) (hb : okI .u8 by_) : (mu K).fn 12 [p.av, l.avS Sc.av, .int .u8 by_] [] = some (.val (.bool true) []) := by
  have k36 := fun h => f36 p l h
  rw [fn_go (KX _ _ _) fn12 p12_body (by simp [c12])]
  cases hf : few44 p l.l
  · rw [hf] at k36
    simp [c12, p12_0, p12_1, KL, lendF, k36, awake44]
  rw [hf] at k36
  obtain ⟨s1, s2⟩ := few_sz hp hl hf
  obtain ⟨t, ht⟩ := tree_of p
  by_cases c0 : l.l = []
  · have e0 : l.l.length = 0 := by simp [c0]
    simp [c12, p12_0, p12_1, KL, lendF, k36, awake44, e0]
  have hpos : 0 < l.l.length := List.length_pos_iff.2 c0
  have e0 : ((l.l.length : Int) = 0) = False := by simp; exact c0
  have eL : (l.l = []) = False := by simp [c0]
  have k43 := fun h => f43 p s1 l s2 t ht h
  cases hfit : decide ((typT p l.l t).1 = 0) && decide ((typT p l.l t).2 = 0)
  · rw [hfit] at k43
    simp [c12, p12_0, p12_1, KL, lendF, k36, awake44, e0, eL, k43]
  rw [hfit] at k43
  have hF := fits_of hfit
  have hwf := wf_u8 hb
  obtain ⟨b, rfl⟩ : ∃ b : Nat, by_ = (b : Int) := ⟨by_.toNat, by omega⟩
  have hbb : b ≤ 255 := by omega
  have w1 : IntKind.i64.wrap (b : Int) = (b : Int) := wrap64 (by omega) (by omega)
  have w2 : ((b : Int).tmod (l.l.length : Int)) = ((b % l.l.length : Nat) : Int) := by
    rw [Int.tmod_eq_emod_of_nonneg (by omega)]
    simp
  have hn : b % l.l.length < l.l.length := Nat.mod_lt _ hpos
  have k44 := fun h => f44 45 (fun s => decide (s.name = oneMore.name)) f45 l s2.len h
  have hav : l.avS Sc.av = .lst (l.l.map Sc.av) := lv_lst _ (by simpa using c0)
  generalize b % l.l.length = n at *
  have hll : l.l.length ≤ 8 := by
    have hf' := hf
    unfold few44 at hf'
    simp only [Bool.and_eq_true, decide_eq_true_eq] at hf'
    exact hf'.1.1.2
  have t5 : n ≤ l.l.length := by omega
  have okr : okL ⟨false, rot l.l n⟩ := ⟨by have := (rot_perm l.l n).length_eq; simp only; omega, fun s hs => s2.sc s ((rot_perm l.l n).mem_iff.1 hs)⟩
  have okr1 : okL ⟨false, rot l.l n ++ [oneMore]⟩ := ⟨by have := (rot_perm l.l n).length_eq; simp; omega, fun s hs => by
    rcases List.mem_append.1 hs with hs | hs
    · exact s2.sc s ((rot_perm l.l n).mem_iff.1 hs)
    · rw [List.mem_singleton.1 hs]; exact one_okSc⟩
  have k1 := fun h => f43 p s1 ⟨false, rot l.l n⟩ okr t ht h
  have k2 := fun h => f43 p s1 ⟨false, rot l.l n ++ [oneMore]⟩ okr1 t ht h
  rw [of_fits (fit_rot hF n)] at k1
  have e1 : Sl.avS Sc.av ⟨false, rot l.l n⟩ = .lst ((rot l.l n).map Sc.av) := by simp [Sl.avS]
  have e2 : Sl.avS Sc.av ⟨false, rot l.l n ++ [oneMore]⟩ = .lst ((rot l.l n ++ [oneMore]).map Sc.av) := by simp [Sl.avS]
  rw [e1] at k1
  rw [e2] at k2
  have hlen : (rot l.l n).length = l.l.length := (rot_perm l.l n).length_eq
  have cut : ∀ env, ∃ x : Env × List AV, get env 1 = .lst (l.l.map Sc.av) → get env 3 = .ptr (0, 0) 0 → get env 7 = iV (n : Int) →
      evC K (mu K) (.seq p12_3 (.seq p12_4 (.seq p12_5 p12_6))) ⟨env, [[.box 26 false p.av]]⟩ = some (.ret, ⟨x.1, [[.box 26 false p.av, .arr 67 2 true x.2]]⟩) ∧ get x.1 6 = .bool true := by
    intro env
    by_cases h1 : get env 1 = .lst (l.l.map Sc.av)
    case neg => exact ⟨([], []), fun h => absurd h h1⟩
    by_cases h3 : get env 3 = .ptr (0, 0) 0
    case neg => exact ⟨([], []), fun _ h => absurd h h3⟩
    by_cases h7 : get env 7 = iV (n : Int)
    case neg => exact ⟨([], []), fun _ _ h => absurd h h7⟩
    obtain ⟨env3, l3, f1, f3, f8⟩ := p12_3ok p l.l n t5 hll env h1 h3 h7
    rw [hav] at k44
    cases hany : l.l.any (fun s => decide (s.name = oneMore.name))
    · rw [hany] at k44
      rw [of_fits (fit_rot1 hF n hany)] at k2
      obtain ⟨env4, l4, g3, g8⟩ := p12_4f p l.l (rot l.l n) hlen hll k44 env3 f1 f3 f8
      obtain ⟨env5, l5, v6⟩ := p12_5ok p (rot l.l n ++ [oneMore]) (l.l.length + 1) (by simp [hlen]) k2 env4 g3 g8
      exact ⟨(env5, (rot l.l n ++ [oneMore]).map Sc.av), fun _ _ _ => ⟨by simp only [c_seq, l3, l4, l5, goS_norm, p12_6, c_ret], v6⟩⟩
    · rw [hany] at k44
      obtain ⟨env4, l4, g3, g8⟩ := p12_4t p l.l (rot l.l n) k44 env3 f1 f3 f8
      obtain ⟨env5, l5, v6⟩ := p12_5ok p (rot l.l n) l.l.length hlen k1 env4 g3 g8
      exact ⟨(env5, (rot l.l n).map Sc.av), fun _ _ _ => ⟨by simp only [c_seq, l3, l4, l5, goS_norm, p12_6, c_ret], v6⟩⟩
  rw [hav] at k36 k43
  simp only [hav]
  generalize (CC.seq p12_3 (.seq p12_4 (.seq p12_5 p12_6))) = rest at cut ⊢
  obtain ⟨X, hX⟩ := Classical.axiomOfChoice cut
  have hX1 := fun env a b c => (hX env a b c).1
  have hX2 := fun env a b c => (hX env a b c).2
  simp [c12, p12_0, p12_1, p12_2, KL, lendF, k36, awake44, e0, eL, k43, w1, w2, hX1, hX2]
end Go.Ab.Pl

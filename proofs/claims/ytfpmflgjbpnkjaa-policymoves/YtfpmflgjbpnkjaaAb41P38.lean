/-
  The statements of chapter 41 on the evaluator: the checks, sameness.
-/
import Derived.Test.YtfpmflgjbpnkjaaAb41R7
import Derived.Test.YtfpmflgjbpnkjaaAb41P34
import Derived.Test.YtfpmflgjbpnkjaaAb41P35
import Derived.Test.YtfpmflgjbpnkjaaAb41P37
set_option linter.unusedVariables false
set_option linter.unusedSimpArgs false
namespace Go.Ab.Pl
open Go.Ab Go.Ab.Pol
set_option maxRecDepth 100000
set_option maxHeartbeats 4000000
theorem law3 (p : Po) (hp : aPo p) : (mu K2).fn 3 [p.av] [] = some (.val (.bool true) []) := by
  have k22 := fun h => up (f22 p h)
  have aw := awake41
  rw [fn_go (KX2 _ _ _) (fn2 fn3) rfl (by simp [c3])]
  by_cases hf : few41 p = true
  · have z := few_sz41 hp hf
    have k24 := fun h => up (f24 p z h)
    have k25 := fun h => up (f25 p z h)
    rw [hf] at k22
    simp [c3, KL2, lendF, k22, k24, k25, aw, beq_po p]
  · have hf : few41 p = false := by simpa using hf
    rw [hf] at k22
    simp [c3, KL2, lendF, k22, aw]
theorem law7 (a b : Po) (ha : aPo a) (hb : aPo b) : (mu K2).fn 7 [a.av, b.av] [] = some (.val (.bool true) []) := by
  have ka := fun h => up (f22 a h)
  have kb := fun h => up (f22 b h)
  have aw := awake41
  rw [fn_go (KX2 _ _ _) (fn2 fn7) rfl (by simp [c7])]
  by_cases fa : few41 a = true
  case neg =>
    have fa : few41 a = false := by simpa using fa
    rw [fa] at ka
    simp [c7, KL2, lendF, ka, aw]
  by_cases fb : few41 b = true
  case neg =>
    have fb : few41 b = false := by simpa using fb
    rw [fa] at ka
    rw [fb] at kb
    simp [c7, KL2, lendF, ka, kb, aw]
  have za := few_sz41 ha fa
  have zb := few_sz41 hb fb
  rw [fa] at ka
  rw [fb] at kb
  have k25 := fun h => up (f25 a za h)
  by_cases ca : chk a = 0
  case neg =>
    have k34 := fun h => up (f34_0 a b za zb (.inl ca) h)
    have k35 := fun h => up (f35_0 a b za zb (.inl ca) h)
    have k34a := fun h => up (f34_0 a a za za (.inl ca) h)
    simp [c7, KL2, lendF, ka, kb, aw, k34, k35, k34a, k25, ca, beq_po a, beq_po b]
  obtain ⟨t, g⟩ := chk_good ca
  have k34a := fun h => up (f34 a a za za t t g g h)
  rw [sameP_refl] at k34a
  by_cases cb : chk b = 0
  case neg =>
    have k34 := fun h => up (f34_0 a b za zb (.inr cb) h)
    have k35 := fun h => up (f35_0 a b za zb (.inr cb) h)
    simp [c7, KL2, lendF, ka, kb, aw, k34, k35, k34a, k25, ca, beq_po a, beq_po b]
  obtain ⟨u, gb⟩ := chk_good cb
  have k34 := fun h => up (f34 a b za zb t u g gb h)
  have k35 := fun h => up (f35 a b za zb t u g gb h)
  simp [c7, KL2, lendF, ka, kb, aw, k34, k35, k34a, k25, ca, beq_po a, beq_po b]
end Go.Ab.Pl

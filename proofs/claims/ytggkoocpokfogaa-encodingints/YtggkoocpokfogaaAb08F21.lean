/-
  The law on integers.
-/
import Derived.Test.YtggkoocpokfogaaAb08F20
set_option linter.unusedVariables false
set_option linter.unusedSimpArgs false
namespace Go.Ab.Enc
set_option maxRecDepth 100000
set_option maxHeartbeats 1000000

mutual
theorem av_beq : ∀ i : It, i.av.beq i.av = true
  | .mk k n t nl l => by
    have h := avs_beq l
    have h2 : (lv nl (It.avs l)).beq (lv nl (It.avs l)) = true := by
      cases hA : It.avs l with
      | nil => cases nl <;> simp [lv]
      | cons a r => rw [hA] at h; simpa [lv] using h
    simp [It.av, h2]
theorem avs_beq : ∀ l : List It, AV.beqs (It.avs l) (It.avs l) = true
  | [] => by simp [It.avs]
  | i :: r => by simp [It.avs, av_beq i, avs_beq r]
end
theorem law10 (neg : Bool) (a : List UInt8) (ha : a.length ≤ 140737488355328) (i : It) (ok : okI i) : (mu K).fn 10 [iav neg a, i.av] [] = some (.val (.bool true) []) := by
  rw [fn_go (KX _ _ _) fn10 rfl (by simp [c10])]
  by_cases h1 : (200 : Int) < (a.length : Int)
  · simp [c10, KL, h1, awake]
  · have h11 := fun h => f11 i h ok
    by_cases hf : wg i 0 < 400
    · have ok2 : okI (intI neg a) := ⟨by simp, by simp, by simp, ⟨by cases neg <;> simp [sg], by simp, by simp, trivial⟩, ⟨by omega, by simp, by simp, trivial⟩, trivial⟩
      have h22 := fun h => f22 neg a h (by omega)
      have h23 := fun h => f23 (intI neg a) h ok2
      have h23i := fun h => f23 i h ok
      have h24 := fun h => f24 i h ok
      have h25 := fun h => f25 neg a h
      have h17 := fun h => f17 (intI neg a) (intR neg a) h ok2
      rw [sm_int] at h17
      rw [toI_intI] at h23
      generalize toI i = T at *
      obtain ⟨t1, t2, t3⟩ := T
      clear ok2
      generalize intI neg a = J at *
      generalize intR neg a = J2 at *
      by_cases h128 : a.length ≤ 128
      · have h129 : (a.length : Int) ≤ 128 := by omega
        cases a with
        | nil =>
          have hc : canon [] = true := by simp [canon]
          cases neg
          · simp [c10, KL, h11, hf, h22, h23, h23i, h24, h25, h17, awake, hc, eqF, eqFs, av_beq]
          · simp [c10, KL, h11, hf, h22, h23, h23i, h24, h25, h17, awake, hc, eqF, eqFs, av_beq]
        | cons b r =>
          by_cases hb : b = 0
          · have hc : canon (b :: r) = false := by simp [canon, hb]
            subst hb
            simp only [hc] at h23
            have e2 : ¬ (200 : Int) < (r.length : Int) + 1 := by simpa using h1
            have e3 : (r.length : Int) + 1 ≤ 128 := by simpa using h129
            simp [c10, KL, h11, hf, h22, h23, h23i, h24, h25, h17, awake, e2, e3, eqF, eqFs, av_beq]
          · have hc : canon (b :: r) = true := by simp [canon, hb] at h128 ⊢; omega
            have e1 : ¬ b.toNat = 0 := fun e => hb (UInt8.toNat_inj.1 e)
            have e2 : ¬ (200 : Int) < (r.length : Int) + 1 := by simpa using h1
            have e3 : (r.length : Int) + 1 ≤ 128 := by simpa using h129
            simp only [hc] at h23
            simp [c10, KL, h11, hf, h22, h23, h23i, h24, h25, h17, awake, hb, e1, e2, e3, eqF, eqFs, av_beq]
      · have hc : canon a = false := by simp [canon, h128]
        have h129 : ¬ (a.length : Int) ≤ 128 := by omega
        simp only [hc] at h23
        simp [c10, KL, h1, h11, hf, h22, h23, h23i, h24, h25, h17, awake, h129, eqF, eqFs, av_beq]
    · simp [c10, KL, h1, h11, hf, awake]
end Go.Ab.Enc

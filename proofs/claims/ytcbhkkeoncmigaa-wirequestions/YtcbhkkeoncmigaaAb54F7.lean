/-
  Weights; encoding.
-/
import Derived.Test.YtcbhkkeoncmigaaAb54F6
set_option linter.unusedVariables false
set_option linter.unusedSimpArgs false
namespace Go.Ab.Wire
attribute [local simp] evC evOps evD
set_option maxRecDepth 100000
set_option maxHeartbeats 1000000

mutual
def wg : It → Nat → Nat
  | .mk k n t nl l, m => wgs l (m + (1 + min 400 (n.length + t.length)))
def wgs : List It → Nat → Nat
  | [], m => m
  | i :: r, m => if m < 400 then wgs r (wg i m) else m
end
mutual
def wt : It → Nat
  | .mk k n t nl l => 1 + n.length + t.length + wts l
def wts : List It → Nat
  | [] => 0
  | i :: r => wt i + wts r
end
mutual
theorem wg_ge : ∀ (i : It) (m : Nat), m ≤ wg i m
  | .mk k n t nl l, m => by
    have := wgs_ge l (m + (1 + min 400 (n.length + t.length)))
    simp only [wg]; omega
theorem wgs_ge : ∀ (l : List It) (m : Nat), m ≤ wgs l m
  | [], m => by simp [wgs]
  | i :: r, m => by
    have h1 := wg_ge i m
    have h2 := wgs_ge r (wg i m)
    simp only [wgs]
    split <;> omega
end
mutual
theorem wg_eq : ∀ (i : It) (m : Nat), wg i m < 400 → wg i m = m + wt i
  | .mk k n t nl l, m, h => by
    simp only [wg] at h ⊢
    have h1 := wgs_ge l (m + (1 + min 400 (n.length + t.length)))
    rw [wgs_eq l _ h]
    simp only [wt]
    omega
theorem wgs_eq : ∀ (l : List It) (m : Nat), wgs l m < 400 → wgs l m = m + wts l
  | [], m, h => by simp [wgs, wts]
  | i :: r, m, h => by
    have h1 := wg_ge i m
    have h2 := wgs_ge r (wg i m)
    simp only [wgs] at h ⊢
    split at h
    · rename_i h0
      rw [if_pos h0, wgs_eq r _ h, wg_eq i m (by omega)]
      simp only [wts]; omega
    · omega
end
mutual
theorem wg_le : ∀ (i : It) (m : Nat), m < 400 → wg i m ≤ 1000
  | .mk k n t nl l, m, h => by
    simp only [wg]
    exact wgs_le l _ (by omega)
theorem wgs_le : ∀ (l : List It) (m : Nat), m ≤ 1000 → wgs l m ≤ 1000
  | [], m, h => by simpa [wgs] using h
  | i :: r, m, h => by
    simp only [wgs]
    split
    · rename_i h0; exact wgs_le r _ (wg_le i m h0)
    · exact h
end
theorem mm_min (b : Nat) : mmList false (.int .i64 (400 : Int)) [.int .i64 (b : Int)] = some (.int .i64 ((min 400 b : Nat) : Int)) := by
  simp only [mmList, Bool.false_eq_true, if_false]
  congr 2
  split <;> omega
/-- What Encode returns. -/
def enc (i : It) : List UInt8 × Int := if vld i = false then ([], 3) else if 32 < dep i then ([], 7) else if 65536 < (wr i).length then ([], 5) else (wr i, 0)
theorem f63 (i : It) (h : Heap) (ok : okI i) (hd : dep i ≤ 1000000) (hw : (wr i).length ≤ 1099511627776) : (mu K).fn 63 [i.av] h = some (.val (.tup [.str (enc i).1, .int .i64 (enc i).2]) h) := by
  have h28 := fun h => f97 i h ok
  have h29 := fun h => f98 i h ok hd
  have h30 := fun h => f99 i h hw
  rw [fn_code (KX _ _ _) fn63 rfl (by simp [c63])]
  have e1 : ((32 : Int) < (dep i : Int)) ↔ 32 < dep i := by omega
  have e2 : ((65536 : Int) < ((wr i).length : Int)) ↔ 65536 < (wr i).length := by omega
  by_cases hv : vld i = true
  · by_cases h1 : 32 < dep i
    · simp [c63, KL, h28, h29, h30, hv, h1, e1, enc]
    · by_cases h2 : 65536 < (wr i).length
      · simp [c63, KL, h28, h29, h30, hv, h1, h2, e1, e2, enc]
      · simp [c63, KL, h28, h29, h30, hv, h1, h2, e1, e2, enc]
  · simp [c63, KL, h28, h29, h30, hv, enc]
theorem f67 (i : It) (h : Heap) (ok : okI i) (hd : dep i ≤ 1000000) (hw : (wr i).length ≤ 1099511627776) : (mu K).fn 67 [i.av] h = some (.val (.tup [.str (enc i).1, .int .i64 (enc i).2]) h) := by
  have h28 := fun h => f102 i h ok
  have h29 := fun h => f103 i h ok hd
  have h30 := fun h => f104 i h hw
  rw [fn_code (KX _ _ _) fn67 rfl (by simp [c67])]
  have e1 : ((32 : Int) < (dep i : Int)) ↔ 32 < dep i := by omega
  have e2 : ((65536 : Int) < ((wr i).length : Int)) ↔ 65536 < (wr i).length := by omega
  by_cases hv : vld i = true
  · by_cases h1 : 32 < dep i
    · simp [c67, KL, h28, h29, h30, hv, h1, e1, enc]
    · by_cases h2 : 65536 < (wr i).length
      · simp [c67, KL, h28, h29, h30, hv, h1, h2, e1, e2, enc]
      · simp [c67, KL, h28, h29, h30, hv, h1, h2, e1, e2, enc]
  · simp [c67, KL, h28, h29, h30, hv, enc]
end Go.Ab.Wire

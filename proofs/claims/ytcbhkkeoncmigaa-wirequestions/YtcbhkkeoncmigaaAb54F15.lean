/-
  Same; the reference's Read and Decode; Decode.
-/
import Derived.Test.YtcbhkkeoncmigaaAb54F14
import Derived.Test.YtcbhkkeoncmigaaAbTop
set_option linter.unusedVariables false
set_option linter.unusedSimpArgs false
namespace Go.Ab.Wire
set_option maxRecDepth 100000
set_option maxHeartbeats 1000000

mutual
/-- Equal, whatever is nil. -/
def sm : It → It → Bool
  | .mk k n t _ l, .mk k' n' t' _ l' => decide (k = k') && (decide (n = n') && (decide (t = t') && (decide (l.length = l'.length) && sms l l')))
def sms : List It → List It → Bool
  | i :: r, j :: q => sm i j && sms r q
  | _, _ => true
end
mutual
theorem sm_refl : ∀ i, sm i i = true
  | .mk k n t nl l => by simp [sm, sms_refl l]
theorem sms_refl : ∀ l, sms l l = true
  | [] => by simp [sms]
  | i :: r => by simp [sms, sm_refl i, sms_refl r]
end
abbrev B17 (i j : It) : List Blk := [.box 78 false i.av, .box 78 false j.av]
abbrev S17 (i j : It) (x : Nat) (h : Heap) : St := { env := [(2, .ptr (h.length, 0) 0), (3, .ptr (h.length, 1) 0), (5, .int .i64 (x : Int))], h := B17 i j :: h }
/-- What Decode returns. -/
def dcS (s : List UInt8) : It × Int := if (rdS s).2.2 ≠ 0 then (zIt, (rdS s).2.2) else if (rdS s).2.1 < s.length then (zIt, 4) else ((rdS s).1, 0)
theorem f72 (s : List UInt8) (h : Heap) : (mu K).fn 72 [.str s] h = some (.val (.tup [(dcS s).1.av, .int .i64 (dcS s).2]) h) := by
  have h18 := fun h => f106 s h
  unfold dcS
  rw [fn_go (KX _ _ _) fn72 rfl (by simp [c72])]
  generalize rdS s = r at *
  obtain ⟨i, n, c⟩ := r
  have e : ((n : Int) < (s.length : Int)) ↔ n < s.length := by omega
  by_cases h1 : c = 0
  · by_cases h2 : n < s.length
    · simp [c72, KL, h18, h1, h2, e, It.av, lv, It.avs]
    · simp [c72, KL, h18, h1, h2, e]
  · simp [c72, KL, h18, h1, It.av, lv, It.avs]
end Go.Ab.Wire

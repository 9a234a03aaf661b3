/-
  The reference's reading: items.
-/
import Derived.Test.YtcbhkkeoncmigaaAb54F13
set_option linter.unusedVariables false
set_option linter.unusedSimpArgs false
namespace Go.Ab.Wire
attribute [local simp] evC evOps evD
set_option maxRecDepth 100000
set_option maxHeartbeats 1000000

theorem rlist_err : ∀ (s : List UInt8) (f : Nat), (∀ p e d c, rd s f p e d = .error c → c = 4 ∨ c = 7) ∧ (∀ p e d c, rdl s f p e d = .error c → c = 4 ∨ c = 7) := by
  intro s f
  induction f with
  | zero => exact ⟨fun p e d c h => by simp [rd] at h; exact .inl h.symm, fun p e d c h => by simp [rdl] at h; exact .inl h.symm⟩
  | succ f ih =>
    refine ⟨fun p e d c h => ?_, fun p e d c h => ?_⟩
    · simp only [rd] at h
      split at h
      · cases h; exact .inl rfl
      split at h
      · cases h; exact .inl rfl
      split at h
      · cases h; exact .inl rfl
      split at h
      · cases h; exact .inr rfl
      split at h
      · cases h; exact .inl rfl
      split at h
      · split at h
        · cases h
        · cases h; exact .inl rfl
      split at h
      · cases h
      split at h
      · rename_i c' hc
        cases h
        exact ih.2 _ _ _ _ hc
      · cases h
    · simp only [rdl] at h
      split at h
      · split at h
        · rename_i c' hc
          cases h
          exact ih.1 _ _ _ _ hc
        · split at h
          · rename_i c' hc
            cases h
            exact ih.2 _ _ _ _ hc
          · cases h
      · cases h
/-- What the reference returns for it. -/
def r36 : Except Int (It × Nat) → It × Nat × Int
  | .ok (i, q) => (i, q, 0)
  | .error c => (zIt, 0, c)
abbrev T36 (s : List UInt8) (h : Heap) (p t d : Nat) (done : List It) (t0 s0 : Nat) : St :=
  { env := [(0, .str s), (1, .int .i64 (p : Int)), (3, .int .i64 (d : Int)), (8, .ptr (h.length, 0) 0), (11, .ptr (h.length, 1) 0), (16, .int .i64 (t : Int))], h := F35 h.length t0 s0 done :: h }
end Go.Ab.Wire

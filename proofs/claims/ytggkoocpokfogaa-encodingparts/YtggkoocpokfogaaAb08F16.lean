/-
  The laws on decoding, on the evaluator.
-/
import Derived.Test.YtggkoocpokfogaaAb08F15
import Derived.Test.YtggkoocpokfogaaAb08P
set_option linter.unusedVariables false
set_option linter.unusedSimpArgs false
namespace Go.Ab.Enc
set_option maxRecDepth 100000
set_option maxHeartbeats 1000000

theorem okI_z : okI zIt := ⟨by simp, by simp, by simp, trivial⟩
theorem rdS_ok (s : List UInt8) : okI (rdS s).1 := by
  unfold rdS
  split
  · exact okI_z
  · split
    · rename_i i q h
      exact ((wr_rd s (by omega) _).1 _ _ _ _ _ h (by omega) (by omega)).2.2.2.2
    · exact okI_z
theorem dcS_ok (s : List UInt8) : okI (dcS s).1 := by
  unfold dcS
  split
  · exact okI_z
  split
  · exact okI_z
  · exact rdS_ok s
theorem rdS_good {s : List UInt8} (h : (rdS s).2.2 = 0) : s.length ≤ 65536 ∧ vld (rdS s).1 = true ∧ dep (rdS s).1 ≤ 32 ∧ At s 0 (wr (rdS s).1) ∧ (rdS s).2.1 = (wr (rdS s).1).length := by
  unfold rdS at *
  split at h
  · cases h
  · rename_i hl
    rw [if_neg hl]
    split at h
    · rename_i i q hr
      obtain ⟨h1, h2, h3, h4, h5⟩ := (wr_rd s (by omega) _).1 _ _ _ _ _ hr (by omega) (by omega)
      exact ⟨by omega, h1, by simpa using h2, h3, by simpa using h4⟩
    · rename_i c hr
      have := (rlist_err s (s.length + 1)).1 _ _ _ _ hr
      simp only at h
      omega
/-- A string that is decoded is the encoding of what it is decoded to. -/
theorem dcS_good {s : List UInt8} (h : (dcS s).2 = 0) : s.length ≤ 65536 ∧ vld (dcS s).1 = true ∧ dep (dcS s).1 ≤ 32 ∧ wr (dcS s).1 = s := by
  unfold dcS at *
  split at h
  · rename_i h1; exact absurd h h1
  · rename_i h1
    rw [if_neg h1]
    split at h
    · cases h
    · rename_i h2
      rw [if_neg h2]
      obtain ⟨k0, k1, k2, k3, k4⟩ := rdS_good (s := s) (by simpa using h1)
      refine ⟨k0, k1, k2, ?_⟩
      have hle := at_le k3 (by have := wr_pos (rdS s).1; intro e; rw [e] at this; simp at this)
      exact (at_eq k3 (by omega)).symm
/-- The encoding of a valid item that is not too deep or long, with anything behind it, is read as that item. -/
theorem rdS_wr {i : It} (hv : vld i = true) (hd : dep i ≤ 32) (b : List UInt8) (hl : (wr i ++ b).length ≤ 65536) : rdS (wr i ++ b) = (nm i, (wr i).length, 0) := by
  unfold rdS
  rw [if_neg (by omega), rd_wr i hv (wr i ++ b) 0 _ 0 _ ⟨b, rfl⟩ (by simp) (by omega) (by omega) (by omega) (by omega)]
  simp
theorem dcS_wr {i : It} (hv : vld i = true) (hd : dep i ≤ 32) (hl : (wr i).length ≤ 65536) : dcS (wr i) = (nm i, 0) := by
  have := rdS_wr hv hd [] (by simpa using hl)
  simp only [List.append_nil] at this
  unfold dcS
  rw [this]
  simp
mutual
theorem sm_nm : ∀ i, sm i (nm i) = true
  | .mk k n t nl l => by
    have h1 := sms_nm l
    have h2 : (nms l).length = l.length := nms_len l
    simp [sm, nm, h1, h2]
theorem sms_nm : ∀ l, sms l (nms l) = true
  | [] => by simp [sms, nms]
  | i :: r => by simp [sms, nms, sm_nm i, sms_nm r]
theorem nms_len : ∀ l, (nms l).length = l.length
  | [] => rfl
  | i :: r => by simp [nms, nms_len r]
end
theorem law4 (s : List UInt8) (hs : s.length ≤ 140737488355328) : (mu K).fn 4 [.str s] [] = some (.val (.bool true) []) := by
  have h15 := fun h => f15 s h
  have h16 := fun h => f16 s h
  have h17 := fun h => f17 (dcS s).1 (dcS s).1 h (dcS_ok s)
  have hr := sm_refl (dcS s).1
  rw [hr] at h17
  generalize dcS s = r at *
  rw [fn_go (KX _ _ _) fn4 rfl (by simp [c4])]
  by_cases h1 : (1000 : Int) < (s.length : Int)
  · simp [c4, KL, h1, awake]
  · simp [c4, KL, h1, h15, h16, h17, awake]
theorem law5 (s : List UInt8) (hs : s.length ≤ 140737488355328) : (mu K).fn 5 [.str s] [] = some (.val (.bool true) []) := by
  have h15 := fun h => f18 s h
  have h16 := fun h => f19 s h
  have h17 := fun h => f17 (rdS s).1 (rdS s).1 h (rdS_ok s)
  have hr := sm_refl (rdS s).1
  rw [hr] at h17
  generalize rdS s = r at *
  rw [fn_go (KX _ _ _) fn5 rfl (by simp [c5])]
  by_cases h1 : (1000 : Int) < (s.length : Int)
  · simp [c5, KL, h1, awake]
  · simp [c5, KL, h1, h15, h16, h17, awake]
theorem law6 (i : It) (ok : okI i) : (mu K).fn 6 [i.av] [] = some (.val (.bool true) []) := by
  have h11 := fun h => f11 i h ok
  rw [fn_go (KX _ _ _) fn6 rfl (by simp [c6])]
  by_cases hf : wg i 0 < 400
  · have hw : wt i ≤ 1000 := by have := wg_eq i 0 hf; omega
    have hdw := dep_wt i
    have hww := wr_wt i (by omega)
    have h13 := fun h => f13 i h ok (by omega) (by omega)
    have h15 := fun h => f15 (enc i).1 h
    by_cases he : (enc i).2 = 0
    · have hen : enc i = (wr i, 0) ∧ vld i = true ∧ dep i ≤ 32 ∧ (wr i).length ≤ 65536 := by
        unfold enc at *
        split at he
        · cases he
        split at he
        · cases he
        split at he
        · cases he
        · rename_i h1 h2 h3
          refine ⟨by rw [if_neg h1, if_neg h2, if_neg h3], by simpa using h1, by omega, by omega⟩
      obtain ⟨e1, e2, e3, e4⟩ := hen
      have hdc := dcS_wr e2 e3 e4
      have h17 := fun h => f17 i (nm i) h ok
      rw [sm_nm i] at h17
      rw [e1] at h13 h15
      simp only [hdc] at h15
      simp [c6, KL, h11, hf, h13, h15, h17, awake]
    · have hen : (enc i).1 = [] := by
        unfold enc at *
        split
        · rfl
        · rename_i h1
          rw [if_neg h1] at he
          split
          · rfl
          · rename_i h2
            rw [if_neg h2] at he
            split
            · rfl
            · rename_i h3
              rw [if_neg h3] at he
              exact absurd rfl he
      rw [hen] at h15
      simp [c6, KL, h11, hf, h13, h15, he, hen, awake]
  · simp [c6, KL, h11, hf, awake]
theorem law7 (s : List UInt8) (hs : s.length ≤ 140737488355328) : (mu K).fn 7 [.str s] [] = some (.val (.bool true) []) := by
  have h15 := fun h => f15 s h
  rw [fn_go (KX _ _ _) fn7 rfl (by simp [c7])]
  by_cases h1 : (1000 : Int) < (s.length : Int)
  · simp [c7, KL, h1, awake]
  · by_cases he : (dcS s).2 = 0
    · obtain ⟨k1, k2, k3, k4⟩ := dcS_good he
      have h13 := fun h => f13 (dcS s).1 h (dcS_ok s) (by omega) (by rw [k4]; omega)
      have hen : enc (dcS s).1 = (s, 0) := by
        unfold enc
        rw [k4, if_neg (by simp [k2]), if_neg (by omega), if_neg (by omega)]
      rw [hen] at h13
      simp [c7, KL, h1, h15, h13, he, awake]
    · simp [c7, KL, h1, h15, he, awake]
end Go.Ab.Enc

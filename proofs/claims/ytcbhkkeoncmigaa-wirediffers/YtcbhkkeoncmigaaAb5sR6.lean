/-
  The functions Get of the package wire.
-/
import Derived.Test.YtcbhkkeoncmigaaAb5sS4
set_option linter.unusedVariables false
set_option linter.unusedSimpArgs false
set_option linter.unusedSectionVars false
namespace Go.Ab.WireS
set_option maxRecDepth 100000
set_option maxHeartbeats 1000000

mutual
theorem wt_wr : ∀ i, wt i ≤ (wr i).length
  | .mk k n t nl l => by
    have := wts_wrs l
    simp only [wt, wr, List.length_cons, List.length_append]
    omega
theorem wts_wrs : ∀ l, wts l ≤ (wrs l).length
  | [] => Nat.le_refl _
  | i :: r => by
    have := wt_wr i
    have := wts_wrs r
    simp only [wts, wrs, List.length_append]
    omega
end
theorem wt_dcS (s : List UInt8) : wt (dcS s).1 ≤ 1000000 := by
  by_cases h : (dcS s).2 = 0
  · obtain ⟨h1, _, _, h4⟩ := dcS_good h
    have := wt_wr (dcS s).1
    rw [h4] at this
    omega
  · have e : (dcS s).1 = zIt := by
      unfold dcS at h ⊢
      split
      · rfl
      · rename_i h1
        rw [if_neg h1] at h
        split
        · rfl
        · rename_i h2
          rw [if_neg h2] at h
          exact absurd rfl h
    rw [e]
    simp [wt, wts]
theorem e38 : K.fns 32 = some (getF 90 23 [.str [], .str [], .str [], .int .i64 0, .int .i64 0] 5 73 75 74) := fn32
theorem e102 : K.dfn 73 = some (get1 5) := dfn73
theorem e104 : K.fns 75 = some (get2 23 [.str [], .str [], .str [], .int .i64 0, .int .i64 0] 5) := fn75
theorem e103 : K.fns 74 = some (innerA 23 [.str [], .str [], .str [], .int .i64 0, .int .i64 0] 5) := fn74
theorem f10 (s : List UInt8) (h : Heap) : (mu K).fn 10 [.str s] h = some (.val (.tup [(gQu s).1.av, .int .i64 (gQu s).2]) h) := by
  have k := fun h => get_ok (z0 := zQu) (av := Qu.cs) e38 e102 e104 e103 rfl (by omega) (fun x => rfl) (fun x => by simp) r33 kQu s h (wt_dcS s)
  unfold gQu
  generalize getS zQu kQu sQu s = R at *
  rw [fn_go (KX _ _ _) fn10 rfl (by simp [c10])]
  simp [c10, KL, k]
theorem e60 : K.fns 44 = some (getF 98 40 [.str [], .str [], .int .i64 0, .nils, .str [], .str [], .str [], .int .i64 0, .str []] 9 80 82 81) := fn44
theorem e125 : K.dfn 80 = some (get1 9) := dfn80
theorem e127 : K.fns 82 = some (get2 40 [.str [], .str [], .int .i64 0, .nils, .str [], .str [], .str [], .int .i64 0, .str []] 9) := fn82
theorem e126 : K.fns 81 = some (innerA 40 [.str [], .str [], .int .i64 0, .nils, .str [], .str [], .str [], .int .i64 0, .str []] 9) := fn81
theorem f16 (s : List UInt8) (h : Heap) : (mu K).fn 16 [.str s] h = some (.val (.tup [(gHd s).1.av, .int .i64 (gHd s).2]) h) := by
  have k := fun h => get_ok (z0 := zHd) (av := Hd.cs) e60 e125 e127 e126 rfl (by omega) (fun x => rfl) (fun x => by simp) r45 kHd s h (wt_dcS s)
  unfold gHd
  generalize getS zHd kHd sHd s = R at *
  rw [fn_go (KX _ _ _) fn16 rfl (by simp [c16])]
  simp [c16, KL, k]
theorem e62 : K.fns 50 = some (getF 103 44 [.int .i64 0, .int .i64 0, .nils, .nils, .str [], .str [], .str [], .str []] 8 86 88 87) := fn50
theorem e128 : K.dfn 86 = some (get1 8) := dfn86
theorem e130 : K.fns 88 = some (get2 44 [.int .i64 0, .int .i64 0, .nils, .nils, .str [], .str [], .str [], .str []] 8) := fn88
theorem e129 : K.fns 87 = some (innerA 44 [.int .i64 0, .int .i64 0, .nils, .nils, .str [], .str [], .str [], .str []] 8) := fn87
theorem f18 (s : List UInt8) (h : Heap) : (mu K).fn 18 [.str s] h = some (.val (.tup [(gDl s).1.av, .int .i64 (gDl s).2]) h) := by
  have k := fun h => get_ok (z0 := zDl) (av := Dl.cs) e62 e128 e130 e129 rfl (by omega) (fun x => rfl) (fun x => by simp) r51 kDl s h (wt_dcS s)
  unfold gDl
  generalize getS zDl kDl sDl s = R at *
  rw [fn_go (KX _ _ _) fn18 rfl (by simp [c18])]
  simp [c18, KL, k]
end Go.Ab.WireS

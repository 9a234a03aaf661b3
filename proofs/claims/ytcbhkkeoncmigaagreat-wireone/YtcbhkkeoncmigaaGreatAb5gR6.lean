/-
  The functions Get of the package wire.
-/
import Derived.Test.YtcbhkkeoncmigaaGreatAb5gS4
set_option linter.unusedVariables false
set_option linter.unusedSimpArgs false
set_option linter.unusedSectionVars false
namespace Go.Ab.WireG
set_option maxRecDepth 100000
set_option maxHeartbeats 1000000

mutual
theorem wt_wr : ∀ i, wt i ≤ (wr i).length
  | .mk k n t nl l => by
    have := wts_wrs l
    simp only [wt, wr, List.length_cons, List.length_append]
    omega
theorem wts_wrs : ∀ l, wts l ≤ (wrs l).length
  | [] => Nat.le_refl _
  | i :: r => by
    have := wt_wr i
    have := wts_wrs r
    simp only [wts, wrs, List.length_append]
    omega
end
theorem wt_dcS (s : List UInt8) : wt (dcS s).1 ≤ 1000000 := by
  by_cases h : (dcS s).2 = 0
  · obtain ⟨h1, _, _, h4⟩ := dcS_good h
    have := wt_wr (dcS s).1
    rw [h4] at this
    omega
  · have e : (dcS s).1 = zIt := by
      unfold dcS at h ⊢
      split
      · rfl
      · rename_i h1
        rw [if_neg h1] at h
        split
        · rfl
        · rename_i h2
          rw [if_neg h2] at h
          exact absurd rfl h
    rw [e]
    simp [wt, wts]
theorem e38 : K.fns 38 = some (getF 103 24 [.str [], .str [], .str [], .int .i64 0, .int .i64 0] 5 102 104 103) := fn38
theorem e102 : K.dfn 102 = some (get1 5) := dfn102
theorem e104 : K.fns 104 = some (get2 24 [.str [], .str [], .str [], .int .i64 0, .int .i64 0] 5) := fn104
theorem e103 : K.fns 103 = some (innerA 24 [.str [], .str [], .str [], .int .i64 0, .int .i64 0] 5) := fn103
theorem f8 (s : List UInt8) (h : Heap) : (mu K).fn 8 [.str s] h = some (.val (.tup [(gQu s).1.av, .int .i64 (gQu s).2]) h) := by
  have k := fun h => get_ok (z0 := zQu) (av := Qu.cs) e38 e102 e104 e103 rfl (by omega) (fun x => rfl) (fun x => by simp) r39 kQu s h (wt_dcS s)
  unfold gQu
  generalize getS zQu kQu sQu s = R at *
  rw [fn_go (KX _ _ _) fn8 rfl (by simp [c8])]
  simp [c8, KL, k]
theorem e46 : K.fns 46 = some (getF 110 37 [.str [], .str [], .str [], .nils, .nils, .nils] 6 110 112 111) := fn46
theorem e110 : K.dfn 110 = some (get1 6) := dfn110
theorem e112 : K.fns 112 = some (get2 37 [.str [], .str [], .str [], .nils, .nils, .nils] 6) := fn112
theorem e111 : K.fns 111 = some (innerA 37 [.str [], .str [], .str [], .nils, .nils, .nils] 6) := fn111
theorem f10 (s : List UInt8) (h : Heap) : (mu K).fn 10 [.str s] h = some (.val (.tup [(gRq s).1.av, .int .i64 (gRq s).2]) h) := by
  have k := fun h => get_ok (z0 := zRq) (av := Rq.cs) e46 e110 e112 e111 rfl (by omega) (fun x => rfl) (fun x => by simp) r47 kRq s h (wt_dcS s)
  unfold gRq
  generalize getS zRq kRq sRq s = R at *
  rw [fn_go (KX _ _ _) fn10 rfl (by simp [c10])]
  simp [c10, KL, k]
theorem e53 : K.fns 53 = some (getF 115 46 [.nils, .str [], .str [], .str [], .str [], .int .i64 0] 6 119 121 120) := fn53
theorem e119 : K.dfn 119 = some (get1 6) := dfn119
theorem e121 : K.fns 121 = some (get2 46 [.nils, .str [], .str [], .str [], .str [], .int .i64 0] 6) := fn121
theorem e120 : K.fns 120 = some (innerA 46 [.nils, .str [], .str [], .str [], .str [], .int .i64 0] 6) := fn120
theorem f13 (s : List UInt8) (h : Heap) : (mu K).fn 13 [.str s] h = some (.val (.tup [(gRs s).1.av, .int .i64 (gRs s).2]) h) := by
  have k := fun h => get_ok (z0 := zRs) (av := Rs.cs) e53 e119 e121 e120 rfl (by omega) (fun x => rfl) (fun x => by simp) r54 kRs s h (wt_dcS s)
  unfold gRs
  generalize getS zRs kRs sRs s = R at *
  rw [fn_go (KX _ _ _) fn13 rfl (by simp [c13])]
  simp [c13, KL, k]
theorem e60 : K.fns 60 = some (getF 118 55 [.str [], .str [], .int .i64 0, .nils, .str [], .str [], .str [], .int .i64 0, .str []] 9 125 127 126) := fn60
theorem e125 : K.dfn 125 = some (get1 9) := dfn125
theorem e127 : K.fns 127 = some (get2 55 [.str [], .str [], .int .i64 0, .nils, .str [], .str [], .str [], .int .i64 0, .str []] 9) := fn127
theorem e126 : K.fns 126 = some (innerA 55 [.str [], .str [], .int .i64 0, .nils, .str [], .str [], .str [], .int .i64 0, .str []] 9) := fn126
theorem f16 (s : List UInt8) (h : Heap) : (mu K).fn 16 [.str s] h = some (.val (.tup [(gHd s).1.av, .int .i64 (gHd s).2]) h) := by
  have k := fun h => get_ok (z0 := zHd) (av := Hd.cs) e60 e125 e127 e126 rfl (by omega) (fun x => rfl) (fun x => by simp) r61 kHd s h (wt_dcS s)
  unfold gHd
  generalize getS zHd kHd sHd s = R at *
  rw [fn_go (KX _ _ _) fn16 rfl (by simp [c16])]
  simp [c16, KL, k]
theorem e62 : K.fns 62 = some (getF 122 64 [.int .i64 0, .int .i64 0, .nils, .nils, .str [], .str [], .str [], .str []] 8 128 130 129) := fn62
theorem e128 : K.dfn 128 = some (get1 8) := dfn128
theorem e130 : K.fns 130 = some (get2 64 [.int .i64 0, .int .i64 0, .nils, .nils, .str [], .str [], .str [], .str []] 8) := fn130
theorem e129 : K.fns 129 = some (innerA 64 [.int .i64 0, .int .i64 0, .nils, .nils, .str [], .str [], .str [], .str []] 8) := fn129
theorem f19 (s : List UInt8) (h : Heap) : (mu K).fn 19 [.str s] h = some (.val (.tup [(gDl s).1.av, .int .i64 (gDl s).2]) h) := by
  have k := fun h => get_ok (z0 := zDl) (av := Dl.cs) e62 e128 e130 e129 rfl (by omega) (fun x => rfl) (fun x => by simp) r63 kDl s h (wt_dcS s)
  unfold gDl
  generalize getS zDl kDl sDl s = R at *
  rw [fn_go (KX _ _ _) fn19 rfl (by simp [c19])]
  simp [c19, KL, k]
theorem e66 : K.fns 66 = some (getF 132 75 [.nils, .nils, .nils, .nils, .str [], .str [], .str [], .nils, .str [], .str [], .str [], .nils, .nils, .nils] 14 133 135 134) := fn66
theorem e133 : K.dfn 133 = some (get1 14) := dfn133
theorem e135 : K.fns 135 = some (get2 75 [.nils, .nils, .nils, .nils, .str [], .str [], .str [], .nils, .str [], .str [], .str [], .nils, .nils, .nils] 14) := fn135
theorem e134 : K.fns 134 = some (innerA 75 [.nils, .nils, .nils, .nils, .str [], .str [], .str [], .nils, .str [], .str [], .str [], .nils, .nils, .nils] 14) := fn134
theorem f22 (s : List UInt8) (h : Heap) : (mu K).fn 22 [.str s] h = some (.val (.tup [(gPr s).1.av, .int .i64 (gPr s).2]) h) := by
  have k := fun h => get_ok (z0 := zPr) (av := Pr.cs) e66 e133 e135 e134 rfl (by omega) (fun x => rfl) (fun x => by simp) r67 kPr s h (wt_dcS s)
  unfold gPr
  generalize getS zPr kPr sPr s = R at *
  rw [fn_go (KX _ _ _) fn22 rfl (by simp [c22])]
  simp [c22, KL, k]
end Go.Ab.WireG

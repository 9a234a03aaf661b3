/-
  Held credentials, deltas and presentations: what the statements ask of all of them.
-/
import Derived.Test.YtcbhkkeoncmigaaAb5sT0
import Derived.Test.YtcbhkkeoncmigaaAb5sS10
import Derived.Test.YtcbhkkeoncmigaaAb5sS11
import Derived.Test.YtcbhkkeoncmigaaAb5sS13
import Derived.Test.YtcbhkkeoncmigaaAb5sS9
import Derived.Test.YtcbhkkeoncmigaaAb5sR6
set_option linter.unusedVariables false
set_option linter.unusedSimpArgs false
set_option linter.unusedSectionVars false
namespace Go.Ab.WireS
set_option maxRecDepth 100000
set_option maxHeartbeats 1000000
theorem law5 (x y : Pr) : (mu K).fn 5 [x.av, y.av] [] = some (.val (.bool true) []) := by
  obtain ⟨b1, k1, p1⟩ := f20 x [[.box 66 false x.av, .box 66 false y.av]]
  obtain ⟨b2, k2, p2⟩ := f20 y [[.box 66 false x.av, .box 66 false y.av]]
  rw [fn_go (KX _ _ _) fn5 rfl (by simp [c5])]
  cases b1
  · simp [c5, KL, k1, awake]
  cases b2
  · simp [c5, KL, k1, k2, awake]
  have s1 := szPr (p1 rfl)
  have s2 := szPr (p2 rfl)
  simp only [wts] at s1 s2
  have g1 := fun h => f21 x (by simp only [wts] at s1 ⊢; omega) h
  have g2 := fun h => f21 y (by simp only [wts] at s2 ⊢; omega) h
  by_cases e1 : (pPr x).2 = 0
  case neg =>
    generalize pPr x = R at *
    generalize pPr y = S at *
    simp [c5, KL, k1, k2, g1, g2, e1, awake]
  by_cases e2 : (pPr y).2 = 0
  case neg =>
    generalize pPr x = R at *
    generalize pPr y = S at *
    simp [c5, KL, k1, k2, g1, g2, e1, e2, awake]
  have q1 := no_pre x y e1 e2
  have q2 := same_iff x y e1 e2
  have k22 := fun h => f22 x y (by simp only [wts] at s1 ⊢; omega) h
  generalize pPr x = R at *
  generalize pPr y = S at *
  have q3 : (decide (R.1 = S.1)) = eqPr x y := by
    cases e : eqPr x y
    · simp [q2, e]
    · simp [q2, e]
  generalize eqPr x y = E at *
  by_cases hl : R.1.length < S.1.length
  · have q4 := q1 hl
    have hl2 : (R.1.length : Int) < (S.1.length : Int) := by omega
    have hl3 : R.1.length ≤ S.1.length := by omega
    simp [c5, KL, k1, k2, g1, g2, e1, e2, hl2, hl3, awake, k22, q4]
    cases E <;> simp_all
  · have hl2 : ¬ (R.1.length : Int) < (S.1.length : Int) := by omega
    simp [c5, KL, k1, k2, g1, g2, e1, e2, hl2, awake, k22]
    cases E <;> simp_all
theorem law6 (n : Int) (b : Bool) : (mu K).fn 6 [.int .i64 n, .bool b] [] = some (.val (.bool true) []) := by
  have z1 : ∀ s : List UInt8, s.length ≤ 2 → wts (rDl (lim n s)) ≤ 900000 := fun s hs => by
    have := numB_len n
    have := numB_len 1
    simp [wts, wt]
    omega
  have g1 := fun h => f14 (lim n []) (z1 _ (by simp)) h
  have g2 := fun h => f14 (lim n [0, 1]) (z1 _ (by simp)) h
  have e2 : pDl (lim n [0, 1]) = ([], 3) := by
    have : bDl (lim n [0, 1]) = true := by simp [bDl, canon]
    unfold pDl putS
    rw [if_pos this]
  rw [e2] at g2
  have o1 : outB 1 = false := by decide
  rw [fn_go (KX _ _ _) fn6 rfl (by simp [c6])]
  simp only [Dl.av, Dl.cs, avNs, Sl.avS, List.map_nil, lv, if_true] at g1 g2
  cases b
  case true =>
    by_cases h1 : n < 0
    · simp [c6, KL, g2, awake, h1]
    · by_cases h2 : 2147483647 < n <;> simp [c6, KL, g2, awake, h1, h2]
  by_cases h0 : outB n = true
  · have e1 : pDl (lim n []) = ([], 2) := by
      have : bDl (lim n []) = false := by simp [bDl, canon]
      unfold pDl putS
      rw [if_neg (by rw [this]; simp), if_pos (by simp [oDl, h0])]
    rw [e1] at g1
    simp only [outB, decide_eq_true_eq] at h0
    by_cases h1 : n < 0
    · simp [c6, KL, g1, awake, h1]
    · have h2 : 2147483647 < n := h0.resolve_left h1
      simp [c6, KL, g1, awake, h1, h2]
  · have e1 : (pDl (lim n [])).2 = 0 := by
      have b1 : bDl (lim n []) = false := by simp [bDl, canon]
      have b2 : ¬ oDl (lim n []) = true := by simp [oDl, h0, o1]
      unfold pDl putS
      rw [if_neg (by rw [b1]; simp), if_neg b2]
      exact enc_lim n
    have k18 := fun h => f18 (pDl (lim n [])).1 h
    rw [got_Dl _ e1] at k18
    simp only [Dl.z, Dl.av, Dl.cs, avNs, Sl.avS, Sl.z, List.map_nil, lv] at k18
    generalize pDl (lim n []) = R at *
    have h1 : ¬ n < 0 := fun q => h0 (by simp [outB, q])
    have h2 : ¬ 2147483647 < n := fun q => h0 (by simp [outB, q])
    simp [c6, KL, g1, awake, h1, h2, e1, k18, f23_nil]
theorem yHd (x : Hd) : eqHd x.z x = true := by
  have := yNs x.ats
  simp [eqHd, Hd.z, this, eqSg, eqB]
theorem yDl (x : Dl) : eqDl x.z x = true := by
  have := yNs x.ad
  have := yNs x.rm
  simp [eqDl, Dl.z, *, eqB]
theorem rNs_z (s : Sl (List UInt8)) : rNs (s.z id) = rNs s := by simp [rNs, rL, Sl.z]
theorem law4 (x : Hd) (y : Dl) : (mu K).fn 4 [x.av, y.av] [] = some (.val (.bool true) []) := by
  let fr : List Blk := [.box 40 false x.av, .box 44 false y.av, .box 38 false (.agg [.str x.is, .str x.sc, .int .i64 x.ve, avNs x.ats, .str x.sg.a, .str x.sg.e, .str x.sg.v])]
  obtain ⟨b1, k1, p1⟩ := f11 x.ats [fr]
  obtain ⟨b2, k2, p2⟩ := f11 ⟨false, [x.sg.a, x.sg.e, x.sg.v, x.w, y.be, y.af, y.sg.a, y.sg.b]⟩ [fr]
  obtain ⟨b3, k3, p3⟩ := f11 y.ad [fr]
  obtain ⟨b4, k4, p4⟩ := f11 y.rm [fr]
  simp only [Sl.avS, lv_false, List.map_cons, List.map_nil, fr] at k2
  simp only [fr] at k1 k3 k4
  rw [fn_go (KX _ _ _) fn4 rfl (by simp [c4])]
  by_cases c1 : (100 : Int) < (x.is.length : Int)
  · simp [c4, KL, c1, awake]
  by_cases c2 : (100 : Int) < (x.sc.length : Int)
  · simp [c4, KL, c1, c2, awake]
  cases b1
  · simp [c4, KL, c1, c2, k1, awake]
  cases b2
  · simp [c4, KL, c1, c2, k1, k2, awake, List.replicate]
  cases b3
  · simp [c4, KL, c1, c2, k1, k2, k3, awake, List.replicate]
  cases b4
  · simp [c4, KL, c1, c2, k1, k2, k3, k4, awake, List.replicate]
  have hq := szHd (x := x) (by omega) (by omega) (p1 rfl) (p2 rfl)
  have hs := szDl (x := y) (p3 rfl) (p4 rfl) (p2 rfl)
  have hq2 : wts (rHd x) ≤ 900000 := by simp only [wts] at hq ⊢; omega
  have hs2 : wts (rDl y) ≤ 900000 := by simp only [wts] at hs ⊢; omega
  have g12 := fun h => f12 x hq2 h
  have g13 := fun h => f13 x (by omega) h
  have g14 := fun h => f14 y hs2 h
  have g15 := fun h => f15 y (by omega) h
  have w1 : wts (rHd x.z) ≤ 1000000 := by
    have e : wts (rHd x.z) = wts (rHd x) := by simp only [rHd, Hd.z, rNs_z]
    omega
  have w2 : wts (rDl y.z) ≤ 1000000 := by
    have e : wts (rDl y.z) = wts (rDl y) := by simp only [rDl, Dl.z, rNs_z]
    omega
  by_cases he : (pHd x).2 = 0
  · have g16 := fun h => f16 (pHd x).1 h
    rw [got_Hd x he] at g16
    have g17 := fun h => f17 x.z x w1 h
    rw [yHd x] at g17
    generalize pHd x = R at *
    by_cases hd : (pDl y).2 = 0
    · have g18 := fun h => f18 (pDl y).1 h
      rw [got_Dl y hd] at g18
      have g19 := fun h => f19 y.z y w2 h
      rw [yDl y] at g19
      generalize pDl y = S at *
      generalize x.z = xx at *
      generalize y.z = yy at *
      simp [c4, KL, c1, c2, k1, k2, k3, k4, awake, List.replicate, g12, g13, g14, g15, he, hd, g16, g17, g18, g19]
    · generalize pDl y = S at *
      generalize x.z = xx at *
      simp [c4, KL, c1, c2, k1, k2, k3, k4, awake, List.replicate, g12, g13, g14, g15, he, hd, g16, g17]
  · generalize pHd x = R at *
    by_cases hd : (pDl y).2 = 0
    · have g18 := fun h => f18 (pDl y).1 h
      rw [got_Dl y hd] at g18
      have g19 := fun h => f19 y.z y w2 h
      rw [yDl y] at g19
      generalize pDl y = S at *
      generalize y.z = yy at *
      simp [c4, KL, c1, c2, k1, k2, k3, k4, awake, List.replicate, g12, g13, g14, g15, he, hd, g18, g19]
    · generalize pDl y = S at *
      simp [c4, KL, c1, c2, k1, k2, k3, k4, awake, List.replicate, g12, g13, g14, g15, he, hd]
end Go.Ab.WireS

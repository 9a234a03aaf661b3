/-
  Integers as items; the law on them.
-/
import Derived.Test.YtggkoocpokfogaaAb08F19
set_option linter.unusedVariables false
set_option linter.unusedSimpArgs false
namespace Go.Ab.Enc
set_option maxRecDepth 100000
set_option maxHeartbeats 1000000

theorem natB_one : natB 1 = [1] := by
  unfold natB nat8
  simp [trim0]
theorem f40 (a : List UInt8) (h : Heap) : (mu K).fn 40 [.str a] h = some (.val (It.mk 0 a [] true []).av h) := by
  rw [fn_go (KX _ _ _) fn40 rfl (by simp [c40])]
  simp [c40, It.av, It.avs, lv]
theorem f39 (l : List It) (h : Heap) (hl : l.length ≤ 1000000) : (mu K).fn 39 [.lst (It.avs l)] h = some (.val (It.mk 2 [] [] true l).av h) := by
  rw [fn_go (KX _ _ _) fn39 rfl (by simp [c39])]
  cases l with
  | nil => simp [c39, It.av, It.avs, lv]
  | cons i r =>
    have hr1 : (r.length + 1) * 64 ≤ room := by simp at hl; unfold room; omega
    have hr2 : r.length + 1 ≤ room := by simp at hl; unfold room; omega
    have hz : ∀ x, x ∈ It.avs r → x.cells.length = 4 := by
      intro x hx
      rw [avs_map] at hx
      simp only [List.mem_map] at hx
      obtain ⟨j, _, rfl⟩ := hx
      exact av_cells j
    have hz2 : sized 4 (It.avs (i :: r)) = true := by
      simp only [sized, List.all_eq_true, It.avs]
      intro x hx
      rcases List.mem_cons.1 hx with rfl | hx
      · simp
      · simp [hz x hx]
    have hne : It.avs (i :: r) ≠ [] := by simp [It.avs]
    have hlen : (It.avs (i :: r)).length = r.length + 1 := by simp
    simp only [It.av, lv_lst true hne]
    generalize It.avs (i :: r) = A at *
    simp [-sized, c39, hz2, hne, hlen, hr1, hr2]
abbrev iav (neg : Bool) (a : List UInt8) : AV := .agg [.bool neg, .str a]
abbrev sg (neg : Bool) : List UInt8 := if neg then [1] else []
/-- An integer as an item, and as the reference makes it. -/
abbrev intI (neg : Bool) (a : List UInt8) : It := .mk 2 [] [] false [.mk 0 (sg neg) [] false [], .mk 0 a [] false []]
abbrev intR (neg : Bool) (a : List UInt8) : It := .mk 2 [] [] true [.mk 0 (sg neg) [] true [], .mk 0 a [] true []]
theorem f22 (neg : Bool) (a : List UInt8) (h : Heap) (ha : a.length ≤ 1000) : (mu K).fn 22 [iav neg a] h = some (.val (intI neg a).av h) := by
  have h38 := fun h => f38 1 h
  rw [natB_one] at h38
  simp only [Int.natCast_one] at h38
  have h20 := fun a h => f20 a h
  have ok : ∀ s : List UInt8, s.length ≤ 1 → okL [It.mk 0 s [] true [], It.mk 0 a [] true []] := fun s hs => ⟨⟨by omega, by simp, by simp, trivial⟩, ⟨by omega, by simp, by simp, trivial⟩, trivial⟩
  have h21 : ∀ (s : List UInt8) h, s.length ≤ 1 → (mu K).fn 21 [.lst [(It.mk 0 s [] true []).av, (It.mk 0 a [] true []).av]] h = some (.val (It.mk 2 [] [] false [.mk 0 s [] false [], .mk 0 a [] false []]).av h) := fun s h hs => by
    have := f21 false [.mk 0 s [] true [], .mk 0 a [] true []] h (ok s hs) (by simp) (by simp [wts, wt]; omega)
    simpa [It.avs, nms, nm] using this
  rw [fn_go (KX _ _ _) fn22 rfl (by simp [c22])]
  cases neg
  · simp [c22, KL, h38, h20, h21, List.replicate, intI, sg]
  · simp [c22, KL, h38, h20, h21, List.replicate, intI, sg]
theorem f25 (neg : Bool) (a : List UInt8) (h : Heap) : (mu K).fn 25 [iav neg a] h = some (.val (intR neg a).av h) := by
  have h40 := fun a h => f40 a h
  have h39 : ∀ (s : List UInt8) h, (mu K).fn 39 [.lst [(It.mk 0 s [] true []).av, (It.mk 0 a [] true []).av]] h = some (.val (It.mk 2 [] [] true [.mk 0 s [] true [], .mk 0 a [] true []]).av h) := fun s h => by
    have := f39 [.mk 0 s [] true [], .mk 0 a [] true []] h (by simp)
    simpa [It.avs] using this
  rw [fn_go (KX _ _ _) fn25 rfl (by simp [c25])]
  cases neg
  · simp [c25, KL, h40, h39, List.replicate, intR, sg]
  · simp [c25, KL, h40, h39, List.replicate, intR, sg]
/-- The integer of an item. -/
def toI : It → Bool × List UInt8 × Bool
  | .mk k n t nl l => if vld (.mk k n t nl l) = true ∧ k = 2 then (match l with
    | [.mk k1 s _ _ _, .mk k2 a _ _ _] => if k1 = 0 ∧ k2 = 0 then (if s = [] then (false, a, true) else if s = [1] ∧ a ≠ [] then (true, a, true) else (false, [], false)) else (false, [], false)
    | _ => (false, [], false)) else (false, [], false)
theorem f23 (i : It) (h : Heap) (ok : okI i) : (mu K).fn 23 [i.av] h = some (.val (.tup [iav (toI i).1 (toI i).2.1, .bool (toI i).2.2]) h) := by
  have h28 := fun h => f28 i h ok
  have h38 := fun h => f38 1 h
  rw [natB_one] at h38
  simp only [Int.natCast_one] at h38
  rw [fn_go (KX _ _ _) fn23 rfl (by simp [c23])]
  obtain ⟨k, n, t, nl, l⟩ := i
  by_cases hv : vld (.mk k n t nl l) = true
  · rw [hv] at h28
    simp only [It.av] at h28
    by_cases hk : k = 2
    · subst hk
      match l with
      | [] =>
        simp only [It.avs, lv] at h28
        cases nl <;> simp at h28 <;> simp [c23, KL, It.av, It.avs, h28, toI, hv, lv]
      | [x] =>
        simp only [It.avs, lv] at h28
        simp [c23, KL, It.av, It.avs, h28, toI, hv, lv]
      | [.mk k1 s t1 nl1 l1, .mk k2 a t2 nl2 l2] =>
        simp only [It.avs, It.av, lv] at h28
        by_cases hk1 : k1 = 0
        · subst hk1
          by_cases hk2 : k2 = 0
          · subst hk2
            by_cases hs : s = []
            · subst hs
              simp [c23, KL, It.av, It.avs, h28, h38, toI, hv, lv]
            · by_cases hs1 : s = [1]
              · subst hs1
                by_cases ha : a = []
                · subst ha
                  simp [c23, KL, It.av, It.avs, h28, h38, toI, hv, lv]
                · simp [c23, KL, It.av, It.avs, h28, h38, toI, hv, lv, ha]
              · simp [c23, KL, It.av, It.avs, h28, h38, toI, hv, lv, hs, hs1]
          · simp [c23, KL, It.av, It.avs, h28, toI, hv, lv, hk2]
        · simp [c23, KL, It.av, It.avs, h28, toI, hv, lv, hk1]
      | x :: y :: z :: r =>
        simp only [It.avs, lv] at h28
        have h3 : ¬ ((r.length : Int) + 1 + 1 + 1 = 2) := by omega
        simp [c23, KL, It.av, It.avs, h28, toI, hv, lv, h3]
    · simp [c23, KL, It.av, h28, toI, hk]
  · simp only [Bool.not_eq_true] at hv
    rw [hv] at h28
    simp only [It.av] at h28
    simp [c23, KL, It.av, h28, toI, hv]
theorem f24 (i : It) (h : Heap) (ok : okI i) : (mu K).fn 24 [i.av] h = some (.val (.tup [iav (toI i).1 (toI i).2.1, .bool (toI i).2.2]) h) := by
  have h28 := fun h => f31 i h ok
  have h38 := fun h => f38 1 h
  rw [natB_one] at h38
  simp only [Int.natCast_one] at h38
  rw [fn_go (KX _ _ _) fn24 rfl (by simp [c24])]
  obtain ⟨k, n, t, nl, l⟩ := i
  by_cases hv : vld (.mk k n t nl l) = true
  · rw [hv] at h28
    simp only [It.av] at h28
    by_cases hk : k = 2
    · subst hk
      match l with
      | [] =>
        simp only [It.avs, lv] at h28
        cases nl <;> simp at h28 <;> simp [c24, KL, It.av, It.avs, h28, toI, hv, lv]
      | [x] =>
        simp only [It.avs, lv] at h28
        simp [c24, KL, It.av, It.avs, h28, toI, hv, lv]
      | [.mk k1 s t1 nl1 l1, .mk k2 a t2 nl2 l2] =>
        simp only [It.avs, It.av, lv] at h28
        by_cases hk1 : k1 = 0
        · subst hk1
          by_cases hk2 : k2 = 0
          · subst hk2
            by_cases hs : s = []
            · subst hs
              simp [c24, KL, It.av, It.avs, h28, h38, toI, hv, lv]
            · by_cases hs1 : s = [1]
              · subst hs1
                by_cases ha : a = []
                · subst ha
                  simp [c24, KL, It.av, It.avs, h28, h38, toI, hv, lv]
                · simp [c24, KL, It.av, It.avs, h28, h38, toI, hv, lv, ha]
              · simp [c24, KL, It.av, It.avs, h28, h38, toI, hv, lv, hs, hs1]
          · simp [c24, KL, It.av, It.avs, h28, toI, hv, lv, hk2]
        · simp [c24, KL, It.av, It.avs, h28, toI, hv, lv, hk1]
      | x :: y :: z :: r =>
        simp only [It.avs, lv] at h28
        have h3 : ¬ ((r.length : Int) + 1 + 1 + 1 = 2) := by omega
        simp [c24, KL, It.av, It.avs, h28, toI, hv, lv, h3]
    · simp [c24, KL, It.av, h28, toI, hk]
  · simp only [Bool.not_eq_true] at hv
    rw [hv] at h28
    simp only [It.av] at h28
    simp [c24, KL, It.av, h28, toI, hv]

theorem vld_intI (neg : Bool) (a : List UInt8) : vld (intI neg a) = canon a := by
  cases neg <;> simp [vld, vlds, canon, sg]
theorem toI_intI (neg : Bool) (a : List UInt8) : toI (intI neg a) = if canon a = true ∧ (neg = true → a ≠ []) then (neg, a, true) else (false, [], false) := by
  simp only [toI, vld_intI]
  cases neg
  · by_cases hc : canon a = true
    · simp [hc]
    · simp [hc]
  · by_cases hc : canon a = true
    · by_cases ha : a = []
      · subst ha; simp
      · simp [hc, ha]
    · simp [hc]
theorem sm_int (neg : Bool) (a : List UInt8) : sm (intI neg a) (intR neg a) = true := by simp [sm, sms]
end Go.Ab.Enc

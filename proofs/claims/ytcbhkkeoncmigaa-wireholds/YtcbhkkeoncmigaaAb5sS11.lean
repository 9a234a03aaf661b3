/-
  Held credentials and deltas: sameness.
-/
import Derived.Test.YtcbhkkeoncmigaaAb5sS8
set_option linter.unusedVariables false
set_option linter.unusedSimpArgs false
set_option linter.unusedSectionVars false
namespace Go.Ab.WireS
set_option maxRecDepth 100000
set_option maxHeartbeats 1000000
abbrev eqHd (a b : Hd) : Bool := eqB a.is b.is && (eqB a.sc b.sc && (decide (a.ve = b.ve) && (eqNs a.ats b.ats && (eqSg a.sg b.sg && (decide (a.e = b.e) && eqB a.w b.w)))))
theorem f17 (a b : Hd) (ha : wts (rHd a) ≤ 1000000) (h : Heap) : (mu K).fn 17 [a.av, b.av] h = some (.val (.bool (eqHd a b)) h) := by
  simp only [wts] at ha
  have v1 : wt (rNs a.ats) ≤ 1000000 := by omega
  have k1 := fun h => f49 a.ats b.ats (len_rL v1) h
  have ba := beq_Ns a.ats
  have bb := beq_Ns b.ats
  rw [fn_go (KX _ _ _) fn17 rfl (by simp [c17])]
  by_cases p1 : a.is = b.is
  case neg => simp [c17, KL, k1, eqF, eqFs, p1, ba, bb]
  by_cases p2 : a.sc = b.sc
  case neg => simp [c17, KL, k1, eqF, eqFs, p1, p2, ba, bb]
  by_cases p3 : a.ve = b.ve
  case neg => simp [c17, KL, k1, eqF, eqFs, p1, p2, p3, ba, bb]
  cases c0 : eqNs a.ats b.ats
  case false => simp [c17, KL, k1, eqF, eqFs, c0, p1, p2, p3, ba, bb]
  by_cases c1 : a.sg.a = b.sg.a ∧ a.sg.e = b.sg.e ∧ a.sg.v = b.sg.v
  case neg =>
    have n1 : (decide (a.sg.a = b.sg.a) && (decide (a.sg.e = b.sg.e) && decide (a.sg.v = b.sg.v))) = false := by simpa using c1
    simp [c17, KL, k1, eqF, eqFs, c0, n1, p1, p2, p3, ba, bb]
  by_cases c2 : a.e = b.e
  case neg => simp [c17, KL, k1, eqF, eqFs, c0, c1, c2, p1, p2, p3, ba, bb]
  simp [c17, KL, k1, eqF, eqFs, c0, c1, c2, p1, p2, p3, ba, bb]
  try simp_all [eqHd, eqSg, eqB]
abbrev eqDl (a b : Dl) : Bool := decide (a.f = b.f) && (decide (a.t = b.t) && (eqNs a.ad b.ad && (eqNs a.rm b.rm && (eqB a.be b.be && (eqB a.af b.af && (eqB a.sg.a b.sg.a && eqB a.sg.b b.sg.b))))))
theorem f19 (a b : Dl) (ha : wts (rDl a) ≤ 1000000) (h : Heap) : (mu K).fn 19 [a.av, b.av] h = some (.val (.bool (eqDl a b)) h) := by
  simp only [wts] at ha
  have v1 : wt (rNs a.ad) ≤ 1000000 := by omega
  have v2 : wt (rNs a.rm) ≤ 1000000 := by omega
  have k1 := fun h => f49 a.ad b.ad (len_rL v1) h
  have k2 := fun h => f49 a.rm b.rm (len_rL v2) h
  rw [fn_go (KX _ _ _) fn19 rfl (by simp [c19])]
  by_cases p1 : a.f = b.f
  case neg => simp [c19, KL, k1, k2, eqF, eqFs, p1]
  by_cases p2 : a.t = b.t
  case neg => simp [c19, KL, k1, k2, eqF, eqFs, p1, p2]
  cases c0 : eqNs a.ad b.ad
  case false => simp [c19, KL, k1, k2, eqF, eqFs, c0, p1, p2]
  cases c3 : eqNs a.rm b.rm
  case false => simp [c19, KL, k1, k2, eqF, eqFs, c0, c3, p1, p2]
  by_cases c1 : a.be = b.be
  case neg => simp [c19, KL, k1, k2, eqF, eqFs, c0, c1, c3, p1, p2]
  by_cases c2 : a.af = b.af
  case neg => simp [c19, KL, k1, k2, eqF, eqFs, c0, c1, c2, c3, p1, p2]
  simp [c19, KL, k1, k2, eqF, eqFs, c0, c1, c2, c3, p1, p2]
  try simp_all [eqDl, eqB]
end Go.Ab.WireS

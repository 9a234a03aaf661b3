/-
  Held credentials and deltas: the reference's writing, sameness, comparison of numbers.
-/
import Derived.Test.YtcbhkkeoncmigaaAb5sS3
import Derived.Test.YtcbhkkeoncmigaaAb5sS8
import Derived.Test.YtcbhkkeoncmigaaAb5sT1
set_option linter.unusedVariables false
set_option linter.unusedSimpArgs false
set_option linter.unusedSectionVars false
namespace Go.Ab.WireS
set_option maxRecDepth 100000
set_option maxHeartbeats 1000000
abbrev frH (x : Hd) : List Blk := [.box 40 false x.av, .box 84 false (.agg [.bool false, .bool false]), .box 38 false (.agg [.str x.is, .str x.sc, .int .i64 x.ve, avNs x.ats, .str x.sg.a, .str x.sg.e, .str x.sg.v])]
theorem f13 (x : Hd) (hx : wts (tI kHd :: rHd x) ≤ 900000) (h : Heap) : (mu K).fn 13 [x.av] h = some (.val (.tup [.str (pHd x).1, .int .i64 (pHd x).2]) h) := by
  have hx0 := hx
  simp only [wts] at hx
  have k82 := fun a h => f30 a h
  have k1 := fun (f l : Bool) => u91 (frH x :: h) (h.length, 1) (by simp [dom, hget]) f l x.ve trivial
  simp only [WR, hset, if_true, List.set_cons_succ, List.set_cons_zero] at k1
  have h0 : wt (rNs x.ats) ≤ 900000 := by omega
  have k0 := fun (f l : Bool) => u89 (frH x :: h) (h.length, 1) (by simp [dom, hget]) f l x.ats h0
  simp only [WR, hset, if_true, List.set_cons_succ, List.set_cons_zero] at k0
  have h2 : wt (rSg x.sg) ≤ 900000 := by omega
  have k2 := fun (f l : Bool) => u90 (frH x :: h) (h.length, 1) (by simp [dom, hget]) f l x.sg h2
  simp only [WR, hset, if_true, List.set_cons_succ, List.set_cons_zero] at k2
  have k3 := fun (f l : Bool) => u91 (frH x :: h) (h.length, 1) (by simp [dom, hget]) f l x.e trivial
  simp only [WR, hset, if_true, List.set_cons_succ, List.set_cons_zero] at k3
  have k4 := fun (f l : Bool) => u83 (frH x :: h) (h.length, 1) (by simp [dom, hget]) f l x.w trivial
  simp only [WR, hset, if_true, List.set_cons_succ, List.set_cons_zero] at k4
  have kf := fun (f l : Bool) => f29 (tI kHd :: rHd x) (frH x :: h) (h.length, 1) (by simp [dom, hget]) f l hx0
  simp only [WR, hset, if_true, List.set_cons_succ, List.set_cons_zero, It.avs] at kf
  unfold pHd
  rw [fn_go (KX _ _ _) fn13 rfl (by simp [c13])]
  simp [c13, KL, k82, k0, k1, k2, k3, k4, kf, no, List.replicate, Bool.or_assoc, beq_Ns, beq_Is, beq_Nss, beq_Iss, beq_Shs]
  try simp [bHd, oHd, bSg, bPf, Bool.or_assoc]
abbrev frD (x : Dl) : List Blk := [.box 44 false x.av, .box 84 false (.agg [.bool false, .bool false])]
theorem f15 (x : Dl) (hx : wts (tI kDl :: rDl x) ≤ 900000) (h : Heap) : (mu K).fn 15 [x.av] h = some (.val (.tup [.str (pDl x).1, .int .i64 (pDl x).2]) h) := by
  have hx0 := hx
  simp only [wts] at hx
  have k82 := fun a h => f30 a h
  have k0 := fun (f l : Bool) => u91 (frD x :: h) (h.length, 1) (by simp [dom, hget]) f l x.f trivial
  simp only [WR, hset, if_true, List.set_cons_succ, List.set_cons_zero] at k0
  have k1 := fun (f l : Bool) => u91 (frD x :: h) (h.length, 1) (by simp [dom, hget]) f l x.t trivial
  simp only [WR, hset, if_true, List.set_cons_succ, List.set_cons_zero] at k1
  have h2 : wt (rNs x.ad) ≤ 900000 := by omega
  have k2 := fun (f l : Bool) => u89 (frD x :: h) (h.length, 1) (by simp [dom, hget]) f l x.ad h2
  simp only [WR, hset, if_true, List.set_cons_succ, List.set_cons_zero] at k2
  have h3 : wt (rNs x.rm) ≤ 900000 := by omega
  have k3 := fun (f l : Bool) => u89 (frD x :: h) (h.length, 1) (by simp [dom, hget]) f l x.rm h3
  simp only [WR, hset, if_true, List.set_cons_succ, List.set_cons_zero] at k3
  have k4 := fun (f l : Bool) => u83 (frD x :: h) (h.length, 1) (by simp [dom, hget]) f l x.be trivial
  simp only [WR, hset, if_true, List.set_cons_succ, List.set_cons_zero] at k4
  have k5 := fun (f l : Bool) => u83 (frD x :: h) (h.length, 1) (by simp [dom, hget]) f l x.af trivial
  simp only [WR, hset, if_true, List.set_cons_succ, List.set_cons_zero] at k5
  have h6 : wt (rNs ⟨false, [x.sg.a, x.sg.b]⟩) ≤ 900000 := by omega
  have k6 := fun (f l : Bool) => u89 (frD x :: h) (h.length, 1) (by simp [dom, hget]) f l ⟨false, [x.sg.a, x.sg.b]⟩ h6
  simp only [WR, hset, if_true, List.set_cons_succ, List.set_cons_zero, avNs, Sl.avS, lv_false, List.map_cons, List.map_nil] at k6
  have kf := fun (f l : Bool) => f29 (tI kDl :: rDl x) (frD x :: h) (h.length, 1) (by simp [dom, hget]) f l hx0
  simp only [WR, hset, if_true, List.set_cons_succ, List.set_cons_zero, It.avs] at kf
  unfold pDl
  rw [fn_go (KX _ _ _) fn15 rfl (by simp [c15])]
  simp [c15, KL, k82, k0, k1, k2, k3, k4, k5, k6, kf, no, List.replicate, Bool.or_assoc, beq_Ns, beq_Is, beq_Nss, beq_Iss, beq_Shs]
  try simp [bDl, oDl, bSg, bPf, Bool.or_assoc]
end Go.Ab.WireS

/-
  Weights; encoding.
-/
import Derived.Test.YtggkoocpokfogaaAb08F6
set_option linter.unusedVariables false
set_option linter.unusedSimpArgs false
namespace Go.Ab.Enc
attribute [local simp] evC evOps evD
set_option maxRecDepth 100000
set_option maxHeartbeats 1000000

mutual
def wg : It → Nat → Nat
  | .mk k n t nl l, m => wgs l (m + (1 + min 400 (n.length + t.length)))
def wgs : List It → Nat → Nat
  | [], m => m
  | i :: r, m => if m < 400 then wgs r (wg i m) else m
end
mutual
def wt : It → Nat
  | .mk k n t nl l => 1 + n.length + t.length + wts l
def wts : List It → Nat
  | [] => 0
  | i :: r => wt i + wts r
end
mutual
theorem wg_ge : ∀ (i : It) (m : Nat), m ≤ wg i m
  | .mk k n t nl l, m => by
    have := wgs_ge l (m + (1 + min 400 (n.length + t.length)))
    simp only [wg]; omega
theorem wgs_ge : ∀ (l : List It) (m : Nat), m ≤ wgs l m
  | [], m => by simp [wgs]
  | i :: r, m => by
    have h1 := wg_ge i m
    have h2 := wgs_ge r (wg i m)
    simp only [wgs]
    split <;> omega
end
mutual
theorem wg_eq : ∀ (i : It) (m : Nat), wg i m < 400 → wg i m = m + wt i
  | .mk k n t nl l, m, h => by
    simp only [wg] at h ⊢
    have h1 := wgs_ge l (m + (1 + min 400 (n.length + t.length)))
    rw [wgs_eq l _ h]
    simp only [wt]
    omega
theorem wgs_eq : ∀ (l : List It) (m : Nat), wgs l m < 400 → wgs l m = m + wts l
  | [], m, h => by simp [wgs, wts]
  | i :: r, m, h => by
    have h1 := wg_ge i m
    have h2 := wgs_ge r (wg i m)
    simp only [wgs] at h ⊢
    split at h
    · rename_i h0
      rw [if_pos h0, wgs_eq r _ h, wg_eq i m (by omega)]
      simp only [wts]; omega
    · omega
end
mutual
theorem wg_le : ∀ (i : It) (m : Nat), m < 400 → wg i m ≤ 1000
  | .mk k n t nl l, m, h => by
    simp only [wg]
    exact wgs_le l _ (by omega)
theorem wgs_le : ∀ (l : List It) (m : Nat), m ≤ 1000 → wgs l m ≤ 1000
  | [], m, h => by simpa [wgs] using h
  | i :: r, m, h => by
    simp only [wgs]
    split
    · rename_i h0; exact wgs_le r _ (wg_le i m h0)
    · exact h
end
theorem mm_min (b : Nat) : mmList false (.int .i64 (400 : Int)) [.int .i64 (b : Int)] = some (.int .i64 ((min 400 b : Nat) : Int)) := by
  simp only [mmList, Bool.false_eq_true, if_false]
  congr 2
  split <;> omega
def R26 (k : Int) (n t : List UInt8) (nl : Bool) (l : List It) (j m : Nat) (r : List It) (h : Heap) : Prop :=
  ∃ e, (mu K).code (.loopAt 1 [1, 2, 5] l26_0) { env := [(1, .int .i64 m), (2, .ptr (h.length, 0) 0), (5, .int .i64 j)], h := [ibox k n t nl l] :: h } =
    some (.exit 0, { env := (1, .int .i64 (wgs r m)) :: (2, .ptr (h.length, 0) 0) :: e, h := [ibox k n t nl l] :: h })
theorem f26nil (k : Int) (n t : List UInt8) (nl : Bool) (l : List It) (m : Nat) (h : Heap) : R26 k n t nl l l.length m [] h := by
  unfold R26
  rw [loop_at]
  simp [l26_0, wgs, ibox]
theorem f26stop (k : Int) (n t : List UInt8) (nl : Bool) (pre : List It) (i : It) (r : List It) (m : Nat) (h : Heap) (hm : ¬ m < 400) : R26 k n t nl (pre ++ i :: r) pre.length m (i :: r) h := by
  have hl : (pre.length : Int) < ((pre ++ i :: r).length : Int) := by simp; omega
  have hm' : ¬ (m : Int) < 400 := by omega
  generalize hL : pre ++ i :: r = L at *
  unfold R26
  rw [loop_at]
  simp [l26_0, wgs, ibox, hl, hm, hm']
theorem f26cons (k : Int) (n t : List UInt8) (nl : Bool) (pre : List It) (i : It) (r : List It) (m : Nat) (h : Heap) (hb : (pre ++ i :: r).length ≤ 140737488355328) (hm : m < 400) (hi : ∀ h, (mu K).fn 26 [i.av, .int .i64 m] h = some (.val (.int .i64 (wg i m)) h))
    (hr : R26 k n t nl (pre ++ i :: r) (pre.length + 1) (wg i m) r h) : R26 k n t nl (pre ++ i :: r) pre.length m (i :: r) h := by
  have hl : (pre.length : Int) < ((pre ++ i :: r).length : Int) := by simp; omega
  have hl2 : lv nl (It.avs (pre ++ i :: r)) = .lst (It.avs (pre ++ i :: r)) := lv_lst nl (by rw [avs_map]; simp)
  have hwr : IntKind.i64.wrap ((pre.length : Int) + 1) = (pre.length : Int) + 1 := idx_wrap (by simp : pre.length < (pre ++ i :: r).length) hb
  have hg := avs_get pre i r
  have hm' : (m : Int) < 400 := by omega
  generalize hL : pre ++ i :: r = L at *
  unfold R26 at *
  rw [loop_at]
  generalize (mu K).code (CC.loopAt 1 [1, 2, 5] l26_0) = F at hr ⊢
  simp [l26_0, ibox, hl, hl2, hg, KL, hi, hwr, hm, hm', wgs, cut, cutE, Blk.refOk] at hr ⊢
  exact hr
mutual
theorem f26 : ∀ (i : It) (m : Nat) (h : Heap), okI i → m < 400 → (mu K).fn 26 [i.av, .int .i64 m] h = some (.val (.int .i64 (wg i m)) h)
  | .mk k n t nl l, m, h, ok, hm => by
    simp only [okI] at ok
    obtain ⟨e, hl⟩ := f26l l [] k n t nl (m + (1 + min 400 (n.length + t.length))) h ok.2.2.2 (by simpa using ok.2.2.1)
    rw [fn_code (KX _ _ _) fn26 rfl (by simp [c26])]
    have e1 : IntKind.i64.wrap ((n.length : Int) + (t.length : Int)) = ((n.length + t.length : Nat) : Int) := by rw [wrap64 (by omega) (by omega)]; omega
    have e2 := mm_min (n.length + t.length)
    have e3 : IntKind.i64.wrap (1 + ((min 400 (n.length + t.length) : Nat) : Int)) = ((1 + min 400 (n.length + t.length) : Nat) : Int) := by rw [wrap64 (by omega) (by omega)]; omega
    have e4 : IntKind.i64.wrap ((m : Int) + ((1 + min 400 (n.length + t.length) : Nat) : Int)) = ((m + (1 + min 400 (n.length + t.length)) : Nat) : Int) := by rw [wrap64 (by omega) (by omega)]; omega
    simp only [List.nil_append, List.length_nil, ibox, Int.natCast_zero] at hl
    rw [wg]
    generalize m + (1 + min 400 (n.length + t.length)) = M at *
    generalize 1 + min 400 (n.length + t.length) = A at *
    generalize min 400 (n.length + t.length) = B at *
    generalize n.length + t.length = C at *
    simp [c26, It.av, KL, hl, e1, e2, e3, e4, get_set]
theorem f26l : ∀ (r pre : List It) (k : Int) (n t : List UInt8) (nl : Bool) (m : Nat) (h : Heap), okL r → (pre ++ r).length ≤ 140737488355328 → R26 k n t nl (pre ++ r) pre.length m r h
  | [], pre, k, n, t, nl, m, h, ok, hb => by
    have := f26nil k n t nl pre m h
    simpa using this
  | i :: r, pre, k, n, t, nl, m, h, ok, hb => by
    simp only [okL] at ok
    by_cases hm : m < 400
    · have := f26l r (pre ++ [i]) k n t nl (wg i m) h ok.2 (by simpa using hb)
      exact f26cons k n t nl pre i r m h hb hm (fun h => f26 i m h ok.1 hm) (by simpa using this)
    · exact f26stop k n t nl pre i r m h hm
end
theorem f11 (i : It) (h : Heap) (ok : okI i) : (mu K).fn 11 [i.av] h = some (.val (.bool (decide (wg i 0 < 400))) h) := by
  have h26 : ∀ h, (mu K).fn 26 [i.av, .int .i64 0] h = some (.val (.int .i64 (wg i 0)) h) := fun h => f26 i 0 h ok (by omega)
  rw [fn_code (KX _ _ _) fn11 rfl (by simp [c11])]
  have e : ((wg i 0 : Int) < 400) ↔ wg i 0 < 400 := by omega
  simp [c11, KL, h26, e]

/-- What Encode returns. -/
def enc (i : It) : List UInt8 × Int := if vld i = false then ([], 3) else if 32 < dep i then ([], 7) else if 65536 < (wr i).length then ([], 5) else (wr i, 0)
theorem f13 (i : It) (h : Heap) (ok : okI i) (hd : dep i ≤ 1000000) (hw : (wr i).length ≤ 1099511627776) : (mu K).fn 13 [i.av] h = some (.val (.tup [.str (enc i).1, .int .i64 (enc i).2]) h) := by
  have h28 := fun h => f28 i h ok
  have h29 := fun h => f29 i h ok hd
  have h30 := fun h => f30 i h hw
  rw [fn_code (KX _ _ _) fn13 rfl (by simp [c13])]
  have e1 : ((32 : Int) < (dep i : Int)) ↔ 32 < dep i := by omega
  have e2 : ((65536 : Int) < ((wr i).length : Int)) ↔ 65536 < (wr i).length := by omega
  by_cases hv : vld i = true
  · by_cases h1 : 32 < dep i
    · simp [c13, KL, h28, h29, h30, hv, h1, e1, enc]
    · by_cases h2 : 65536 < (wr i).length
      · simp [c13, KL, h28, h29, h30, hv, h1, h2, e1, e2, enc]
      · simp [c13, KL, h28, h29, h30, hv, h1, h2, e1, e2, enc]
  · simp [c13, KL, h28, h29, h30, hv, enc]
theorem f14 (i : It) (h : Heap) (ok : okI i) (hd : dep i ≤ 1000000) (hw : (wr i).length ≤ 1099511627776) : (mu K).fn 14 [i.av] h = some (.val (.tup [.str (enc i).1, .int .i64 (enc i).2]) h) := by
  have h28 := fun h => f31 i h ok
  have h29 := fun h => f32 i h ok hd
  have h30 := fun h => f33 i h hw
  rw [fn_code (KX _ _ _) fn14 rfl (by simp [c14])]
  have e1 : ((32 : Int) < (dep i : Int)) ↔ 32 < dep i := by omega
  have e2 : ((65536 : Int) < ((wr i).length : Int)) ↔ 65536 < (wr i).length := by omega
  by_cases hv : vld i = true
  · by_cases h1 : 32 < dep i
    · simp [c14, KL, h28, h29, h30, hv, h1, e1, enc]
    · by_cases h2 : 65536 < (wr i).length
      · simp [c14, KL, h28, h29, h30, hv, h1, h2, e1, e2, enc]
      · simp [c14, KL, h28, h29, h30, hv, h1, h2, e1, e2, enc]
  · simp [c14, KL, h28, h29, h30, hv, enc]
end Go.Ab.Enc

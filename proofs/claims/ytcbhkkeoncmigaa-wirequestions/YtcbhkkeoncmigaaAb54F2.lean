/-
  The reference's validity; depths.
-/
import Derived.Test.YtcbhkkeoncmigaaAb54F1
set_option linter.unusedVariables false
set_option linter.unusedSimpArgs false
namespace Go.Ab.Wire
attribute [local simp] evC evOps evD
set_option maxRecDepth 100000
set_option maxHeartbeats 1000000

theorem idx_wrap {j m : Nat} (hj : j < m) (hm : m ≤ 140737488355328) : IntKind.i64.wrap ((j : Int) + 1) = (j : Int) + 1 := wrap64 (by omega) (by omega)

theorem f102a (n t : List UInt8) (nl : Bool) (l : List It) (h : Heap) : (mu K).fn 102 [(It.mk 0 n t nl l).av] h = some (.val (.bool (vld (.mk 0 n t nl l))) h) := by
  rw [fn_code (KX _ _ _) fn102 rfl (by simp [c102])]
  by_cases hc : canon n = true
  · by_cases ht : t = []
    · simp [c102, It.av, f117, KL, hc, ht, vld, len0]
    · simp [c102, It.av, f117, KL, hc, ht, vld]
  · simp [c102, It.av, f117, KL, hc, vld]
theorem f102b (n t : List UInt8) (nl : Bool) (l : List It) (h : Heap) : (mu K).fn 102 [(It.mk 1 n t nl l).av] h = some (.val (.bool (vld (.mk 1 n t nl l))) h) := by
  rw [fn_code (KX _ _ _) fn102 rfl (by simp [c102])]
  by_cases hc : n = []
  · simp [c102, It.av, KL, hc, vld, len0]
  · simp [c102, It.av, KL, hc, vld]
theorem f102d (k : Int) (h0 : k ≠ 0) (h1 : k ≠ 1) (h2 : k ≠ 2) (n t : List UInt8) (nl : Bool) (l : List It) (h : Heap) : (mu K).fn 102 [(It.mk k n t nl l).av] h = some (.val (.bool (vld (.mk k n t nl l))) h) := by
  rw [fn_code (KX _ _ _) fn102 rfl (by simp [c102])]
  simp [c102, It.av, KL, h0, h1, h2, vld]
/-- An item in a variable of its own. -/
def ibox (k : Int) (n t : List UInt8) (nl : Bool) (l : List It) : Blk := .box 78 false (.agg [.int .i64 k, .str n, .str t, lv nl (It.avs l)])
def R31 (k : Int) (n t : List UInt8) (nl : Bool) (l : List It) (j : Nat) (r : List It) (h : Heap) : Prop :=
  (vlds r = true → (mu K).code (.loopAt 1 [1, 3] l102_0) { env := [(1, .ptr (h.length, 0) 0), (3, .int .i64 j)], h := [ibox k n t nl l] :: h } =
    some (.exit 1, { env := [(1, .ptr (h.length, 0) 0), (3, .int .i64 l.length), (35, .int .i64 l.length), (36, .ptr (h.length, 0) 3), (37, lv nl (It.avs l)), (38, .int .i64 l.length), (39, .bool false)], h := [ibox k n t nl l] :: h })) ∧
  (vlds r = false → ∃ e f, (mu K).code (.loopAt 1 [1, 3] l102_0) { env := [(1, .ptr (h.length, 0) 0), (3, .int .i64 j)], h := [ibox k n t nl l] :: h } = some (.ret, { env := e, h := f :: h }) ∧ get e 2 = .bool false)
theorem f102nil (k : Int) (n t : List UInt8) (nl : Bool) (l : List It) (h : Heap) : R31 k n t nl l l.length [] h := by
  refine ⟨fun _ => ?_, fun e => by simp [vlds] at e⟩
  rw [loop_at]
  simp [l102_0, ibox]
theorem f102cons (k : Int) (n t : List UInt8) (nl : Bool) (pre : List It) (i : It) (r : List It) (h : Heap) (hb : (pre ++ i :: r).length ≤ 140737488355328) (hi : ∀ h, (mu K).fn 102 [i.av] h = some (.val (.bool (vld i)) h))
    (hr : R31 k n t nl (pre ++ i :: r) (pre.length + 1) r h) : R31 k n t nl (pre ++ i :: r) pre.length (i :: r) h := by
  have hl : (pre.length : Int) < ((pre ++ i :: r).length : Int) := by simp; omega
  have hl2 : lv nl (It.avs (pre ++ i :: r)) = .lst (It.avs (pre ++ i :: r)) := lv_lst nl (by rw [avs_map]; simp)
  have hw : IntKind.i64.wrap ((pre.length : Int) + 1) = (pre.length : Int) + 1 := idx_wrap (by simp : pre.length < (pre ++ i :: r).length) hb
  have hg := avs_get pre i r
  generalize hL : pre ++ i :: r = L at *
  unfold R31 at *
  rw [loop_at]
  generalize (mu K).code (CC.loopAt 1 [1, 3] l102_0) = F at hr ⊢
  by_cases hv : vld i = true
  · have e1 : vlds (i :: r) = vlds r := by simp [vlds, hv]
    rw [e1]
    simp [l102_0, ibox, hl, hl2, hg, KL, hi, hv, hw, cut, cutE, Blk.refOk] at hr ⊢
    exact hr
  · have e1 : vlds (i :: r) = false := by simp [vlds, hv]
    rw [e1]
    simp [l102_0, ibox, hl, hl2, hg, KL, hi, hv, hw]
mutual
theorem f102 : ∀ (i : It) (h : Heap), okI i → (mu K).fn 102 [i.av] h = some (.val (.bool (vld i)) h)
  | .mk k n t nl l, h, ok => by
    by_cases k0 : k = 0
    · subst k0; exact f102a n t nl l h
    by_cases k1 : k = 1
    · subst k1; exact f102b n t nl l h
    by_cases k2 : k = 2
    · subst k2
      simp only [okI] at ok
      have hl := f102l l [] 2 n t nl h ok.2.2.2 (by simpa using ok.2.2.1)
      rw [fn_code (KX _ _ _) fn102 rfl (by simp [c102])]
      unfold R31 at hl
      simp only [List.nil_append, List.length_nil, ibox, Int.natCast_zero] at hl
      by_cases hv : vlds l = true
      · have := hl.1 hv
        rcases n with _ | ⟨b, n⟩
        · simp [c102, It.av, vld, KL, this, hv]
        · simp [c102, It.av, vld, KL, this, hv]
      · simp only [Bool.not_eq_true] at hv
        obtain ⟨e, f, h1, h2⟩ := hl.2 hv
        simp [c102, It.av, vld, KL, h1, h2, hv]
    · exact f102d k k0 k1 k2 n t nl l h
theorem f102l : ∀ (r pre : List It) (k : Int) (n t : List UInt8) (nl : Bool) (h : Heap), okL r → (pre ++ r).length ≤ 140737488355328 → R31 k n t nl (pre ++ r) pre.length r h
  | [], pre, k, n, t, nl, h, ok, hb => by
    have := f102nil k n t nl pre h
    simpa using this
  | i :: r, pre, k, n, t, nl, h, ok, hb => by
    simp only [okL] at ok
    have := f102l r (pre ++ [i]) k n t nl h ok.2 (by simpa using hb)
    exact f102cons k n t nl pre i r h hb (fun h => f102 i h ok.1) (by simpa using this)
end

mutual
def dep : It → Nat
  | .mk k n t nl l => if k = 2 then deps l + 1 else 0
def deps : List It → Nat
  | [] => 0
  | i :: r => max (dep i) (deps r)
end
theorem mm_max (a b : Nat) : (if ((b : Int) > (a : Int)) then (b : Int) else (a : Int)) = ((max a b : Nat) : Int) := by
  split <;> omega
theorem mmList_max (a b : Nat) : mmList true (.int .i64 (a : Int)) [.int .i64 (b : Int)] = some (.int .i64 ((max a b : Nat) : Int)) := by
  simp only [mmList, if_true, mm_max]
def R29 (it : It) (nl : Bool) (l : List It) (j m : Nat) (r : List It) (h : Heap) : Prop :=
  (mu K).code (.loopAt 1 [3, 10, 11, 12] l98_0) { env := [(3, .int .i64 m), (10, lv nl (It.avs l)), (11, .int .i64 l.length), (12, .int .i64 j)], h := [.box 78 false it.av] :: h } =
    some (.exit 0, { env := [(3, .int .i64 ((max m (deps r) : Nat) : Int)), (10, lv nl (It.avs l)), (11, .int .i64 l.length), (12, .int .i64 l.length), (13, .bool false)], h := [.box 78 false it.av] :: h })
theorem f98nil (it : It) (nl : Bool) (l : List It) (m : Nat) (h : Heap) : R29 it nl l l.length m [] h := by
  unfold R29
  rw [loop_at]
  simp [l98_0, deps]
theorem f98cons (it : It) (nl : Bool) (pre : List It) (i : It) (r : List It) (m : Nat) (h : Heap) (hb : (pre ++ i :: r).length ≤ 140737488355328) (hi : ∀ h, (mu K).fn 98 [i.av] h = some (.val (.int .i64 (dep i)) h))
    (hr : R29 it nl (pre ++ i :: r) (pre.length + 1) (max m (dep i)) r h) : R29 it nl (pre ++ i :: r) pre.length m (i :: r) h := by
  have hl : (pre.length : Int) < ((pre ++ i :: r).length : Int) := by simp; omega
  have hl2 : lv nl (It.avs (pre ++ i :: r)) = .lst (It.avs (pre ++ i :: r)) := lv_lst nl (by rw [avs_map]; simp)
  have hw : IntKind.i64.wrap ((pre.length : Int) + 1) = (pre.length : Int) + 1 := idx_wrap (by simp : pre.length < (pre ++ i :: r).length) hb
  have hg := avs_get pre i r
  have hd : max m (deps (i :: r)) = max (max m (dep i)) (deps r) := by simp only [deps]; omega
  generalize hL : pre ++ i :: r = L at *
  unfold R29 at *
  rw [loop_at, hd]
  generalize (mu K).code (CC.loopAt 1 [3, 10, 11, 12] l98_0) = F at hr ⊢
  simp [l98_0, hl, hl2, hg, KL, hi, hw, cut, cutE, Blk.refOk, mmList_max] at hr ⊢
  exact hr
mutual
theorem f98 : ∀ (i : It) (h : Heap), okI i → dep i ≤ 1000000 → (mu K).fn 98 [i.av] h = some (.val (.int .i64 (dep i)) h)
  | .mk k n t nl l, h, ok, hd => by
    by_cases k2 : k = 2
    · subst k2
      simp only [okI] at ok
      simp only [dep, if_true] at hd
      have hl := f98l l [] (.mk 2 n t nl l) nl 0 h ok.2.2.2 (by simpa using ok.2.2.1) (by omega)
      rw [fn_code (KX _ _ _) fn98 rfl (by simp [c98])]
      unfold R29 at hl
      simp only [List.nil_append, List.length_nil, It.av, Int.natCast_zero, Nat.zero_max] at hl
      have hw : IntKind.i64.wrap ((deps l : Int) + 1) = (deps l : Int) + 1 := wrap64 (by omega) (by omega)
      simp [c98, It.av, dep, KL, hl, hw]
    · rw [fn_code (KX _ _ _) fn98 rfl (by simp [c98])]
      simp [c98, It.av, dep, KL, k2]
theorem f98l : ∀ (r pre : List It) (it : It) (nl : Bool) (m : Nat) (h : Heap), okL r → (pre ++ r).length ≤ 140737488355328 → deps r ≤ 1000000 → R29 it nl (pre ++ r) pre.length m r h
  | [], pre, it, nl, m, h, ok, hb, hd => by
    have := f98nil it nl pre m h
    simpa using this
  | i :: r, pre, it, nl, m, h, ok, hb, hd => by
    simp only [okL] at ok
    simp only [deps] at hd
    have := f98l r (pre ++ [i]) it nl (max m (dep i)) h ok.2 (by simpa using hb) (by omega)
    exact f98cons it nl pre i r m h hb (fun h => f98 i h ok.1 (by omega)) (by simpa using this)
end
def R32 (k : Int) (n t : List UInt8) (nl : Bool) (l : List It) (j m : Nat) (r : List It) (h : Heap) : Prop :=
  ∃ e, (mu K).code (.loopAt 1 [1, 3, 4] l103_0) { env := [(1, .ptr (h.length, 0) 0), (3, .int .i64 m), (4, .int .i64 j)], h := [ibox k n t nl l] :: h } =
    some (.exit 0, { env := (1, .ptr (h.length, 0) 0) :: (3, .int .i64 ((max m (deps r) : Nat) : Int)) :: e, h := [ibox k n t nl l] :: h })
theorem f103nil (k : Int) (n t : List UInt8) (nl : Bool) (l : List It) (m : Nat) (h : Heap) : R32 k n t nl l l.length m [] h := by
  unfold R32
  rw [loop_at]
  simp [l103_0, deps, ibox]
theorem f103cons (k : Int) (n t : List UInt8) (nl : Bool) (pre : List It) (i : It) (r : List It) (m : Nat) (h : Heap) (hb : (pre ++ i :: r).length ≤ 140737488355328) (hi : ∀ h, (mu K).fn 103 [i.av] h = some (.val (.int .i64 (dep i)) h))
    (hr : R32 k n t nl (pre ++ i :: r) (pre.length + 1) (max m (dep i)) r h) : R32 k n t nl (pre ++ i :: r) pre.length m (i :: r) h := by
  have hl : (pre.length : Int) < ((pre ++ i :: r).length : Int) := by simp; omega
  have hl2 : lv nl (It.avs (pre ++ i :: r)) = .lst (It.avs (pre ++ i :: r)) := lv_lst nl (by rw [avs_map]; simp)
  have hw : IntKind.i64.wrap ((pre.length : Int) + 1) = (pre.length : Int) + 1 := idx_wrap (by simp : pre.length < (pre ++ i :: r).length) hb
  have hg := avs_get pre i r
  have hd : max m (deps (i :: r)) = max (max m (dep i)) (deps r) := by simp only [deps]; omega
  generalize hL : pre ++ i :: r = L at *
  unfold R32 at *
  rw [loop_at, hd]
  generalize (mu K).code (CC.loopAt 1 [1, 3, 4] l103_0) = F at hr ⊢
  simp [l103_0, ibox, hl, hl2, hg, KL, hi, hw, cut, cutE, Blk.refOk, mmList_max] at hr ⊢
  exact hr
mutual
theorem f103 : ∀ (i : It) (h : Heap), okI i → dep i ≤ 1000000 → (mu K).fn 103 [i.av] h = some (.val (.int .i64 (dep i)) h)
  | .mk k n t nl l, h, ok, hd => by
    by_cases k2 : k = 2
    · subst k2
      simp only [okI] at ok
      simp only [dep, if_true] at hd
      obtain ⟨e, hl⟩ := f103l l [] 2 n t nl 0 h ok.2.2.2 (by simpa using ok.2.2.1) (by omega)
      rw [fn_code (KX _ _ _) fn103 rfl (by simp [c103])]
      simp only [List.nil_append, List.length_nil, ibox, Int.natCast_zero, Nat.zero_max] at hl
      have hw : IntKind.i64.wrap ((deps l : Int) + 1) = (deps l : Int) + 1 := wrap64 (by omega) (by omega)
      simp [c103, It.av, dep, KL, hl, hw, get_set]
    · rw [fn_code (KX _ _ _) fn103 rfl (by simp [c103])]
      simp [c103, It.av, dep, KL, k2]
theorem f103l : ∀ (r pre : List It) (k : Int) (n t : List UInt8) (nl : Bool) (m : Nat) (h : Heap), okL r → (pre ++ r).length ≤ 140737488355328 → deps r ≤ 1000000 → R32 k n t nl (pre ++ r) pre.length m r h
  | [], pre, k, n, t, nl, m, h, ok, hb, hd => by
    have := f103nil k n t nl pre m h
    simpa using this
  | i :: r, pre, k, n, t, nl, m, h, ok, hb, hd => by
    simp only [okL] at ok
    simp only [deps] at hd
    have := f103l r (pre ++ [i]) k n t nl (max m (dep i)) h ok.2 (by simpa using hb) (by omega)
    exact f103cons k n t nl pre i r m h hb (fun h => f103 i h ok.1 (by omega)) (by simpa using this)
end
end Go.Ab.Wire

/-
  Items; canonical numbers; validity.
-/
import Derived.Test.YtcbhkkeoncmigaaAb54C
import Derived.Test.YtcbhkkeoncmigaaAbUse
set_option linter.unusedVariables false
set_option linter.unusedSimpArgs false
namespace Go.Ab.Wire
attribute [local simp] evC evOps evD
set_option maxRecDepth 100000
theorem KX (f : FuncId) (a : List AV) (h : Heap) : K.X f a h = none := rfl
theorem KL (f : FuncId) : K.lend f = true := rfl
def canon (n : List UInt8) : Bool := decide (n.length ≤ 128) && (match n with | [] => true | b :: _ => b != 0)

inductive It where
  | mk (k : Int) (n t : List UInt8) (nl : Bool) (l : List It)
def lv (nl : Bool) : List AV → AV
  | [] => if nl then .nils else .lst []
  | e :: r => .lst (e :: r)
mutual
def It.av : It → AV
  | .mk k n t nl l => .agg [.int .i64 k, .str n, .str t, lv nl (It.avs l)]
def It.avs : List It → List AV
  | [] => []
  | i :: r => i.av :: It.avs r
end
theorem avs_map : ∀ l, It.avs l = l.map It.av
  | [] => by simp [It.avs]
  | i :: r => by simp [It.avs, avs_map r]
@[simp] theorem avs_length (l : List It) : (It.avs l).length = l.length := by rw [avs_map]; simp
@[simp] theorem av_cells (i : It) : i.av.cells.length = 4 := by cases i; simp [It.av]
@[simp] theorem av_agg (i : It) : i.av.isAgg = true := by cases i; simp [It.av]
@[simp] theorem lv_cells (nl : Bool) (es : List AV) : (lv nl es).cells = [lv nl es] := by cases es <;> cases nl <;> rfl
@[simp] theorem lv_agg (nl : Bool) (es : List AV) : (lv nl es).isAgg = false := by cases es <;> cases nl <;> rfl
@[simp] theorem lv_view (p : Loc → Bool) (nl : Bool) (es : List AV) (h : Heap) : (lv nl es).view p h = some (lv nl es, h) := by cases es <;> cases nl <;> simp [lv, AV.view]
@[simp] theorem lv_ref (p : Loc → Bool) (nl : Bool) (es : List AV) : (lv nl es).refOk p = true := by cases es <;> cases nl <;> simp [lv, AV.refOk]
@[simp] theorem lv_len (nl : Bool) (es : List AV) : slLen (lv nl es) = some es.length := by cases es <;> cases nl <;> simp [lv, slLen]
@[simp] theorem av_view (p : Loc → Bool) (i : It) (h : Heap) : i.av.view p h = some (i.av, h) := by cases i; simp [It.av]
@[simp] theorem av_ref (p : Loc → Bool) (i : It) : i.av.refOk p = true := by cases i; simp [It.av]
theorem lv_lst (nl : Bool) {es : List AV} (h : es ≠ []) : lv nl es = .lst es := by cases es <;> simp_all [lv]
mutual
def vld : It → Bool
  | .mk k n t nl l => if k = 0 then canon n && decide (t = []) && decide (l = []) else if k = 1 then decide (n = []) && decide (l = []) else if k = 2 then vlds l && decide (n = []) && decide (t = []) else false
def vlds : List It → Bool
  | [] => true
  | i :: r => vld i && vlds r
end
theorem u8_zero (b : UInt8) : (b.toNat = 0) ↔ b = 0 := ⟨fun h => UInt8.toNat_inj.1 h, fun h => by rw [h]; rfl⟩
theorem f61 (n : List UInt8) (h : Heap) : (mu K).fn 61 [.str n] h = some (.val (.bool (canon n)) h) := by
  rw [fn_code (KX _ _ _) fn61 rfl (by simp [c61])]
  rcases n with _ | ⟨b, r⟩
  · simp [c61, canon]
  · have h0 : ¬ ((r.length : Int) + 1 = 0) := by omega
    by_cases hl : (r.length : Int) + 1 ≤ 128
    · have hl' : r.length + 1 ≤ 128 := by omega
      by_cases hb : b = 0
      · subst hb; simp [c61, canon, hl, hl', h0]
      · have hb' : ¬ b.toNat = 0 := fun e => hb ((u8_zero b).1 e)
        simp [c61, canon, hl, hl', hb, hb', h0]
    · have hl' : ¬ r.length + 1 ≤ 128 := by omega
      simp [c61, canon, hl, hl']
theorem f117 (n : List UInt8) (h : Heap) : (mu K).fn 117 [.str n] h = some (.val (.bool (canon n)) h) := by
  rw [fn_code (KX _ _ _) fn117 rfl (by simp [c117])]
  rcases n with _ | ⟨b, r⟩
  · simp [c117, canon]
  · have h0 : ¬ ((r.length : Int) + 1 = 0) := by omega
    by_cases hl : (r.length : Int) + 1 ≤ 128
    · have hl' : r.length + 1 ≤ 128 := by omega
      by_cases hb : b = 0
      · subst hb; simp [c117, canon, hl, hl', h0]
      · have hb' : ¬ b.toNat = 0 := fun e => hb ((u8_zero b).1 e)
        simp [c117, canon, hl, hl', hb, hb', h0]
    · have hl' : ¬ r.length + 1 ≤ 128 := by omega
      simp [c117, canon, hl, hl']
theorem len0 {α : Type} (l : List α) : ((l.length : Int) = 0) ↔ l = [] := by cases l <;> simp <;> omega
set_option maxHeartbeats 1000000 in
theorem f97a (n t : List UInt8) (nl : Bool) (l : List It) (h : Heap) : (mu K).fn 97 [(It.mk 0 n t nl l).av] h = some (.val (.bool (vld (.mk 0 n t nl l))) h) := by
  rw [fn_code (KX _ _ _) fn97 rfl (by simp [c97])]
  by_cases hc : canon n = true
  · by_cases ht : t = []
    · simp [c97, It.av, f61, KL, hc, ht, vld, len0]
    · simp [c97, It.av, f61, KL, hc, ht, vld]
  · simp [c97, It.av, f61, KL, hc, vld]
theorem f97b (n t : List UInt8) (nl : Bool) (l : List It) (h : Heap) : (mu K).fn 97 [(It.mk 1 n t nl l).av] h = some (.val (.bool (vld (.mk 1 n t nl l))) h) := by
  rw [fn_code (KX _ _ _) fn97 rfl (by simp [c97])]
  by_cases hc : n = []
  · simp [c97, It.av, KL, hc, vld, len0]
  · simp [c97, It.av, KL, hc, vld]
theorem f97d (k : Int) (h0 : k ≠ 0) (h1 : k ≠ 1) (h2 : k ≠ 2) (n t : List UInt8) (nl : Bool) (l : List It) (h : Heap) : (mu K).fn 97 [(It.mk k n t nl l).av] h = some (.val (.bool (vld (.mk k n t nl l))) h) := by
  rw [fn_code (KX _ _ _) fn97 rfl (by simp [c97])]
  simp [c97, It.av, KL, h0, h1, h2, vld]

mutual
def okI : It → Prop
  | .mk k n t nl l => n.length ≤ 140737488355328 ∧ t.length ≤ 140737488355328 ∧ l.length ≤ 140737488355328 ∧ okL l
def okL : List It → Prop
  | [] => True
  | i :: r => okI i ∧ okL r
end
theorem avs_get (pre : List It) (i : It) (r : List It) : (It.avs (pre ++ i :: r))[pre.length]? = some i.av := by
  rw [avs_map]; simp
def e28 (nl : Bool) (l : List It) (j : Nat) (h : Heap) : Env := [(1, .ptr (h.length, 0) 0), (37, lv nl (It.avs l)), (38, .int .i64 l.length), (39, .int .i64 j)]
def R28 (it : It) (nl : Bool) (l : List It) (j : Nat) (r : List It) (h : Heap) : Prop :=
  (vlds r = true → (mu K).code (.loopAt 1 [1, 37, 38, 39] l97_0) { env := e28 nl l j h, h := [.box 78 false it.av] :: h } = some (.exit 1, { env := e28 nl l l.length h ++ [(40, .bool false)], h := [.box 78 false it.av] :: h })) ∧
  (vlds r = false → ∃ e f, (mu K).code (.loopAt 1 [1, 37, 38, 39] l97_0) { env := e28 nl l j h, h := [.box 78 false it.av] :: h } = some (.ret, { env := e, h := f :: h }) ∧ get e 2 = .bool false)
theorem f97nil (it : It) (nl : Bool) (l : List It) (h : Heap) : R28 it nl l l.length [] h := by
  refine ⟨fun _ => ?_, fun e => by simp [vlds] at e⟩
  rw [loop_at]
  simp [l97_0, e28]
theorem f97cons (it : It) (nl : Bool) (pre : List It) (i : It) (r : List It) (h : Heap) (hb : (pre ++ i :: r).length ≤ 140737488355328) (hi : ∀ h, (mu K).fn 97 [i.av] h = some (.val (.bool (vld i)) h))
    (hr : R28 it nl (pre ++ i :: r) (pre.length + 1) r h) : R28 it nl (pre ++ i :: r) pre.length (i :: r) h := by
  have hl : (pre.length : Int) < ((pre ++ i :: r).length : Int) := by simp; omega
  have hl2 : lv nl (It.avs (pre ++ i :: r)) = .lst (It.avs (pre ++ i :: r)) := lv_lst nl (by rw [avs_map]; simp)
  have hw : IntKind.i64.wrap ((pre.length : Int) + 1) = (pre.length : Int) + 1 := wrap64 (by omega) (by simp at hb; omega)
  have hg := avs_get pre i r
  generalize hL : pre ++ i :: r = L at *
  unfold R28 at *
  rw [loop_at]
  generalize (mu K).code (CC.loopAt 1 [1, 37, 38, 39] l97_0) = F at hr ⊢
  by_cases hv : vld i = true
  · have e1 : vlds (i :: r) = vlds r := by simp [vlds, hv]
    rw [e1]
    simp [l97_0, e28, hl, hl2, hg, KL, hi, hv, hw, cut, cutE, Blk.refOk] at hr ⊢
    exact hr
  · have e1 : vlds (i :: r) = false := by simp [vlds, hv]
    rw [e1]
    simp [l97_0, e28, hl, hl2, hg, KL, hi, hv, hw]
set_option maxHeartbeats 1000000
mutual
theorem f97 : ∀ (i : It) (h : Heap), okI i → (mu K).fn 97 [i.av] h = some (.val (.bool (vld i)) h)
  | .mk k n t nl l, h, ok => by
    by_cases k0 : k = 0
    · subst k0; exact f97a n t nl l h
    by_cases k1 : k = 1
    · subst k1; exact f97b n t nl l h
    by_cases k2 : k = 2
    · subst k2
      simp only [okI] at ok
      have hl := f97l l [] (.mk 2 n t nl l) nl h ok.2.2.2 (by simpa using ok.2.2.1)
      rw [fn_code (KX _ _ _) fn97 rfl (by simp [c97])]
      unfold R28 at hl
      simp only [List.nil_append, List.length_nil, e28, It.av, List.cons_append, Int.natCast_zero] at hl
      by_cases hv : vlds l = true
      · have := hl.1 hv
        rcases n with _ | ⟨b, n⟩
        · simp [c97, It.av, vld, KL, this, hv]
        · simp [c97, It.av, vld, KL, this, hv]
      · simp only [Bool.not_eq_true] at hv
        obtain ⟨e, f, h1, h2⟩ := hl.2 hv
        simp [c97, It.av, vld, KL, h1, h2, hv]
    · exact f97d k k0 k1 k2 n t nl l h
theorem f97l : ∀ (r pre : List It) (it : It) (nl : Bool) (h : Heap), okL r → (pre ++ r).length ≤ 140737488355328 → R28 it nl (pre ++ r) pre.length r h
  | [], pre, it, nl, h, ok, hb => by
    have := f97nil it nl pre h
    simpa using this
  | i :: r, pre, it, nl, h, ok, hb => by
    simp only [okL] at ok
    have := f97l r (pre ++ [i]) it nl h ok.2 (by simpa using hb)
    exact f97cons it nl pre i r h hb (fun h => f97 i h ok.1) (by simpa using this)
end
end Go.Ab.Wire

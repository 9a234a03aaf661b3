/-
  The builder's methods; writing.
-/
import Derived.Test.YtcbhkkeoncmigaaAb54F4
set_option linter.unusedVariables false
set_option linter.unusedSimpArgs false
namespace Go.Ab.Wire
attribute [local simp] evC evOps evD
set_option maxRecDepth 100000
set_option maxHeartbeats 1000000

@[simp] theorem ne2 (n : Nat) : (n = n + 1 + 1) = False := by simp; omega
@[simp] theorem ne3 (n : Nat) : (n = n + 1 + 1 + 1) = False := by simp; omega
theorem beqs_ofBytes : ∀ s : List UInt8, AV.beqs (ofBytes s) (ofBytes s) = true
  | [] => rfl
  | b :: s => by
    have := beqs_ofBytes s
    simp only [ofBytes, List.map_cons] at this ⊢
    simp [AV.beqs, AV.beq, this]
/-- A frame with a builder: its buffer is the second place, it is the third. -/
def bfr (b0 : Blk) (t sz : Nat) (p : AV) (bs : List UInt8) (tl : List Blk) (h : Heap) : Heap :=
  (b0 :: .arr t sz false (ofBytes bs) :: .box 167 false (.agg [p, .own (h.length, 1) bs.length]) :: tl) :: h
theorem f124 (g : List Blk) (b0 : Blk) (t sz : Nat) (p : AV) (bs : List UInt8) (tl : List Blk) (h : Heap) (hp : p = .nilp ∨ p = .ptr (h.length, 2) 0) :
    (mu K).fn 124 [.ptr (h.length, 2) 0] (g :: bfr b0 t sz p bs tl h) = some (.val (.tup []) (g :: bfr b0 t sz (.ptr (h.length, 2) 0) bs tl h)) := by
  rw [fn_code (KX _ _ _) fn124 rfl (by simp [c124])]
  rcases hp with rfl | rfl
  · simp [c124, bfr]
  · simp [c124, bfr]
theorem f113 (b0 : Blk) (t sz : Nat) (p : AV) (bs s : List UInt8) (tl : List Blk) (h : Heap) (hp : p = .nilp ∨ p = .ptr (h.length, 2) 0) (ht : sz = 0 ∨ (t = 5 ∧ sz = 1)) (hb : bs.length + s.length ≤ 1099511627776) :
    (mu K).fn 113 [.ptr (h.length, 2) 0, .str s] (bfr b0 t sz p bs tl h) = some (.val (.tup [.int .i64 s.length, .nili]) (bfr b0 5 1 (.ptr (h.length, 2) 0) (bs ++ s) tl h)) := by
  rw [fn_code (KX _ _ _) fn113 rfl (by simp [c113])]
  have h50 := f124 [] b0 t sz p bs tl h hp
  have e1 : ofBytes (bs ++ s) = ofBytes bs ++ ofBytes s := by simp [ofBytes]
  have e2 : (ofBytes bs).length = bs.length := by simp [ofBytes]
  have e3 : (ofBytes s).length = s.length := by simp [ofBytes]
  have e4 : bs.length + s.length ≤ room := hb
  simp only [bfr] at h50 ⊢
  simp [c113, KL, h50, appTo, e1, e2, e3, e4, ht, List.length_append]
theorem f115 (b0 : Blk) (t sz : Nat) (p : AV) (bs : List UInt8) (tl : List Blk) (h : Heap) :
    (mu K).fn 115 [.ptr (h.length, 2) 0] (bfr b0 t sz p bs tl h) = some (.val (.int .i64 bs.length) (bfr b0 t sz p bs tl h)) := by
  rw [fn_code (KX _ _ _) fn115 rfl (by simp [c115])]
  simp [c115, bfr]
/-- The frame behind String. -/
def bfrD (b0 : Blk) (t sz : Nat) (p : AV) (bs : List UInt8) (tl : List Blk) (h : Heap) : Heap :=
  (b0 :: (if bs = [] then .arr t sz false [] else .dead) :: .box 167 false (.agg [p, .own (h.length, 1) bs.length]) :: tl) :: h
theorem f116 (b0 : Blk) (t sz : Nat) (p : AV) (bs : List UInt8) (tl : List Blk) (h : Heap) (ht : bs = [] ∨ (t = 5 ∧ sz = 1)) :
    (mu K).fn 116 [.ptr (h.length, 2) 0] (bfr b0 t sz p bs tl h) = some (.val (.str bs) (bfrD b0 t sz p bs tl h)) := by
  rw [fn_code (KX _ _ _) fn116 rfl (by simp [c116])]
  rcases bs with _ | ⟨b, bs⟩
  · simp [c116, bfr, bfrD, ofBytes]
  · obtain ⟨rfl, rfl⟩ := ht.resolve_left (by simp)
    have e1 := bytesOf_ofBytes (b :: bs)
    have e2 : (ofBytes (b :: bs)).length = bs.length + 1 := by simp [ofBytes]
    simp [c116, bfr, bfrD, e1, e2, beqs_ofBytes]
mutual
/-- The encoding of a valid item. -/
def wr : It → List UInt8
  | .mk k n t nl l => UInt8.ofNat (k % 256).toNat :: (len128 (n ++ t ++ wrs l).length ++ (n ++ t ++ wrs l))
def wrs : List It → List UInt8
  | [] => []
  | i :: r => wr i ++ wrs r
end
def R30 (k : Int) (n t : List UInt8) (nl : Bool) (l : List It) (j : Nat) (bs : List UInt8) (r : List It) (h : Heap) : Prop :=
  (mu K).code (.loopAt 3 [1, 3, 13, 14, 15] l99_0) { env := [(1, .ptr (h.length, 0) 0), (3, .ptr (h.length, 2) 0), (13, lv nl (It.avs l)), (14, .int .i64 l.length), (15, .int .i64 j)], h := bfr (ibox k n t nl l) 5 1 (.ptr (h.length, 2) 0) bs [] h } =
    some (.exit 0, { env := [(1, .ptr (h.length, 0) 0), (3, .ptr (h.length, 2) 0), (13, lv nl (It.avs l)), (14, .int .i64 l.length), (15, .int .i64 l.length), (16, .bool false)], h := bfr (ibox k n t nl l) 5 1 (.ptr (h.length, 2) 0) (bs ++ wrs r) [] h })
theorem f99nil (k : Int) (n t : List UInt8) (nl : Bool) (l : List It) (bs : List UInt8) (h : Heap) : R30 k n t nl l l.length bs [] h := by
  unfold R30
  rw [loop_at]
  simp [l99_0, wrs]
theorem f99cons (k : Int) (n t : List UInt8) (nl : Bool) (pre : List It) (i : It) (r : List It) (bs : List UInt8) (h : Heap) (hb : (pre ++ i :: r).length ≤ 140737488355328) (hi : ∀ h, (mu K).fn 99 [i.av] h = some (.val (.str (wr i)) h))
    (hw : bs.length + (wr i).length ≤ 1099511627776)
    (hr : R30 k n t nl (pre ++ i :: r) (pre.length + 1) (bs ++ wr i) r h) : R30 k n t nl (pre ++ i :: r) pre.length bs (i :: r) h := by
  have hl : (pre.length : Int) < ((pre ++ i :: r).length : Int) := by simp; omega
  have hl2 : lv nl (It.avs (pre ++ i :: r)) = .lst (It.avs (pre ++ i :: r)) := lv_lst nl (by rw [avs_map]; simp)
  have hwr : IntKind.i64.wrap ((pre.length : Int) + 1) = (pre.length : Int) + 1 := idx_wrap (by simp : pre.length < (pre ++ i :: r).length) hb
  have hg := avs_get pre i r
  have hd : bs ++ wrs (i :: r) = bs ++ wr i ++ wrs r := by simp [wrs]
  generalize hL : pre ++ i :: r = L at *
  have h42 := f113 (ibox k n t nl L) 5 1 (.ptr (h.length, 2) 0) bs (wr i) [.box 78 false i.av] h (.inr rfl) (.inr ⟨rfl, rfl⟩) hw
  unfold R30 at *
  rw [loop_at, hd]
  generalize (mu K).code (CC.loopAt 3 [1, 3, 13, 14, 15] l99_0) = F at hr ⊢
  simp only [bfr, ibox, hl2] at hr h42 ⊢
  simp [l99_0, hl, hl2, hg, KL, hi, hwr, h42, cut, cutE, Blk.refOk] at hr ⊢
  exact hr

end Go.Ab.Wire

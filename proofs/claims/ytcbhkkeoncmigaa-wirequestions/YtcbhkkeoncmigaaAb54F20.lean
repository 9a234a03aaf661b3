/-
  Integers.
-/
import Derived.Test.YtcbhkkeoncmigaaAb54F17
set_option linter.unusedVariables false
set_option linter.unusedSimpArgs false
namespace Go.Ab.Wire
set_option maxRecDepth 100000
set_option maxHeartbeats 1000000

/-- The bytes of a number, without zeros ahead. -/
def trim0 : List UInt8 → List UInt8
  | [] => []
  | b :: s => if b = 0 then trim0 s else b :: s
theorem ofBytes_get0 (b : UInt8) (s : List UInt8) : ofBytes (b :: s) = .int .u8 (b.toNat : Int) :: ofBytes s := rfl
theorem sized_ofBytes (s : List UInt8) : sized 1 (ofBytes s) = true := by
  unfold sized ofBytes
  rw [List.all_eq_true]
  intro v hm
  simp only [List.mem_map] at hm
  obtain ⟨b, _, rfl⟩ := hm
  rfl
theorem f101l : ∀ (s : List UInt8) (h : Heap), s.length ≤ 1000000 → ∃ env, (mu K).code (.loopAt 0 [0] l101_0) { env := [(0, .lst (ofBytes s))], h := [] :: h } = some (.exit 0, ⟨env, [] :: h⟩) ∧ get env 0 = .lst (ofBytes (trim0 s))
  | [], h, hs => by
    rw [loop_go]
    generalize (mu K).code (CC.loopAt 0 [0] l101_0) = F
    simp [l101_0, ofBytes, trim0]
  | b :: s, h, hs => by
    rw [loop_go]
    have h1 : (0 : Int) < (s.length : Int) + 1 := by omega
    by_cases hb : b = 0
    · subst hb
      have ih := f101l s h (by simp at hs; omega)
      have hz : sized 1 (ofBytes (0 :: s)) = true := sized_ofBytes (0 :: s)
      generalize (mu K).code (CC.loopAt 0 [0] l101_0) = F at ih ⊢
      have h2 : ofBytes ((0 : UInt8) :: s) = .int .u8 0 :: ofBytes s := rfl
      have h3 : (ofBytes s).length = s.length := by simp [ofBytes]
      rw [h2] at hz ⊢
      have h5 : (1 : Nat) ≤ s.length + 1 := by omega
      have h6 : List.take s.length (ofBytes s) = ofBytes s := by rw [← h3]; exact List.take_length
      have h4 : trim0 ((0 : UInt8) :: s) = trim0 s := by simp [trim0]
      rw [h4]
      have h7 : (1 : Int) ≤ (s.length : Int) + 1 := by omega
      simp [-sized, l101_0, h1, h3, h5, h6, h7, hz]
      exact ih
    · have h2 : ¬ (b.toNat : Int) = 0 := by
        intro e
        exact hb (UInt8.toNat_inj.1 (by have : b.toNat = 0 := by omega
                                        rw [this]; rfl))
      have h4 : trim0 (b :: s) = b :: s := by simp [trim0, hb]
      rw [h4]
      generalize (mu K).code (CC.loopAt 0 [0] l101_0) = F
      have h3 : (ofBytes s).length = s.length := by simp [ofBytes]
      rw [ofBytes_get0]
      have h5 : ¬ b.toNat = 0 := by omega
      simp [l101_0, h1, h3, h2, h5, hb]
theorem f101 (s : List UInt8) (h : Heap) (hs : s.length ≤ 1000000) : (mu K).fn 101 [.lst (ofBytes s)] h = some (.val (.str (trim0 s)) h) := by
  obtain ⟨env, h1, h2⟩ := f101l s h hs
  have h3 := bytesOf_ofBytes (trim0 s)
  rw [fn_go (KX _ _ _) fn101 rfl (by simp [c101])]
  simp [c101, h1, h2, h3]
theorem f66s0 (n : Int) (h : Heap) (b0 b1 b2 b3 b4 b5 b6 b7 : AV) : (mu K).code (.loopAt 1 [0, 3, 5] l66_0) { env := [(0, .int .u64 n), (3, .ptr (h.length, 0) 0), (5, .int .i64 0)], h := [.box 152 false (.agg [b0, b1, b2, b3, b4, b5, b6, b7])] :: h } =
    (mu K).code (.loopAt 1 [0, 3, 5] l66_0) { env := [(0, .int .u64 n), (3, .ptr (h.length, 0) 0), (5, .int .i64 1)], h := [.box 152 false (.agg [b0, b1, b2, b3, b4, b5, b6, .int .u8 (IntKind.u8.wrap (n.fdiv (2 ^ 0)))])] :: h } := by
  have e1 : IntKind.u64.bits = 64 := rfl
  rw [loop_go]
  generalize (mu K).code (CC.loopAt 1 [0, 3, 5] l66_0) = F
  simp [l66_0, wrap64, e1]
theorem f66s1 (n : Int) (h : Heap) (b0 b1 b2 b3 b4 b5 b6 b7 : AV) : (mu K).code (.loopAt 1 [0, 3, 5] l66_0) { env := [(0, .int .u64 n), (3, .ptr (h.length, 0) 0), (5, .int .i64 1)], h := [.box 152 false (.agg [b0, b1, b2, b3, b4, b5, b6, b7])] :: h } =
    (mu K).code (.loopAt 1 [0, 3, 5] l66_0) { env := [(0, .int .u64 n), (3, .ptr (h.length, 0) 0), (5, .int .i64 2)], h := [.box 152 false (.agg [b0, b1, b2, b3, b4, b5, .int .u8 (IntKind.u8.wrap (n.fdiv (2 ^ 8))), b7])] :: h } := by
  have e1 : IntKind.u64.bits = 64 := rfl
  rw [loop_go]
  generalize (mu K).code (CC.loopAt 1 [0, 3, 5] l66_0) = F
  simp [l66_0, wrap64, e1]
theorem f66s2 (n : Int) (h : Heap) (b0 b1 b2 b3 b4 b5 b6 b7 : AV) : (mu K).code (.loopAt 1 [0, 3, 5] l66_0) { env := [(0, .int .u64 n), (3, .ptr (h.length, 0) 0), (5, .int .i64 2)], h := [.box 152 false (.agg [b0, b1, b2, b3, b4, b5, b6, b7])] :: h } =
    (mu K).code (.loopAt 1 [0, 3, 5] l66_0) { env := [(0, .int .u64 n), (3, .ptr (h.length, 0) 0), (5, .int .i64 3)], h := [.box 152 false (.agg [b0, b1, b2, b3, b4, .int .u8 (IntKind.u8.wrap (n.fdiv (2 ^ 16))), b6, b7])] :: h } := by
  have e1 : IntKind.u64.bits = 64 := rfl
  rw [loop_go]
  generalize (mu K).code (CC.loopAt 1 [0, 3, 5] l66_0) = F
  simp [l66_0, wrap64, e1]
theorem f66s3 (n : Int) (h : Heap) (b0 b1 b2 b3 b4 b5 b6 b7 : AV) : (mu K).code (.loopAt 1 [0, 3, 5] l66_0) { env := [(0, .int .u64 n), (3, .ptr (h.length, 0) 0), (5, .int .i64 3)], h := [.box 152 false (.agg [b0, b1, b2, b3, b4, b5, b6, b7])] :: h } =
    (mu K).code (.loopAt 1 [0, 3, 5] l66_0) { env := [(0, .int .u64 n), (3, .ptr (h.length, 0) 0), (5, .int .i64 4)], h := [.box 152 false (.agg [b0, b1, b2, b3, .int .u8 (IntKind.u8.wrap (n.fdiv (2 ^ 24))), b5, b6, b7])] :: h } := by
  have e1 : IntKind.u64.bits = 64 := rfl
  rw [loop_go]
  generalize (mu K).code (CC.loopAt 1 [0, 3, 5] l66_0) = F
  simp [l66_0, wrap64, e1]
theorem f66s4 (n : Int) (h : Heap) (b0 b1 b2 b3 b4 b5 b6 b7 : AV) : (mu K).code (.loopAt 1 [0, 3, 5] l66_0) { env := [(0, .int .u64 n), (3, .ptr (h.length, 0) 0), (5, .int .i64 4)], h := [.box 152 false (.agg [b0, b1, b2, b3, b4, b5, b6, b7])] :: h } =
    (mu K).code (.loopAt 1 [0, 3, 5] l66_0) { env := [(0, .int .u64 n), (3, .ptr (h.length, 0) 0), (5, .int .i64 5)], h := [.box 152 false (.agg [b0, b1, b2, .int .u8 (IntKind.u8.wrap (n.fdiv (2 ^ 32))), b4, b5, b6, b7])] :: h } := by
  have e1 : IntKind.u64.bits = 64 := rfl
  rw [loop_go]
  generalize (mu K).code (CC.loopAt 1 [0, 3, 5] l66_0) = F
  simp [l66_0, wrap64, e1]
theorem f66s5 (n : Int) (h : Heap) (b0 b1 b2 b3 b4 b5 b6 b7 : AV) : (mu K).code (.loopAt 1 [0, 3, 5] l66_0) { env := [(0, .int .u64 n), (3, .ptr (h.length, 0) 0), (5, .int .i64 5)], h := [.box 152 false (.agg [b0, b1, b2, b3, b4, b5, b6, b7])] :: h } =
    (mu K).code (.loopAt 1 [0, 3, 5] l66_0) { env := [(0, .int .u64 n), (3, .ptr (h.length, 0) 0), (5, .int .i64 6)], h := [.box 152 false (.agg [b0, b1, .int .u8 (IntKind.u8.wrap (n.fdiv (2 ^ 40))), b3, b4, b5, b6, b7])] :: h } := by
  have e1 : IntKind.u64.bits = 64 := rfl
  rw [loop_go]
  generalize (mu K).code (CC.loopAt 1 [0, 3, 5] l66_0) = F
  simp [l66_0, wrap64, e1]
theorem f66s6 (n : Int) (h : Heap) (b0 b1 b2 b3 b4 b5 b6 b7 : AV) : (mu K).code (.loopAt 1 [0, 3, 5] l66_0) { env := [(0, .int .u64 n), (3, .ptr (h.length, 0) 0), (5, .int .i64 6)], h := [.box 152 false (.agg [b0, b1, b2, b3, b4, b5, b6, b7])] :: h } =
    (mu K).code (.loopAt 1 [0, 3, 5] l66_0) { env := [(0, .int .u64 n), (3, .ptr (h.length, 0) 0), (5, .int .i64 7)], h := [.box 152 false (.agg [b0, .int .u8 (IntKind.u8.wrap (n.fdiv (2 ^ 48))), b2, b3, b4, b5, b6, b7])] :: h } := by
  have e1 : IntKind.u64.bits = 64 := rfl
  rw [loop_go]
  generalize (mu K).code (CC.loopAt 1 [0, 3, 5] l66_0) = F
  simp [l66_0, wrap64, e1]
theorem f66s7 (n : Int) (h : Heap) (b0 b1 b2 b3 b4 b5 b6 b7 : AV) : (mu K).code (.loopAt 1 [0, 3, 5] l66_0) { env := [(0, .int .u64 n), (3, .ptr (h.length, 0) 0), (5, .int .i64 7)], h := [.box 152 false (.agg [b0, b1, b2, b3, b4, b5, b6, b7])] :: h } =
    (mu K).code (.loopAt 1 [0, 3, 5] l66_0) { env := [(0, .int .u64 n), (3, .ptr (h.length, 0) 0), (5, .int .i64 8)], h := [.box 152 false (.agg [.int .u8 (IntKind.u8.wrap (n.fdiv (2 ^ 56))), b1, b2, b3, b4, b5, b6, b7])] :: h } := by
  have e1 : IntKind.u64.bits = 64 := rfl
  rw [loop_go]
  generalize (mu K).code (CC.loopAt 1 [0, 3, 5] l66_0) = F
  simp [l66_0, wrap64, e1]
theorem f66e (n : Int) (h : Heap) (b0 b1 b2 b3 b4 b5 b6 b7 : AV) : ∃ env, (mu K).code (.loopAt 1 [0, 3, 5] l66_0) { env := [(0, .int .u64 n), (3, .ptr (h.length, 0) 0), (5, .int .i64 8)], h := [.box 152 false (.agg [b0, b1, b2, b3, b4, b5, b6, b7])] :: h } =
    some (.exit 0, ⟨env, [.box 152 false (.agg [b0, b1, b2, b3, b4, b5, b6, b7])] :: h⟩) ∧ get env 3 = .ptr (h.length, 0) 0 := by
  rw [loop_go]
  generalize (mu K).code (CC.loopAt 1 [0, 3, 5] l66_0) = F
  simp [l66_0]
/-- A number's eight bytes, and without zeros ahead. -/
def nat8 (n : Nat) : List UInt8 := [UInt8.ofNat (n / 2 ^ 56), UInt8.ofNat (n / 2 ^ 48), UInt8.ofNat (n / 2 ^ 40), UInt8.ofNat (n / 2 ^ 32), UInt8.ofNat (n / 2 ^ 24), UInt8.ofNat (n / 2 ^ 16), UInt8.ofNat (n / 2 ^ 8), UInt8.ofNat (n / 2 ^ 0)]
def natB (n : Nat) : List UInt8 := trim0 (nat8 n)
theorem byte_shr (n k : Nat) : AV.int .u8 (IntKind.u8.wrap ((n : Int).fdiv (2 ^ k))) = .int .u8 ((UInt8.ofNat (n / 2 ^ k)).toNat : Int) := by
  rw [wrapU8, Int.fdiv_eq_ediv_of_nonneg _ (Int.pow_nonneg (by omega))]
  have e : (2 : Int) ^ k = ((2 ^ k : Nat) : Int) := by simp
  rw [e, ← Int.natCast_ediv]
  generalize n / 2 ^ k = m
  simp
theorem f66loop (n : Int) (h : Heap) : ∃ env, (mu K).code (.loopAt 1 [0, 3, 5] l66_0) { env := [(0, .int .u64 n), (3, .ptr (h.length, 0) 0), (5, .int .i64 0)], h := [.box 152 false (.agg [.int .u8 0, .int .u8 0, .int .u8 0, .int .u8 0, .int .u8 0, .int .u8 0, .int .u8 0, .int .u8 0])] :: h } =
    some (.exit 0, ⟨env, [.box 152 false (.agg [.int .u8 (IntKind.u8.wrap (n.fdiv (2 ^ 56))), .int .u8 (IntKind.u8.wrap (n.fdiv (2 ^ 48))), .int .u8 (IntKind.u8.wrap (n.fdiv (2 ^ 40))), .int .u8 (IntKind.u8.wrap (n.fdiv (2 ^ 32))), .int .u8 (IntKind.u8.wrap (n.fdiv (2 ^ 24))), .int .u8 (IntKind.u8.wrap (n.fdiv (2 ^ 16))), .int .u8 (IntKind.u8.wrap (n.fdiv (2 ^ 8))), .int .u8 (IntKind.u8.wrap (n.fdiv (2 ^ 0)))])] :: h⟩) ∧ get env 3 = .ptr (h.length, 0) 0 := by
  rw [f66s0, f66s1, f66s2, f66s3, f66s4, f66s5, f66s6, f66s7]
  exact f66e _ _ _ _ _ _ _ _ _ _
theorem f66 (n : Nat) (h : Heap) : (mu K).fn 66 [.int .u64 (n : Int)] h = some (.val (.str (natB n)) h) := by
  obtain ⟨env, h1, h2⟩ := f66loop n h
  simp only [byte_shr] at h1
  have h49 := fun h => f101 (nat8 n) h (by simp [nat8])
  simp only [nat8, ofBytes, List.map_cons, List.map_nil] at h49
  rw [fn_go (KX _ _ _) fn66 rfl (by simp [c66])]
  simp only [natB, nat8]
  generalize UInt8.ofNat (n / 2 ^ 56) = b0 at *
  generalize UInt8.ofNat (n / 2 ^ 48) = b1 at *
  generalize UInt8.ofNat (n / 2 ^ 40) = b2 at *
  generalize UInt8.ofNat (n / 2 ^ 32) = b3 at *
  generalize UInt8.ofNat (n / 2 ^ 24) = b4 at *
  generalize UInt8.ofNat (n / 2 ^ 16) = b5 at *
  generalize UInt8.ofNat (n / 2 ^ 8) = b6 at *
  generalize UInt8.ofNat (n / 2 ^ 0) = b7 at *
  simp [c66, KL, h1, h2, h49]
end Go.Ab.Wire

/-
  Integers as items; the law on them.
-/
set_option linter.unusedVariables false
set_option linter.unusedSimpArgs false
namespace Go.Ab.Wire
set_option maxRecDepth 100000
set_option maxHeartbeats 1000000

theorem natB_one : natB 1 = [1] := by
  unfold natB nat8
  simp [trim0]
theorem f70 (a : List UInt8) (h : Heap) : (mu K).fn 70 [.str a] h = some (.val (It.mk 0 a [] true []).av h) := by
  rw [fn_go (KX _ _ _) fn70 rfl (by simp [c70])]
  simp [c70, It.av, It.avs, lv]
theorem f68 (l : List It) (h : Heap) (hl : l.length ≤ 1000000) : (mu K).fn 68 [.lst (It.avs l)] h = some (.val (It.mk 2 [] [] true l).av h) := by
  rw [fn_go (KX _ _ _) fn68 rfl (by simp [c68])]
  cases l with
  | nil => simp [c68, It.av, It.avs, lv]
  | cons i r =>
    have hr1 : (r.length + 1) * 64 ≤ room := by simp at hl; unfold room; omega
    have hr2 : r.length + 1 ≤ room := by simp at hl; unfold room; omega
    have hz : ∀ x, x ∈ It.avs r → x.cells.length = 4 := by
      intro x hx
      rw [avs_map] at hx
      simp only [List.mem_map] at hx
      obtain ⟨j, _, rfl⟩ := hx
      exact av_cells j
    have hz2 : sized 4 (It.avs (i :: r)) = true := by
      simp only [sized, List.all_eq_true, It.avs]
      intro x hx
      rcases List.mem_cons.1 hx with rfl | hx
      · simp
      · simp [hz x hx]
    have hne : It.avs (i :: r) ≠ [] := by simp [It.avs]
    have hlen : (It.avs (i :: r)).length = r.length + 1 := by simp
    simp only [It.av, lv_lst true hne]
    generalize It.avs (i :: r) = A at *
    simp [-sized, c68, hz2, hne, hlen, hr1, hr2]
abbrev iav (neg : Bool) (a : List UInt8) : AV := .agg [.bool neg, .str a]
abbrev sg (neg : Bool) : List UInt8 := if neg then [1] else []
/-- An integer as an item, and as the reference makes it. -/
abbrev intI (neg : Bool) (a : List UInt8) : It := .mk 2 [] [] false [.mk 0 (sg neg) [] false [], .mk 0 a [] false []]
abbrev intR (neg : Bool) (a : List UInt8) : It := .mk 2 [] [] true [.mk 0 (sg neg) [] true [], .mk 0 a [] true []]
theorem f122 (neg : Bool) (a : List UInt8) (h : Heap) (ha : a.length ≤ 1000) : (mu K).fn 122 [iav neg a] h = some (.val (intI neg a).av h) := by
  have h38 := fun h => f66 1 h
  rw [natB_one] at h38
  simp only [Int.natCast_one] at h38
  have h20 := fun a h => f65 a h
  have ok : ∀ s : List UInt8, s.length ≤ 1 → okL [It.mk 0 s [] true [], It.mk 0 a [] true []] := fun s hs => ⟨⟨by omega, by simp, by simp, trivial⟩, ⟨by omega, by simp, by simp, trivial⟩, trivial⟩
  have h21 : ∀ (s : List UInt8) h, s.length ≤ 1 → (mu K).fn 64 [.lst [(It.mk 0 s [] true []).av, (It.mk 0 a [] true []).av]] h = some (.val (It.mk 2 [] [] false [.mk 0 s [] false [], .mk 0 a [] false []]).av h) := fun s h hs => by
    have := f64 false [.mk 0 s [] true [], .mk 0 a [] true []] h (ok s hs) (by simp) (by simp [wts, wt]; omega)
    simpa [It.avs, nms, nm] using this
  rw [fn_go (KX _ _ _) fn122 rfl (by simp [c122])]
  cases neg
  · simp [c122, KL, h38, h20, h21, List.replicate, intI, sg]
  · simp [c122, KL, h38, h20, h21, List.replicate, intI, sg]
/-- The integer of an item. -/
def toI : It → Bool × List UInt8 × Bool
  | .mk k n t nl l => if vld (.mk k n t nl l) = true ∧ k = 2 then (match l with
    | [.mk k1 s _ _ _, .mk k2 a _ _ _] => if k1 = 0 ∧ k2 = 0 then (if s = [] then (false, a, true) else if s = [1] ∧ a ≠ [] then (true, a, true) else (false, [], false)) else (false, [], false)
    | _ => (false, [], false)) else (false, [], false)
theorem vld_intI (neg : Bool) (a : List UInt8) : vld (intI neg a) = canon a := by
  cases neg <;> simp [vld, vlds, canon, sg]
theorem toI_intI (neg : Bool) (a : List UInt8) : toI (intI neg a) = if canon a = true ∧ (neg = true → a ≠ []) then (neg, a, true) else (false, [], false) := by
  simp only [toI, vld_intI]
  cases neg
  · by_cases hc : canon a = true
    · simp [hc]
    · simp [hc]
  · by_cases hc : canon a = true
    · by_cases ha : a = []
      · subst ha; simp
      · simp [hc, ha]
    · simp [hc]
theorem sm_int (neg : Bool) (a : List UInt8) : sm (intI neg a) (intR neg a) = true := by simp [sm, sms]
end Go.Ab.Wire

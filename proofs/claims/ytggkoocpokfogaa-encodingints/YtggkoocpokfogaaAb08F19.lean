/-
  Integers.
-/
import Derived.Test.YtggkoocpokfogaaAb08F17
set_option linter.unusedVariables false
set_option linter.unusedSimpArgs false
namespace Go.Ab.Enc
set_option maxRecDepth 100000
set_option maxHeartbeats 1000000

/-- The bytes of a number, without zeros ahead. -/
def trim0 : List UInt8 → List UInt8
  | [] => []
  | b :: s => if b = 0 then trim0 s else b :: s
theorem ofBytes_get0 (b : UInt8) (s : List UInt8) : ofBytes (b :: s) = .int .u8 (b.toNat : Int) :: ofBytes s := rfl
theorem sized_ofBytes (s : List UInt8) : sized 1 (ofBytes s) = true := by
  unfold sized ofBytes
  rw [List.all_eq_true]
  intro v hm
  simp only [List.mem_map] at hm
  obtain ⟨b, _, rfl⟩ := hm
  rfl
theorem f49l : ∀ (s : List UInt8) (h : Heap), s.length ≤ 1000000 → ∃ env, (mu K).code (.loopAt 0 [0] l49_0) { env := [(0, .lst (ofBytes s))], h := [] :: h } = some (.exit 0, ⟨env, [] :: h⟩) ∧ get env 0 = .lst (ofBytes (trim0 s))
  | [], h, hs => by
    rw [loop_go]
    generalize (mu K).code (CC.loopAt 0 [0] l49_0) = F
    simp [l49_0, ofBytes, trim0]
  | b :: s, h, hs => by
    rw [loop_go]
    have h1 : (0 : Int) < (s.length : Int) + 1 := by omega
    by_cases hb : b = 0
    · subst hb
      have ih := f49l s h (by simp at hs; omega)
      have hz : sized 1 (ofBytes (0 :: s)) = true := sized_ofBytes (0 :: s)
      generalize (mu K).code (CC.loopAt 0 [0] l49_0) = F at ih ⊢
      have h2 : ofBytes ((0 : UInt8) :: s) = .int .u8 0 :: ofBytes s := rfl
      have h3 : (ofBytes s).length = s.length := by simp [ofBytes]
      rw [h2] at hz ⊢
      have h5 : (1 : Nat) ≤ s.length + 1 := by omega
      have h6 : List.take s.length (ofBytes s) = ofBytes s := by rw [← h3]; exact List.take_length
      have h4 : trim0 ((0 : UInt8) :: s) = trim0 s := by simp [trim0]
      rw [h4]
      have h7 : (1 : Int) ≤ (s.length : Int) + 1 := by omega
      simp [-sized, l49_0, h1, h3, h5, h6, h7, hz]
      exact ih
    · have h2 : ¬ (b.toNat : Int) = 0 := by
        intro e
        exact hb (UInt8.toNat_inj.1 (by have : b.toNat = 0 := by omega
                                        rw [this]; rfl))
      have h4 : trim0 (b :: s) = b :: s := by simp [trim0, hb]
      rw [h4]
      generalize (mu K).code (CC.loopAt 0 [0] l49_0) = F
      have h3 : (ofBytes s).length = s.length := by simp [ofBytes]
      rw [ofBytes_get0]
      have h5 : ¬ b.toNat = 0 := by omega
      simp [l49_0, h1, h3, h2, h5, hb]
theorem f49 (s : List UInt8) (h : Heap) (hs : s.length ≤ 1000000) : (mu K).fn 49 [.lst (ofBytes s)] h = some (.val (.str (trim0 s)) h) := by
  obtain ⟨env, h1, h2⟩ := f49l s h hs
  have h3 := bytesOf_ofBytes (trim0 s)
  rw [fn_go (KX _ _ _) fn49 rfl (by simp [c49])]
  simp [c49, h1, h2, h3]
theorem f38s0 (n : Int) (h : Heap) (b0 b1 b2 b3 b4 b5 b6 b7 : AV) : (mu K).code (.loopAt 1 [0, 3, 5] l38_0) { env := [(0, .int .u64 n), (3, .ptr (h.length, 0) 0), (5, .int .i64 0)], h := [.box 81 false (.agg [b0, b1, b2, b3, b4, b5, b6, b7])] :: h } =
    (mu K).code (.loopAt 1 [0, 3, 5] l38_0) { env := [(0, .int .u64 n), (3, .ptr (h.length, 0) 0), (5, .int .i64 1)], h := [.box 81 false (.agg [b0, b1, b2, b3, b4, b5, b6, .int .u8 (IntKind.u8.wrap (n.fdiv (2 ^ 0)))])] :: h } := by
  have e1 : IntKind.u64.bits = 64 := rfl
  rw [loop_go]
  generalize (mu K).code (CC.loopAt 1 [0, 3, 5] l38_0) = F
  simp [l38_0, wrap64, e1]
theorem f38s1 (n : Int) (h : Heap) (b0 b1 b2 b3 b4 b5 b6 b7 : AV) : (mu K).code (.loopAt 1 [0, 3, 5] l38_0) { env := [(0, .int .u64 n), (3, .ptr (h.length, 0) 0), (5, .int .i64 1)], h := [.box 81 false (.agg [b0, b1, b2, b3, b4, b5, b6, b7])] :: h } =
    (mu K).code (.loopAt 1 [0, 3, 5] l38_0) { env := [(0, .int .u64 n), (3, .ptr (h.length, 0) 0), (5, .int .i64 2)], h := [.box 81 false (.agg [b0, b1, b2, b3, b4, b5, .int .u8 (IntKind.u8.wrap (n.fdiv (2 ^ 8))), b7])] :: h } := by
  have e1 : IntKind.u64.bits = 64 := rfl
  rw [loop_go]
  generalize (mu K).code (CC.loopAt 1 [0, 3, 5] l38_0) = F
  simp [l38_0, wrap64, e1]
theorem f38s2 (n : Int) (h : Heap) (b0 b1 b2 b3 b4 b5 b6 b7 : AV) : (mu K).code (.loopAt 1 [0, 3, 5] l38_0) { env := [(0, .int .u64 n), (3, .ptr (h.length, 0) 0), (5, .int .i64 2)], h := [.box 81 false (.agg [b0, b1, b2, b3, b4, b5, b6, b7])] :: h } =
    (mu K).code (.loopAt 1 [0, 3, 5] l38_0) { env := [(0, .int .u64 n), (3, .ptr (h.length, 0) 0), (5, .int .i64 3)], h := [.box 81 false (.agg [b0, b1, b2, b3, b4, .int .u8 (IntKind.u8.wrap (n.fdiv (2 ^ 16))), b6, b7])] :: h } := by
  have e1 : IntKind.u64.bits = 64 := rfl
  rw [loop_go]
  generalize (mu K).code (CC.loopAt 1 [0, 3, 5] l38_0) = F
  simp [l38_0, wrap64, e1]
theorem f38s3 (n : Int) (h : Heap) (b0 b1 b2 b3 b4 b5 b6 b7 : AV) : (mu K).code (.loopAt 1 [0, 3, 5] l38_0) { env := [(0, .int .u64 n), (3, .ptr (h.length, 0) 0), (5, .int .i64 3)], h := [.box 81 false (.agg [b0, b1, b2, b3, b4, b5, b6, b7])] :: h } =
    (mu K).code (.loopAt 1 [0, 3, 5] l38_0) { env := [(0, .int .u64 n), (3, .ptr (h.length, 0) 0), (5, .int .i64 4)], h := [.box 81 false (.agg [b0, b1, b2, b3, .int .u8 (IntKind.u8.wrap (n.fdiv (2 ^ 24))), b5, b6, b7])] :: h } := by
  have e1 : IntKind.u64.bits = 64 := rfl
  rw [loop_go]
  generalize (mu K).code (CC.loopAt 1 [0, 3, 5] l38_0) = F
  simp [l38_0, wrap64, e1]
theorem f38s4 (n : Int) (h : Heap) (b0 b1 b2 b3 b4 b5 b6 b7 : AV) : (mu K).code (.loopAt 1 [0, 3, 5] l38_0) { env := [(0, .int .u64 n), (3, .ptr (h.length, 0) 0), (5, .int .i64 4)], h := [.box 81 false (.agg [b0, b1, b2, b3, b4, b5, b6, b7])] :: h } =
    (mu K).code (.loopAt 1 [0, 3, 5] l38_0) { env := [(0, .int .u64 n), (3, .ptr (h.length, 0) 0), (5, .int .i64 5)], h := [.box 81 false (.agg [b0, b1, b2, .int .u8 (IntKind.u8.wrap (n.fdiv (2 ^ 32))), b4, b5, b6, b7])] :: h } := by
  have e1 : IntKind.u64.bits = 64 := rfl
  rw [loop_go]
  generalize (mu K).code (CC.loopAt 1 [0, 3, 5] l38_0) = F
  simp [l38_0, wrap64, e1]
theorem f38s5 (n : Int) (h : Heap) (b0 b1 b2 b3 b4 b5 b6 b7 : AV) : (mu K).code (.loopAt 1 [0, 3, 5] l38_0) { env := [(0, .int .u64 n), (3, .ptr (h.length, 0) 0), (5, .int .i64 5)], h := [.box 81 false (.agg [b0, b1, b2, b3, b4, b5, b6, b7])] :: h } =
    (mu K).code (.loopAt 1 [0, 3, 5] l38_0) { env := [(0, .int .u64 n), (3, .ptr (h.length, 0) 0), (5, .int .i64 6)], h := [.box 81 false (.agg [b0, b1, .int .u8 (IntKind.u8.wrap (n.fdiv (2 ^ 40))), b3, b4, b5, b6, b7])] :: h } := by
  have e1 : IntKind.u64.bits = 64 := rfl
  rw [loop_go]
  generalize (mu K).code (CC.loopAt 1 [0, 3, 5] l38_0) = F
  simp [l38_0, wrap64, e1]
theorem f38s6 (n : Int) (h : Heap) (b0 b1 b2 b3 b4 b5 b6 b7 : AV) : (mu K).code (.loopAt 1 [0, 3, 5] l38_0) { env := [(0, .int .u64 n), (3, .ptr (h.length, 0) 0), (5, .int .i64 6)], h := [.box 81 false (.agg [b0, b1, b2, b3, b4, b5, b6, b7])] :: h } =
    (mu K).code (.loopAt 1 [0, 3, 5] l38_0) { env := [(0, .int .u64 n), (3, .ptr (h.length, 0) 0), (5, .int .i64 7)], h := [.box 81 false (.agg [b0, .int .u8 (IntKind.u8.wrap (n.fdiv (2 ^ 48))), b2, b3, b4, b5, b6, b7])] :: h } := by
  have e1 : IntKind.u64.bits = 64 := rfl
  rw [loop_go]
  generalize (mu K).code (CC.loopAt 1 [0, 3, 5] l38_0) = F
  simp [l38_0, wrap64, e1]
theorem f38s7 (n : Int) (h : Heap) (b0 b1 b2 b3 b4 b5 b6 b7 : AV) : (mu K).code (.loopAt 1 [0, 3, 5] l38_0) { env := [(0, .int .u64 n), (3, .ptr (h.length, 0) 0), (5, .int .i64 7)], h := [.box 81 false (.agg [b0, b1, b2, b3, b4, b5, b6, b7])] :: h } =
    (mu K).code (.loopAt 1 [0, 3, 5] l38_0) { env := [(0, .int .u64 n), (3, .ptr (h.length, 0) 0), (5, .int .i64 8)], h := [.box 81 false (.agg [.int .u8 (IntKind.u8.wrap (n.fdiv (2 ^ 56))), b1, b2, b3, b4, b5, b6, b7])] :: h } := by
  have e1 : IntKind.u64.bits = 64 := rfl
  rw [loop_go]
  generalize (mu K).code (CC.loopAt 1 [0, 3, 5] l38_0) = F
  simp [l38_0, wrap64, e1]
theorem f38e (n : Int) (h : Heap) (b0 b1 b2 b3 b4 b5 b6 b7 : AV) : ∃ env, (mu K).code (.loopAt 1 [0, 3, 5] l38_0) { env := [(0, .int .u64 n), (3, .ptr (h.length, 0) 0), (5, .int .i64 8)], h := [.box 81 false (.agg [b0, b1, b2, b3, b4, b5, b6, b7])] :: h } =
    some (.exit 0, ⟨env, [.box 81 false (.agg [b0, b1, b2, b3, b4, b5, b6, b7])] :: h⟩) ∧ get env 3 = .ptr (h.length, 0) 0 := by
  rw [loop_go]
  generalize (mu K).code (CC.loopAt 1 [0, 3, 5] l38_0) = F
  simp [l38_0]
/-- A number's eight bytes, and without zeros ahead. -/
def nat8 (n : Nat) : List UInt8 := [UInt8.ofNat (n / 2 ^ 56), UInt8.ofNat (n / 2 ^ 48), UInt8.ofNat (n / 2 ^ 40), UInt8.ofNat (n / 2 ^ 32), UInt8.ofNat (n / 2 ^ 24), UInt8.ofNat (n / 2 ^ 16), UInt8.ofNat (n / 2 ^ 8), UInt8.ofNat (n / 2 ^ 0)]
def natB (n : Nat) : List UInt8 := trim0 (nat8 n)
theorem byte_shr (n k : Nat) : AV.int .u8 (IntKind.u8.wrap ((n : Int).fdiv (2 ^ k))) = .int .u8 ((UInt8.ofNat (n / 2 ^ k)).toNat : Int) := by
  rw [wrapU8, Int.fdiv_eq_ediv_of_nonneg _ (Int.pow_nonneg (by omega))]
  have e : (2 : Int) ^ k = ((2 ^ k : Nat) : Int) := by simp
  rw [e, ← Int.natCast_ediv]
  generalize n / 2 ^ k = m
  simp
theorem f38loop (n : Int) (h : Heap) : ∃ env, (mu K).code (.loopAt 1 [0, 3, 5] l38_0) { env := [(0, .int .u64 n), (3, .ptr (h.length, 0) 0), (5, .int .i64 0)], h := [.box 81 false (.agg [.int .u8 0, .int .u8 0, .int .u8 0, .int .u8 0, .int .u8 0, .int .u8 0, .int .u8 0, .int .u8 0])] :: h } =
    some (.exit 0, ⟨env, [.box 81 false (.agg [.int .u8 (IntKind.u8.wrap (n.fdiv (2 ^ 56))), .int .u8 (IntKind.u8.wrap (n.fdiv (2 ^ 48))), .int .u8 (IntKind.u8.wrap (n.fdiv (2 ^ 40))), .int .u8 (IntKind.u8.wrap (n.fdiv (2 ^ 32))), .int .u8 (IntKind.u8.wrap (n.fdiv (2 ^ 24))), .int .u8 (IntKind.u8.wrap (n.fdiv (2 ^ 16))), .int .u8 (IntKind.u8.wrap (n.fdiv (2 ^ 8))), .int .u8 (IntKind.u8.wrap (n.fdiv (2 ^ 0)))])] :: h⟩) ∧ get env 3 = .ptr (h.length, 0) 0 := by
  rw [f38s0, f38s1, f38s2, f38s3, f38s4, f38s5, f38s6, f38s7]
  exact f38e _ _ _ _ _ _ _ _ _ _
theorem f38 (n : Nat) (h : Heap) : (mu K).fn 38 [.int .u64 (n : Int)] h = some (.val (.str (natB n)) h) := by
  obtain ⟨env, h1, h2⟩ := f38loop n h
  simp only [byte_shr] at h1
  have h49 := fun h => f49 (nat8 n) h (by simp [nat8])
  simp only [nat8, ofBytes, List.map_cons, List.map_nil] at h49
  rw [fn_go (KX _ _ _) fn38 rfl (by simp [c38])]
  simp only [natB, nat8]
  generalize UInt8.ofNat (n / 2 ^ 56) = b0 at *
  generalize UInt8.ofNat (n / 2 ^ 48) = b1 at *
  generalize UInt8.ofNat (n / 2 ^ 40) = b2 at *
  generalize UInt8.ofNat (n / 2 ^ 32) = b3 at *
  generalize UInt8.ofNat (n / 2 ^ 24) = b4 at *
  generalize UInt8.ofNat (n / 2 ^ 16) = b5 at *
  generalize UInt8.ofNat (n / 2 ^ 8) = b6 at *
  generalize UInt8.ofNat (n / 2 ^ 0) = b7 at *
  simp [c38, KL, h1, h2, h49]
end Go.Ab.Enc

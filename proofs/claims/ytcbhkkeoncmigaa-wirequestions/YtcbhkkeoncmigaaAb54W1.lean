/-
  The writers' parts: numbers as bytes, both ways; the writer's marks.
-/
import Derived.Test.YtcbhkkeoncmigaaAb54F20
set_option linter.unusedVariables false
set_option linter.unusedSimpArgs false
namespace Go.Ab.Wire
set_option maxRecDepth 100000
set_option maxHeartbeats 1000000

theorem wrapU64 {n : Int} (h1 : 0 ≤ n) (h2 : n < 18446744073709551616) : IntKind.u64.wrap n = n := by
  have e1 : IntKind.u64.bits = 64 := rfl
  have e2 : IntKind.u64.signed = false := rfl
  unfold IntKind.wrap
  simp only [e1, e2, Bool.false_and, Bool.false_eq_true, if_false]
  have e3 : (2 : Int) ^ 64 = 18446744073709551616 := by decide
  rw [e3]; omega
theorem f79 (n : List UInt8) (h : Heap) : (mu K).fn 79 [.str n] h = some (.val (.bool (canon n)) h) := by
  rw [fn_go (KX _ _ _) fn79 rfl (by simp [c79])]
  rcases n with _ | ⟨b, r⟩
  · simp [c79, canon]
  · by_cases hl : (r.length : Int) + 1 ≤ 128
    · have hl2 : r.length + 1 ≤ 128 := by omega
      by_cases hb : b = 0
      · subst hb; simp [c79, canon, hl, hl2]
      · have h1 : ¬ b.toNat = 0 := fun e => hb (UInt8.toNat_inj.1 e)
        simp [c79, canon, hl, hl2, hb, h1]
    · have hl2 : ¬ r.length + 1 ≤ 128 := by omega
      simp [c79, canon, hl, hl2]
theorem f69 (a : List UInt8) (h : Heap) : (mu K).fn 69 [.str a] h = some (.val (It.mk 1 [] a true []).av h) := by
  rw [fn_go (KX _ _ _) fn69 rfl (by simp [c69])]
  simp [c69, It.av, It.avs, lv]
theorem f30 (a : List UInt8) (h : Heap) : (mu K).fn 30 [.str a] h = some (.val (It.mk 1 [] a true []).av h) := by
  have h69 := fun h => f69 a h
  rw [fn_go (KX _ _ _) fn30 rfl (by simp [c30])]
  simp [c30, KL, h69]
theorem f105l : ∀ (s pre : List UInt8) (h : Heap), (pre ++ s).length ≤ 1000000 → (∀ b ∈ pre, b = 0) →
    ∃ (k : Nat) (env : Env), k ≤ (pre ++ s).length ∧ (pre ++ s).drop k = trim0 s ∧ (mu K).code (.loopAt 0 [0, 3] l105_0) { env := [(0, .lst (ofBytes (pre ++ s))), (3, .int .i64 (pre.length : Int))], h := [] :: h } = some (.exit 0, ⟨env, [] :: h⟩) ∧
      get env 0 = .lst (ofBytes (pre ++ s)) ∧ get env 3 = .int .i64 (k : Int)
  | [], pre, h, hs, hp => by
    rw [loop_go]
    generalize (mu K).code (CC.loopAt 0 [0, 3] l105_0) = F
    have hl : (ofBytes pre).length = pre.length := by simp [ofBytes]
    refine ⟨pre.length, ?_⟩
    simp [l105_0, hl, trim0]
  | b :: s, pre, h, hs, hp => by
    have hl : (ofBytes (pre ++ b :: s)).length = pre.length + (s.length + 1) := by simp [ofBytes]
    have hg : (ofBytes (pre ++ b :: s))[pre.length]? = some (.int .u8 (b.toNat : Int)) := by simp [ofBytes]
    have h1 : (pre.length : Int) < (pre.length : Int) + ((s.length : Int) + 1) := by omega
    have hs2 : pre.length + (s.length + 1) ≤ 1000000 := by simpa using hs
    have w1 : IntKind.i64.wrap ((pre.length : Int) + 1) = (pre.length : Int) + 1 := wrap64 (by omega) (by omega)
    by_cases hb : b = 0
    · subst hb
      obtain ⟨k, env, k1, k2, k3⟩ := f105l s (pre ++ [0]) h (by simpa using hs) (fun c hc => by
        rcases List.mem_append.1 hc with hc | hc
        · exact hp c hc
        · simpa using hc)
      refine ⟨k, env, by simpa using k1, by simpa [trim0] using k2, ?_⟩
      rw [loop_go]
      generalize (mu K).code (CC.loopAt 0 [0, 3] l105_0) = F at k3 ⊢
      simp only [List.append_assoc, List.singleton_append, List.length_append, List.length_singleton, Int.natCast_add, Int.natCast_one] at k3
      generalize hX : ofBytes (pre ++ 0 :: s) = X at *
      have hg2 : ∀ hh : pre.length < X.length, X[pre.length]'hh = .int .u8 0 := fun hh => (List.getElem?_eq_some_iff.1 hg).2
      simp [l105_0, hl, hg2, h1, w1]
      exact k3
    · have hb2 : ¬ b.toNat = 0 := fun e => hb (UInt8.toNat_inj.1 e)
      refine ⟨pre.length, ?_⟩
      rw [loop_go]
      generalize (mu K).code (CC.loopAt 0 [0, 3] l105_0) = F
      generalize hX : ofBytes (pre ++ b :: s) = X at *
      have hg2 : ∀ hh : pre.length < X.length, X[pre.length]'hh = .int .u8 (b.toNat : Int) := fun hh => (List.getElem?_eq_some_iff.1 hg).2
      simp [l105_0, hl, hg2, h1, hb2, hb, trim0]
theorem f105 (s : List UInt8) (h : Heap) (hs : s.length ≤ 1000000) : (mu K).fn 105 [.lst (ofBytes s)] h = some (.val (.str (trim0 s)) h) := by
  obtain ⟨k, env, k1, k2, k3, g0, g3⟩ := f105l s [] h (by simpa using hs) (by simp)
  simp only [List.nil_append, List.length_nil, Int.natCast_zero] at k1 k2 k3 g0
  have hl : (ofBytes s).length = s.length := by simp [ofBytes]
  have hz := sized_ofBytes s
  have hb : bytesOf (List.drop k (ofBytes s)) = some (trim0 s) := by
    have : List.drop k (ofBytes s) = ofBytes (s.drop k) := by simp [ofBytes, List.map_drop]
    rw [this, k2]; exact bytesOf_ofBytes _
  have ht : List.take s.length (ofBytes s) = ofBytes s := by rw [← hl]; exact List.take_length
  rw [fn_go (KX _ _ _) fn105 rfl (by simp [c105])]
  simp [-sized, c105, k3, g0, g3, hl, hz, k1, ht, hb]
theorem f71s0 (n : Nat) (hn : n < 18446744073709551616) (h : Heap) (b0 b1 b2 b3 b4 b5 b6 b7 : Int) : (mu K).code (.loopAt 1 [0, 3, 4] l71_0) { env := [(0, .int .u64 (n : Int)), (3, .own (h.length, 0) 8), (4, .int .i64 7)], h := [.arr 5 1 false [.int .u8 b0, .int .u8 b1, .int .u8 b2, .int .u8 b3, .int .u8 b4, .int .u8 b5, .int .u8 b6, .int .u8 b7]] :: h } =
    (mu K).code (.loopAt 1 [0, 3, 4] l71_0) { env := [(0, .int .u64 ((n / 256 : Nat) : Int)), (3, .own (h.length, 0) 8), (4, .int .i64 6)], h := [.arr 5 1 false [.int .u8 b0, .int .u8 b1, .int .u8 b2, .int .u8 b3, .int .u8 b4, .int .u8 b5, .int .u8 b6, .int .u8 (IntKind.u8.wrap ((n % 256 : Nat) : Int))]] :: h } := by
  have e1 : (n : Int).tmod 256 = ((n % 256 : Nat) : Int) := tmod_nat n 256
  have e2 : (n : Int).tdiv 256 = ((n / 256 : Nat) : Int) := tdiv_nat n 256
  have e3 : IntKind.u64.wrap ((n / 256 : Nat) : Int) = ((n / 256 : Nat) : Int) := wrapU64 (by omega) (by omega)
  generalize hm : n % 256 = m at *
  generalize hq : n / 256 = q at *
  rw [loop_go]
  generalize (mu K).code (CC.loopAt 1 [0, 3, 4] l71_0) = F
  simp [l71_0, wrap64, e1, e2, e3]
theorem f71s1 (n : Nat) (hn : n < 18446744073709551616) (h : Heap) (b0 b1 b2 b3 b4 b5 b6 b7 : Int) : (mu K).code (.loopAt 1 [0, 3, 4] l71_0) { env := [(0, .int .u64 (n : Int)), (3, .own (h.length, 0) 8), (4, .int .i64 6)], h := [.arr 5 1 false [.int .u8 b0, .int .u8 b1, .int .u8 b2, .int .u8 b3, .int .u8 b4, .int .u8 b5, .int .u8 b6, .int .u8 b7]] :: h } =
    (mu K).code (.loopAt 1 [0, 3, 4] l71_0) { env := [(0, .int .u64 ((n / 256 : Nat) : Int)), (3, .own (h.length, 0) 8), (4, .int .i64 5)], h := [.arr 5 1 false [.int .u8 b0, .int .u8 b1, .int .u8 b2, .int .u8 b3, .int .u8 b4, .int .u8 b5, .int .u8 (IntKind.u8.wrap ((n % 256 : Nat) : Int)), .int .u8 b7]] :: h } := by
  have e1 : (n : Int).tmod 256 = ((n % 256 : Nat) : Int) := tmod_nat n 256
  have e2 : (n : Int).tdiv 256 = ((n / 256 : Nat) : Int) := tdiv_nat n 256
  have e3 : IntKind.u64.wrap ((n / 256 : Nat) : Int) = ((n / 256 : Nat) : Int) := wrapU64 (by omega) (by omega)
  generalize hm : n % 256 = m at *
  generalize hq : n / 256 = q at *
  rw [loop_go]
  generalize (mu K).code (CC.loopAt 1 [0, 3, 4] l71_0) = F
  simp [l71_0, wrap64, e1, e2, e3]
theorem f71s2 (n : Nat) (hn : n < 18446744073709551616) (h : Heap) (b0 b1 b2 b3 b4 b5 b6 b7 : Int) : (mu K).code (.loopAt 1 [0, 3, 4] l71_0) { env := [(0, .int .u64 (n : Int)), (3, .own (h.length, 0) 8), (4, .int .i64 5)], h := [.arr 5 1 false [.int .u8 b0, .int .u8 b1, .int .u8 b2, .int .u8 b3, .int .u8 b4, .int .u8 b5, .int .u8 b6, .int .u8 b7]] :: h } =
    (mu K).code (.loopAt 1 [0, 3, 4] l71_0) { env := [(0, .int .u64 ((n / 256 : Nat) : Int)), (3, .own (h.length, 0) 8), (4, .int .i64 4)], h := [.arr 5 1 false [.int .u8 b0, .int .u8 b1, .int .u8 b2, .int .u8 b3, .int .u8 b4, .int .u8 (IntKind.u8.wrap ((n % 256 : Nat) : Int)), .int .u8 b6, .int .u8 b7]] :: h } := by
  have e1 : (n : Int).tmod 256 = ((n % 256 : Nat) : Int) := tmod_nat n 256
  have e2 : (n : Int).tdiv 256 = ((n / 256 : Nat) : Int) := tdiv_nat n 256
  have e3 : IntKind.u64.wrap ((n / 256 : Nat) : Int) = ((n / 256 : Nat) : Int) := wrapU64 (by omega) (by omega)
  generalize hm : n % 256 = m at *
  generalize hq : n / 256 = q at *
  rw [loop_go]
  generalize (mu K).code (CC.loopAt 1 [0, 3, 4] l71_0) = F
  simp [l71_0, wrap64, e1, e2, e3]
theorem f71s3 (n : Nat) (hn : n < 18446744073709551616) (h : Heap) (b0 b1 b2 b3 b4 b5 b6 b7 : Int) : (mu K).code (.loopAt 1 [0, 3, 4] l71_0) { env := [(0, .int .u64 (n : Int)), (3, .own (h.length, 0) 8), (4, .int .i64 4)], h := [.arr 5 1 false [.int .u8 b0, .int .u8 b1, .int .u8 b2, .int .u8 b3, .int .u8 b4, .int .u8 b5, .int .u8 b6, .int .u8 b7]] :: h } =
    (mu K).code (.loopAt 1 [0, 3, 4] l71_0) { env := [(0, .int .u64 ((n / 256 : Nat) : Int)), (3, .own (h.length, 0) 8), (4, .int .i64 3)], h := [.arr 5 1 false [.int .u8 b0, .int .u8 b1, .int .u8 b2, .int .u8 b3, .int .u8 (IntKind.u8.wrap ((n % 256 : Nat) : Int)), .int .u8 b5, .int .u8 b6, .int .u8 b7]] :: h } := by
  have e1 : (n : Int).tmod 256 = ((n % 256 : Nat) : Int) := tmod_nat n 256
  have e2 : (n : Int).tdiv 256 = ((n / 256 : Nat) : Int) := tdiv_nat n 256
  have e3 : IntKind.u64.wrap ((n / 256 : Nat) : Int) = ((n / 256 : Nat) : Int) := wrapU64 (by omega) (by omega)
  generalize hm : n % 256 = m at *
  generalize hq : n / 256 = q at *
  rw [loop_go]
  generalize (mu K).code (CC.loopAt 1 [0, 3, 4] l71_0) = F
  simp [l71_0, wrap64, e1, e2, e3]
theorem f71s4 (n : Nat) (hn : n < 18446744073709551616) (h : Heap) (b0 b1 b2 b3 b4 b5 b6 b7 : Int) : (mu K).code (.loopAt 1 [0, 3, 4] l71_0) { env := [(0, .int .u64 (n : Int)), (3, .own (h.length, 0) 8), (4, .int .i64 3)], h := [.arr 5 1 false [.int .u8 b0, .int .u8 b1, .int .u8 b2, .int .u8 b3, .int .u8 b4, .int .u8 b5, .int .u8 b6, .int .u8 b7]] :: h } =
    (mu K).code (.loopAt 1 [0, 3, 4] l71_0) { env := [(0, .int .u64 ((n / 256 : Nat) : Int)), (3, .own (h.length, 0) 8), (4, .int .i64 2)], h := [.arr 5 1 false [.int .u8 b0, .int .u8 b1, .int .u8 b2, .int .u8 (IntKind.u8.wrap ((n % 256 : Nat) : Int)), .int .u8 b4, .int .u8 b5, .int .u8 b6, .int .u8 b7]] :: h } := by
  have e1 : (n : Int).tmod 256 = ((n % 256 : Nat) : Int) := tmod_nat n 256
  have e2 : (n : Int).tdiv 256 = ((n / 256 : Nat) : Int) := tdiv_nat n 256
  have e3 : IntKind.u64.wrap ((n / 256 : Nat) : Int) = ((n / 256 : Nat) : Int) := wrapU64 (by omega) (by omega)
  generalize hm : n % 256 = m at *
  generalize hq : n / 256 = q at *
  rw [loop_go]
  generalize (mu K).code (CC.loopAt 1 [0, 3, 4] l71_0) = F
  simp [l71_0, wrap64, e1, e2, e3]
theorem f71s5 (n : Nat) (hn : n < 18446744073709551616) (h : Heap) (b0 b1 b2 b3 b4 b5 b6 b7 : Int) : (mu K).code (.loopAt 1 [0, 3, 4] l71_0) { env := [(0, .int .u64 (n : Int)), (3, .own (h.length, 0) 8), (4, .int .i64 2)], h := [.arr 5 1 false [.int .u8 b0, .int .u8 b1, .int .u8 b2, .int .u8 b3, .int .u8 b4, .int .u8 b5, .int .u8 b6, .int .u8 b7]] :: h } =
    (mu K).code (.loopAt 1 [0, 3, 4] l71_0) { env := [(0, .int .u64 ((n / 256 : Nat) : Int)), (3, .own (h.length, 0) 8), (4, .int .i64 1)], h := [.arr 5 1 false [.int .u8 b0, .int .u8 b1, .int .u8 (IntKind.u8.wrap ((n % 256 : Nat) : Int)), .int .u8 b3, .int .u8 b4, .int .u8 b5, .int .u8 b6, .int .u8 b7]] :: h } := by
  have e1 : (n : Int).tmod 256 = ((n % 256 : Nat) : Int) := tmod_nat n 256
  have e2 : (n : Int).tdiv 256 = ((n / 256 : Nat) : Int) := tdiv_nat n 256
  have e3 : IntKind.u64.wrap ((n / 256 : Nat) : Int) = ((n / 256 : Nat) : Int) := wrapU64 (by omega) (by omega)
  generalize hm : n % 256 = m at *
  generalize hq : n / 256 = q at *
  rw [loop_go]
  generalize (mu K).code (CC.loopAt 1 [0, 3, 4] l71_0) = F
  simp [l71_0, wrap64, e1, e2, e3]
theorem f71s6 (n : Nat) (hn : n < 18446744073709551616) (h : Heap) (b0 b1 b2 b3 b4 b5 b6 b7 : Int) : (mu K).code (.loopAt 1 [0, 3, 4] l71_0) { env := [(0, .int .u64 (n : Int)), (3, .own (h.length, 0) 8), (4, .int .i64 1)], h := [.arr 5 1 false [.int .u8 b0, .int .u8 b1, .int .u8 b2, .int .u8 b3, .int .u8 b4, .int .u8 b5, .int .u8 b6, .int .u8 b7]] :: h } =
    (mu K).code (.loopAt 1 [0, 3, 4] l71_0) { env := [(0, .int .u64 ((n / 256 : Nat) : Int)), (3, .own (h.length, 0) 8), (4, .int .i64 0)], h := [.arr 5 1 false [.int .u8 b0, .int .u8 (IntKind.u8.wrap ((n % 256 : Nat) : Int)), .int .u8 b2, .int .u8 b3, .int .u8 b4, .int .u8 b5, .int .u8 b6, .int .u8 b7]] :: h } := by
  have e1 : (n : Int).tmod 256 = ((n % 256 : Nat) : Int) := tmod_nat n 256
  have e2 : (n : Int).tdiv 256 = ((n / 256 : Nat) : Int) := tdiv_nat n 256
  have e3 : IntKind.u64.wrap ((n / 256 : Nat) : Int) = ((n / 256 : Nat) : Int) := wrapU64 (by omega) (by omega)
  generalize hm : n % 256 = m at *
  generalize hq : n / 256 = q at *
  rw [loop_go]
  generalize (mu K).code (CC.loopAt 1 [0, 3, 4] l71_0) = F
  simp [l71_0, wrap64, e1, e2, e3]
theorem f71s7 (n : Nat) (hn : n < 18446744073709551616) (h : Heap) (b0 b1 b2 b3 b4 b5 b6 b7 : Int) : (mu K).code (.loopAt 1 [0, 3, 4] l71_0) { env := [(0, .int .u64 (n : Int)), (3, .own (h.length, 0) 8), (4, .int .i64 0)], h := [.arr 5 1 false [.int .u8 b0, .int .u8 b1, .int .u8 b2, .int .u8 b3, .int .u8 b4, .int .u8 b5, .int .u8 b6, .int .u8 b7]] :: h } =
    (mu K).code (.loopAt 1 [0, 3, 4] l71_0) { env := [(0, .int .u64 ((n / 256 : Nat) : Int)), (3, .own (h.length, 0) 8), (4, .int .i64 (-1))], h := [.arr 5 1 false [.int .u8 (IntKind.u8.wrap ((n % 256 : Nat) : Int)), .int .u8 b1, .int .u8 b2, .int .u8 b3, .int .u8 b4, .int .u8 b5, .int .u8 b6, .int .u8 b7]] :: h } := by
  have e1 : (n : Int).tmod 256 = ((n % 256 : Nat) : Int) := tmod_nat n 256
  have e2 : (n : Int).tdiv 256 = ((n / 256 : Nat) : Int) := tdiv_nat n 256
  have e3 : IntKind.u64.wrap ((n / 256 : Nat) : Int) = ((n / 256 : Nat) : Int) := wrapU64 (by omega) (by omega)
  generalize hm : n % 256 = m at *
  generalize hq : n / 256 = q at *
  rw [loop_go]
  generalize (mu K).code (CC.loopAt 1 [0, 3, 4] l71_0) = F
  simp [l71_0, wrap64, e1, e2, e3]
theorem f71e (n : Int) (h : Heap) (b0 b1 b2 b3 b4 b5 b6 b7 : Int) : ∃ env, (mu K).code (.loopAt 1 [0, 3, 4] l71_0) { env := [(0, .int .u64 n), (3, .own (h.length, 0) 8), (4, .int .i64 (-1))], h := [.arr 5 1 false [.int .u8 b0, .int .u8 b1, .int .u8 b2, .int .u8 b3, .int .u8 b4, .int .u8 b5, .int .u8 b6, .int .u8 b7]] :: h } =
    some (.exit 0, ⟨env, [.arr 5 1 false [.int .u8 b0, .int .u8 b1, .int .u8 b2, .int .u8 b3, .int .u8 b4, .int .u8 b5, .int .u8 b6, .int .u8 b7]] :: h⟩) ∧ get env 3 = .own (h.length, 0) 8 := by
  rw [loop_go]
  generalize (mu K).code (CC.loopAt 1 [0, 3, 4] l71_0) = F
  simp [l71_0]
theorem f71loop (n : Nat) (hn : n < 18446744073709551616) (h : Heap) : ∃ env, (mu K).code (.loopAt 1 [0, 3, 4] l71_0) { env := [(0, .int .u64 (n : Int)), (3, .own (h.length, 0) 8), (4, .int .i64 7)], h := [.arr 5 1 false [.int .u8 0, .int .u8 0, .int .u8 0, .int .u8 0, .int .u8 0, .int .u8 0, .int .u8 0, .int .u8 0]] :: h } =
    some (.exit 0, ⟨env, [.arr 5 1 false [.int .u8 (IntKind.u8.wrap ((((((((n / 256 / 256) / 256) / 256) / 256) / 256) / 256) % 256 : Nat) : Int)), .int .u8 (IntKind.u8.wrap (((((((n / 256 / 256) / 256) / 256) / 256) / 256) % 256 : Nat) : Int)), .int .u8 (IntKind.u8.wrap ((((((n / 256 / 256) / 256) / 256) / 256) % 256 : Nat) : Int)), .int .u8 (IntKind.u8.wrap (((((n / 256 / 256) / 256) / 256) % 256 : Nat) : Int)), .int .u8 (IntKind.u8.wrap ((((n / 256 / 256) / 256) % 256 : Nat) : Int)), .int .u8 (IntKind.u8.wrap (((n / 256 / 256) % 256 : Nat) : Int)), .int .u8 (IntKind.u8.wrap ((n / 256 % 256 : Nat) : Int)), .int .u8 (IntKind.u8.wrap ((n % 256 : Nat) : Int))]] :: h⟩) ∧ get env 3 = .own (h.length, 0) 8 := by
  rw [f71s0 _ (by omega), f71s1 _ (by omega), f71s2 _ (by omega), f71s3 _ (by omega), f71s4 _ (by omega), f71s5 _ (by omega), f71s6 _ (by omega), f71s7 _ (by omega)]
  exact f71e _ _ _ _ _ _ _ _ _ _
theorem byte_mod (n : Nat) : AV.int .u8 (IntKind.u8.wrap ((n % 256 : Nat) : Int)) = .int .u8 ((UInt8.ofNat n).toNat : Int) := by
  rw [wrapU8]
  simp
theorem f71 (n : Nat) (hn : n < 18446744073709551616) (h : Heap) : (mu K).fn 71 [.int .u64 (n : Int)] h = some (.val (.str (natB n)) h) := by
  obtain ⟨env, h1, h2⟩ := f71loop n hn h
  simp only [byte_mod] at h1
  have hd : ((((((n / 256 / 256) / 256) / 256) / 256) / 256) / 256) = n / 2 ^ 56 ∧ (((((n / 256 / 256) / 256) / 256) / 256) / 256) = n / 2 ^ 48 ∧ ((((n / 256 / 256) / 256) / 256) / 256) = n / 2 ^ 40 ∧ (((n / 256 / 256) / 256) / 256) = n / 2 ^ 32 ∧ ((n / 256 / 256) / 256) = n / 2 ^ 24 ∧ (n / 256 / 256) = n / 2 ^ 16 ∧ n / 256 = n / 2 ^ 8 := by
    simp only [Nat.div_div_eq_div_mul]
    simp
  have h105 := fun h => f105 (nat8 n) h (by simp [nat8])
  simp only [nat8, ofBytes, List.map_cons, List.map_nil] at h105
  obtain ⟨d0, d1, d2, d3, d4, d5, d6⟩ := hd
  rw [d0, d1, d2, d3, d4, d5, d6] at h1
  rw [fn_go (KX _ _ _) fn71 rfl (by simp [c71])]
  simp only [natB, nat8]
  simp only [Nat.pow_zero, Nat.div_one] at h105 ⊢
  generalize UInt8.ofNat (n / 2 ^ 56) = b0 at *
  generalize UInt8.ofNat (n / 2 ^ 48) = b1 at *
  generalize UInt8.ofNat (n / 2 ^ 40) = b2 at *
  generalize UInt8.ofNat (n / 2 ^ 32) = b3 at *
  generalize UInt8.ofNat (n / 2 ^ 24) = b4 at *
  generalize UInt8.ofNat (n / 2 ^ 16) = b5 at *
  generalize UInt8.ofNat (n / 2 ^ 8) = b6 at *
  generalize UInt8.ofNat n = b7 at *
  have hroom : 8 ≤ room := by unfold room; omega
  simp [c71, KL, h1, h2, h105, List.replicate, hroom]
end Go.Ab.Wire

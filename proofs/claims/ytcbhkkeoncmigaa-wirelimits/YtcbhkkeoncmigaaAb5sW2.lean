/-
  The writers' parts: numbers as bytes, both ways; the writer's marks.
-/
import Derived.Test.YtcbhkkeoncmigaaAb5sF20
set_option linter.unusedVariables false
set_option linter.unusedSimpArgs false
namespace Go.Ab.WireS
set_option maxRecDepth 100000
set_option maxHeartbeats 1000000

theorem wrapU64 {n : Int} (h1 : 0 ≤ n) (h2 : n < 18446744073709551616) : IntKind.u64.wrap n = n := by
  have e1 : IntKind.u64.bits = 64 := rfl
  have e2 : IntKind.u64.signed = false := rfl
  unfold IntKind.wrap
  simp only [e1, e2, Bool.false_and, Bool.false_eq_true, if_false]
  have e3 : (2 : Int) ^ 64 = 18446744073709551616 := by decide
  rw [e3]; omega
theorem f79 (n : List UInt8) (h : Heap) : (mu K).fn 79 [.str n] h = some (.val (.bool (canon n)) h) := by
  rw [fn_go (KX _ _ _) fn79 rfl (by simp [c79])]
  rcases n with _ | ⟨b, r⟩
  · simp [c79, canon]
  · by_cases hl : (r.length : Int) + 1 ≤ 128
    · have hl2 : r.length + 1 ≤ 128 := by omega
      by_cases hb : b = 0
      · subst hb; simp [c79, canon, hl, hl2]
      · have h1 : ¬ b.toNat = 0 := fun e => hb (UInt8.toNat_inj.1 e)
        simp [c79, canon, hl, hl2, hb, h1]
    · have hl2 : ¬ r.length + 1 ≤ 128 := by omega
      simp [c79, canon, hl, hl2]
theorem f69 (a : List UInt8) (h : Heap) : (mu K).fn 69 [.str a] h = some (.val (It.mk 1 [] a true []).av h) := by
  rw [fn_go (KX _ _ _) fn69 rfl (by simp [c69])]
  simp [c69, It.av, It.avs, lv]
theorem f30 (a : List UInt8) (h : Heap) : (mu K).fn 30 [.str a] h = some (.val (It.mk 1 [] a true []).av h) := by
  have h69 := fun h => f69 a h
  rw [fn_go (KX _ _ _) fn30 rfl (by simp [c30])]
  simp [c30, KL, h69]
theorem f105l : ∀ (s pre : List UInt8) (h : Heap), (pre ++ s).length ≤ 1000000 → (∀ b ∈ pre, b = 0) →
    ∃ (k : Nat) (env : Env), k ≤ (pre ++ s).length ∧ (pre ++ s).drop k = trim0 s ∧ (mu K).code (.loopAt 0 [0, 3] l105_0) { env := [(0, .lst (ofBytes (pre ++ s))), (3, .int .i64 (pre.length : Int))], h := [] :: h } = some (.exit 0, ⟨env, [] :: h⟩) ∧
      get env 0 = .lst (ofBytes (pre ++ s)) ∧ get env 3 = .int .i64 (k : Int)
  | [], pre, h, hs, hp => by
    rw [loop_go]
    generalize (mu K).code (CC.loopAt 0 [0, 3] l105_0) = F
    have hl : (ofBytes pre).length = pre.length := by simp [ofBytes]
    refine ⟨pre.length, ?_⟩
    simp [l105_0, hl, trim0]
  | b :: s, pre, h, hs, hp => by
    have hl : (ofBytes (pre ++ b :: s)).length = pre.length + (s.length + 1) := by simp [ofBytes]
    have hg : (ofBytes (pre ++ b :: s))[pre.length]? = some (.int .u8 (b.toNat : Int)) := by simp [ofBytes]
    have h1 : (pre.length : Int) < (pre.length : Int) + ((s.length : Int) + 1) := by omega
    have hs2 : pre.length + (s.length + 1) ≤ 1000000 := by simpa using hs
    have w1 : IntKind.i64.wrap ((pre.length : Int) + 1) = (pre.length : Int) + 1 := wrap64 (by omega) (by omega)
    by_cases hb : b = 0
    · subst hb
      obtain ⟨k, env, k1, k2, k3⟩ := f105l s (pre ++ [0]) h (by simpa using hs) (fun c hc => by
        rcases List.mem_append.1 hc with hc | hc
        · exact hp c hc
        · simpa using hc)
      refine ⟨k, env, by simpa using k1, by simpa [trim0] using k2, ?_⟩
      rw [loop_go]
      generalize (mu K).code (CC.loopAt 0 [0, 3] l105_0) = F at k3 ⊢
      simp only [List.append_assoc, List.singleton_append, List.length_append, List.length_singleton, Int.natCast_add, Int.natCast_one] at k3
      generalize hX : ofBytes (pre ++ 0 :: s) = X at *
      have hg2 : ∀ hh : pre.length < X.length, X[pre.length]'hh = .int .u8 0 := fun hh => (List.getElem?_eq_some_iff.1 hg).2
      simp [l105_0, hl, hg2, h1, w1]
      exact k3
    · have hb2 : ¬ b.toNat = 0 := fun e => hb (UInt8.toNat_inj.1 e)
      refine ⟨pre.length, ?_⟩
      rw [loop_go]
      generalize (mu K).code (CC.loopAt 0 [0, 3] l105_0) = F
      generalize hX : ofBytes (pre ++ b :: s) = X at *
      have hg2 : ∀ hh : pre.length < X.length, X[pre.length]'hh = .int .u8 (b.toNat : Int) := fun hh => (List.getElem?_eq_some_iff.1 hg).2
      simp [l105_0, hl, hg2, h1, hb2, hb, trim0]
theorem f105 (s : List UInt8) (h : Heap) (hs : s.length ≤ 1000000) : (mu K).fn 105 [.lst (ofBytes s)] h = some (.val (.str (trim0 s)) h) := by
  obtain ⟨k, env, k1, k2, k3, g0, g3⟩ := f105l s [] h (by simpa using hs) (by simp)
  simp only [List.nil_append, List.length_nil, Int.natCast_zero] at k1 k2 k3 g0
  have hl : (ofBytes s).length = s.length := by simp [ofBytes]
  have hz := sized_ofBytes s
  have hb : bytesOf (List.drop k (ofBytes s)) = some (trim0 s) := by
    have : List.drop k (ofBytes s) = ofBytes (s.drop k) := by simp [ofBytes, List.map_drop]
    rw [this, k2]; exact bytesOf_ofBytes _
  have ht : List.take s.length (ofBytes s) = ofBytes s := by rw [← hl]; exact List.take_length
  rw [fn_go (KX _ _ _) fn105 rfl (by simp [c105])]
  simp [-sized, c105, k3, g0, g3, hl, hz, k1, ht, hb]
theorem f71s0 (n : Nat) (hn : n < 18446744073709551616) (h : Heap) (b0 b1 b2 b3 b4 b5 b6 b7 : Int) : (mu K).code (.loopAt 1 [0, 3, 4] l71_0) { env := [(0, .int .u64 (n : Int)), (3, .own (h.length, 0) 8), (4, .int .i64 7)], h := [.arr 5 1 false [.int .u8 b0, .int .u8 b1, .int .u8 b2, .int .u8 b3, .int .u8 b4, .int .u8 b5, .int .u8 b6, .int .u8 b7]] :: h } =
    (mu K).code (.loopAt 1 [0, 3, 4] l71_0) { env := [(0, .int .u64 ((n / 256 : Nat) : Int)), (3, .own (h.length, 0) 8), (4, .int .i64 6)], h := [.arr 5 1 false [.int .u8 b0, .int .u8 b1, .int .u8 b2, .int .u8 b3, .int .u8 b4, .int .u8 b5, .int .u8 b6, .int .u8 (IntKind.u8.wrap ((n % 256 : Nat) : Int))]] :: h } := by
  have e1 : (n : Int).tmod 256 = ((n % 256 : Nat) : Int) := tmod_nat n 256
  have e2 : (n : Int).tdiv 256 = ((n / 256 : Nat) : Int) := tdiv_nat n 256
  have e3 : IntKind.u64.wrap ((n / 256 : Nat) : Int) = ((n / 256 : Nat) : Int) := wrapU64 (by omega) (by omega)
  generalize hm : n % 256 = m at *
  generalize hq : n / 256 = q at *
  rw [loop_go]
  generalize (mu K).code (CC.loopAt 1 [0, 3, 4] l71_0) = F
  simp [l71_0, wrap64, e1, e2, e3]
theorem f71s1 (n : Nat) (hn : n < 18446744073709551616) (h : Heap) (b0 b1 b2 b3 b4 b5 b6 b7 : Int) : (mu K).code (.loopAt 1 [0, 3, 4] l71_0) { env := [(0, .int .u64 (n : Int)), (3, .own (h.length, 0) 8), (4, .int .i64 6)], h := [.arr 5 1 false [.int .u8 b0, .int .u8 b1, .int .u8 b2, .int .u8 b3, .int .u8 b4, .int .u8 b5, .int .u8 b6, .int .u8 b7]] :: h } =
    (mu K).code (.loopAt 1 [0, 3, 4] l71_0) { env := [(0, .int .u64 ((n / 256 : Nat) : Int)), (3, .own (h.length, 0) 8), (4, .int .i64 5)], h := [.arr 5 1 false [.int .u8 b0, .int .u8 b1, .int .u8 b2, .int .u8 b3, .int .u8 b4, .int .u8 b5, .int .u8 (IntKind.u8.wrap ((n % 256 : Nat) : Int)), .int .u8 b7]] :: h } := by
  have e1 : (n : Int).tmod 256 = ((n % 256 : Nat) : Int) := tmod_nat n 256
  have e2 : (n : Int).tdiv 256 = ((n / 256 : Nat) : Int) := tdiv_nat n 256
  have e3 : IntKind.u64.wrap ((n / 256 : Nat) : Int) = ((n / 256 : Nat) : Int) := wrapU64 (by omega) (by omega)
  generalize hm : n % 256 = m at *
  generalize hq : n / 256 = q at *
  rw [loop_go]
  generalize (mu K).code (CC.loopAt 1 [0, 3, 4] l71_0) = F
  simp [l71_0, wrap64, e1, e2, e3]
theorem f71s2 (n : Nat) (hn : n < 18446744073709551616) (h : Heap) (b0 b1 b2 b3 b4 b5 b6 b7 : Int) : (mu K).code (.loopAt 1 [0, 3, 4] l71_0) { env := [(0, .int .u64 (n : Int)), (3, .own (h.length, 0) 8), (4, .int .i64 5)], h := [.arr 5 1 false [.int .u8 b0, .int .u8 b1, .int .u8 b2, .int .u8 b3, .int .u8 b4, .int .u8 b5, .int .u8 b6, .int .u8 b7]] :: h } =
    (mu K).code (.loopAt 1 [0, 3, 4] l71_0) { env := [(0, .int .u64 ((n / 256 : Nat) : Int)), (3, .own (h.length, 0) 8), (4, .int .i64 4)], h := [.arr 5 1 false [.int .u8 b0, .int .u8 b1, .int .u8 b2, .int .u8 b3, .int .u8 b4, .int .u8 (IntKind.u8.wrap ((n % 256 : Nat) : Int)), .int .u8 b6, .int .u8 b7]] :: h } := by
  have e1 : (n : Int).tmod 256 = ((n % 256 : Nat) : Int) := tmod_nat n 256
  have e2 : (n : Int).tdiv 256 = ((n / 256 : Nat) : Int) := tdiv_nat n 256
  have e3 : IntKind.u64.wrap ((n / 256 : Nat) : Int) = ((n / 256 : Nat) : Int) := wrapU64 (by omega) (by omega)
  generalize hm : n % 256 = m at *
  generalize hq : n / 256 = q at *
  rw [loop_go]
  generalize (mu K).code (CC.loopAt 1 [0, 3, 4] l71_0) = F
  simp [l71_0, wrap64, e1, e2, e3]
theorem f71s3 (n : Nat) (hn : n < 18446744073709551616) (h : Heap) (b0 b1 b2 b3 b4 b5 b6 b7 : Int) : (mu K).code (.loopAt 1 [0, 3, 4] l71_0) { env := [(0, .int .u64 (n : Int)), (3, .own (h.length, 0) 8), (4, .int .i64 4)], h := [.arr 5 1 false [.int .u8 b0, .int .u8 b1, .int .u8 b2, .int .u8 b3, .int .u8 b4, .int .u8 b5, .int .u8 b6, .int .u8 b7]] :: h } =
    (mu K).code (.loopAt 1 [0, 3, 4] l71_0) { env := [(0, .int .u64 ((n / 256 : Nat) : Int)), (3, .own (h.length, 0) 8), (4, .int .i64 3)], h := [.arr 5 1 false [.int .u8 b0, .int .u8 b1, .int .u8 b2, .int .u8 b3, .int .u8 (IntKind.u8.wrap ((n % 256 : Nat) : Int)), .int .u8 b5, .int .u8 b6, .int .u8 b7]] :: h } := by
  have e1 : (n : Int).tmod 256 = ((n % 256 : Nat) : Int) := tmod_nat n 256
  have e2 : (n : Int).tdiv 256 = ((n / 256 : Nat) : Int) := tdiv_nat n 256
  have e3 : IntKind.u64.wrap ((n / 256 : Nat) : Int) = ((n / 256 : Nat) : Int) := wrapU64 (by omega) (by omega)
  generalize hm : n % 256 = m at *
  generalize hq : n / 256 = q at *
  rw [loop_go]
  generalize (mu K).code (CC.loopAt 1 [0, 3, 4] l71_0) = F
  simp [l71_0, wrap64, e1, e2, e3]
theorem f71s4 (n : Nat) (hn : n < 18446744073709551616) (h : Heap) (b0 b1 b2 b3 b4 b5 b6 b7 : Int) : (mu K).code (.loopAt 1 [0, 3, 4] l71_0) { env := [(0, .int .u64 (n : Int)), (3, .own (h.length, 0) 8), (4, .int .i64 3)], h := [.arr 5 1 false [.int .u8 b0, .int .u8 b1, .int .u8 b2, .int .u8 b3, .int .u8 b4, .int .u8 b5, .int .u8 b6, .int .u8 b7]] :: h } =
    (mu K).code (.loopAt 1 [0, 3, 4] l71_0) { env := [(0, .int .u64 ((n / 256 : Nat) : Int)), (3, .own (h.length, 0) 8), (4, .int .i64 2)], h := [.arr 5 1 false [.int .u8 b0, .int .u8 b1, .int .u8 b2, .int .u8 (IntKind.u8.wrap ((n % 256 : Nat) : Int)), .int .u8 b4, .int .u8 b5, .int .u8 b6, .int .u8 b7]] :: h } := by
  have e1 : (n : Int).tmod 256 = ((n % 256 : Nat) : Int) := tmod_nat n 256
  have e2 : (n : Int).tdiv 256 = ((n / 256 : Nat) : Int) := tdiv_nat n 256
  have e3 : IntKind.u64.wrap ((n / 256 : Nat) : Int) = ((n / 256 : Nat) : Int) := wrapU64 (by omega) (by omega)
  generalize hm : n % 256 = m at *
  generalize hq : n / 256 = q at *
  rw [loop_go]
  generalize (mu K).code (CC.loopAt 1 [0, 3, 4] l71_0) = F
  simp [l71_0, wrap64, e1, e2, e3]
theorem f71s5 (n : Nat) (hn : n < 18446744073709551616) (h : Heap) (b0 b1 b2 b3 b4 b5 b6 b7 : Int) : (mu K).code (.loopAt 1 [0, 3, 4] l71_0) { env := [(0, .int .u64 (n : Int)), (3, .own (h.length, 0) 8), (4, .int .i64 2)], h := [.arr 5 1 false [.int .u8 b0, .int .u8 b1, .int .u8 b2, .int .u8 b3, .int .u8 b4, .int .u8 b5, .int .u8 b6, .int .u8 b7]] :: h } =
    (mu K).code (.loopAt 1 [0, 3, 4] l71_0) { env := [(0, .int .u64 ((n / 256 : Nat) : Int)), (3, .own (h.length, 0) 8), (4, .int .i64 1)], h := [.arr 5 1 false [.int .u8 b0, .int .u8 b1, .int .u8 (IntKind.u8.wrap ((n % 256 : Nat) : Int)), .int .u8 b3, .int .u8 b4, .int .u8 b5, .int .u8 b6, .int .u8 b7]] :: h } := by
  have e1 : (n : Int).tmod 256 = ((n % 256 : Nat) : Int) := tmod_nat n 256
  have e2 : (n : Int).tdiv 256 = ((n / 256 : Nat) : Int) := tdiv_nat n 256
  have e3 : IntKind.u64.wrap ((n / 256 : Nat) : Int) = ((n / 256 : Nat) : Int) := wrapU64 (by omega) (by omega)
  generalize hm : n % 256 = m at *
  generalize hq : n / 256 = q at *
  rw [loop_go]
  generalize (mu K).code (CC.loopAt 1 [0, 3, 4] l71_0) = F
  simp [l71_0, wrap64, e1, e2, e3]
theorem f71s6 (n : Nat) (hn : n < 18446744073709551616) (h : Heap) (b0 b1 b2 b3 b4 b5 b6 b7 : Int) : (mu K).code (.loopAt 1 [0, 3, 4] l71_0) { env := [(0, .int .u64 (n : Int)), (3, .own (h.length, 0) 8), (4, .int .i64 1)], h := [.arr 5 1 false [.int .u8 b0, .int .u8 b1, .int .u8 b2, .int .u8 b3, .int .u8 b4, .int .u8 b5, .int .u8 b6, .int .u8 b7]] :: h } =
    (mu K).code (.loopAt 1 [0, 3, 4] l71_0) { env := [(0, .int .u64 ((n / 256 : Nat) : Int)), (3, .own (h.length, 0) 8), (4, .int .i64 0)], h := [.arr 5 1 false [.int .u8 b0, .int .u8 (IntKind.u8.wrap ((n % 256 : Nat) : Int)), .int .u8 b2, .int .u8 b3, .int .u8 b4, .int .u8 b5, .int .u8 b6, .int .u8 b7]] :: h } := by
  have e1 : (n : Int).tmod 256 = ((n % 256 : Nat) : Int) := tmod_nat n 256
  have e2 : (n : Int).tdiv 256 = ((n / 256 : Nat) : Int) := tdiv_nat n 256
  have e3 : IntKind.u64.wrap ((n / 256 : Nat) : Int) = ((n / 256 : Nat) : Int) := wrapU64 (by omega) (by omega)
  generalize hm : n % 256 = m at *
  generalize hq : n / 256 = q at *
  rw [loop_go]
  generalize (mu K).code (CC.loopAt 1 [0, 3, 4] l71_0) = F
  simp [l71_0, wrap64, e1, e2, e3]
theorem f71s7 (n : Nat) (hn : n < 18446744073709551616) (h : Heap) (b0 b1 b2 b3 b4 b5 b6 b7 : Int) : (mu K).code (.loopAt 1 [0, 3, 4] l71_0) { env := [(0, .int .u64 (n : Int)), (3, .own (h.length, 0) 8), (4, .int .i64 0)], h := [.arr 5 1 false [.int .u8 b0, .int .u8 b1, .int .u8 b2, .int .u8 b3, .int .u8 b4, .int .u8 b5, .int .u8 b6, .int .u8 b7]] :: h } =
    (mu K).code (.loopAt 1 [0, 3, 4] l71_0) { env := [(0, .int .u64 ((n / 256 : Nat) : Int)), (3, .own (h.length, 0) 8), (4, .int .i64 (-1))], h := [.arr 5 1 false [.int .u8 (IntKind.u8.wrap ((n % 256 : Nat) : Int)), .int .u8 b1, .int .u8 b2, .int .u8 b3, .int .u8 b4, .int .u8 b5, .int .u8 b6, .int .u8 b7]] :: h } := by
  have e1 : (n : Int).tmod 256 = ((n % 256 : Nat) : Int) := tmod_nat n 256
  have e2 : (n : Int).tdiv 256 = ((n / 256 : Nat) : Int) := tdiv_nat n 256
  have e3 : IntKind.u64.wrap ((n / 256 : Nat) : Int) = ((n / 256 : Nat) : Int) := wrapU64 (by omega) (by omega)
  generalize hm : n % 256 = m at *
  generalize hq : n / 256 = q at *
  rw [loop_go]
  generalize (mu K).code (CC.loopAt 1 [0, 3, 4] l71_0) = F
  simp [l71_0, wrap64, e1, e2, e3]
theorem f71e (n : Int) (h : Heap) (b0 b1 b2 b3 b4 b5 b6 b7 : Int) : ∃ env, (mu K).code (.loopAt 1 [0, 3, 4] l71_0) { env := [(0, .int .u64 n), (3, .own (h.length, 0) 8), (4, .int .i64 (-1))], h := [.arr 5 1 false [.int .u8 b0, .int .u8 b1, .int .u8 b2, .int .u8 b3, .int .u8 b4, .int .u8 b5, .int .u8 b6, .int .u8 b7]] :: h } =
    some (.exit 0, ⟨env, [.arr 5 1 false [.int .u8 b0, .int .u8 b1, .int .u8 b2, .int .u8 b3, .int .u8 b4, .int .u8 b5, .int .u8 b6, .int .u8 b7]] :: h⟩) ∧ get env 3 = .own (h.length, 0) 8 := by
  rw [loop_go]
  generalize (mu K).code (CC.loopAt 1 [0, 3, 4] l71_0) = F
  simp [l71_0]
theorem f71loop (n : Nat) (hn : n < 18446744073709551616) (h : Heap) : ∃ env, (mu K).code (.loopAt 1 [0, 3, 4] l71_0) { env := [(0, .int .u64 (n : Int)), (3, .own (h.length, 0) 8), (4, .int .i64 7)], h := [.arr 5 1 false [.int .u8 0, .int .u8 0, .int .u8 0, .int .u8 0, .int .u8 0, .int .u8 0, .int .u8 0, .int .u8 0]] :: h } =
    some (.exit 0, ⟨env, [.arr 5 1 false [.int .u8 (IntKind.u8.wrap ((((((((n / 256 / 256) / 256) / 256) / 256) / 256) / 256) % 256 : Nat) : Int)), .int .u8 (IntKind.u8.wrap (((((((n / 256 / 256) / 256) / 256) / 256) / 256) % 256 : Nat) : Int)), .int .u8 (IntKind.u8.wrap ((((((n / 256 / 256) / 256) / 256) / 256) % 256 : Nat) : Int)), .int .u8 (IntKind.u8.wrap (((((n / 256 / 256) / 256) / 256) % 256 : Nat) : Int)), .int .u8 (IntKind.u8.wrap ((((n / 256 / 256) / 256) % 256 : Nat) : Int)), .int .u8 (IntKind.u8.wrap (((n / 256 / 256) % 256 : Nat) : Int)), .int .u8 (IntKind.u8.wrap ((n / 256 % 256 : Nat) : Int)), .int .u8 (IntKind.u8.wrap ((n % 256 : Nat) : Int))]] :: h⟩) ∧ get env 3 = .own (h.length, 0) 8 := by
  rw [f71s0 _ (by omega), f71s1 _ (by omega), f71s2 _ (by omega), f71s3 _ (by omega), f71s4 _ (by omega), f71s5 _ (by omega), f71s6 _ (by omega), f71s7 _ (by omega)]
  exact f71e _ _ _ _ _ _ _ _ _ _
theorem byte_mod (n : Nat) : AV.int .u8 (IntKind.u8.wrap ((n % 256 : Nat) : Int)) = .int .u8 ((UInt8.ofNat n).toNat : Int) := by
  rw [wrapU8]
  simp
theorem f71 (n : Nat) (hn : n < 18446744073709551616) (h : Heap) : (mu K).fn 71 [.int .u64 (n : Int)] h = some (.val (.str (natB n)) h) := by
  obtain ⟨env, h1, h2⟩ := f71loop n hn h
  simp only [byte_mod] at h1
  have hd : ((((((n / 256 / 256) / 256) / 256) / 256) / 256) / 256) = n / 2 ^ 56 ∧ (((((n / 256 / 256) / 256) / 256) / 256) / 256) = n / 2 ^ 48 ∧ ((((n / 256 / 256) / 256) / 256) / 256) = n / 2 ^ 40 ∧ (((n / 256 / 256) / 256) / 256) = n / 2 ^ 32 ∧ ((n / 256 / 256) / 256) = n / 2 ^ 24 ∧ (n / 256 / 256) = n / 2 ^ 16 ∧ n / 256 = n / 2 ^ 8 := by
    simp only [Nat.div_div_eq_div_mul]
    simp
  have h105 := fun h => f105 (nat8 n) h (by simp [nat8])
  simp only [nat8, ofBytes, List.map_cons, List.map_nil] at h105
  obtain ⟨d0, d1, d2, d3, d4, d5, d6⟩ := hd
  rw [d0, d1, d2, d3, d4, d5, d6] at h1
  rw [fn_go (KX _ _ _) fn71 rfl (by simp [c71])]
  simp only [natB, nat8]
  simp only [Nat.pow_zero, Nat.div_one] at h105 ⊢
  generalize UInt8.ofNat (n / 2 ^ 56) = b0 at *
  generalize UInt8.ofNat (n / 2 ^ 48) = b1 at *
  generalize UInt8.ofNat (n / 2 ^ 40) = b2 at *
  generalize UInt8.ofNat (n / 2 ^ 32) = b3 at *
  generalize UInt8.ofNat (n / 2 ^ 24) = b4 at *
  generalize UInt8.ofNat (n / 2 ^ 16) = b5 at *
  generalize UInt8.ofNat (n / 2 ^ 8) = b6 at *
  generalize UInt8.ofNat n = b7 at *
  have hroom : 8 ≤ room := by unfold room; omega
  simp [c71, KL, h1, h2, h105, List.replicate, hroom]
end Go.Ab.WireS

/-
  Questions: how they are written, both ways.
-/
set_option linter.unusedVariables false
set_option linter.unusedSimpArgs false
namespace Go.Ab.WireS
set_option maxRecDepth 100000
set_option maxHeartbeats 1000000

/-- A memory with a writer in it: what is wrong so far. -/
abbrev WR (t : Nat) (h : Heap) (a : Loc) (f l : Bool) : Heap := hset h a (.box t false (.agg [.bool f, .bool l]))
theorem get_other {h : Heap} {a b : Loc} (hab : b ≠ a) (B : Blk) : hget (hset h a B) b = hget h b := by
  rw [hget_hset, if_neg (fun e => hab e.1)]
theorem natB_zero : natB 0 = [] := by
  unfold natB nat8
  simp [trim0]
def outB (n : Int) : Bool := decide (n < 0 ∨ 2147483647 < n)
/-- An int as a number; 0 for one that cannot be written. -/
def numB (n : Int) : List UInt8 := if n < 0 ∨ 2147483647 < n then [] else natB n.toNat
abbrev nI (s : List UInt8) : It := .mk 0 s [] true []
abbrev tI (s : List UInt8) : It := .mk 1 [] s true []
theorem f28 (n : Int) (h : Heap) (a : Loc) (ha : dom h a) (f l : Bool) : (mu K).fn 28 [.ptr a 0, .int .i64 n] (WR 115 h a f l) = some (.val (nI (numB n)).av (WR 115 h a f (l || outB n))) := by
  have hl := ne_len ha
  have hg := fun B => get_hset ha B
  have h65 := fun s h => f65 s h
  have h66 := fun (m : Nat) h => f66 m h
  rw [fn_go (KX _ _ _) fn28 rfl (by simp [c28])]
  have h0 : ∀ h, (mu K).fn 66 [.int .u64 0] h = some (.val (.str []) h) := fun h => by
    have := f66 0 h
    rw [natB_zero] at this
    simpa using this
  have w0 : IntKind.u64.wrap 0 = 0 := rfl
  by_cases h1 : n < 0
  · simp [c28, KL, hl, hg, hset_hset, h1, h65, h0, w0, numB, outB, WR]
  · by_cases h2 : 2147483647 < n
    · simp [c28, KL, hl, hg, hset_hset, h1, h2, h65, h0, w0, numB, outB, WR]
    · obtain ⟨m, rfl⟩ : ∃ m : Nat, n = m := ⟨n.toNat, by omega⟩
      have w1 : IntKind.u64.wrap (m : Int) = (m : Int) := wrapU64 (by omega) (by omega)
      simp [c28, KL, hl, hg, hset_hset, h1, h2, h65, h66, w1, numB, outB, WR]
theorem f31 (n : Int) (h : Heap) (a : Loc) (ha : dom h a) (f l : Bool) : (mu K).fn 31 [.ptr a 0, .int .i64 n] (WR 84 h a f l) = some (.val (nI (numB n)).av (WR 84 h a f (l || outB n))) := by
  have hl := ne_len ha
  have hg := fun B => get_hset ha B
  have h70 := fun s h => f70 s h
  rw [fn_go (KX _ _ _) fn31 rfl (by simp [c31])]
  by_cases h1 : n < 0
  · simp [c31, KL, hl, hg, hset_hset, h1, h70, numB, outB, WR]
  · by_cases h2 : 2147483647 < n
    · simp [c31, KL, hl, hg, hset_hset, h1, h2, h70, numB, outB, WR]
    · obtain ⟨m, rfl⟩ : ∃ m : Nat, n = m := ⟨n.toNat, by omega⟩
      have h71 := fun h => f71 m (by omega) h
      have w1 : IntKind.u64.wrap (m : Int) = (m : Int) := wrapU64 (by omega) (by omega)
      simp [c31, KL, hl, hg, hset_hset, h1, h2, h70, h71, w1, numB, outB, WR]
theorem f39 (s : List UInt8) (h : Heap) (a : Loc) (ha : dom h a) (f l : Bool) : (mu K).fn 39 [.ptr a 0, .str s] (WR 115 h a f l) = some (.val (nI s).av (WR 115 h a (f || !canon s) l)) := by
  have hl := ne_len ha
  have hg := fun B => get_hset ha B
  have h65 := fun s h => f65 s h
  have h61 := fun h => f61 s h
  rw [fn_go (KX _ _ _) fn39 rfl (by simp [c39])]
  cases f
  · simp [c39, KL, hl, hg, hset_hset, h61, h65, WR]
  · simp [c39, KL, hl, hg, hset_hset, h61, h65, WR]
theorem f42 (s : List UInt8) (h : Heap) (a : Loc) (ha : dom h a) (f l : Bool) : (mu K).fn 42 [.ptr a 0, .str s] (WR 84 h a f l) = some (.val (nI s).av (WR 84 h a (f || !canon s) l)) := by
  have hl := ne_len ha
  have hg := fun B => get_hset ha B
  have h70 := fun s h => f70 s h
  have h79 := fun h => f79 s h
  rw [fn_go (KX _ _ _) fn42 rfl (by simp [c42])]
  cases f
  · simp [c42, KL, hl, hg, hset_hset, h79, h70, WR]
  · simp [c42, KL, hl, hg, hset_hset, h79, h70, WR]
/-- What is put: the error of the marks, or the encoding of the list. -/
def putS (f l : Bool) (items : List It) : List UInt8 × Int := if f = true then ([], 3) else if l = true then ([], 2) else enc (.mk 2 [] [] true items)
theorem enc_nm (i : It) : enc (nm i) = enc i := by
  unfold enc
  rw [vld_nm, dep_nm, wr_nm]
theorem enc_list (l : List It) : enc (.mk 2 [] [] false (nms l)) = enc (.mk 2 [] [] true l) := by
  rw [← enc_nm (.mk 2 [] [] true l)]; rfl
mutual
theorem okI_nm : ∀ i, okI i → okI (nm i)
  | .mk k n t nl l, h => by
    simp only [okI, nm, nms_len] at h ⊢
    exact ⟨h.1, h.2.1, h.2.2.1, okL_nms l h.2.2.2⟩
theorem okL_nms : ∀ l, okL l → okL (nms l)
  | [], _ => trivial
  | i :: r, h => ⟨okI_nm i h.1, okL_nms r h.2⟩
end
theorem fill5 (a b c d e : It) : It.avs [a, b, c, d, e] = [a.av, b.av, c.av, d.av, e.av] := by simp [It.avs]
theorem f25 (kind : List UInt8) (g : FuncId) (cap : Loc) (items : List It) (F L : Bool) (h : Heap) (ok : okL items) (hw : wts items ≤ 900000) (hn : items.length ≤ 1000) (hk : kind.length ≤ 100)
    (hcl : (mu K).fn g [.ptr (h.length, 0) 0, .ptr cap 0] ([.box 115 false (.agg [.bool false, .bool false]), .arr 78 4 false [(tI kind).av]] :: h) =
      some (.val (.lst (It.avs items)) ([.box 115 false (.agg [.bool F, .bool L]), .arr 78 4 false [(tI kind).av]] :: h))) :
    (mu K).fn 25 [.str kind, .fn (.func g) [] [.ptr cap 0]] h = some (.val (.tup [.str (putS F L (tI kind :: items)).1, .int .i64 (putS F L (tI kind :: items)).2]) h) := by
  have h27 := fun h => f27 kind h
  have ok2 : okL (tI kind :: items) := ⟨⟨by simp, by omega, by simp, trivial⟩, ok⟩
  have hwt : wts (tI kind :: items) ≤ 1000000 := by simp [wts, wt]; omega
  have h64 : ∀ h, (mu K).fn 64 [.lst ((tI kind).av :: It.avs items)] h = some (.val (It.mk 2 [] [] false (nms (tI kind :: items))).av h) := fun h => by
    have := f64 false (tI kind :: items) h ok2 (by simp; omega) hwt
    simpa [It.avs] using this
  have okM : okI (It.mk 2 [] [] false (nms (tI kind :: items))) := ⟨by simp, by simp, by rw [nms_len]; simp; omega, okL_nms _ ok2⟩
  have hwM : wt (It.mk 2 [] [] false (nms (tI kind :: items))) ≤ 1000000 := by simp only [wt, wts_nms]; simp [wts, wt]; omega
  have hdM := dep_wt (It.mk 2 [] [] false (nms (tI kind :: items)))
  have hrM := wr_wt (It.mk 2 [] [] false (nms (tI kind :: items))) hwM
  have h63 := fun h => f63 (It.mk 2 [] [] false (nms (tI kind :: items))) h okM (by omega) (by omega)
  rw [enc_list] at h63
  have hr1 : (1 + items.length) * 64 ≤ room := by unfold room; omega
  have hr2 : 1 + items.length ≤ room := by unfold room; omega
  have hcm : items.length + 1 = 1 + items.length := by omega
  have hz : sized 4 (It.avs items) = true := by
    simp only [sized, List.all_eq_true]
    intro x hx
    rw [avs_map] at hx
    simp only [List.mem_map] at hx
    obtain ⟨j, _, rfl⟩ := hx
    simp
  rw [fn_go (KX _ _ _) fn25 rfl (by simp [c25])]
  unfold putS
  cases F
  · cases L
    · simp [-sized, c25, KL, h27, hcl, h64, h63, hr1, hr2, hcm, hz, List.replicate]
    · simp [-sized, c25, KL, h27, hcl, h64, h63, hr1, hr2, hcm, hz, List.replicate]
  · simp [-sized, c25, KL, h27, hcl, h64, h63, hr1, hr2, hcm, hz, List.replicate]
end Go.Ab.WireS

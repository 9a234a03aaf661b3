/-
  Names and words: the reference.
-/
import Derived.Test.YtfpmflgjbpnkjaaAb41P6
set_option linter.unusedVariables false
set_option linter.unusedSimpArgs false
set_option linter.unusedSectionVars false
namespace Go.Ab.Pl
open Go.Ab.Pol
set_option maxRecDepth 100000
set_option maxHeartbeats 1000000
theorem f117 (n : Int) (h : Heap) : (mu K).fn 117 [.int .u8 n] h = some (.val (.bool (letterI n)) h) := by
  rw [fn_go (KX _ _ _) fn117 rfl (by simp [c117])]
  unfold letterI
  by_cases a : 97 ≤ n <;> by_cases b : n ≤ 122 <;> by_cases c : 65 ≤ n <;> by_cases d : n ≤ 90 <;> simp [c117, KL, lendF, a, b, c, d]
theorem f118 (n : Int) (h : Heap) : (mu K).fn 118 [.int .u8 n] h = some (.val (.bool (digitI n)) h) := by
  rw [fn_go (KX _ _ _) fn118 rfl (by simp [c118])]
  unfold digitI
  by_cases a : 48 ≤ n <;> by_cases b : n ≤ 57 <;> simp [c118, KL, lendF, a, b]
def kws16 : List Bs := [[112, 111, 108, 105, 99, 121], [117, 115, 101, 115], [114, 101, 118, 101, 97, 108], [112, 114, 111, 118, 101], [115, 99, 111, 112, 101], [108, 105, 109, 105, 116], [101, 115, 99, 114, 111, 119], [101, 110, 100], [97, 108, 108], [97, 110, 121], [97, 116, 108, 101, 97, 115, 116], [110, 111, 116], [116, 114, 117, 101], [102, 97, 108, 115, 101], [98, 101, 116, 119, 101, 101, 110], [97, 110, 100]]
theorem kw16 (s : Bs) : kw s = (decide (s ∈ kws16) || decide (s = [105, 110])) := by
  have : kws = kws16 ++ [[105, 110]] := rfl
  unfold kw
  rw [this, Bool.eq_iff_iff]
  simp
theorem f119 (s : Bs) (h : Heap) : (mu K).fn 119 [.str s] h = some (.val (.bool (kw s)) h) := by
  have key := loop_iter (K := K) (n := 0) (live := [0, 3, 4]) (a := l119_0) (hasF s)
    (fun pre _ => ⟨[(0, .str s), (3, .lst (kws16.map AV.str)), (4, .int .i64 (pre.length : Int))], [] :: h⟩) (fun _ _ => True)
    (fun _ o => ∃ env, o = some (.exit 0, ⟨env, [] :: h⟩) ∧ get env 0 = .str s) (fun _ o => ∃ env, o = some (.ret, ⟨env, [] :: h⟩) ∧ get env 2 = .bool true) kws16
    (fun pre x r b hl' _ => by
      obtain ⟨h1, h2, w1⟩ := idx_facts hl' (by decide)
      have hix := fun (k : IntKind) => iaF_lst (sz := 1) (l := kws16.map AV.str) (k := k) (j := (pre.length : Int)) (v := .str x) (by omega) (by rw [Int.toNat_natCast, List.getElem?_map, h2]; rfl) rfl
      rw [loop_go]
      generalize (mu K).code (.loopAt 0 [0, 3, 4] l119_0) = F
      have hlen : (kws16.map AV.str).length = kws16.length := by simp
      generalize kws16 = Q at *
      generalize hM : Q.map AV.str = M at *
      clear hl'
      unfold hasF
      by_cases hx : s = x
      · have d : (x = s) = True := by simp [hx]
        have d2 : (s = x) = True := by simp [hx]
        simp [l119_0, KL, lendF, h1, hlen, hix, w1, d, d2]
      · have d : (x = s) = False := by simp; exact fun e => hx e.symm
        simp [l119_0, KL, lendF, h1, hlen, hix, w1, d, hx])
    (fun b _ => by
      rw [loop_go]
      generalize (mu K).code (.loopAt 0 [0, 3, 4] l119_0) = F
      have hlen : (kws16.map AV.str).length = kws16.length := by simp
      generalize kws16 = Q at *
      generalize hM : Q.map AV.str = M at *
      simp [l119_0, hlen]) () trivial
  simp only [List.length_nil, Int.natCast_zero] at key
  have e16 : kws16.map AV.str = [.str [112, 111, 108, 105, 99, 121], .str [117, 115, 101, 115], .str [114, 101, 118, 101, 97, 108], .str [112, 114, 111, 118, 101], .str [115, 99, 111, 112, 101], .str [108, 105, 109, 105, 116], .str [101, 115, 99, 114, 111, 119], .str [101, 110, 100], .str [97, 108, 108], .str [97, 110, 121], .str [97, 116, 108, 101, 97, 115, 116], .str [110, 111, 116], .str [116, 114, 117, 101], .str [102, 97, 108, 115, 101], .str [98, 101, 116, 119, 101, 101, 110], .str [97, 110, 100]] := rfl
  rw [fn_go (KX _ _ _) fn119 rfl (by simp [c119])]
  rw [kw16]
  by_cases hm : s ∈ kws16
  · rw [(iter_has s kws16).1 hm, e16] at key
    obtain ⟨env, k, g2⟩ := key
    simp [c119, KL, lendF, List.replicate, k, g2, hm]
  · rw [(iter_has s kws16).2 hm, e16] at key
    obtain ⟨_, env, k, g0⟩ := key
    simp [c119, KL, lendF, List.replicate, k, g0, hm]
theorem f70 (s : Bs) (hs : okS s) (h : Heap) : (mu K).fn 70 [.str s] h = some (.val (.bool (nameOk s)) h) := by
  have k149 := fun h => f119 s h
  have key := loop_iter (K := K) (n := 0) (live := [0, 3]) (a := l70_0) nameF
    (fun pre b => ⟨[(0, .str s), (3, .int .i64 (pre.length : Int))], [] :: h⟩) (fun pre b => b = pre.isEmpty)
    (fun b o => ∃ env, o = some (.exit 0, ⟨env, [] :: h⟩) ∧ get env 0 = .str s) (fun _ o => ∃ env, o = some (.ret, ⟨env, [] :: h⟩) ∧ get env 2 = .bool false) s
    (fun pre x r b hl hb => by
      obtain ⟨h1, h2, w1⟩ := idx_facts hl hs
      have k147 := fun h => f117 (x.toNat : Int) h
      have k148 := fun h => f118 (x.toNat : Int) h
      rw [loop_go]
      generalize (mu K).code (.loopAt 0 [0, 3] l70_0) = F
      have hb' : ((pre.length : Int) = 0) = (b = true) := by rw [hb]; cases pre <;> simp; omega
      have hb2 : (pre = []) = (b = true) := by rw [hb]; cases pre <;> simp
      clear hb hl
      unfold nameF nameCh
      by_cases c1 : letterI (x.toNat : Int) = true
      · simp [l70_0, KL, lendF, h1, h2, k147, k148, w1, c1]
      · cases b
        · by_cases c3 : (x.toNat : Int) = 95
          · have d3 : ((x.toNat : Int) = 95) = True := by simp; omega
            simp [l70_0, KL, lendF, h1, h2, k147, k148, w1, c1, hb', hb2, d3]
          · have d3 : ((x.toNat : Int) = 95) = False := by simp; omega
            by_cases c4 : digitI (x.toNat : Int) = true
            · simp [l70_0, KL, lendF, h1, h2, k147, k148, w1, c1, hb', hb2, d3, c4]
            · simp [l70_0, KL, lendF, h1, h2, k147, k148, w1, c1, hb', hb2, d3, c4]
        · simp [l70_0, KL, lendF, h1, h2, k147, k148, w1, c1, hb', hb2])
    (fun b _ => by
      rw [loop_go]
      generalize (mu K).code (.loopAt 0 [0, 3] l70_0) = F
      simp [l70_0]) true rfl
  rw [fn_go (KX _ _ _) fn70 rfl (by simp [c70])]
  cases hn : nameL true s
  · rw [(iter_name s true).2 hn] at key
    obtain ⟨env, k, g2⟩ := key
    simp only [List.length_nil, Int.natCast_zero] at k
    simp [c70, KL, lendF, k, g2, nameOk, hn]
  · obtain ⟨b', e⟩ := (iter_name s true).1 hn
    rw [e] at key
    obtain ⟨_, env, k, g0⟩ := key
    simp only [List.length_nil, Int.natCast_zero] at k
    unfold nameOk
    by_cases e1 : s = []
    · have d1 : (s = []) = True := by simp [e1]
      simp [c70, KL, lendF, k, g0, d1]
    · by_cases e2 : (s.length : Int) ≤ 32
      · have e3 : s.length ≤ 32 := by omega
        simp [c70, KL, lendF, k, g0, e1, e2, e3, k149, hn]
      · have e3 : ¬ s.length ≤ 32 := by omega
        simp [c70, KL, lendF, k, g0, e1, e2, e3, hn]
theorem f71 (s : Bs) (hs : okS s) (h : Heap) : (mu K).fn 71 [.str s] h = some (.val (.bool (wordOk s)) h) := by
  have key := loop_iter (K := K) (n := 0) (live := [0, 3]) (a := l71_0) wordF
    (fun pre b => ⟨[(0, .str s), (3, .int .i64 (pre.length : Int))], [] :: h⟩) (fun pre b => True)
    (fun b o => ∃ env, o = some (.exit 0, ⟨env, [] :: h⟩) ∧ get env 0 = .str s) (fun _ o => ∃ env, o = some (.ret, ⟨env, [] :: h⟩) ∧ get env 2 = .bool false) s
    (fun pre x r b hl hb => by
      obtain ⟨h1, h2, w1⟩ := idx_facts hl hs
      have k147 := fun h => f117 (x.toNat : Int) h
      have k148 := fun h => f118 (x.toNat : Int) h
      rw [loop_go]
      generalize (mu K).code (.loopAt 0 [0, 3] l71_0) = F
      clear hb hl
      unfold wordF wordCh
      by_cases c1 : letterI (x.toNat : Int) = true
      · simp [l71_0, KL, lendF, h1, h2, k147, k148, w1, c1]
      by_cases c2 : digitI (x.toNat : Int) = true
      · simp [l71_0, KL, lendF, h1, h2, k147, k148, w1, c1, c2]
      by_cases c3 : (x.toNat : Int) = 45
      · have d3 : ((x.toNat : Int) = 45) = True := by simp; omega
        simp [l71_0, KL, lendF, h1, h2, k147, k148, w1, c1, c2, d3]
      have d3 : ((x.toNat : Int) = 45) = False := by simp; omega
      by_cases c4 : (x.toNat : Int) = 95
      · have d4 : ((x.toNat : Int) = 95) = True := by simp; omega
        simp [l71_0, KL, lendF, h1, h2, k147, k148, w1, c1, c2, d3, d4]
      · have d4 : ((x.toNat : Int) = 95) = False := by simp; omega
        simp [l71_0, KL, lendF, h1, h2, k147, k148, w1, c1, c2, d3, d4])
    (fun b _ => by
      rw [loop_go]
      generalize (mu K).code (.loopAt 0 [0, 3] l71_0) = F
      simp [l71_0]) () trivial
  rw [fn_go (KX _ _ _) fn71 rfl (by simp [c71])]
  cases hn : wordL s
  · rw [(iter_word s).2 hn] at key
    obtain ⟨env, k, g2⟩ := key
    simp only [List.length_nil, Int.natCast_zero] at k
    simp [c71, KL, lendF, k, g2, wordOk, hn]
  · rw [(iter_word s).1 hn] at key
    obtain ⟨_, env, k, g0⟩ := key
    simp only [List.length_nil, Int.natCast_zero] at k
    unfold wordOk
    by_cases e1 : s = []
    · have d1 : (s = []) = True := by simp [e1]
      simp [c71, KL, lendF, k, g0, d1]
    · by_cases e2 : (s.length : Int) ≤ 32
      · have e3 : s.length ≤ 32 := by omega
        simp [c71, KL, lendF, k, g0, e1, e2, e3, hn]
      · have e3 : ¬ s.length ≤ 32 := by omega
        simp [c71, KL, lendF, k, g0, e1, e2, e3, hn]
theorem f120 (k : Int) (h : Heap) : (mu K).fn 120 [.int .i64 k] h = some (.val (.bool (decide (0 ≤ k) && decide (k ≤ 8))) h) := by
  rw [fn_go (KX _ _ _) fn120 rfl (by simp [c120])]
  by_cases a : 0 ≤ k <;> simp [c120, KL, lendF, a]
end Go.Ab.Pl

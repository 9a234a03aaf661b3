/-
  Schemas: the reference.
-/
import Derived.Test.YtfpmflgjbpnkjaaAb41P12
import Derived.Test.YtfpmflgjbpnkjaaAb41P7
set_option linter.unusedVariables false
set_option linter.unusedSimpArgs false
set_option linter.unusedSectionVars false
namespace Go.Ab.Pl
open Go.Ab.Pol
set_option maxRecDepth 100000
set_option maxHeartbeats 1000000
theorem f189 (n : Int) (h : Heap) : (mu K).fn 189 [.int .u8 n] h = some (.val (.bool (letterI n)) h) := by
  rw [fn_go (KX _ _ _) fn189 rfl (by simp [c189])]
  unfold letterI
  by_cases a : 97 ≤ n <;> by_cases b : n ≤ 122 <;> by_cases c : 65 ≤ n <;> by_cases d : n ≤ 90 <;> simp [c189, KL, lendF, a, b, c, d]
theorem f190 (n : Int) (h : Heap) : (mu K).fn 190 [.int .u8 n] h = some (.val (.bool (digitI n)) h) := by
  rw [fn_go (KX _ _ _) fn190 rfl (by simp [c190])]
  unfold digitI
  by_cases a : 48 ≤ n <;> by_cases b : n ≤ 57 <;> simp [c190, KL, lendF, a, b]
theorem f191 (s : Bs) (h : Heap) : (mu K).fn 191 [.str s] h = some (.val (.bool (kw s)) h) := by
  have key := loop_iter (K := K) (n := 0) (live := [0, 3, 4]) (a := l191_0) (hasF s)
    (fun pre _ => ⟨[(0, .str s), (3, .lst (kws16.map AV.str)), (4, .int .i64 (pre.length : Int))], [] :: h⟩) (fun _ _ => True)
    (fun _ o => ∃ env, o = some (.exit 0, ⟨env, [] :: h⟩) ∧ get env 0 = .str s) (fun _ o => ∃ env, o = some (.ret, ⟨env, [] :: h⟩) ∧ get env 2 = .bool true) kws16
    (fun pre x r b hl' _ => by
      obtain ⟨h1, h2, w1⟩ := idx_facts hl' (by decide)
      have hix := fun (k : IntKind) => iaF_lst (sz := 1) (l := kws16.map AV.str) (k := k) (j := (pre.length : Int)) (v := .str x) (by omega) (by rw [Int.toNat_natCast, List.getElem?_map, h2]; rfl) rfl
      rw [loop_go]
      generalize (mu K).code (.loopAt 0 [0, 3, 4] l191_0) = F
      have hlen : (kws16.map AV.str).length = kws16.length := by simp
      generalize kws16 = Q at *
      generalize hM : Q.map AV.str = M at *
      clear hl'
      unfold hasF
      by_cases hx : s = x
      · have d : (x = s) = True := by simp [hx]
        have d2 : (s = x) = True := by simp [hx]
        simp [l191_0, KL, lendF, h1, hlen, hix, w1, d, d2]
      · have d : (x = s) = False := by simp; exact fun e => hx e.symm
        simp [l191_0, KL, lendF, h1, hlen, hix, w1, d, hx])
    (fun b _ => by
      rw [loop_go]
      generalize (mu K).code (.loopAt 0 [0, 3, 4] l191_0) = F
      have hlen : (kws16.map AV.str).length = kws16.length := by simp
      generalize kws16 = Q at *
      generalize hM : Q.map AV.str = M at *
      simp [l191_0, hlen]) () trivial
  simp only [List.length_nil, Int.natCast_zero] at key
  have e16 : kws16.map AV.str = [.str [112, 111, 108, 105, 99, 121], .str [117, 115, 101, 115], .str [114, 101, 118, 101, 97, 108], .str [112, 114, 111, 118, 101], .str [115, 99, 111, 112, 101], .str [108, 105, 109, 105, 116], .str [101, 115, 99, 114, 111, 119], .str [101, 110, 100], .str [97, 108, 108], .str [97, 110, 121], .str [97, 116, 108, 101, 97, 115, 116], .str [110, 111, 116], .str [116, 114, 117, 101], .str [102, 97, 108, 115, 101], .str [98, 101, 116, 119, 101, 101, 110], .str [97, 110, 100]] := rfl
  rw [fn_go (KX _ _ _) fn191 rfl (by simp [c191])]
  rw [kw16]
  by_cases hm : s ∈ kws16
  · rw [(iter_has s kws16).1 hm, e16] at key
    obtain ⟨env, k, g2⟩ := key
    simp [c191, KL, lendF, List.replicate, k, g2, hm]
  · rw [(iter_has s kws16).2 hm, e16] at key
    obtain ⟨_, env, k, g0⟩ := key
    simp [c191, KL, lendF, List.replicate, k, g0, hm]
theorem f161 (s : Bs) (hs : okS s) (h : Heap) : (mu K).fn 161 [.str s] h = some (.val (.bool (nameOk s)) h) := by
  have k149 := fun h => f191 s h
  have key := loop_iter (K := K) (n := 0) (live := [0, 3]) (a := l161_0) nameF
    (fun pre b => ⟨[(0, .str s), (3, .int .i64 (pre.length : Int))], [] :: h⟩) (fun pre b => b = pre.isEmpty)
    (fun b o => ∃ env, o = some (.exit 0, ⟨env, [] :: h⟩) ∧ get env 0 = .str s) (fun _ o => ∃ env, o = some (.ret, ⟨env, [] :: h⟩) ∧ get env 2 = .bool false) s
    (fun pre x r b hl hb => by
      obtain ⟨h1, h2, w1⟩ := idx_facts hl hs
      have k147 := fun h => f189 (x.toNat : Int) h
      have k148 := fun h => f190 (x.toNat : Int) h
      rw [loop_go]
      generalize (mu K).code (.loopAt 0 [0, 3] l161_0) = F
      have hb' : ((pre.length : Int) = 0) = (b = true) := by rw [hb]; cases pre <;> simp; omega
      have hb2 : (pre = []) = (b = true) := by rw [hb]; cases pre <;> simp
      clear hb hl
      unfold nameF nameCh
      by_cases c1 : letterI (x.toNat : Int) = true
      · simp [l161_0, KL, lendF, h1, h2, k147, k148, w1, c1]
      · cases b
        · by_cases c4 : digitI (x.toNat : Int) = true
          · simp [l161_0, KL, lendF, h1, h2, k147, k148, w1, c1, hb', hb2, c4]
          · by_cases c3 : (x.toNat : Int) = 95
            · have d3 : ((x.toNat : Int) = 95) = True := by simp; omega
              simp [l161_0, KL, lendF, h1, h2, k147, k148, w1, c1, hb', hb2, d3, c4]
            · have d3 : ((x.toNat : Int) = 95) = False := by simp; omega
              simp [l161_0, KL, lendF, h1, h2, k147, k148, w1, c1, hb', hb2, d3, c4]
        · simp [l161_0, KL, lendF, h1, h2, k147, k148, w1, c1, hb', hb2])
    (fun b _ => by
      rw [loop_go]
      generalize (mu K).code (.loopAt 0 [0, 3] l161_0) = F
      simp [l161_0]) true rfl
  rw [fn_go (KX _ _ _) fn161 rfl (by simp [c161])]
  cases hn : nameL true s
  · rw [(iter_name s true).2 hn] at key
    obtain ⟨env, k, g2⟩ := key
    simp only [List.length_nil, Int.natCast_zero] at k
    simp [c161, KL, lendF, k, g2, nameOk, hn]
  · obtain ⟨b', e⟩ := (iter_name s true).1 hn
    rw [e] at key
    obtain ⟨_, env, k, g0⟩ := key
    simp only [List.length_nil, Int.natCast_zero] at k
    unfold nameOk
    by_cases e1 : s = []
    · have d1 : (s = []) = True := by simp [e1]
      simp [c161, KL, lendF, k, g0, d1]
    · by_cases e2 : (s.length : Int) ≤ 32
      · have e3 : s.length ≤ 32 := by omega
        simp [c161, KL, lendF, k, g0, e1, e2, e3, k149, hn]
      · have e3 : ¬ s.length ≤ 32 := by omega
        simp [c161, KL, lendF, k, g0, e1, e2, e3, hn]
theorem f198 (n : Int) (h : Heap) : (mu K).fn 198 [.int .u8 n] h = some (.val (.bool (wordCh n)) h) := by
  have k1 := fun h => f189 n h
  have k2 := fun h => f190 n h
  rw [fn_go (KX _ _ _) fn198 rfl (by simp [c198])]
  unfold wordCh
  cases a : letterI n
  · cases b : digitI n
    · by_cases c : n = 45
      · have d : (n = 45) = True := by simp [c]
        simp [c198, KL, lendF, k1, k2, a, b, d]
      · by_cases c2 : n = 95
        · have d : (n = 95) = True := by simp [c2]
          have d2 : (n = 45) = False := by simp [c]
          simp [c198, KL, lendF, k1, k2, a, b, d, d2]
        · simp [c198, KL, lendF, k1, k2, a, b, c, c2]
    · simp [c198, KL, lendF, k1, k2, a, b]
  · simp [c198, KL, lendF, k1, k2, a]
theorem f192 (s : Bs) (hs : okS s) (h : Heap) : (mu K).fn 192 [.str s] h = some (.val (.bool (wordOk s)) h) := by
  have key := loop_iter (K := K) (n := 0) (live := [0, 3]) (a := l192_0) wordF
    (fun pre b => ⟨[(0, .str s), (3, .int .i64 (pre.length : Int))], [] :: h⟩) (fun pre b => True)
    (fun b o => ∃ env, o = some (.exit 0, ⟨env, [] :: h⟩) ∧ get env 0 = .str s) (fun _ o => ∃ env, o = some (.ret, ⟨env, [] :: h⟩) ∧ get env 2 = .bool false) s
    (fun pre x r b hl hb => by
      obtain ⟨h1, h2, w1⟩ := idx_facts hl hs
      have k147 := fun h => f198 (x.toNat : Int) h
      rw [loop_go]
      generalize (mu K).code (.loopAt 0 [0, 3] l192_0) = F
      clear hb hl
      unfold wordF
      cases c1 : wordCh (x.toNat : Int)
      · simp [l192_0, KL, lendF, h1, h2, k147, w1, c1]
      · simp [l192_0, KL, lendF, h1, h2, k147, w1, c1])
    (fun b _ => by
      rw [loop_go]
      generalize (mu K).code (.loopAt 0 [0, 3] l192_0) = F
      simp [l192_0]) () trivial
  rw [fn_go (KX _ _ _) fn192 rfl (by simp [c192])]
  cases hn : wordL s
  · rw [(iter_word s).2 hn] at key
    obtain ⟨env, k, g2⟩ := key
    simp only [List.length_nil, Int.natCast_zero] at k
    simp [c192, KL, lendF, k, g2, wordOk, hn]
  · rw [(iter_word s).1 hn] at key
    obtain ⟨_, env, k, g0⟩ := key
    simp only [List.length_nil, Int.natCast_zero] at k
    unfold wordOk
    by_cases e1 : s = []
    · have d1 : (s = []) = True := by simp [e1]
      simp [c192, KL, lendF, k, g0, d1]
    · by_cases e2 : (s.length : Int) ≤ 32
      · have e3 : s.length ≤ 32 := by omega
        simp [c192, KL, lendF, k, g0, e1, e2, e3, hn]
      · have e3 : ¬ s.length ≤ 32 := by omega
        simp [c192, KL, lendF, k, g0, e1, e2, e3, hn]
theorem all_ne (x : Bs) : ∀ l : List Bs, (l.all fun y => !decide (y = x)) = !decide (x ∈ l)
  | [] => rfl
  | y :: l => by
    have ih := all_ne x l
    simp only [List.all_cons, ih]
    by_cases e : y = x
    · simp [e]
    · have e2 : ¬ x = y := fun q => e q.symm
      simp [e, e2]
/-- The words ahead of a word: none is that word. -/
theorem l162 (s : Sl Bs) (hlen : s.l.length ≤ 1000) (h : Heap) (pre : List Bs) (x : Bs) (r : List Bs) (hl : s.l = pre ++ x :: r) :
    (x ∉ pre → ∃ env, (mu K).code (.loopAt 0 [0, 3, 4] l162_0) ⟨[(0, s.avS .str), (3, .int .i64 (pre.length : Int)), (4, .int .i64 0)], [] :: h⟩ = some (.exit 2, ⟨env, [] :: h⟩) ∧ get env 0 = s.avS .str ∧ get env 3 = .int .i64 (pre.length : Int)) ∧
    (x ∈ pre → ∃ env, (mu K).code (.loopAt 0 [0, 3, 4] l162_0) ⟨[(0, s.avS .str), (3, .int .i64 (pre.length : Int)), (4, .int .i64 0)], [] :: h⟩ = some (.ret, ⟨env, [] :: h⟩) ∧ get env 2 = .int .i64 8) := by
  obtain ⟨h1, h2, w1⟩ := idx_facts hl (by omega)
  have hix := fun (k : IntKind) => iaF_sl (av := AV.str) (sz := 1) (s := s) (k := k) (j := (pre.length : Int)) (x := x) (by omega) (by simpa using h2) rfl
  have key := loop_iter (K := K) (n := 0) (live := [0, 3, 4]) (a := l162_0) (fun (_ : Unit) (y : Bs) => if (!decide (y = x)) = true then (.inl () : Unit ⊕ Unit) else .inr ())
    (fun pr _ => ⟨[(0, s.avS .str), (3, .int .i64 (pre.length : Int)), (4, .int .i64 (pr.length : Int))], [] :: h⟩) (fun _ _ => True)
    (fun b o => ∃ env, o = some (.exit 2, ⟨env, [] :: h⟩) ∧ get env 0 = s.avS .str ∧ get env 3 = .int .i64 (pre.length : Int))
    (fun _ o => ∃ env, o = some (.ret, ⟨env, [] :: h⟩) ∧ get env 2 = .int .i64 8) pre
    (fun pr y rr b hl' _ => by
      have hl2 : s.l = pr ++ y :: (rr ++ x :: r) := by rw [hl, hl']; simp
      obtain ⟨g1, g2, v1⟩ := idx_facts hl2 (by omega)
      have hiy := fun (k : IntKind) => iaF_sl (av := AV.str) (sz := 1) (s := s) (k := k) (j := (pr.length : Int)) (x := y) (by omega) (by simpa using g2) rfl
      have lt : ((pr.length : Int) < (pre.length : Int)) = True := by rw [hl']; simp; omega
      rw [loop_go]
      generalize (mu K).code (.loopAt 0 [0, 3, 4] l162_0) = F
      clear hl hl' hl2
      by_cases q : y = x
      · have d : (y = x) = True := by simp [q]
        simp [l162_0, KL, lendF, hix, hiy, v1, lt, d]
      · simp [l162_0, KL, lendF, hix, hiy, v1, lt, q])
    (fun b _ => by
      rw [loop_go]
      generalize (mu K).code (.loopAt 0 [0, 3, 4] l162_0) = F
      simp [l162_0]) () trivial
  simp only [List.length_nil, Int.natCast_zero] at key
  have e := all_ne x pre
  refine ⟨fun q => ?_, fun q => ?_⟩
  · rw [decide_eq_false q] at e
    rw [(iter_all (fun y : Bs => !decide (y = x)) pre).1 (by simpa using e)] at key
    exact key.2
  · rw [decide_eq_true q] at e
    rw [(iter_all (fun y : Bs => !decide (y = x)) pre).2 (by simpa using e)] at key
    exact key
theorem f162 (s : Sl Bs) (g1 : s.l.length ≤ 1000) (g2 : ∀ w ∈ s.l, okS w) (h : Heap) : (mu K).fn 162 [s.avS .str] h = some (.val (.int .i64 (wordsE s.l)) h) := by
  have key := loop_iter (K := K) (n := 0) (live := [0, 3]) (a := l162_1) wdF
    (fun pre met => ⟨[(0, s.avS .str), (3, .int .i64 (pre.length : Int))], [] :: h⟩) (fun pre met => met = pre)
    (fun met o => ∃ env, o = some (.exit 0, ⟨env, [] :: h⟩)) (fun e o => ∃ env Fr, o = some (.ret, ⟨env, Fr :: h⟩) ∧ get env 2 = .int .i64 e) s.l
    (fun pre x r met hl' hm => by
      obtain ⟨h1, h2, w1⟩ := idx_facts hl' (by omega)
      have hix := fun (k : IntKind) => iaF_sl (av := AV.str) (sz := 1) (s := s) (k := k) (j := (pre.length : Int)) (x := x) (by omega) (by simpa using h2) rfl
      have kw := fun h => f192 x (g2 x (by rw [hl']; simp)) h
      obtain ⟨i1, i2⟩ := l162 s g1 h pre x r hl'
      rw [hm]
      rw [loop_go]
      generalize (mu K).code (.loopAt 0 [0, 3] l162_1) = F
      clear hl'
      unfold wdF
      cases a : wordOk x
      · simp [l162_1, KL, lendF, h1, hix, w1, kw, a]
      by_cases hx : x ∈ pre
      · obtain ⟨env, k, g⟩ := i2 hx
        simp [l162_1, KL, lendF, h1, hix, w1, kw, a, k, g, hx]
      · obtain ⟨env, k, g, g3⟩ := i1 hx
        simp [l162_1, KL, lendF, h1, hix, w1, kw, a, k, g, g3, hx])
    (fun met _ => by
      rw [loop_go]
      generalize (mu K).code (.loopAt 0 [0, 3] l162_1) = F
      simp [l162_1]) [] rfl
  simp only [List.length_nil, Int.natCast_zero] at key
  rw [iter_wd] at key
  rw [fn_go (KX _ _ _) fn162 rfl (by simp [c162])]
  unfold wordsE
  by_cases c1 : s.l.length < 1
  · have d1 : (s.l.length : Int) < 1 := by omega
    rw [if_pos (.inl c1)]
    simp [c162, KL, lendF, d1]
  have d1 : ¬ (s.l.length : Int) < 1 := by omega
  by_cases c2 : 64 < s.l.length
  · have d2 : (64 : Int) < (s.l.length : Int) := by omega
    rw [if_pos (.inr c2)]
    simp [c162, KL, lendF, d1, d2]
  have d2 : ¬ (64 : Int) < (s.l.length : Int) := by omega
  rw [if_neg (by omega)]
  by_cases hn : wordsL [] s.l = 0
  · rw [if_pos hn] at key
    obtain ⟨_, env, k⟩ := key
    simp [c162, KL, lendF, d1, d2, k, hn]
  · rw [if_neg hn] at key
    obtain ⟨env, Fr, k, g2⟩ := key
    simp [c162, KL, lendF, d1, d2, k, g2]
end Go.Ab.Pl

/-
  The reference's Refs; the statements of chapter 41 on references and depths.
-/
import Derived.Test.YtfpmflgjbpnkjaaAb41P38
import Derived.Test.YtfpmflgjbpnkjaaAb41P37
set_option linter.unusedVariables false
set_option linter.unusedSimpArgs false
namespace Go.Ab.Pl
open Go.Ab.Pol
set_option maxRecDepth 100000
set_option maxHeartbeats 4000000
abbrev arrR (acc : List Rf) : Blk := .arr (if acc = [] then 0 else 34) (if acc = [] then 0 else 2) false (acc.map Rf.av)
theorem iter_or (s : Rf) : ∀ (l : List Rf) (b : Bool), iter (fun (b : Bool) (x : Rf) => (.inl (b || decide (x = s)) : Bool ⊕ Unit)) b l = .inl (b || decide (s ∈ l))
  | [], b => by simp [iter]
  | x :: l, b => by
    simp only [iter]
    rw [iter_or s l]
    congr 1
    by_cases e : x = s
    · simp [e]
    · have : ¬ s = x := fun q => e q.symm
      simp [e, this]
theorem l28_0_ok (p : Po) (n : Nd) (x : Rf) (acc : List Rf) (ha : acc.length ≤ 1000) (M : AV) (i : Int) (b : Bool) (h : Heap) :
    ∃ env, (mu K).code (.loopAt 4 [1, 3, 4, 5, 7, 8, 9] l28_0) ⟨[(1, .ptr (h.length, 0) 0), (3, .own (h.length, 1) acc.length), (4, M), (5, iV i), (7, .ptr (h.length, 3) 0), (8, .bool b), (9, iV 0)],
      [.box 26 false p.av, arrR acc, .box 45 false n.av, .box 34 false x.av] :: h⟩ = some (.exit 2, ⟨env, [.box 26 false p.av, arrR acc, .box 45 false n.av, .box 34 false x.av] :: h⟩) ∧
      get env 1 = .ptr (h.length, 0) 0 ∧ get env 3 = .own (h.length, 1) acc.length ∧ get env 4 = M ∧ get env 5 = iV i ∧ get env 7 = .ptr (h.length, 3) 0 ∧ get env 8 = .bool (b || decide (x ∈ acc)) := by
  have key := loop_iter (K := K) (n := 4) (live := [1, 3, 4, 5, 7, 8, 9]) (a := l28_0) (ρ := Unit) (fun (b : Bool) (y : Rf) => .inl (b || decide (y = x)))
    (fun pre b => ⟨[(1, .ptr (h.length, 0) 0), (3, .own (h.length, 1) acc.length), (4, M), (5, iV i), (7, .ptr (h.length, 3) 0), (8, .bool b), (9, iV (pre.length : Int))],
      [.box 26 false p.av, arrR acc, .box 45 false n.av, .box 34 false x.av] :: h⟩) (fun _ _ => True)
    (fun b o => ∃ env, o = some (.exit 2, ⟨env, [.box 26 false p.av, arrR acc, .box 45 false n.av, .box 34 false x.av] :: h⟩) ∧ get env 1 = .ptr (h.length, 0) 0 ∧ get env 3 = .own (h.length, 1) acc.length ∧ get env 4 = M ∧ get env 5 = iV i ∧ get env 7 = .ptr (h.length, 3) 0 ∧ get env 8 = .bool b)
    (fun _ _ => False) acc
    (fun pre y r b hl _ => by
      obtain ⟨h1, h2, w1⟩ := idx_facts hl (by omega)
      have hne : acc ≠ [] := by rw [hl]; simp
      have h1n : pre.length < acc.length := by rw [hl]; simp
      have hgy : ∀ hh, (acc[pre.length]'hh) = y := fun hh => by
        have := h2
        rw [List.getElem?_eq_getElem hh] at this
        injection this
      have qe := eq_rf y x
      simp only [Rf.cs] at qe
      rw [loop_go]
      generalize (mu K).code (.loopAt 4 [1, 3, 4, 5, 7, 8, 9] l28_0) = F
      clear hl
      refine ⟨fun b' e => ⟨trivial, ?_⟩, fun _ e => by cases e⟩
      injection e with e
      subst e
      cases b
      · simp [l28_0, KL, lendF, h1, h1n, w1, hne, qe, hgy]
      · simp [l28_0, KL, lendF, h1, h1n, w1, hne, qe, hgy])
    (fun b _ => by
      rw [loop_go]
      generalize (mu K).code (.loopAt 4 [1, 3, 4, 5, 7, 8, 9] l28_0) = F
      simp [l28_0]) b trivial
  rw [iter_or] at key
  simpa using key.2
theorem addR_cases (acc : List Rf) (n : Nd) : (n.k ≠ 9 ∧ addR acc n = acc) ∨ (n.k = 9 ∧ (⟨n.nm, n.attr⟩ : Rf) ∈ acc ∧ addR acc n = acc) ∨ (n.k = 9 ∧ (⟨n.nm, n.attr⟩ : Rf) ∉ acc ∧ addR acc n = acc ++ [⟨n.nm, n.attr⟩]) := by
  unfold addR
  by_cases h1 : n.k = 9
  · by_cases h2 : (⟨n.nm, n.attr⟩ : Rf) ∈ acc
    · exact .inr (.inl ⟨h1, h2, by rw [if_pos h1, if_pos h2]⟩)
    · exact .inr (.inr ⟨h1, h2, by rw [if_pos h1, if_neg h2]⟩)
  · exact .inl ⟨h1, by rw [if_neg h1]⟩
theorem iter_foldl {α β ρ : Type} (g : β → α → β) : ∀ (l : List α) (b : β), iter (fun b x => (.inl (g b x) : β ⊕ ρ)) b l = .inl (l.foldl g b)
  | [], b => rfl
  | x :: l, b => by simp only [iter, List.foldl_cons]; exact iter_foldl g l (g b x)
theorem f28_bad (p : Po) (hp : Sz p) (hc : chk p ≠ 0) (h : Heap) : (mu K).fn 28 [p.av] h = some (.val .nils h) := by
  have k25 := fun h => f25 p hp h
  rw [fn_go (KX _ _ _) fn28 rfl (by simp [c28])]
  simp [c28, KL, lendF, k25, hc]
theorem f28 (p : Po) (hp : Sz p) (t : Tr) (g : Pol.Good p t) (h : Heap) : (mu K).fn 28 [p.av] h = some (.val (.lst ((refsP p t).map Rf.av)) h) := by
  have k25 := fun h => f25 p hp h
  rw [good_chk g] at k25
  have k76 := fun h => f76 p hp h
  have hvis : vis p.nodes.l 32 p.root true [] = (0, ints t.pre) := by
    have := vis_of t (ns := p.nodes.l) (f := 32) (c := true) (seen := []) g.isT g.wf g.dep (by simpa using ints_nodup.2 g.nodup)
    rw [g.root] at this
    simpa using this
  rw [hvis] at k76
  simp only at k76
  have hMS : (ints t.pre).map iV = t.subs.map fun (s : Tr) => iV (s.i : Int) := by rw [pre_subs, List.map_map, List.map_map]; rfl
  rw [hMS] at k76
  have hsl : t.subs.length = t.pre.length := by rw [pre_subs]; simp
  have hpl : t.pre.length ≤ 512 := by rw [g.all]; exact g.sizes.1
  have q1 := fun x : Nd => beq_avS _ beq_iV x.kids
  have q2 := beq_avS _ beq_nd p.nodes
  have key := loop_iter (K := K) (n := 2) (live := [1, 3, 4, 5]) (a := l28_1) (ρ := Unit) (fun (acc : List Rf) (s : Tr) => .inl (addR acc s.n))
    (fun pre acc => ⟨[(1, .ptr (h.length, 0) 0), (3, .own (h.length, 1) acc.length), (4, .lst (t.subs.map fun (s : Tr) => iV (s.i : Int))), (5, iV (pre.length : Int))], [.box 26 false p.av, arrR acc] :: h⟩) (fun pre acc => acc.length ≤ pre.length)
    (fun acc o => ∃ env, o = some (.exit 0, ⟨env, [.box 26 false p.av, arrR acc] :: h⟩) ∧ get env 3 = .own (h.length, 1) acc.length) (fun _ _ => False) t.subs
    (fun pre x r acc hl hacc => by
      obtain ⟨h1, h2, w1⟩ := idx_facts hl (by omega)
      have hpre : pre.length < t.subs.length := by rw [hl]; simp
      have hxm : x ∈ t.subs := by rw [hl]; simp
      obtain ⟨hxn, hxk⟩ := sub_node (subs_isT g.isT x hxm)
      have hix := fun (k : IntKind) => iaF_lst (sz := 1) (l := t.subs.map fun (s : Tr) => iV (s.i : Int)) (k := k) (j := (pre.length : Int)) (v := iV (x.i : Int)) (by omega) (by rw [Int.toNat_natCast, List.getElem?_map, h2]; rfl) rfl
      have hiy := fun (k : IntKind) => iaF_sl (av := Nd.av) (sz := 6) (s := p.nodes) (k := k) (j := (x.i : Int)) (x := x.n) (by omega) (by simpa using hxn) rfl
      have hll : (t.subs.map fun (s : Tr) => iV (s.i : Int)).length = t.subs.length := by simp
      have hal : acc.length ≤ 1000 := by omega
      have r1 : (acc.length + 1) * 32 ≤ room := by unfold room; omega
      have r2 : acc.length + 1 ≤ room := by unfold room; omega
      have hin := fun b => l28_0_ok p x.n ⟨x.n.nm, x.n.attr⟩ acc hal (.lst (t.subs.map fun (s : Tr) => iV (s.i : Int))) (pre.length : Int) b h
      refine ⟨fun b' e => ?_, fun _ e => by cases e⟩
      injection e with e
      subst e
      have hlen := addR_len acc x.n
      refine ⟨by simp only [List.length_append, List.length_singleton]; omega, ?_⟩
      rw [loop_go]
      generalize (mu K).code (.loopAt 2 [1, 3, 4, 5] l28_1) = F
      generalize (t.subs.map fun (s : Tr) => iV (s.i : Int)) = M at *
      clear hl
      rcases addR_cases acc x.n with ⟨c1, c2⟩ | ⟨c1, c2, c3⟩ | ⟨c1, c2, c3⟩
      · rw [c2]
        obtain ⟨env, k, g1, g3, g4, g5, g7, g8⟩ := hin true
        simp only [Bool.true_or] at g8
        by_cases d : acc = []
        · simp only [arrR, d, if_true, List.map_nil, List.length_nil] at k g3 ⊢
          simp [l28_1, KL, lendF, h1, hll, hpre, hix, hiy, w1, c1, k, g1, g3, g4, g5, g7, g8, q1, q2]
        · simp only [arrR, d, if_false] at k g3 ⊢
          simp [l28_1, KL, lendF, h1, hll, hpre, hix, hiy, w1, c1, k, g1, g3, g4, g5, g7, g8, q1, q2]
      · rw [c3]
        obtain ⟨env, k, g1, g3, g4, g5, g7, g8⟩ := hin false
        rw [decide_eq_true c2] at g8
        simp only [Bool.or_true] at g8
        have d : ¬ acc = [] := fun e => by rw [e] at c2; cases c2
        simp only [arrR, d, if_false] at k g3 ⊢
        simp [l28_1, KL, lendF, h1, hll, hpre, hix, hiy, w1, c1, k, g1, g3, g4, g5, g7, g8, q1, q2]
      · rw [c3]
        obtain ⟨env, k, g1, g3, g4, g5, g7, g8⟩ := hin false
        rw [decide_eq_false c2] at g8
        simp only [Bool.or_false] at g8
        by_cases d : acc = []
        · subst d
          simp only [arrR, if_true, List.map_nil, List.length_nil] at k g3 ⊢
          simp [l28_1, KL, lendF, h1, hll, hpre, hix, hiy, w1, c1, k, g1, g3, g4, g5, g7, g8, q1, q2, List.replicate, room]
        · simp only [arrR, d, if_false] at k g3 ⊢
          simp [l28_1, KL, lendF, h1, hll, hpre, hix, hiy, w1, c1, k, g1, g3, g4, g5, g7, g8, q1, q2, r1, r2, d, List.replicate])
    (fun acc _ => by
      rw [loop_go]
      generalize (mu K).code (.loopAt 2 [1, 3, 4, 5] l28_1) = F
      have hll : (t.subs.map fun (s : Tr) => iV (s.i : Int)).length = t.subs.length := by simp
      generalize (t.subs.map fun (s : Tr) => iV (s.i : Int)) = M at *
      simp [l28_1, hll]) [] (by simp)
  rw [iter_foldl] at key
  simp only [List.length_nil, Int.natCast_zero] at key
  have hr : t.subs.foldl (fun acc s => addR acc s.n) [] = refsP p t := (refsP_T g.isT).symm
  rw [hr] at key
  obtain ⟨_, env, k, g3⟩ := key
  rw [fn_go (KX _ _ _) fn28 rfl (by simp [c28])]
  generalize (t.subs.map fun (s : Tr) => iV (s.i : Int)) = M at *
  generalize refsP p t = R at *
  unfold arrR at k
  simp only [if_true, List.map_nil] at k
  simp [c28, KL, lendF, k25, k76, k, g3]
end Go.Ab.Pl

/-
  The statements of chapter 41 on the evaluator: references and depths.
-/
set_option linter.unusedVariables false
set_option linter.unusedSimpArgs false
namespace Go.Ab.Pl
open Go.Ab.Pol
set_option maxRecDepth 100000
set_option maxHeartbeats 4000000
theorem law4 (p : Po) (hp : aPo p) (i : Int) : (mu K2).fn 4 [p.av, iV i] [] = some (.val (.bool true) []) := by
  have k22 := fun h => up (f22 p h)
  have aw := awake41
  rw [fn_go (KX2 _ _ _) (fn2 fn4) rfl (by simp [c4])]
  by_cases hf : few41 p = true
  case neg =>
    have hf : few41 p = false := by simpa using hf
    rw [hf] at k22
    simp [c4, KL2, lendF, k22, aw]
  have z := few_sz41 hp hf
  rw [hf] at k22
  have bq := beq_po p
  by_cases hc : chk p = 0
  case neg =>
    have k27 := fun h => up (f27_bad p z hc h)
    have k28 := fun h => up (f28_bad p z hc h)
    have k29 := fun h => up (f29_0 p z i h (.inl hc))
    have k30 := fun h => up (f30_0 p z i h (.inl hc))
    have k26 := fun h => up (f26 ⟨true, []⟩ ⟨true, []⟩ (by simp) h)
    simp only [Sl.avS, List.map_nil, lv, if_true, decide_true] at k26
    simp [c4, KL2, lendF, k22, k27, k28, k29, k30, k26, aw, bq]
  obtain ⟨t, g⟩ := chk_good hc
  have k27 := fun h => f27 p z t g h
  have k28 := fun h => up (f28 p z t g h)
  have hl : (refsP p t).length ≤ 1000 := by
    have := allR_len p.nodes.l (ints t.pre)
    have h2 := g.all
    have h3 := g.sizes.1
    unfold refsP
    simp at this
    omega
  have k26 := fun h => up (f26 ⟨false, refsP p t⟩ ⟨false, refsP p t⟩ hl h)
  simp only [Sl.avS, lv_false, decide_true] at k26
  have key : ∃ d : Int, (∀ h, (mu K2).fn 29 [p.av, iV i] h = some (.val (iV d) h)) ∧ (∀ h, (mu K2).fn 30 [p.av, iV i] h = some (.val (iV d) h)) := by
    by_cases h1 : i < 0 ∨ (p.nodes.l.length : Int) ≤ i
    · exact ⟨0, fun h => up (f29_0 p z i h (.inr h1)), fun h => up (f30_0 p z i h (.inr h1))⟩
    · obtain ⟨j, rfl⟩ := Int.eq_ofNat_of_zero_le (by omega : 0 ≤ i)
      obtain ⟨s, hs, rfl⟩ := sub_at g (i := j) (by omega)
      exact ⟨_, fun h => up (f29 p z t g s hs h), fun h => up (f30 p z t g s hs h)⟩
  obtain ⟨d, k29, k30⟩ := key
  generalize refsP p t = R at *
  simp [c4, KL2, lendF, k22, k27, k28, k29, k30, k26, aw, bq]
theorem kid_sub : ∀ (s k : Tr), k ∈ s.ks → k ∈ s.subs
  | .nd i n ks, k, h => by
    simp only [Tr.subs, List.mem_cons]
    right
    rw [subss_flat, List.mem_flatMap]
    exact ⟨k, h, by cases k; simp [Tr.subs]⟩
theorem l6_0_ok (p : Po) (z : Sz p) (t : Tr) (g : Pol.Good p t) (s : Tr) (hs : s ∈ t.subs) (kv : Sl Int) (hk : kv.l = s.ks.map fun k => (k.i : Int)) (hkl : kv.l.length ≤ 1000) (i : Int) (V : AV) (L : Int) (n : Blk) :
    ∃ env, (mu K2).code (.loopAt 2 [1, 3, 5, 18, 19, 20, 26, 27, 28] l6_0) ⟨[(1, .ptr (0, 0) 0), (3, iV i), (5, iV 0), (18, V), (19, iV L), (20, iV i), (26, kv.avS iV), (27, iV (kv.l.length : Int)), (28, iV 0)], [[.box 26 false p.av, n]]⟩ =
        some (.exit 2, ⟨env, [[.box 26 false p.av, n]]⟩) ∧ get env 1 = .ptr (0, 0) 0 ∧ get env 3 = iV i ∧ get env 5 = iV (Tr.deps s.ks : Int) ∧ get env 18 = V ∧ get env 19 = iV L ∧ get env 20 = iV i := by
  have hlen : kv.l.length = s.ks.length := by rw [hk, List.length_map]
  have q1 := beq_po p
  have key := loop_iter (K := K2) (n := 2) (live := [1, 3, 5, 18, 19, 20, 26, 27, 28]) (a := l6_0) (ρ := Unit) (fun (b : Nat) (k : Tr) => .inl (max b k.dep))
    (fun pre b => ⟨[(1, .ptr (0, 0) 0), (3, iV i), (5, iV (b : Int)), (18, V), (19, iV L), (20, iV i), (26, kv.avS iV), (27, iV (kv.l.length : Int)), (28, iV (pre.length : Int))], [[.box 26 false p.av, n]]⟩) (fun _ _ => True)
    (fun b o => ∃ env, o = some (.exit 2, ⟨env, [[.box 26 false p.av, n]]⟩) ∧ get env 1 = .ptr (0, 0) 0 ∧ get env 3 = iV i ∧ get env 5 = iV (b : Int) ∧ get env 18 = V ∧ get env 19 = iV L ∧ get env 20 = iV i)
    (fun _ _ => False) s.ks
    (fun pre x r b hl _ => by
      obtain ⟨h1, h2, w1⟩ := idx_facts hl (by omega)
      have h1 : ((pre.length : Int) < (kv.l.length : Int)) := by rw [hlen]; exact h1
      have h1n : pre.length < kv.l.length := by omega
      have hxm : x ∈ t.subs := subs_subs s hs x (kid_sub s x (by rw [hl]; simp))
      have hix := fun (k : IntKind) => iaF_sl (av := iV) (sz := 1) (s := kv) (k := k) (j := (pre.length : Int)) (x := (x.i : Int)) (by omega) (by rw [hk, Int.toNat_natCast, List.getElem?_map, h2]; rfl) rfl
      have k29 := fun h => up (f29 p z t g x hxm h)
      have hm := max_av b x.dep
      rw [loop_go]
      generalize (mu K2).code (.loopAt 2 [1, 3, 5, 18, 19, 20, 26, 27, 28] l6_0) = F
      clear hl
      refine ⟨fun b' e => ⟨trivial, ?_⟩, fun _ e => by cases e⟩
      injection e with e
      subst e
      simp [l6_0, KL2, lendF, h1, h1n, hix, w1, k29, hm, q1])
    (fun b _ => by
      rw [loop_go]
      generalize (mu K2).code (.loopAt 2 [1, 3, 5, 18, 19, 20, 26, 27, 28] l6_0) = F
      simp [l6_0, hlen]) 0 trivial
  rw [iter_foldl, fold_deps] at key
  simpa using key.2
theorem law6 (p : Po) (hp : aPo p) : (mu K2).fn 6 [p.av] [] = some (.val (.bool true) []) := by
  have k22 := fun h => up (f22 p h)
  have aw := awake41
  rw [fn_go (KX2 _ _ _) (fn2 fn6) rfl (by simp [c6])]
  by_cases hf : few41 p = true
  case neg =>
    have hf : few41 p = false := by simpa using hf
    rw [hf] at k22
    simp [c6, KL2, lendF, k22, aw]
  have z := few_sz41 hp hf
  rw [hf] at k22
  have k24 := fun h => up (f24 p z h)
  by_cases hc : chk p = 0
  case neg => simp [c6, KL2, lendF, k22, k24, hc, aw]
  rw [hc] at k24
  obtain ⟨t, g⟩ := chk_good hc
  have q1 := beq_po p
  have key := loop_iter (K := K2) (n := 1) (live := [1, 18, 19, 20]) (a := l6_1) (ρ := Unit) (fun (b : Unit) (x : Nd) => .inl b)
    (fun pre _ => ⟨[(1, .ptr (0, 0) 0), (18, p.nodes.avS Nd.av), (19, iV (p.nodes.l.length : Int)), (20, iV (pre.length : Int))], [[.box 26 false p.av]]⟩) (fun _ _ => True)
    (fun _ o => ∃ env, o = some (.exit 0, ⟨env, [[.box 26 false p.av]]⟩) ∧ get env 1 = .ptr (0, 0) 0) (fun _ _ => False) p.nodes.l
    (fun pre x r b hl _ => by
      obtain ⟨h1, h2, w1⟩ := idx_facts hl (by have := z.nodes.1; omega)
      obtain ⟨s, hs, hsi⟩ := sub_at g (i := pre.length) (by omega)
      obtain ⟨hn, hk⟩ := node_of (subs_isT g.isT s hs)
      rw [hsi, h2] at hn
      injection hn with hn
      have hix := fun (k : IntKind) => iaF_sl (av := Nd.av) (sz := 6) (s := p.nodes) (k := k) (j := (pre.length : Int)) (x := x) (by omega) (by simpa using h2) rfl
      obtain ⟨env, k, g1, g3, g5, g18, g19, g20⟩ := l6_0_ok p z t g s hs x.kids (by rw [hn]; exact hk) (z.nodes.2 x (List.mem_of_getElem? h2)).2 (pre.length : Int) (p.nodes.avS Nd.av) (p.nodes.l.length : Int) (.box 45 false x.av)
      have k29 := fun h => up (f29 p z t g s hs h)
      rw [hsi] at k29
      have hd : (Tr.deps s.ks : Int) + 1 = (s.dep : Int) := by cases s; simp [Tr.ks, Tr.dep]
      have hdl : s.dep ≤ 32 := Nat.le_trans (subs_dep s hs) g.dep
      have w2 : IntKind.i64.wrap ((Tr.deps s.ks : Int) + 1) = (s.dep : Int) := by rw [hd]; exact wrap64 (by omega) (by omega)
      rw [loop_go]
      generalize (mu K2).code (.loopAt 1 [1, 18, 19, 20] l6_1) = F
      have q4 := beq_avS _ beq_iV x.kids
      clear hl
      refine ⟨fun _ e => ⟨trivial, ?_⟩, fun _ e => by cases e⟩
      simp [l6_1, KL2, lendF, h1, hix, w1, k, g1, g3, g5, g18, g19, g20, k29, w2, q1, q4])
    (fun _ _ => by
      rw [loop_go]
      generalize (mu K2).code (.loopAt 1 [1, 18, 19, 20] l6_1) = F
      simp [l6_1]) () trivial
  rw [iter_unit] at key
  obtain ⟨_, env, k, g1⟩ := key
  simp only [List.length_nil, Int.natCast_zero] at k
  have k29 := fun h => up (f29 p z t g t (by cases t; simp [Tr.subs]) h)
  rw [g.root] at k29
  have hd : ((t.dep : Int) ≤ 32) := by have := g.dep; omega
  have hdn : t.dep ≤ 32 := g.dep
  simp [c6, KL2, lendF, k22, k24, hc, aw, k, g1, k29, hd, hdn, q1]
end Go.Ab.Pl

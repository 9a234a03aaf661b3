/-
  The reference's check of a policy.
-/
import Derived.Test.YtfpmflgjbpnkjaaAb41P9
import Derived.Test.YtfpmflgjbpnkjaaAb41P6
set_option linter.unusedVariables false
set_option linter.unusedSimpArgs false
set_option linter.unusedSectionVars false
namespace Go.Ab.Pl
open Go.Ab.Pol
set_option maxRecDepth 100000
set_option maxHeartbeats 2000000
theorem in_nil (n : Nat) : In n [] := ⟨List.nodup_nil, fun x h => by simp at h⟩
theorem bools_nil (n : Nat) : List.replicate n (AV.bool false) = bools n [] := by
  apply List.ext_getElem?
  intro j
  unfold bools
  by_cases hj : j < n <;> simp [hj, List.getElem?_replicate]
theorem beqs_map {α : Type} (av : α → AV) (h : ∀ x, (av x).beq (av x) = true) : ∀ l : List α, AV.beqs (l.map av) (l.map av) = true
  | [] => by simp [AV.beqs]
  | x :: l => by simp [AV.beqs, h x, beqs_map av h l]
theorem beq_avS {α : Type} (av : α → AV) (h : ∀ x, (av x).beq (av x) = true) (s : Sl α) : (s.avS av).beq (s.avS av) = true := by
  obtain ⟨nl, l⟩ := s
  cases l with
  | nil => cases nl <;> rfl
  | cons x l =>
    have := beqs_map av h (x :: l)
    simpa [Sl.avS, AV.beq] using this
theorem beq_iV (n : Int) : (iV n).beq (iV n) = true := by simp [AV.beq]
theorem beq_us : ∀ u : Us, u.av.beq u.av = true := fun u => by simp [AV.beq, AV.beqs]
theorem beq_rf : ∀ u : Rf, u.av.beq u.av = true := fun u => by simp [AV.beq, AV.beqs]
theorem beq_nd : ∀ u : Nd, u.av.beq u.av = true := fun u => by simp [AV.beq, AV.beqs, beq_avS _ beq_iV]
theorem f76 (p : Po) (hp : Sz p) (h : Heap) : (mu K).fn 76 [p.av] h = some (.val (.lst ((vis p.nodes.l 32 p.root true []).2.map iV)) h) := by
  have k := f72 p hp.nodes h 32 p.root true (0, []) [] (by omega) (in_nil _)
  have e1 : (33 - ((32 : Nat) : Int)) = 1 := rfl
  rw [e1] at k
  simp only [List.nil_append, visR, if_true] at k
  generalize vis p.nodes.l 32 p.root true [] = R at *
  obtain ⟨e, s⟩ := R
  obtain ⟨ot, oz, ho, hz⟩ := ordB_at s
  have hn := hp.nodes.1
  have r1 : p.nodes.l.length * 1 ≤ room := by unfold room; omega
  have r2 : p.nodes.l.length ≤ room := by unfold room; omega
  have hbn := bools_nil p.nodes.l.length
  have o0 : ordB [] = .arr 0 0 false [] := rfl
  rw [fn_go (KX _ _ _) fn76 rfl (by simp [c76])]
  simp [RFr, o0, ho] at k
  simp [c76, KL, lendF, hbn, r1, r2, k, beq_avS _ beq_us, beq_avS _ beq_rf, beq_avS _ beq_nd]

/- The loops of the check. -/
theorem l25a (p : Po) (hp : Sz p) (b : Bool) (h : Heap) : ∃ env, (mu K).code (.loopAt 1 [1, 3, 4] l25_0) ⟨[(1, .ptr (h.length, 0) 0), (3, .bool b), (4, .int .i64 0)], [.box 26 false p.av] :: h⟩ = some (.exit 0, ⟨env, [.box 26 false p.av] :: h⟩) ∧
    get env 1 = .ptr (h.length, 0) 0 ∧ get env 3 = .bool (b && p.uses.l.all fun u => nameOk u.al && nameOk u.sc) := by
  have key := loop_iter (K := K) (n := 1) (live := [1, 3, 4]) (a := l25_0) (fun (b : Bool) (u : Us) => (.inl (b && (nameOk u.al && nameOk u.sc)) : Bool ⊕ Unit))
    (fun pre b => ⟨[(1, .ptr (h.length, 0) 0), (3, .bool b), (4, .int .i64 (pre.length : Int))], [.box 26 false p.av] :: h⟩) (fun _ _ => True)
    (fun b o => ∃ env, o = some (.exit 0, ⟨env, [.box 26 false p.av] :: h⟩) ∧ get env 1 = .ptr (h.length, 0) 0 ∧ get env 3 = .bool b) (fun _ _ => False) p.uses.l
    (fun pre x r b hl _ => by
      obtain ⟨h1, h2, w1⟩ := idx_facts hl (by have := hp.uses.1; omega)
      have hu := hp.uses.2 x (by rw [hl]; simp)
      have k1 := fun h => f70 x.al hu.1 h
      have k2 := fun h => f70 x.sc hu.2 h
      have hix := fun (k : IntKind) => iaF_sl (av := Us.av) (sz := 2) (s := p.uses) (k := k) (j := (pre.length : Int)) (x := x) (by omega) (by simpa using h2) rfl
      rw [loop_go]
      generalize (mu K).code (.loopAt 1 [1, 3, 4] l25_0) = F
      clear hl
      cases b <;> cases q : nameOk x.al <;> simp [l25_0, KL, lendF, h1, hix, w1, k1, k2, q])
    (fun b _ => by
      rw [loop_go]
      generalize (mu K).code (.loopAt 1 [1, 3, 4] l25_0) = F
      simp [l25_0]) b trivial
  rw [iter_and] at key
  exact key.2
theorem l25b (p : Po) (hp : Sz p) (b : Bool) (h : Heap) : ∃ env, (mu K).code (.loopAt 1 [1, 3, 5] l25_1) ⟨[(1, .ptr (h.length, 0) 0), (3, .bool b), (5, .int .i64 0)], [.box 26 false p.av] :: h⟩ = some (.exit 2, ⟨env, [.box 26 false p.av] :: h⟩) ∧
    get env 1 = .ptr (h.length, 0) 0 ∧ get env 3 = .bool (b && p.reveal.l.all fun u => nameOk u.al && nameOk u.attr) := by
  have key := loop_iter (K := K) (n := 1) (live := [1, 3, 5]) (a := l25_1) (fun (b : Bool) (u : Rf) => (.inl (b && (nameOk u.al && nameOk u.attr)) : Bool ⊕ Unit))
    (fun pre b => ⟨[(1, .ptr (h.length, 0) 0), (3, .bool b), (5, .int .i64 (pre.length : Int))], [.box 26 false p.av] :: h⟩) (fun _ _ => True)
    (fun b o => ∃ env, o = some (.exit 2, ⟨env, [.box 26 false p.av] :: h⟩) ∧ get env 1 = .ptr (h.length, 0) 0 ∧ get env 3 = .bool b) (fun _ _ => False) p.reveal.l
    (fun pre x r b hl _ => by
      obtain ⟨h1, h2, w1⟩ := idx_facts hl (by have := hp.reveal.1; omega)
      have hu := hp.reveal.2 x (by rw [hl]; simp)
      have k1 := fun h => f70 x.al hu.1 h
      have k2 := fun h => f70 x.attr hu.2 h
      have hix := fun (k : IntKind) => iaF_sl (av := Rf.av) (sz := 2) (s := p.reveal) (k := k) (j := (pre.length : Int)) (x := x) (by omega) (by simpa using h2) rfl
      rw [loop_go]
      generalize (mu K).code (.loopAt 1 [1, 3, 5] l25_1) = F
      clear hl
      cases b <;> cases q : nameOk x.al <;> simp [l25_1, KL, lendF, h1, hix, w1, k1, k2, q])
    (fun b _ => by
      rw [loop_go]
      generalize (mu K).code (.loopAt 1 [1, 3, 5] l25_1) = F
      simp [l25_1]) b trivial
  rw [iter_and] at key
  exact key.2
theorem iter_dup {α γ : Type} [DecidableEq γ] (g : α → γ) : ∀ (l b : List α), (b.map g).Nodup → ((((b ++ l).map g).Nodup → iter (fun (b : List α) (x : α) => if (b.all fun y => !decide (g x = g y)) = true then (.inl (b ++ [x]) : List α ⊕ Unit) else .inr ()) b l = .inl (b ++ l)) ∧
    (¬ ((b ++ l).map g).Nodup → iter (fun (b : List α) (x : α) => if (b.all fun y => !decide (g x = g y)) = true then (.inl (b ++ [x]) : List α ⊕ Unit) else .inr ()) b l = .inr ()))
  | [], b, h => by simp [iter, h]
  | x :: l, b, h => by
    by_cases q : g x ∈ b.map g
    · have e : (b.all fun y => !decide (g x = g y)) = false := by
        obtain ⟨y, hy, e⟩ := List.mem_map.1 q
        rw [List.all_eq_false]
        exact ⟨y, hy, by simp [e]⟩
      refine ⟨fun hn => ?_, fun _ => by simp [iter, e]⟩
      rw [List.map_append, List.map_cons, List.nodup_append] at hn
      exact absurd rfl (hn.2.2 _ q (g x) (by simp))
    · have e : (b.all fun y => !decide (g x = g y)) = true := by
        rw [List.all_eq_true]
        intro y hy
        have : g x ≠ g y := fun e => q (e ▸ List.mem_map.2 ⟨y, hy, rfl⟩)
        simp [this]
      have hn : ((b ++ [x]).map g).Nodup := by
        rw [List.map_append, List.nodup_append]
        refine ⟨h, by simp, ?_⟩
        intro a ha c hc e
        simp only [List.map_cons, List.map_nil, List.mem_singleton] at hc
        rw [e, hc] at ha
        exact q ha
      have ih := iter_dup g l (b ++ [x]) hn
      simp only [List.append_assoc, List.singleton_append] at ih
      simp only [iter, e, if_true]
      exact ih
theorem l25c (p : Po) (hp : Sz p) (R : List Blk) (h : Heap) (pre : List Us) (x : Us) (r : List Us) (hl : p.uses.l = pre ++ x :: r) :
    (pre.all (fun y => !decide (x.al = y.al)) = true → ∃ env, (mu K).code (.loopAt (R.length + 1) [1, 7, 8] l25_2) ⟨[(1, .ptr (h.length, 0) 0), (7, .int .i64 (pre.length : Int)), (8, .int .i64 0)], (.box 26 false p.av :: R) :: h⟩ = some (.exit 6, ⟨env, (.box 26 false p.av :: R) :: h⟩) ∧
      get env 1 = .ptr (h.length, 0) 0 ∧ get env 7 = .int .i64 (pre.length : Int)) ∧
    (pre.all (fun y => !decide (x.al = y.al)) = false → ∃ env, (mu K).code (.loopAt (R.length + 1) [1, 7, 8] l25_2) ⟨[(1, .ptr (h.length, 0) 0), (7, .int .i64 (pre.length : Int)), (8, .int .i64 0)], (.box 26 false p.av :: R) :: h⟩ = some (.ret, ⟨env, (.box 26 false p.av :: R) :: h⟩) ∧
      get env 2 = .int .i64 8) := by
  obtain ⟨h1, h2, w1⟩ := idx_facts hl (by have := hp.uses.1; omega)
  have hix := fun (k : IntKind) => iaF_sl (av := Us.av) (sz := 2) (s := p.uses) (k := k) (j := (pre.length : Int)) (x := x) (by omega) (by simpa using h2) rfl
  have key := loop_iter (K := K) (n := R.length + 1) (live := [1, 7, 8]) (a := l25_2) (fun (_ : Unit) (y : Us) => if (!decide (x.al = y.al)) = true then (.inl () : Unit ⊕ Unit) else .inr ())
    (fun pr _ => ⟨[(1, .ptr (h.length, 0) 0), (7, .int .i64 (pre.length : Int)), (8, .int .i64 (pr.length : Int))], (.box 26 false p.av :: R) :: h⟩) (fun _ _ => True)
    (fun b o => ∃ env, o = some (.exit 6, ⟨env, (.box 26 false p.av :: R) :: h⟩) ∧ get env 1 = .ptr (h.length, 0) 0 ∧ get env 7 = .int .i64 (pre.length : Int))
    (fun _ o => ∃ env, o = some (.ret, ⟨env, (.box 26 false p.av :: R) :: h⟩) ∧ get env 2 = .int .i64 8) pre
    (fun pr y rr b hl' _ => by
      have hl2 : p.uses.l = pr ++ y :: (rr ++ x :: r) := by rw [hl, hl']; simp
      obtain ⟨g1, g2, v1⟩ := idx_facts hl2 (by have := hp.uses.1; omega)
      have hiy := fun (k : IntKind) => iaF_sl (av := Us.av) (sz := 2) (s := p.uses) (k := k) (j := (pr.length : Int)) (x := y) (by omega) (by simpa using g2) rfl
      have lt : ((pr.length : Int) < (pre.length : Int)) = True := by rw [hl']; simp; omega
      rw [loop_go]
      generalize (mu K).code (.loopAt (R.length + 1) [1, 7, 8] l25_2) = F
      clear hl hl' hl2
      by_cases q : x.al = y.al
      · have d : (x.al = y.al) = True := by simp [q]
        simp [l25_2, KL, lendF, hix, hiy, v1, lt, d, beq_avS _ beq_us]
      · simp [l25_2, KL, lendF, hix, hiy, v1, lt, q, beq_avS _ beq_us])
    (fun b _ => by
      rw [loop_go]
      generalize (mu K).code (.loopAt (R.length + 1) [1, 7, 8] l25_2) = F
      simp [l25_2]) () trivial
  simp only [List.length_nil, Int.natCast_zero] at key
  refine ⟨fun q => ?_, fun q => ?_⟩
  · rw [(iter_all (fun y : Us => !decide (x.al = y.al)) pre).1 q] at key
    exact key.2
  · rw [(iter_all (fun y : Us => !decide (x.al = y.al)) pre).2 q] at key
    exact key
theorem l25d (p : Po) (hp : Sz p) (R : List Blk) (h : Heap) :
    ((p.uses.l.map Us.al).Nodup → ∃ env, (mu K).code (.loopAt (R.length + 1) [1, 7] l25_3) ⟨[(1, .ptr (h.length, 0) 0), (7, .int .i64 0)], (.box 26 false p.av :: R) :: h⟩ = some (.exit 4, ⟨env, (.box 26 false p.av :: R) :: h⟩) ∧ get env 1 = .ptr (h.length, 0) 0) ∧
    (¬ (p.uses.l.map Us.al).Nodup → ∃ env, (mu K).code (.loopAt (R.length + 1) [1, 7] l25_3) ⟨[(1, .ptr (h.length, 0) 0), (7, .int .i64 0)], (.box 26 false p.av :: R) :: h⟩ = some (.ret, ⟨env, (.box 26 false p.av :: R) :: h⟩) ∧ get env 2 = .int .i64 8) := by
  have key := loop_iter (K := K) (n := R.length + 1) (live := [1, 7]) (a := l25_3) (fun (b : List Us) (x : Us) => if (b.all fun y => !decide (Us.al x = Us.al y)) = true then (.inl (b ++ [x]) : List Us ⊕ Unit) else .inr ())
    (fun pre _ => ⟨[(1, .ptr (h.length, 0) 0), (7, .int .i64 (pre.length : Int))], (.box 26 false p.av :: R) :: h⟩) (fun pre b => b = pre)
    (fun b o => ∃ env, o = some (.exit 4, ⟨env, (.box 26 false p.av :: R) :: h⟩) ∧ get env 1 = .ptr (h.length, 0) 0)
    (fun _ o => ∃ env, o = some (.ret, ⟨env, (.box 26 false p.av :: R) :: h⟩) ∧ get env 2 = .int .i64 8) p.uses.l
    (fun pre x r b hl hb => by
      subst hb
      obtain ⟨h1, h2, w1⟩ := idx_facts hl (by have := hp.uses.1; omega)
      have kc := l25c p hp R h b x r hl
      rw [loop_go]
      generalize (mu K).code (.loopAt (R.length + 1) [1, 7] l25_3) = F
      clear hl
      cases q : b.all (fun y => !decide (x.al = y.al))
      · rw [q] at kc
        obtain ⟨env, e1, e2⟩ := kc.2 rfl
        simp [l25_3, KL, lendF, h1, w1, e1, e2]
      · rw [q] at kc
        obtain ⟨env, e1, e2, e3⟩ := kc.1 rfl
        simp [l25_3, KL, lendF, h1, w1, e1, e2, e3])
    (fun b _ => by
      rw [loop_go]
      generalize (mu K).code (.loopAt (R.length + 1) [1, 7] l25_3) = F
      simp [l25_3]) [] rfl
  simp only [List.length_nil, Int.natCast_zero] at key
  obtain ⟨d1, d2⟩ := iter_dup Us.al p.uses.l [] (by simp)
  simp only [List.nil_append] at d1 d2
  refine ⟨fun q => ?_, fun q => ?_⟩
  · rw [d1 q] at key
    exact key.2
  · rw [d2 q] at key
    exact key
theorem l25e (p : Po) (hp : Sz p) (R : List Blk) (h : Heap) (pre : List Rf) (x : Rf) (r : List Rf) (hl : p.reveal.l = pre ++ x :: r) :
    (pre.all (fun y => !decide (x = y)) = true → ∃ env, (mu K).code (.loopAt (R.length + 1) [1, 9, 10] l25_4) ⟨[(1, .ptr (h.length, 0) 0), (9, .int .i64 (pre.length : Int)), (10, .int .i64 0)], (.box 26 false p.av :: R) :: h⟩ = some (.exit 10, ⟨env, (.box 26 false p.av :: R) :: h⟩) ∧
      get env 1 = .ptr (h.length, 0) 0 ∧ get env 9 = .int .i64 (pre.length : Int)) ∧
    (pre.all (fun y => !decide (x = y)) = false → ∃ env, (mu K).code (.loopAt (R.length + 1) [1, 9, 10] l25_4) ⟨[(1, .ptr (h.length, 0) 0), (9, .int .i64 (pre.length : Int)), (10, .int .i64 0)], (.box 26 false p.av :: R) :: h⟩ = some (.ret, ⟨env, (.box 26 false p.av :: R) :: h⟩) ∧
      get env 2 = .int .i64 8) := by
  obtain ⟨h1, h2, w1⟩ := idx_facts hl (by have := hp.reveal.1; omega)
  have hix := fun (k : IntKind) => iaF_sl (av := Rf.av) (sz := 2) (s := p.reveal) (k := k) (j := (pre.length : Int)) (x := x) (by omega) (by simpa using h2) rfl
  have key := loop_iter (K := K) (n := R.length + 1) (live := [1, 9, 10]) (a := l25_4) (fun (_ : Unit) (y : Rf) => if (!decide (x = y)) = true then (.inl () : Unit ⊕ Unit) else .inr ())
    (fun pr _ => ⟨[(1, .ptr (h.length, 0) 0), (9, .int .i64 (pre.length : Int)), (10, .int .i64 (pr.length : Int))], (.box 26 false p.av :: R) :: h⟩) (fun _ _ => True)
    (fun b o => ∃ env, o = some (.exit 10, ⟨env, (.box 26 false p.av :: R) :: h⟩) ∧ get env 1 = .ptr (h.length, 0) 0 ∧ get env 9 = .int .i64 (pre.length : Int))
    (fun _ o => ∃ env, o = some (.ret, ⟨env, (.box 26 false p.av :: R) :: h⟩) ∧ get env 2 = .int .i64 8) pre
    (fun pr y rr b hl' _ => by
      have hl2 : p.reveal.l = pr ++ y :: (rr ++ x :: r) := by rw [hl, hl']; simp
      obtain ⟨g1, g2, v1⟩ := idx_facts hl2 (by have := hp.reveal.1; omega)
      have hiy := fun (k : IntKind) => iaF_sl (av := Rf.av) (sz := 2) (s := p.reveal) (k := k) (j := (pr.length : Int)) (x := y) (by omega) (by simpa using g2) rfl
      have lt : ((pr.length : Int) < (pre.length : Int)) = True := by rw [hl']; simp; omega
      rw [loop_go]
      generalize (mu K).code (.loopAt (R.length + 1) [1, 9, 10] l25_4) = F
      clear hl hl' hl2
      have ex : eqFs [FK.str, FK.str] x.cs y.cs = some (decide (x = y)) := by
        obtain ⟨a, b⟩ := x
        obtain ⟨a', b'⟩ := y
        by_cases e1 : a = a' <;> by_cases e2 : b = b' <;> simp [eqFs, eqF, e1, e2]
      by_cases q : x = y
      · have d : (x = y) = True := by simp [q]
        simp [l25_4, KL, lendF, hix, hiy, v1, lt, ex, d, beq_avS _ beq_rf]
      · simp [l25_4, KL, lendF, hix, hiy, v1, lt, ex, q, beq_avS _ beq_rf])
    (fun b _ => by
      rw [loop_go]
      generalize (mu K).code (.loopAt (R.length + 1) [1, 9, 10] l25_4) = F
      simp [l25_4]) () trivial
  simp only [List.length_nil, Int.natCast_zero] at key
  refine ⟨fun q => ?_, fun q => ?_⟩
  · rw [(iter_all (fun y : Rf => !decide (x = y)) pre).1 q] at key
    exact key.2
  · rw [(iter_all (fun y : Rf => !decide (x = y)) pre).2 q] at key
    exact key
theorem l25f (p : Po) (hp : Sz p) (R : List Blk) (h : Heap) :
    (p.reveal.l.Nodup → ∃ env, (mu K).code (.loopAt (R.length + 1) [1, 9] l25_5) ⟨[(1, .ptr (h.length, 0) 0), (9, .int .i64 0)], (.box 26 false p.av :: R) :: h⟩ = some (.exit 8, ⟨env, (.box 26 false p.av :: R) :: h⟩) ∧ get env 1 = .ptr (h.length, 0) 0) ∧
    (¬ p.reveal.l.Nodup → ∃ env, (mu K).code (.loopAt (R.length + 1) [1, 9] l25_5) ⟨[(1, .ptr (h.length, 0) 0), (9, .int .i64 0)], (.box 26 false p.av :: R) :: h⟩ = some (.ret, ⟨env, (.box 26 false p.av :: R) :: h⟩) ∧ get env 2 = .int .i64 8) := by
  have key := loop_iter (K := K) (n := R.length + 1) (live := [1, 9]) (a := l25_5) (fun (b : List Rf) (x : Rf) => if (b.all fun y => !decide (id x = id y)) = true then (.inl (b ++ [x]) : List Rf ⊕ Unit) else .inr ())
    (fun pre _ => ⟨[(1, .ptr (h.length, 0) 0), (9, .int .i64 (pre.length : Int))], (.box 26 false p.av :: R) :: h⟩) (fun pre b => b = pre)
    (fun b o => ∃ env, o = some (.exit 8, ⟨env, (.box 26 false p.av :: R) :: h⟩) ∧ get env 1 = .ptr (h.length, 0) 0)
    (fun _ o => ∃ env, o = some (.ret, ⟨env, (.box 26 false p.av :: R) :: h⟩) ∧ get env 2 = .int .i64 8) p.reveal.l
    (fun pre x r b hl hb => by
      subst hb
      obtain ⟨h1, h2, w1⟩ := idx_facts hl (by have := hp.reveal.1; omega)
      have kc := l25e p hp R h b x r hl
      rw [loop_go]
      generalize (mu K).code (.loopAt (R.length + 1) [1, 9] l25_5) = F
      clear hl
      cases q : b.all (fun y => !decide (x = y))
      · have q' : (b.all fun y => !decide (id x = id y)) = false := q
        simp only [q']
        rw [q] at kc
        obtain ⟨env, e1, e2⟩ := kc.2 rfl
        simp [l25_5, KL, lendF, h1, w1, e1, e2]
      · have q' : (b.all fun y => !decide (id x = id y)) = true := q
        simp only [q']
        rw [q] at kc
        obtain ⟨env, e1, e2, e3⟩ := kc.1 rfl
        simp [l25_5, KL, lendF, h1, w1, e1, e2, e3])
    (fun b _ => by
      rw [loop_go]
      generalize (mu K).code (.loopAt (R.length + 1) [1, 9] l25_5) = F
      simp [l25_5]) [] rfl
  simp only [List.length_nil, Int.natCast_zero] at key
  obtain ⟨d1, d2⟩ := iter_dup id p.reveal.l [] (by simp)
  simp only [List.nil_append, List.map_id] at d1 d2
  refine ⟨fun q => ?_, fun q => ?_⟩
  · rw [d1 q] at key
    exact key.2
  · rw [d2 q] at key
    exact key
theorem l25g (p : Po) (hp : Sz p) (R : List Blk) (h : Heap) :
    (p.reveal.l.all (fun r => used p r.al) = true → ∃ env, (mu K).code (.loopAt (R.length + 1) [1, 11] l25_6) ⟨[(1, .ptr (h.length, 0) 0), (11, .int .i64 0)], (.box 26 false p.av :: R) :: h⟩ = some (.exit 12, ⟨env, (.box 26 false p.av :: R) :: h⟩) ∧ get env 1 = .ptr (h.length, 0) 0) ∧
    (p.reveal.l.all (fun r => used p r.al) = false → ∃ env, (mu K).code (.loopAt (R.length + 1) [1, 11] l25_6) ⟨[(1, .ptr (h.length, 0) 0), (11, .int .i64 0)], (.box 26 false p.av :: R) :: h⟩ = some (.ret, ⟨env, (.box 26 false p.av :: R) :: h⟩) ∧ get env 2 = .int .i64 9) := by
  have key := loop_iter (K := K) (n := R.length + 1) (live := [1, 11]) (a := l25_6) (fun (_ : Unit) (x : Rf) => if used p x.al = true then (.inl () : Unit ⊕ Unit) else .inr ())
    (fun pre _ => ⟨[(1, .ptr (h.length, 0) 0), (11, .int .i64 (pre.length : Int))], (.box 26 false p.av :: R) :: h⟩) (fun _ _ => True)
    (fun b o => ∃ env, o = some (.exit 12, ⟨env, (.box 26 false p.av :: R) :: h⟩) ∧ get env 1 = .ptr (h.length, 0) 0)
    (fun _ o => ∃ env, o = some (.ret, ⟨env, (.box 26 false p.av :: R) :: h⟩) ∧ get env 2 = .int .i64 9) p.reveal.l
    (fun pre x r b hl _ => by
      obtain ⟨h1, h2, w1⟩ := idx_facts hl (by have := hp.reveal.1; omega)
      have hix := fun (k : IntKind) => iaF_sl (av := Rf.av) (sz := 2) (s := p.reveal) (k := k) (j := (pre.length : Int)) (x := x) (by omega) (by simpa using h2) rfl
      have k1 := fun h => f73 p hp x.al h
      rw [loop_go]
      generalize (mu K).code (.loopAt (R.length + 1) [1, 11] l25_6) = F
      clear hl
      cases q : used p x.al <;> simp [l25_6, KL, lendF, h1, hix, w1, k1, q, beq_avS _ beq_us, beq_avS _ beq_rf, beq_avS _ beq_nd])
    (fun b _ => by
      rw [loop_go]
      generalize (mu K).code (.loopAt (R.length + 1) [1, 11] l25_6) = F
      simp [l25_6]) () trivial
  simp only [List.length_nil, Int.natCast_zero] at key
  refine ⟨fun q => ?_, fun q => ?_⟩
  · rw [(iter_all (fun x : Rf => used p x.al) p.reveal.l).1 q] at key
    exact key.2
  · rw [(iter_all (fun x : Rf => used p x.al) p.reveal.l).2 q] at key
    exact key
theorem l25h (p : Po) (hp : Sz p) (R : List Blk) (h : Heap) :
    (p.nodes.l.all (fun n => !(decide (n.k = 9)) || used p n.nm) = true → ∃ env, (mu K).code (.loopAt (R.length + 1) [1, 12] l25_7) ⟨[(1, .ptr (h.length, 0) 0), (12, .int .i64 0)], (.box 26 false p.av :: R) :: h⟩ = some (.exit 14, ⟨env, (.box 26 false p.av :: R) :: h⟩)) ∧
    (p.nodes.l.all (fun n => !(decide (n.k = 9)) || used p n.nm) = false → ∃ env, (mu K).code (.loopAt (R.length + 1) [1, 12] l25_7) ⟨[(1, .ptr (h.length, 0) 0), (12, .int .i64 0)], (.box 26 false p.av :: R) :: h⟩ = some (.ret, ⟨env, (.box 26 false p.av :: R) :: h⟩) ∧ get env 2 = .int .i64 9) := by
  have key := loop_iter (K := K) (n := R.length + 1) (live := [1, 12]) (a := l25_7) (fun (_ : Unit) (x : Nd) => if (!(decide (x.k = 9)) || used p x.nm) = true then (.inl () : Unit ⊕ Unit) else .inr ())
    (fun pre _ => ⟨[(1, .ptr (h.length, 0) 0), (12, .int .i64 (pre.length : Int))], (.box 26 false p.av :: R) :: h⟩) (fun _ _ => True)
    (fun b o => ∃ env, o = some (.exit 14, ⟨env, (.box 26 false p.av :: R) :: h⟩))
    (fun _ o => ∃ env, o = some (.ret, ⟨env, (.box 26 false p.av :: R) :: h⟩) ∧ get env 2 = .int .i64 9) p.nodes.l
    (fun pre x r b hl _ => by
      obtain ⟨h1, h2, w1⟩ := idx_facts hl (by have := hp.nodes.1; omega)
      have hix := fun (k : IntKind) => iaF_sl (av := Nd.av) (sz := 6) (s := p.nodes) (k := k) (j := (pre.length : Int)) (x := x) (by omega) (by simpa using h2) rfl
      have k1 := fun h => f73 p hp x.nm h
      rw [loop_go]
      generalize (mu K).code (.loopAt (R.length + 1) [1, 12] l25_7) = F
      clear hl
      by_cases hk : x.k = 9
      · have d : (x.k = 9) = True := by simp [hk]
        cases q : used p x.nm <;> simp [l25_7, KL, lendF, h1, hix, w1, k1, d, q, beq_avS _ beq_us, beq_avS _ beq_rf, beq_avS _ beq_nd]
      · simp [l25_7, KL, lendF, h1, hix, w1, k1, hk, beq_avS _ beq_us, beq_avS _ beq_rf, beq_avS _ beq_nd])
    (fun b _ => by
      rw [loop_go]
      generalize (mu K).code (.loopAt (R.length + 1) [1, 12] l25_7) = F
      simp [l25_7]) () trivial
  simp only [List.length_nil, Int.natCast_zero] at key
  refine ⟨fun q => ?_, fun q => ?_⟩
  · rw [(iter_all (fun n : Nd => !(decide (n.k = 9)) || used p n.nm) p.nodes.l).1 q] at key
    exact key.2
  · rw [(iter_all (fun n : Nd => !(decide (n.k = 9)) || used p n.nm) p.nodes.l).2 q] at key
    exact key
end Go.Ab.Pl

/-
  The policy with its schemas, the place of a field: the program.
-/
import Derived.Test.YtfpmflgjbpnkjaaAb41P10
import Derived.Test.YtfpmflgjbpnkjaaAb41P13
set_option linter.unusedVariables false
set_option linter.unusedSimpArgs false
set_option linter.unusedSectionVars false
namespace Go.Ab.Pl
open Go.Ab.Pol
set_option maxRecDepth 100000
set_option maxHeartbeats 1000000
/-- A policy with the schemas. -/
abbrev fitAV (p : Po) (l : Sl Sc) : AV := .agg [.str p.name, p.uses.avS Us.av, p.reveal.avS Rf.av, p.nodes.avS Nd.av, iV p.root, .str p.scope, iV p.limit, .str p.escrow, l.avS Sc.av]
structure okL (l : Sl Sc) : Prop where
  len : l.l.length ≤ 1000
  sc : ∀ s ∈ l.l, okSc s
theorem scN_some (l : List Sc) (nm : Bs) : (scN l nm).isSome = decide (nm ∈ l.map Sc.name) := by
  unfold scN
  rw [Bool.eq_iff_iff]
  simp only [List.find?_isSome, decide_eq_true_eq, List.mem_map]
theorem iter_map {α β γ ρ : Type} (F : β → γ → β ⊕ ρ) (g : α → γ) : ∀ (l : List α) (b : β), iter (fun b x => F b (g x)) b l = iter F b (l.map g)
  | [], b => rfl
  | x :: l, b => by
    simp only [iter, List.map_cons]
    cases F b (g x) with
    | inl b' => exact iter_map F g l b'
    | inr r => rfl
def scF (_ : Unit) (s : Sc) : Unit ⊕ Int := if schE s = 0 then .inl () else .inr (schE s)
theorem iter_sc : ∀ (l : List Sc), iter scF () l = if firstS l = 0 then .inl () else .inr (firstS l)
  | [] => rfl
  | s :: l => by
    have e := iter_sc l
    simp only [iter, scF, firstS]
    by_cases c : schE s = 0
    · simp [c, e]
    · simp [c]
theorem beq_strS : ∀ u : Bs, (AV.str u).beq (AV.str u) = true := fun u => by simp [AV.beq]
theorem beq_fd : ∀ u : Pol.Fd, u.av.beq u.av = true := fun u => by simp [AV.beq, AV.beqs, beq_avS _ beq_strS]
theorem beq_sc : ∀ u : Sc, u.av.beq u.av = true := fun u => by simp [AV.beq, AV.beqs, beq_avS _ beq_fd]
theorem lv_take {α : Type} (av : α → AV) (nl : Bool) (pre : List α) (x : α) (r : List α) : (lv nl ((pre ++ x :: r).map av)) = .lst ((pre ++ x :: r).map av) := lv_lst _ (by simp)
theorem f92 (p : Po) (hp : Sz p) (l : Sl Sc) (hl : okL l) (h : Heap) : (mu K).fn 92 [p.av, l.avS Sc.av] h = some (.val (.tup [fitAV p l, .int .i64 (readyE p l.l)]) h) := by
  have k24 := fun h => f24 p hp h
  have key0 := loop_iter (K := K) (n := 3) (live := [1, 2, 4, 6, 28, 29, 30]) (a := l92_0) scF
    (fun pre b => ⟨[(1, l.avS Sc.av), (2, .ptr (h.length, 0) 0), (4, .ptr (h.length, 1) 0), (6, .ptr (h.length, 2) 0), (28, l.avS Sc.av), (29, .int .i64 (l.l.length : Int)), (30, .int .i64 (pre.length : Int))],
      [.box 26 false p.av, .box 132 false (.agg [.str [], .nils, .nils, .nils, iV 0, .str [], iV 0, .str [], .nils]), .box 132 false (fitAV p l)] :: h⟩) (fun _ _ => True)
    (fun b o => ∃ env, o = some (.exit 0, ⟨env, [.box 26 false p.av, .box 132 false (.agg [.str [], .nils, .nils, .nils, iV 0, .str [], iV 0, .str [], .nils]), .box 132 false (fitAV p l)] :: h⟩) ∧ get env 1 = l.avS Sc.av ∧ get env 2 = .ptr (h.length, 0) 0 ∧ get env 4 = .ptr (h.length, 1) 0 ∧ get env 6 = .ptr (h.length, 2) 0)
    (fun e o => ∃ env R, o = some (.ret, ⟨env, (.box 26 false p.av :: .box 132 false (fitAV p l) :: R) :: h⟩) ∧ get env 4 = .ptr (h.length, 1) 0 ∧ get env 5 = .int .i64 e) l.l
    (fun pre x r b hl' hb => by
      obtain ⟨h1, h2, w1⟩ := idx_facts hl' (by have := hl.len; omega)
      have hix := fun (k : IntKind) => iaF_sl (av := Sc.av) (sz := 2) (s := l) (k := k) (j := (pre.length : Int)) (x := x) (by omega) (by simpa using h2) rfl
      have k := fun h => f127 x (hl.sc x (by rw [hl']; simp)) h
      rw [loop_go]
      generalize (mu K).code (.loopAt 3 [1, 2, 4, 6, 28, 29, 30] l92_0) = F
      clear hl'
      unfold scF
      by_cases e : schE x = 0
      · simp [l92_0, KL, lendF, h1, hix, w1, k, e]
      · simp [l92_0, KL, lendF, h1, hix, w1, k, e])
    (fun b _ => by
      rw [loop_go]
      generalize (mu K).code (.loopAt 3 [1, 2, 4, 6, 28, 29, 30] l92_0) = F
      simp [l92_0]) () trivial
  have key1 := loop_iter (K := K) (n := 3) (live := [2, 4, 6, 41, 42, 43]) (a := l92_1) (fun (met : List Bs) (s : Sc) => twF met s.name)
    (fun pre b => ⟨[(2, .ptr (h.length, 0) 0), (4, .ptr (h.length, 1) 0), (6, .ptr (h.length, 2) 0), (41, l.avS Sc.av), (42, .int .i64 (l.l.length : Int)), (43, .int .i64 (pre.length : Int))],
      [.box 26 false p.av, .box 132 false (.agg [.str [], .nils, .nils, .nils, iV 0, .str [], iV 0, .str [], .nils]), .box 132 false (fitAV p l)] :: h⟩) (fun pre met => met = pre.map Sc.name)
    (fun b o => ∃ env, o = some (.exit 2, ⟨env, [.box 26 false p.av, .box 132 false (.agg [.str [], .nils, .nils, .nils, iV 0, .str [], iV 0, .str [], .nils]), .box 132 false (fitAV p l)] :: h⟩) ∧ get env 2 = .ptr (h.length, 0) 0 ∧ get env 4 = .ptr (h.length, 1) 0 ∧ get env 6 = .ptr (h.length, 2) 0)
    (fun e o => ∃ env R, o = some (.ret, ⟨env, (.box 26 false p.av :: .box 132 false (fitAV p l) :: R) :: h⟩) ∧ get env 4 = .ptr (h.length, 1) 0 ∧ get env 5 = .int .i64 8) l.l
    (fun pre x r b hl' hb => by
      obtain ⟨h1, h2, w1⟩ := idx_facts hl' (by have := hl.len; omega)
      have hix := fun (k : IntKind) => iaF_sl (av := Sc.av) (sz := 2) (s := l) (k := k) (j := (pre.length : Int)) (x := x) (by omega) (by simpa using h2) rfl
      have hlen : l.l.length = pre.length + (r.length + 1) := by rw [hl']; simp
      have hix := fun (k : IntKind) => iaF_lst (sz := 2) (l := l.l.map Sc.av) (k := k) (j := (pre.length : Int)) (v := x.av) (by omega) (by rw [Int.toNat_natCast, List.getElem?_map, h2]; rfl) rfl
      have k := fun h => f128 false pre (by have := hl.len; omega) x.name h
      have k1 : l.avS Sc.av = .lst (l.l.map Sc.av) := lv_lst _ (by rw [hl']; simp)
      have kb := beqs_map Sc.av beq_sc l.l
      have kb1 := beqs_map Sc.av beq_sc pre
      have k2 : (l.l.map Sc.av).take pre.length = pre.map Sc.av := by rw [hl']; simp
      have k3 : pre.length ≤ l.l.length := by omega
      have k4 : (0 : Int) ≤ (pre.length : Int) := by omega
      have k5 := scN_some pre x.name
      simp only [lv_false, k5] at k
      rw [← hb] at k k5
      rw [loop_go]
      generalize (mu K).code (.loopAt 3 [2, 4, 6, 41, 42, 43] l92_1) = F
      unfold twF
      have hsc : ∃ a c, scAV (scN pre x.name) = .agg [.str a, c] ∧ c.cells = [c] ∧ (∀ p, c.refOk p = true) ∧ ∀ p h, c.view p h = some (c, h) := by
        cases scN pre x.name with
        | none => exact ⟨_, _, rfl, by simp, by simp, by simp⟩
        | some s => exact ⟨_, _, rfl, by simp, by simp, by simp⟩
      obtain ⟨a, c, e1, e2, e3, e4⟩ := hsc
      rw [e1] at k
      have hb2 : b ++ [x.name] = (pre ++ [x]).map Sc.name := by rw [hb]; simp
      clear hl'
      by_cases e : x.name ∈ b
      · simp [l92_1, KL, lendF, h1, hix, w1, k1, k2, k3, k4, k, e, e2, e3, e4, kb, kb1]
      · simp [l92_1, KL, lendF, h1, hix, w1, k1, k2, k3, k4, k, e, e2, e3, e4, kb, kb1, hb2])
    (fun b _ => by
      rw [loop_go]
      generalize (mu K).code (.loopAt 3 [2, 4, 6, 41, 42, 43] l92_1) = F
      simp [l92_1]) [] rfl
  have key2 := loop_iter (K := K) (n := 3) (live := [4, 6, 62, 63, 64]) (a := l92_2) (fun (_ : Unit) (u : Us) => if (scN l.l u.sc).isSome = true then (.inl () : Unit ⊕ Unit) else .inr ())
    (fun pre b => ⟨[(4, .ptr (h.length, 1) 0), (6, .ptr (h.length, 2) 0), (62, p.uses.avS Us.av), (63, .int .i64 (p.uses.l.length : Int)), (64, .int .i64 (pre.length : Int))],
      [.box 26 false p.av, .box 132 false (.agg [.str [], .nils, .nils, .nils, iV 0, .str [], iV 0, .str [], .nils]), .box 132 false (fitAV p l)] :: h⟩) (fun _ _ => True)
    (fun b o => ∃ env, o = some (.exit 4, ⟨env, [.box 26 false p.av, .box 132 false (.agg [.str [], .nils, .nils, .nils, iV 0, .str [], iV 0, .str [], .nils]), .box 132 false (fitAV p l)] :: h⟩) ∧ get env 4 = .ptr (h.length, 1) 0 ∧ get env 6 = .ptr (h.length, 2) 0)
    (fun e o => ∃ env R, o = some (.ret, ⟨env, (.box 26 false p.av :: .box 132 false (fitAV p l) :: R) :: h⟩) ∧ get env 4 = .ptr (h.length, 1) 0 ∧ get env 5 = .int .i64 9) p.uses.l
    (fun pre x r b hl' hb => by
      obtain ⟨h1, h2, w1⟩ := idx_facts hl' (by have := hp.uses.1; omega)
      have hix := fun (k : IntKind) => iaF_sl (av := Us.av) (sz := 2) (s := p.uses) (k := k) (j := (pre.length : Int)) (x := x) (by omega) (by simpa using h2) rfl
      have k : ∀ h, (mu K).fn 128 [l.avS Sc.av, .str x.sc] h = _ := fun h => f128 l.nl l.l hl.len x.sc h
      rw [loop_go]
      generalize (mu K).code (.loopAt 3 [4, 6, 62, 63, 64] l92_2) = F
      have hsc : ∃ a c, scAV (scN l.l x.sc) = .agg [.str a, c] ∧ c.cells = [c] ∧ (∀ p, c.refOk p = true) ∧ ∀ p h, c.view p h = some (c, h) := by
        cases scN l.l x.sc with
        | none => exact ⟨_, _, rfl, by simp, by simp, by simp⟩
        | some s => exact ⟨_, _, rfl, by simp, by simp, by simp⟩
      obtain ⟨a, c, e1, e2, e3, e4⟩ := hsc
      rw [e1] at k
      clear hl'
      cases e : (scN l.l x.sc).isSome
      · rw [e] at k
        simp [l92_2, KL, lendF, h1, hix, w1, k, e2, e3, e4]
      · rw [e] at k
        simp [l92_2, KL, lendF, h1, hix, w1, k, e2, e3, e4])
    (fun b _ => by
      rw [loop_go]
      generalize (mu K).code (.loopAt 3 [4, 6, 62, 63, 64] l92_2) = F
      simp [l92_2]) () trivial
  simp only [List.length_nil, Int.natCast_zero] at key0 key1 key2
  rw [iter_sc] at key0
  rw [iter_map (fun met s => twF met s) Sc.name] at key1
  rw [fn_go (KX _ _ _) fn92 rfl (by simp [c92])]
  unfold readyE
  by_cases c0 : chk p = 0
  case neg =>
    rw [if_pos c0]
    simp [c92, KL, lendF, k24, c0]
  rw [if_neg (by simp [c0])]
  by_cases c1 : firstS l.l = 0
  case neg =>
    rw [if_neg c1] at key0
    rw [if_pos c1]
    obtain ⟨env, R, k, g4, g5⟩ := key0
    simp [c92, KL, lendF, k24, c0, k, g4, g5]
  rw [if_neg (by simp [c1])]
  rw [if_pos c1] at key0
  obtain ⟨_, env0, a0, a1, a2, a4, a6⟩ := key0
  obtain ⟨t1, t2⟩ := iter_tw (l.l.map Sc.name) [] (by simp)
  simp only [List.nil_append] at t1 t2
  by_cases c2 : (l.l.map Sc.name).Nodup
  case neg =>
    rw [t2 c2] at key1
    rw [if_pos c2]
    obtain ⟨env, R, k, g4, g5⟩ := key1
    simp [c92, KL, lendF, k24, c0, a0, a1, a2, a4, a6, k, g4, g5]
  rw [if_neg (by simp [c2])]
  rw [t1 c2] at key1
  obtain ⟨_, env1, b0, b2, b4, b6⟩ := key1
  cases c3 : p.uses.l.all (fun u => (scN l.l u.sc).isSome)
  · rw [(iter_all (fun u : Us => (scN l.l u.sc).isSome) p.uses.l).2 c3] at key2
    obtain ⟨env, R, k, g4, g5⟩ := key2
    simp [c92, KL, lendF, k24, c0, a0, a1, a2, a4, a6, b0, b2, b4, b6, k, g4, g5]
  · rw [(iter_all (fun u : Us => (scN l.l u.sc).isSome) p.uses.l).1 c3] at key2
    obtain ⟨_, env, k, g4, g6⟩ := key2
    simp [c92, KL, lendF, k24, c0, a0, a1, a2, a4, a6, b0, b2, b4, b6, k, g4, g6]
end Go.Ab.Pl

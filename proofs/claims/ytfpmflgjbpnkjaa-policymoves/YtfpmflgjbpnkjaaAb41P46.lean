/-
  The statements of chapter 41 on the evaluator: other numbers for the nodes. The loops.
-/
import Derived.Test.YtfpmflgjbpnkjaaAb41P43
import Derived.Test.YtfpmflgjbpnkjaaAbMoves
set_option linter.unusedVariables false
set_option linter.unusedSimpArgs false
namespace Go.Ab.Pl
open Go.Ab.Pol
set_option maxRecDepth 100000
set_option maxHeartbeats 4000000
abbrev nV (j : Nat) : AV := iV (j : Int)
abbrev intB (T : List Nat) : Blk := .arr 3 1 false (T.map nV)
theorem one_at (T : List Nat) : ∀ (j : Nat) (hh : j < (T.map nV).length), ((T.map nV)[j]'hh).isAgg = false ∧ ((T.map nV)[j]'hh).cells.length = 1 := fun j hh => by
  rw [List.getElem_map]
  exact ⟨rfl, rfl⟩
theorem one_set {M : List AV} (h : ∀ (j : Nat) (hh : j < M.length), (M[j]'hh).isAgg = false ∧ (M[j]'hh).cells.length = 1) (i a : Nat) : ∀ (j : Nat) (hh : j < (M.set i (nV a)).length), ((M.set i (nV a))[j]'hh).isAgg = false ∧ ((M.set i (nV a))[j]'hh).cells.length = 1 := fun j hh => by
  rw [List.getElem_set]
  split
  · exact ⟨rfl, rfl⟩
  · exact h j (by simpa using hh)
theorem l9_0_ok (p : Po) (O : AV) (n : Nat) (hn : n ≤ 1000) :
    ∃ env, (mu K2).code (.loopAt 2 [1, 2, 5, 38, 39] l9_0) ⟨[(1, O), (2, .ptr (0, 0) 0), (5, .own (0, 1) n), (38, iV (n : Int)), (39, iV 0)], [[.box 26 false p.av, .arr 3 1 false (List.replicate n (iV 0))]]⟩ =
      some (.exit 0, ⟨env, [[.box 26 false p.av, intB (List.range n)]]⟩) ∧ get env 1 = O ∧ get env 2 = .ptr (0, 0) 0 ∧ get env 5 = .own (0, 1) n := by
  have key := loop_iter (K := K2) (n := 2) (live := [1, 2, 5, 38, 39]) (a := l9_0) (ρ := Unit) (fun (b : List Nat) (x : Nat) => .inl (b.set x x))
    (fun pre b => ⟨[(1, O), (2, .ptr (0, 0) 0), (5, .own (0, 1) n), (38, iV (n : Int)), (39, iV (pre.length : Int))], [[.box 26 false p.av, intB b]]⟩)
    (fun pre b => b.length = n ∧ ∀ j, j < pre.length → b[j]? = some j)
    (fun b o => ∃ env, o = some (.exit 0, ⟨env, [[.box 26 false p.av, intB b]]⟩) ∧ get env 1 = O ∧ get env 2 = .ptr (0, 0) 0 ∧ get env 5 = .own (0, 1) n)
    (fun _ _ => False) (List.range n)
    (fun pre x r b hl' hb => by
      obtain ⟨h1, h2, w1⟩ := idx_facts hl' (by simp; omega)
      simp only [List.length_range] at h1
      have hx : x = pre.length := by
        rw [List.getElem?_range (by omega)] at h2
        injection h2 with h2
        exact h2.symm
      subst hx
      have hlt : pre.length < n := by omega
      obtain ⟨hb1, hb2⟩ := hb
      have hM : (b.map nV).length = n := by rw [List.length_map, hb1]
      rw [loop_go]
      generalize (mu K2).code (.loopAt 2 [1, 2, 5, 38, 39] l9_0) = F
      clear hl'
      refine ⟨fun b' e => ?_, fun _ e => by cases e⟩
      injection e with e
      subst e
      refine ⟨⟨by simp [hb1], fun j hj => ?_⟩, ?_⟩
      · simp only [List.length_append, List.length_singleton] at hj
        rw [List.getElem?_set]
        by_cases e : pre.length = j
        · subst e; simp; omega
        · rw [if_neg e]; exact hb2 j (by omega)
      · simp only [intB, List.map_set]
        have iA := one_at b
        generalize b.map nV = M at *
        simp [l9_0, KL2, lendF, h1, hlt, w1, hM, (iA _ _).1, (iA _ _).2])
    (fun b _ => by
      rw [loop_go]
      generalize (mu K2).code (.loopAt 2 [1, 2, 5, 38, 39] l9_0) = F
      simp [l9_0]) (List.replicate n 0) ⟨by simp, by simp⟩
  rw [iter_foldl] at key
  obtain ⟨⟨k1, k2⟩, env, k3, k4⟩ := key
  have e : (List.range n).foldl (fun b x => b.set x x) (List.replicate n 0) = List.range n := by
    apply List.ext_getElem?
    intro j
    by_cases hj : j < n
    · rw [k2 j (by simpa using hj), List.getElem?_range hj]
    · rw [List.getElem?_eq_none (by omega), List.getElem?_eq_none (by simp; omega)]
  rw [e] at k3
  have e2 : (List.replicate n 0).map nV = List.replicate n (iV 0) := by rw [List.map_replicate]; rfl
  simp only [intB, e2, List.length_nil] at k3
  exact ⟨env, k3, k4⟩
def swapF (n : Nat) (T : List Nat) (q : Int × Nat) : List Nat := if q.2 < n ∧ 0 ≤ q.1 ∧ q.1 < (n : Int) then (T.set q.2 (rnm T q.1.toNat)).set q.1.toNat (rnm T q.2) else T
theorem ren_swap {n : Nat} {T : List Nat} (h : Ren n T) (q : Int × Nat) : Ren n (swapF n T q) := by
  unfold swapF
  split
  · rename_i c
    exact h.swap (h.at c.1) (h.at (by omega))
  · exact h
theorem l9_1_ok (p : Po) (od : Sl Int) (ho : od.l.length ≤ 1000) (n : Nat) (hn : n ≤ 1000) (T0 : List Nat) (h0 : Ren n T0) :
    ∃ T, Ren n T ∧ ∃ env, (mu K2).code (.loopAt 2 [2, 5, 47, 48, 49] l9_1) ⟨[(2, .ptr (0, 0) 0), (5, .own (0, 1) n), (47, od.avS iV), (48, iV (od.l.length : Int)), (49, iV 0)], [[.box 26 false p.av, intB T0]]⟩ =
      some (.exit 2, ⟨env, [[.box 26 false p.av, intB T]]⟩) ∧ get env 2 = .ptr (0, 0) 0 ∧ get env 5 = .own (0, 1) n := by
  have key := loop_iter (K := K2) (n := 2) (live := [2, 5, 47, 48, 49]) (a := l9_1) (ρ := Unit) (fun (T : List Nat) (q : Int × Nat) => .inl (swapF n T q))
    (fun pre T => ⟨[(2, .ptr (0, 0) 0), (5, .own (0, 1) n), (47, od.avS iV), (48, iV (od.l.length : Int)), (49, iV (pre.length : Int))], [[.box 26 false p.av, intB T]]⟩)
    (fun pre T => Ren n T)
    (fun T o => ∃ env, o = some (.exit 2, ⟨env, [[.box 26 false p.av, intB T]]⟩) ∧ get env 2 = .ptr (0, 0) 0 ∧ get env 5 = .own (0, 1) n)
    (fun _ _ => False) od.l.zipIdx
    (fun pre x r T hl' hT => by
      obtain ⟨h1, h2, w1⟩ := idx_facts hl' (by simp; omega)
      simp only [List.length_zipIdx] at h1
      rw [List.getElem?_zipIdx] at h2
      obtain ⟨v, hv, hx⟩ := Option.map_eq_some_iff.1 h2
      obtain ⟨x1, x2⟩ := x
      simp only [Nat.zero_add, Prod.mk.injEq] at hx
      obtain ⟨rfl, rfl⟩ := hx
      have h1n : pre.length < od.l.length := by omega
      have hix := fun (k : IntKind) => iaF_sl (av := iV) (sz := 1) (s := od) (k := k) (j := (pre.length : Int)) (x := v) (by omega) (by simpa using hv) rfl
      have hM : (T.map nV).length = n := by rw [List.length_map, hT.len]
      rw [loop_go]
      generalize (mu K2).code (.loopAt 2 [2, 5, 47, 48, 49] l9_1) = F
      clear hl'
      refine ⟨fun b' e => ?_, fun _ e => by cases e⟩
      injection e with e
      subst e
      refine ⟨ren_swap hT _, ?_⟩
      by_cases c1 : pre.length < n
      case neg =>
        have c1i : ((pre.length : Int) < (n : Int)) = False := by simp; omega
        have e : swapF n T (v, pre.length) = T := by unfold swapF; rw [if_neg (by rintro ⟨q, _⟩; exact c1 q)]
        rw [e]
        simp [l9_1, KL2, lendF, h1, h1n, w1, hix, c1, c1i]
      have c1i : ((pre.length : Int) < (n : Int)) = True := by simp; omega
      by_cases c2 : 0 ≤ v
      case neg =>
        have e : swapF n T (v, pre.length) = T := by unfold swapF; rw [if_neg (by rintro ⟨_, q, _⟩; exact c2 q)]
        rw [e]
        simp [l9_1, KL2, lendF, h1, h1n, w1, hix, c1, c1i, c2]
      by_cases c3 : v < (n : Int)
      case neg =>
        have e : swapF n T (v, pre.length) = T := by unfold swapF; rw [if_neg (by rintro ⟨_, _, q⟩; exact c3 q)]
        rw [e]
        simp [l9_1, KL2, lendF, h1, h1n, w1, hix, c1, c1i, c2, c3]
      obtain ⟨k, rfl⟩ := Int.eq_ofNat_of_zero_le c2
      have c3n : k < n := by omega
      have e : swapF n T ((k : Int), pre.length) = (T.set pre.length (rnm T k)).set k (rnm T pre.length) := by
        unfold swapF
        rw [if_pos ⟨c1, c2, c3⟩]
        simp
      rw [e]
      have m1 : (T.map nV)[k]? = some (nV (rnm T k)) := by rw [List.getElem?_map, hT.at c3n]; rfl
      have m2 : (T.map nV)[pre.length]? = some (nV (rnm T pre.length)) := by rw [List.getElem?_map, hT.at c1]; rfl
      have g1 : ∀ hh, ((T.map nV)[k]'hh) = nV (rnm T k) := fun hh => by rw [List.getElem?_eq_getElem hh] at m1; injection m1
      have g2 : ∀ hh, ((T.map nV)[pre.length]'hh) = nV (rnm T pre.length) := fun hh => by rw [List.getElem?_eq_getElem hh] at m2; injection m2
      simp only [intB, List.map_set]
      have iA := one_at T
      generalize rnm T k = a at *
      generalize rnm T pre.length = b at *
      generalize T.map nV = M at *
      have iB := one_set iA pre.length a
      simp [l9_1, KL2, lendF, h1, h1n, w1, hix, c1, c1i, c3n, hM, g1, g2, (iA _ _).1, (iA _ _).2, (iB _ _).1, (iB _ _).2])
    (fun b _ => by
      rw [loop_go]
      generalize (mu K2).code (.loopAt 2 [2, 5, 47, 48, 49] l9_1) = F
      simp [l9_1]) T0 h0
  rw [iter_foldl] at key
  obtain ⟨k1, env, k2, k3⟩ := key
  exact ⟨_, k1, env, by simpa using k2, k3⟩
end Go.Ab.Pl

/-
  The statements of chapter 41 on the evaluator: other numbers for the nodes.
-/
set_option linter.unusedVariables false
set_option linter.unusedSimpArgs false
namespace Go.Ab.Pl
open Go.Ab.Pol
set_option maxRecDepth 100000
set_option maxHeartbeats 8000000
theorem l9_2_ok (n : Nat) (hn : n ≤ 1000) (T : List Nat) (hT : Ren n T) (x : Nd) (ks : List Tr) (hk : x.kids.l = ks.map fun k => (k.i : Int)) (hlt : ∀ k ∈ ks, k.i < n) (hlen : x.kids.l.length ≤ 1000) (B0 B2 B3 : Blk) (V : AV) (i : Int) :
    ∃ env, (mu K2).code (.loopAt 6 [2, 5, 9, 10, 11, 12, 90, 91, 92, 98, 99, 100] l9_2) ⟨[(2, .ptr (0, 0) 0), (5, .own (0, 1) n), (9, .ptr (0, 2) 0), (10, iV i), (11, .ptr (0, 4) 0), (12, .own (0, 5) 0), (90, V), (91, iV (n : Int)), (92, iV i), (98, x.kids.avS iV), (99, iV (x.kids.l.length : Int)), (100, iV 0)],
      [[B0, intB T, B2, B3, .box 45 false x.av, .arr 0 0 false []]]⟩ = some (.exit 6, ⟨env, [[B0, intB T, B2, B3, .box 45 false x.av, ordB (ks.map fun k => ((rnm T k.i : Nat) : Int))]]⟩) ∧
      get env 2 = .ptr (0, 0) 0 ∧ get env 5 = .own (0, 1) n ∧ get env 9 = .ptr (0, 2) 0 ∧ get env 10 = iV i ∧ get env 11 = .ptr (0, 4) 0 ∧ get env 12 = .own (0, 5) ks.length ∧ get env 90 = V ∧ get env 91 = iV (n : Int) ∧ get env 92 = iV i := by
  have hlk : x.kids.l.length = ks.length := by rw [hk]; simp
  have iA := one_at T
  have hM : (T.map nV).length = n := by rw [List.length_map, hT.len]
  have key := loop_iter (K := K2) (n := 6) (live := [2, 5, 9, 10, 11, 12, 90, 91, 92, 98, 99, 100]) (a := l9_2) (ρ := Unit) (fun (b : List Int) (k : Tr) => .inl (b ++ [((rnm T k.i : Nat) : Int)]))
    (fun pre b => ⟨[(2, .ptr (0, 0) 0), (5, .own (0, 1) n), (9, .ptr (0, 2) 0), (10, iV i), (11, .ptr (0, 4) 0), (12, .own (0, 5) b.length), (90, V), (91, iV (n : Int)), (92, iV i), (98, x.kids.avS iV), (99, iV (x.kids.l.length : Int)), (100, iV (pre.length : Int))],
      [[B0, intB T, B2, B3, .box 45 false x.av, ordB b]]⟩) (fun pre b => b.length = pre.length)
    (fun b o => ∃ env, o = some (.exit 6, ⟨env, [[B0, intB T, B2, B3, .box 45 false x.av, ordB b]]⟩) ∧
      get env 2 = .ptr (0, 0) 0 ∧ get env 5 = .own (0, 1) n ∧ get env 9 = .ptr (0, 2) 0 ∧ get env 10 = iV i ∧ get env 11 = .ptr (0, 4) 0 ∧ get env 12 = .own (0, 5) b.length ∧ get env 90 = V ∧ get env 91 = iV (n : Int) ∧ get env 92 = iV i)
    (fun _ _ => False) ks
    (fun pre k r b hl' hb => by
      obtain ⟨h1, h2, w1⟩ := idx_facts hl' (by omega)
      have h1' : ((pre.length : Int) < (x.kids.l.length : Int)) := by rw [hlk]; exact h1
      have h1n : pre.length < x.kids.l.length := by omega
      have g2 : x.kids.l[pre.length]? = some (k.i : Int) := by rw [hk, List.getElem?_map, h2]; rfl
      have hix := fun (kk : IntKind) => iaF_sl (av := iV) (sz := 1) (s := x.kids) (k := kk) (j := (pre.length : Int)) (x := (k.i : Int)) (by omega) (by simpa using g2) rfl
      have hkn := hlt k (by rw [hl']; simp)
      have hkn' : ((k.i : Int) < (n : Int)) := by omega
      have m1 : (T.map nV)[k.i]? = some (nV (rnm T k.i)) := by rw [List.getElem?_map, hT.at hkn]; rfl
      have g1 : ∀ hh, ((T.map nV)[k.i]'hh) = nV (rnm T k.i) := fun hh => by rw [List.getElem?_eq_getElem hh] at m1; injection m1
      obtain ⟨ot, oz, ho, hz⟩ := ordB_at b
      have ho2 := ordB_snoc b ((rnm T k.i : Nat) : Int)
      have r1 : (pre.length + 1) * 8 ≤ room := by unfold room; omega
      have r2 : pre.length + 1 ≤ room := by unfold room; omega
      rw [loop_go]
      generalize (mu K2).code (.loopAt 6 [2, 5, 9, 10, 11, 12, 90, 91, 92, 98, 99, 100] l9_2) = F
      clear hl'
      refine ⟨fun b' e => ?_, fun _ e => by cases e⟩
      injection e with e
      subst e
      refine ⟨by simp [hb], ?_⟩
      generalize rnm T k.i = z at *
      simp only [intB]
      generalize T.map nV = M at *
      simp [l9_2, KL2, lendF, h1', h1n, hix, w1, hkn, hkn', hM, g1, ho, ho2, hz, r1, r2, hb])
    (fun b _ => by
      rw [loop_go]
      generalize (mu K2).code (.loopAt 6 [2, 5, 9, 10, 11, 12, 90, 91, 92, 98, 99, 100] l9_2) = F
      simp [l9_2, hlk]) [] rfl
  rw [iter_app] at key
  have e0 : ordB [] = .arr 0 0 false [] := rfl
  rw [e0] at key
  simpa using key.2
abbrev ndB (b : List Nd) : Blk := .arr 45 6 false (b.map Nd.av)
abbrev mvB (p : Po) (n : Nat) (r : Int) : Blk := .box 26 false (.agg [.str p.name, p.uses.avS Us.av, p.reveal.avS Rf.av, .own (0, 3) n, iV r, .str p.scope, iV p.limit, .str p.escrow])
theorem nd_at (b : List Nd) : ∀ (j : Nat) (hh : j < (b.map Nd.av).length), ((b.map Nd.av)[j]'hh).isAgg = true ∧ ((b.map Nd.av)[j]'hh).cells.length = 6 := fun j hh => by
  rw [List.getElem_map]
  exact ⟨rfl, rfl⟩
theorem l9_3_ok (p : Po) (z : okP p) (t : Tr) (g : Pol.Good p t) (n : Nat) (hnl : p.nodes.l.length = n) (T : List Nat) (hT : Ren n T) :
    ∃ ms : List Nd, ms.length = n ∧ (∀ i x, p.nodes.l[i]? = some x → ms[rnm T i]? = some (x.mv (rnm T))) ∧ ∃ env, (mu K2).code (.loopAt 4 [2, 5, 9, 90, 91, 92] l9_3) ⟨[(2, .ptr (0, 0) 0), (5, .own (0, 1) n), (9, .ptr (0, 2) 0), (90, p.nodes.avS Nd.av), (91, iV (n : Int)), (92, iV 0)],
      [[.box 26 false p.av, intB T, mvB p n p.root, .arr 45 6 false (List.replicate n (.agg [iV 0, iV 0, .str [], .str [], .nils, iV 0]))]]⟩ =
      some (.exit 4, ⟨env, [[.box 26 false p.av, intB T, mvB p n p.root, ndB ms]]⟩) ∧ get env 2 = .ptr (0, 0) 0 ∧ get env 5 = .own (0, 1) n ∧ get env 9 = .ptr (0, 2) 0 := by
  have hn : n ≤ 1000 := by rw [← hnl]; exact z.1
  have q3 := beq_avS _ beq_nd p.nodes
  have hM : (T.map nV).length = n := by rw [List.length_map, hT.len]
  have key := loop_iter (K := K2) (n := 4) (live := [2, 5, 9, 90, 91, 92]) (a := l9_3) (ρ := Unit) (fun (b : List Nd) (q : Nd × Nat) => .inl (b.set (rnm T q.2) (q.1.mv (rnm T))))
    (fun pre b => ⟨[(2, .ptr (0, 0) 0), (5, .own (0, 1) n), (9, .ptr (0, 2) 0), (90, p.nodes.avS Nd.av), (91, iV (n : Int)), (92, iV (pre.length : Int))], [[.box 26 false p.av, intB T, mvB p n p.root, ndB b]]⟩)
    (fun pre b => b.length = n ∧ ∀ j, j < pre.length → ∀ x, p.nodes.l[j]? = some x → b[rnm T j]? = some (x.mv (rnm T)))
    (fun b o => ∃ env, o = some (.exit 4, ⟨env, [[.box 26 false p.av, intB T, mvB p n p.root, ndB b]]⟩) ∧ get env 2 = .ptr (0, 0) 0 ∧ get env 5 = .own (0, 1) n ∧ get env 9 = .ptr (0, 2) 0)
    (fun _ _ => False) p.nodes.l.zipIdx
    (fun pre q r b hl' hb => by
      obtain ⟨h1, h2, w1⟩ := idx_facts hl' (by simp; omega)
      simp only [List.length_zipIdx] at h1
      rw [List.getElem?_zipIdx] at h2
      obtain ⟨x, hv, hx⟩ := Option.map_eq_some_iff.1 h2
      obtain ⟨x1, x2⟩ := q
      simp only [Nat.zero_add, Prod.mk.injEq] at hx
      obtain ⟨rfl, rfl⟩ := hx
      have h1n : pre.length < n := by omega
      have h1i : ((pre.length : Int) < (n : Int)) := by omega
      obtain ⟨hb1, hb2⟩ := hb
      obtain ⟨s, hs, hsi⟩ := sub_at g (i := pre.length) (by omega)
      obtain ⟨hnd, hkk⟩ := node_of (subs_isT g.isT s hs)
      rw [hsi, hv] at hnd
      injection hnd with hnd
      have hkx : x.kids.l = s.ks.map fun k => (k.i : Int) := by rw [hnd]; exact hkk
      have hkl := (z.2 x (List.mem_of_getElem? hv)).2
      obtain ⟨env, k, g2, g5, g9, g10, g11, g12, g90, g91, g92⟩ := l9_2_ok n hn T hT x s.ks hkx (fun k hk => by
        have := all_lt g k.i (kid_in t s hs k hk)
        omega) hkl (.box 26 false p.av) (mvB p n p.root) (ndB b) (p.nodes.avS Nd.av) (pre.length : Int)
      have hix := fun (kk : IntKind) => iaF_sl (av := Nd.av) (sz := 6) (s := p.nodes) (k := kk) (j := (pre.length : Int)) (x := x) (by omega) (by simpa using hv) rfl
      have q4 := beq_avS _ beq_iV x.kids
      have hr : rnm T pre.length < n := hT.lt _ (List.mem_of_getElem? (hT.at h1n))
      have hri : (((rnm T pre.length : Nat) : Int) < (n : Int)) := by omega
      have m1 : (T.map nV)[pre.length]? = some (nV (rnm T pre.length)) := by rw [List.getElem?_map, hT.at h1n]; rfl
      have g1 : ∀ hh, ((T.map nV)[pre.length]'hh) = nV (rnm T pre.length) := fun hh => by rw [List.getElem?_eq_getElem hh] at m1; injection m1
      have hmv : (x.mv (rnm T)).kids = ⟨false, s.ks.map fun k => ((rnm T k.i : Nat) : Int)⟩ := by
        simp only [Nd.mv, hkx, List.map_map]
        congr 1
      have hmav : (x.mv (rnm T)).av = .agg [iV x.k, iV x.num, .str x.nm, .str x.attr, .lst ((s.ks.map fun k => ((rnm T k.i : Nat) : Int)).map iV), iV x.pos] := by
        simp only [Nd.av, Nd.cs, hmv, Sl.avS, lv_false]
        rfl
      have hkl2 : s.ks.length = (s.ks.map fun k => ((rnm T k.i : Nat) : Int)).length := by simp
      refine ⟨fun b' e => ?_, fun _ e => by cases e⟩
      injection e with e
      subst e
      refine ⟨⟨by simp [hb1], fun j hj y hy => ?_⟩, ?_⟩
      · simp only [List.length_append, List.length_singleton] at hj
        rw [List.getElem?_set]
        by_cases e : rnm T pre.length = rnm T j
        · have hjn : j < n := by omega
          have := hT.inj_ h1n hjn e
          subst this
          rw [hv] at hy
          injection hy with hy
          subst hy
          rw [if_pos rfl, if_pos (by rw [hb1]; exact hr)]
        · rw [if_neg e]
          have : j ≠ pre.length := fun q => e (by rw [q])
          exact hb2 j (by omega) y hy
      · have iA := nd_at b
        have hN : (b.map Nd.av).length = n := by rw [List.length_map, hb1]
        simp only [ndB, List.map_set, hmav]
        rw [hkl2] at g12
        generalize (s.ks.map fun k => ((rnm T k.i : Nat) : Int)) = KS at *
        obtain ⟨ot, oz, ho, hz⟩ := ordB_at KS
        rw [ho] at k
        simp only [ndB, intB, mvB] at k
        rw [loop_go]
        generalize (mu K2).code (.loopAt 4 [2, 5, 9, 90, 91, 92] l9_3) = F
        clear hl'
        simp only [intB, mvB]
        generalize rnm T pre.length = rr at *
        generalize T.map nV = M at *
        generalize b.map Nd.av = N at *
        simp [-List.all_eq_true, l9_3, KL2, lendF, h1, h1n, h1i, hnl, w1, hix, k, g2, g5, g9, g10, g11, g12, g90, g91, g92, hr, hri, hM, hN, g1, (iA _ _).1, (iA _ _).2, q3, q4])
    (fun b _ => by
      rw [loop_go]
      generalize (mu K2).code (.loopAt 4 [2, 5, 9, 90, 91, 92] l9_3) = F
      simp [l9_3, hnl]) (List.replicate n zNd) ⟨by simp, by simp⟩
  rw [iter_foldl] at key
  obtain ⟨⟨k1, k2⟩, env, k3, k4⟩ := key
  have e2 : (List.replicate n zNd).map Nd.av = List.replicate n (.agg [iV 0, iV 0, .str [], .str [], .nils, iV 0]) := by rw [List.map_replicate]; rfl
  simp only [ndB, e2, List.length_nil] at k3
  refine ⟨_, k1, fun i x hx => k2 i (by simp; exact (List.getElem?_eq_some_iff.1 hx).1) x hx, env, k3, k4⟩
end Go.Ab.Pl

/-
  The function of the statement on other numbers, in pieces.
-/
set_option linter.unusedVariables false
set_option linter.unusedSimpArgs false
namespace Go.Ab.Pl
open Go.Ab.Pol
set_option maxRecDepth 100000
set_option maxHeartbeats 8000000
def c9p_0 : CC := (.reg [(.mk (some 2) none (.m (.box 26 8 (.t 0)))), (.mk (some 4) none (.p (.mv (.c (.bool false)))))])
def c9p_1 : CC := (.seq (.reg [(.mk (some 19) none (.m (.load true 8 (.t 2)))), (.mk (some 20) none (.m (.call (.c (.fn (.func 22) [] [])) [(.t 19)]))), (.mk (some 21) none (.p (.not (.t 20)))), (.mk (some 22) none (.p (.mv (.t 21)))), (.mk (some 23) (some (22, false)) (.p (.mv (.t 1)))), (.mk (some 24) (some (22, false)) (.p (.len true (.t 23)))), (.mk (some 25) (some (22, false)) (.p (.bin .gtr (.t 24) (.c (.int .i64 (60 : Int)))))), (.mk (some 26) none (.p (.pick (.t 22) (.c (.bool true)) (.t 25)))), (.mk (some 27) none (.p (.mv (.t 26)))), (.mk (some 28) (some (27, false)) (.m (.load true 8 (.t 2)))), (.mk (some 29) (some (27, false)) (.m (.call (.c (.fn (.func 25) [] [])) [(.t 28)]))), (.mk (some 30) (some (27, false)) (.p (.bin .neq (.t 29) (.c (.int .i64 (0 : Int)))))), (.mk (some 31) none (.p (.pick (.t 27) (.c (.bool true)) (.t 30))))]) (.cond (.t 31) (.seq (.reg [(.mk (some 32) none (.m (.call (.c (.fn (.func 23) [] [])) []))), (.mk (some 4) none (.p (.mv (.t 32))))]) .ret) .skip))
def c9p_2 : CC := (.reg [(.mk (some 33) none (.p (.fa 3 (.t 2)))), (.mk (some 34) none (.m (.load false 1 (.t 33)))), (.mk (some 35) none (.p (.len true (.t 34)))), (.mk (some 36) none (.m (.mkS 3 1 8 (.int .i64 (0 : Int)) (.t 35) (.t 35)))), (.mk (some 5) none (.p (.mv (.t 36))))])
def c9p_3 : CC := (.seq (.reg [(.mk (some 37) none (.p (.mv (.t 5)))), (.mk (some 38) none (.p (.len true (.t 37)))), (.mk (some 39) none (.p (.mv (.c (.int .i64 (0 : Int))))))]) (.block 0 (.loop [1, 2, 5, 38, 39] l9_0)))
def c9p_4 : CC := (.seq (.reg [(.mk (some 47) none (.p (.mv (.t 1)))), (.mk (some 48) none (.p (.len true (.t 47)))), (.mk (some 49) none (.p (.mv (.c (.int .i64 (0 : Int))))))]) (.block 2 (.loop [2, 5, 47, 48, 49] l9_1)))
def c9p_5 : CC := (.reg [(.mk (some 83) none (.m (.load true 8 (.t 2)))), (.mk (some 9) none (.m (.alloc 26 (.agg [(.str []), .nils, .nils, .nils, (.int .i64 (0 : Int)), (.str []), (.int .i64 (0 : Int)), (.str [])]) false))), (.mk none none (.m (.store 8 false (.t 9) (.t 83))))])
def c9p_6 : CC := (.reg [(.mk (some 84) none (.p (.fa 3 (.t 2)))), (.mk (some 85) none (.m (.load false 1 (.t 84)))), (.mk (some 86) none (.p (.len true (.t 85)))), (.mk (some 87) none (.m (.mkS 45 6 80 (.agg [(.int .i64 (0 : Int)), (.int .i64 (0 : Int)), (.str []), (.str []), .nils, (.int .i64 (0 : Int))]) (.t 86) (.t 86)))), (.mk (some 88) none (.p (.fa 3 (.t 9)))), (.mk none none (.m (.store 1 false (.t 88) (.t 87))))])
def c9p_7 : CC := (.seq (.reg [(.mk (some 89) none (.p (.fa 3 (.t 2)))), (.mk (some 90) none (.m (.load false 1 (.t 89)))), (.mk (some 91) none (.p (.len true (.t 90)))), (.mk (some 92) none (.p (.mv (.c (.int .i64 (0 : Int))))))]) (.block 4 (.loop [2, 5, 9, 90, 91, 92] l9_3)))
def c9p_8 : CC := (.reg [(.mk (some 123) none (.p (.mv (.t 5)))), (.mk (some 124) none (.p (.fa 4 (.t 2)))), (.mk (some 125) none (.m (.load false 1 (.t 124)))), (.mk (some 126) none (.p (.iaS 1 (.t 123) (.t 125)))), (.mk (some 127) none (.m (.load false 1 (.t 126)))), (.mk (some 128) none (.p (.fa 4 (.t 9)))), (.mk none none (.m (.store 1 false (.t 128) (.t 127))))])
def c9p_9 : CC := (.reg [(.mk (some 130) none (.m (.load true 8 (.t 2)))), (.mk (some 131) none (.m (.call (.c (.fn (.func 31) [] [])) [(.t 130)]))), (.mk (some 129) none (.p (.mv (.t 131)))), (.mk (some 132) none (.p (.ext (.t 129) 0))), (.mk (some 133) none (.p (.ext (.t 129) 1))), (.mk (some 15) none (.m (.alloc 26 (.agg [(.str []), .nils, .nils, .nils, (.int .i64 (0 : Int)), (.str []), (.int .i64 (0 : Int)), (.str [])]) false))), (.mk none none (.m (.store 8 false (.t 15) (.t 132)))), (.mk (some 16) none (.p (.mv (.t 133))))])
def c9p_10 : CC := (.reg [(.mk (some 135) none (.m (.load true 8 (.t 9)))), (.mk (some 136) none (.m (.call (.c (.fn (.func 31) [] [])) [(.t 135)]))), (.mk (some 134) none (.p (.mv (.t 136)))), (.mk (some 137) none (.p (.ext (.t 134) 0))), (.mk (some 138) none (.p (.ext (.t 134) 1))), (.mk (some 17) none (.m (.alloc 26 (.agg [(.str []), .nils, .nils, .nils, (.int .i64 (0 : Int)), (.str []), (.int .i64 (0 : Int)), (.str [])]) false))), (.mk none none (.m (.store 8 false (.t 17) (.t 137)))), (.mk (some 18) none (.p (.mv (.t 138))))])
def c9p_11 : CC := (.draw [(.mk (.mk (some 139) none (.m (.load true 8 (.t 2)))) 0 [2] [] []), (.mk (.mk (some 140) none (.m (.load true 8 (.t 9)))) 1 [9] [] []), (.mk (.mk (some 141) none (.m (.call (.c (.fn (.func 34) [] [])) [(.t 139), (.t 140)]))) 2 [139, 140] [] []), (.mk (.mk (some 142) none (.p (.mv (.t 141)))) 3 [141] [] []), (.mk (.mk (some 143) (some (142, true)) (.m (.load true 8 (.t 2)))) 4 [2, 142] [] []), (.mk (.mk (some 145) (some (142, true)) (.m (.load true 8 (.t 9)))) 6 [9, 142] [] []), (.mk (.mk (some 144) (some (142, true)) (.m (.call (.c (.fn (.func 27) [] [])) [(.t 143)]))) 5 [143, 142] [] [6]), (.mk (.mk (some 146) (some (142, true)) (.m (.call (.c (.fn (.func 27) [] [])) [(.t 145)]))) 7 [145, 142] [] []), (.mk (.mk (some 147) (some (142, true)) (.m (.call (.c (.fn (.func 26) [] [])) [(.t 144), (.t 146)]))) 8 [144, 146, 142] [] []), (.mk (.mk (some 148) none (.p (.pick (.t 142) (.t 147) (.c (.bool false))))) 9 [142, 147] [] []), (.mk (.mk (some 149) none (.p (.mv (.t 148)))) 10 [148] [] []), (.mk (.mk (some 150) (some (149, true)) (.p (.mv (.t 16)))) 11 [16, 149] [] []), (.mk (.mk (some 151) (some (149, true)) (.p (.bin .eql (.t 150) (.c (.int .i64 (0 : Int)))))) 12 [150, 149] [] []), (.mk (.mk (some 152) none (.p (.pick (.t 149) (.t 151) (.c (.bool false))))) 13 [149, 151] [] []), (.mk (.mk (some 153) none (.p (.mv (.t 152)))) 14 [152] [] []), (.mk (.mk (some 154) (some (153, true)) (.p (.mv (.t 18)))) 15 [18, 153] [] []), (.mk (.mk (some 155) (some (153, true)) (.p (.bin .eql (.t 154) (.c (.int .i64 (0 : Int)))))) 16 [154, 153] [] []), (.mk (.mk (some 156) none (.p (.pick (.t 153) (.t 155) (.c (.bool false))))) 17 [153, 155] [] []), (.mk (.mk (some 157) none (.p (.mv (.t 156)))) 18 [156] [] []), (.mk (.mk (some 158) (some (157, true)) (.m (.load true 8 (.t 15)))) 19 [15, 157] [] []), (.mk (.mk (some 159) (some (157, true)) (.m (.load true 8 (.t 17)))) 20 [17, 157] [] []), (.mk (.mk (some 160) (some (157, true)) (.m (.call (.c (.fn (.func 33) [] [])) [(.t 158), (.t 159)]))) 21 [158, 159, 157] [] []), (.mk (.mk (some 161) none (.p (.pick (.t 157) (.t 160) (.c (.bool false))))) 22 [157, 160] [] []), (.mk (.mk (some 162) none (.p (.mv (.t 161)))) 23 [161] [] []), (.mk (.mk (some 163) (some (162, true)) (.m (.load true 8 (.t 2)))) 24 [2, 162] [] []), (.mk (.mk (some 164) (some (162, true)) (.p (.fa 4 (.t 2)))) 25 [2, 162] [] []), (.mk (.mk (some 165) (some (162, true)) (.m (.load false 1 (.t 164)))) 26 [164, 162] [] []), (.mk (.mk (some 167) (some (162, true)) (.m (.load true 8 (.t 9)))) 28 [9, 162] [] []), (.mk (.mk (some 168) (some (162, true)) (.p (.fa 4 (.t 9)))) 29 [9, 162] [] []), (.mk (.mk (some 169) (some (162, true)) (.m (.load false 1 (.t 168)))) 30 [168, 162] [] []), (.mk (.mk (some 166) (some (162, true)) (.m (.call (.c (.fn (.func 29) [] [])) [(.t 163), (.t 165)]))) 27 [163, 165, 162] [] [28, 30]), (.mk (.mk (some 170) (some (162, true)) (.m (.call (.c (.fn (.func 29) [] [])) [(.t 167), (.t 169)]))) 31 [167, 169, 162] [] []), (.mk (.mk (some 171) (some (162, true)) (.p (.bin .eql (.t 166) (.t 170)))) 32 [166, 170, 162] [] []), (.mk (.mk (some 172) none (.p (.pick (.t 162) (.t 171) (.c (.bool false))))) 33 [162, 171] [] []), (.mk (.mk (some 173) none (.p (.mv (.t 172)))) 34 [172] [] []), (.mk (.mk (some 174) (some (173, true)) (.m (.call (.c (.fn (.func 23) [] [])) []))) 35 [173] [] []), (.mk (.mk (some 175) none (.p (.pick (.t 173) (.t 174) (.c (.bool false))))) 36 [173, 174] [] []), (.mk (.mk (some 4) none (.p (.mv (.t 175)))) 37 [175] [] [])])
def c9p_12 : CC := .ret
theorem c9p_body : c9.body = .code (.seq c9p_0 (.seq c9p_1 (.seq c9p_2 (.seq c9p_3 (.seq c9p_4 (.seq c9p_5 (.seq c9p_6 (.seq c9p_7 (.seq c9p_8 (.seq c9p_9 (.seq c9p_10 (.seq c9p_11 c9p_12)))))))))))) := rfl
theorem p9_8 (p : Po) (n : Nat) (M N : List AV) (rr : Nat) (hM : M.length = n) (hr0 : 0 ≤ p.root) (hr1 : p.root.toNat < n) (hr1i : p.root < (n : Int)) (g1 : ∀ hh, (M[p.root.toNat]'hh) = nV rr) (env : Env) (e2 : get env 2 = .ptr (0, 0) 0) (e5 : get env 5 = .own (0, 1) n) (e9 : get env 9 = .ptr (0, 2) 0) :
    ∃ env', evC K2 (mu K2) c9p_8 ⟨env, [[.box 26 false p.av, .arr 3 1 false M, mvB p n p.root, .arr 45 6 false N]]⟩ = some (.norm, ⟨env', [[.box 26 false p.av, .arr 3 1 false M, mvB p n (rr : Int), .arr 45 6 false N]]⟩) ∧ get env' 2 = .ptr (0, 0) 0 ∧ get env' 9 = .ptr (0, 2) 0 := by
  simp [c9p_8, e2, e5, e9, hM, hr0, hr1, hr1i, g1, mvB]
theorem p9_9 (p Q : Po) (B1 B2 B3 : Blk) (k31 : ∀ h, (mu K2).fn 31 [p.av] h = some (.val (.tup [Q.av, iV 0]) h)) (env : Env) (e2 : get env 2 = .ptr (0, 0) 0) (e9 : get env 9 = .ptr (0, 2) 0) :
    ∃ env', evC K2 (mu K2) c9p_9 ⟨env, [[.box 26 false p.av, B1, B2, B3]]⟩ = some (.norm, ⟨env', [[.box 26 false p.av, B1, B2, B3, .box 26 false Q.av]]⟩) ∧ get env' 2 = .ptr (0, 0) 0 ∧ get env' 9 = .ptr (0, 2) 0 ∧ get env' 15 = .ptr (0, 4) 0 ∧ get env' 16 = iV 0 := by
  have bp := beq_po p
  simp [c9p_9, KL2, lendF, e2, e9, k31, bp]
theorem p9_10 (p Q : Po) (n : Nat) (rr : Nat) (M N : List AV) (hN : N.length = n)
    (q31 : ∀ h, (mu K2).fn 31 [.agg [.str p.name, p.uses.avS Us.av, p.reveal.avS Rf.av, .lst N, iV (rr : Int), .str p.scope, iV p.limit, .str p.escrow]] h = some (.val (.tup [Q.av, iV 0]) h)) (env : Env) (e2 : get env 2 = .ptr (0, 0) 0) (e9 : get env 9 = .ptr (0, 2) 0) (e15 : get env 15 = .ptr (0, 4) 0) (e16 : get env 16 = iV 0) :
    ∃ env', evC K2 (mu K2) c9p_10 ⟨env, [[.box 26 false p.av, .arr 3 1 false M, mvB p n (rr : Int), .arr 45 6 false N, .box 26 false Q.av]]⟩ = some (.norm, ⟨env', [[.box 26 false p.av, .arr 3 1 false M, mvB p n (rr : Int), .arr 45 6 true N, .box 26 false Q.av, .box 26 false Q.av]]⟩) ∧
      get env' 2 = .ptr (0, 0) 0 ∧ get env' 9 = .ptr (0, 2) 0 ∧ get env' 15 = .ptr (0, 4) 0 ∧ get env' 16 = iV 0 ∧ get env' 17 = .ptr (0, 5) 0 ∧ get env' 18 = iV 0 := by
  have bp := beq_po p
  have bq := beq_po Q
  simp [c9p_10, KL2, lendF, e2, e9, e15, e16, q31, bp, bq, hN, mvB]
theorem p9_11 (p Q : Po) (n : Nat) (rr d : Nat) (R : List Rf) (M N : List AV) (hN : N.length = n)
    (k34 : ∀ h, (mu K2).fn 34 [p.av, .agg [.str p.name, p.uses.avS Us.av, p.reveal.avS Rf.av, .lst N, iV (rr : Int), .str p.scope, iV p.limit, .str p.escrow]] h = some (.val (.bool true) h))
    (k27 : ∀ h, (mu K2).fn 27 [p.av] h = some (.val (.lst (R.map Rf.av)) h))
    (q27 : ∀ h, (mu K2).fn 27 [.agg [.str p.name, p.uses.avS Us.av, p.reveal.avS Rf.av, .lst N, iV (rr : Int), .str p.scope, iV p.limit, .str p.escrow]] h = some (.val (.lst (R.map Rf.av)) h))
    (k26 : ∀ h, (mu K2).fn 26 [.lst (R.map Rf.av), .lst (R.map Rf.av)] h = some (.val (.bool true) h))
    (k33 : ∀ h, (mu K2).fn 33 [Q.av, Q.av] h = some (.val (.bool true) h))
    (k29 : ∀ h, (mu K2).fn 29 [p.av, iV p.root] h = some (.val (iV (d : Int)) h))
    (q29 : ∀ h, (mu K2).fn 29 [.agg [.str p.name, p.uses.avS Us.av, p.reveal.avS Rf.av, .lst N, iV (rr : Int), .str p.scope, iV p.limit, .str p.escrow], iV (rr : Int)] h = some (.val (iV (d : Int)) h))
    (env : Env) (e2 : get env 2 = .ptr (0, 0) 0) (e9 : get env 9 = .ptr (0, 2) 0) (e15 : get env 15 = .ptr (0, 4) 0) (e16 : get env 16 = iV 0) (e17 : get env 17 = .ptr (0, 5) 0) (e18 : get env 18 = iV 0) :
    ∃ env', evC K2 (mu K2) c9p_11 ⟨env, [[.box 26 false p.av, .arr 3 1 false M, mvB p n (rr : Int), .arr 45 6 true N, .box 26 false Q.av, .box 26 false Q.av]]⟩ = some (.norm, ⟨env', [[.box 26 false p.av, .arr 3 1 false M, mvB p n (rr : Int), .arr 45 6 true N, .box 26 false Q.av, .box 26 false Q.av]]⟩) ∧
      get env' 4 = .bool true := by
  have bp := beq_po p
  have bq := beq_po Q
  have aw := awake41
  simp [-List.all_eq_true, c9p_11, KL2, lendF, e2, e9, e15, e16, e17, e18, k34, k27, q27, k26, k33, k29, q29, aw, bp, bq, hN, mvB]
end Go.Ab.Pl

/-
  The statements of chapter 41 on the evaluator: other numbers for the nodes, the statement.
-/
set_option linter.unusedVariables false
set_option linter.unusedSimpArgs false
namespace Go.Ab.Pl
open Go.Ab.Pol
set_option maxRecDepth 100000
set_option maxHeartbeats 8000000
theorem law9 (p : Po) (hp : aPo p) (od : Sl Int) (hod : okSl (okI .i64) od) : (mu K2).fn 9 [p.av, od.avS iV] [] = some (.val (.bool true) []) := by
  have k22 := fun h => up (f22 p h)
  have aw := awake41
  rw [fn_go (KX2 _ _ _) (fn2 fn9) c9p_body (by simp [c9])]
  by_cases hf : few41 p = true
  case neg =>
    have hf : few41 p = false := by simpa using hf
    rw [hf] at k22
    simp [c9, c9p_0, c9p_1, KL2, lendF, k22, aw]
  have z := few_sz41 hp hf
  rw [hf] at k22
  by_cases ho : od.l.length ≤ 60
  case neg =>
    have ho2 : (60 < od.l.length) = True := by simp; omega
    have ho3 : ((60 : Int) < (od.l.length : Int)) = True := by simp; omega
    simp [c9, c9p_0, c9p_1, KL2, lendF, k22, aw, ho2, ho3]
  have ho2 : (60 < od.l.length) = False := by simp; omega
  have ho3 : ((60 : Int) < (od.l.length : Int)) = False := by simp; omega
  have k25 := fun h => up (f25 p z h)
  by_cases hc : chk p = 0
  case neg => simp [c9, c9p_0, c9p_1, KL2, lendF, k22, aw, ho2, ho3, k25, hc]
  rw [hc] at k25
  obtain ⟨t, g⟩ := chk_good hc
  obtain ⟨n, hn⟩ : ∃ n, p.nodes.l.length = n := ⟨_, rfl⟩
  have hnl : n ≤ 512 := by rw [← hn]; exact g.sizes.1
  have n1 : n * 8 ≤ room := by unfold room; omega
  have n2 : n * 80 ≤ room := by unfold room; omega
  have n3 : n ≤ room := by unfold room; omega
  obtain ⟨env0, l0, a1, a2, a5⟩ := l9_0_ok p (od.avS iV) n (by omega)
  obtain ⟨T, hT, env1, l1, b2, b5⟩ := l9_1_ok p od (by omega) n (by omega) (List.range n) (ren_range n)
  obtain ⟨ms, hms, H, env3, l3, c2, c5, c9'⟩ := l9_3_ok p z.nodes t g n hn T hT
  have hT' : Ren p.nodes.l.length T := by rw [hn]; exact hT
  have hms' : ms.length = p.nodes.l.length := by rw [hn]; exact hms
  have gq := good_mvd g hT' hms' H
  have htd := td_mvd g hT' hms' H
  have zq : Sz (mvdP p ms (rnm T)) := by
    refine ⟨z.name, z.scope, z.escrow, z.uses, z.reveal, by simp only [mvdP]; omega, fun m hm => ?_⟩
    obtain ⟨x, hx, rfl⟩ := mvd_mem hT' hms' H hm
    have := z.nodes.2 x hx
    exact ⟨this.1, by simpa [Nd.mv] using this.2⟩
  have gd := good_tidy g
  have hgd : chk (tidyP p t.pre) = 0 := good_chk gd
  have hR : tidyR p t.pre = (tidyP p t.pre, 0) := by unfold tidyR; rw [if_pos hgd]
  have hRq : tidyR (mvdP p ms (rnm T)) (relT (rnm T) t).pre = (tidyP p t.pre, 0) := by
    unfold tidyR
    rw [show tidyP (mvdP p ms (rnm T)) (relT (rnm T) t).pre = tidyP p t.pre from htd, if_pos hgd]
  have hpl : t.pre.length ≤ 1000 := by have := g.all; have := g.sizes.1; omega
  have zt := sz_tidy z g.isT hpl
  have k31 := fun h => up (f31t p z t (rea_good g) g.isT g.nodup h)
  have q31 := fun h => up (f31t (mvdP p ms (rnm T)) zq _ (rea_good gq) gq.isT gq.nodup h)
  rw [hR] at k31
  rw [hRq] at q31
  have k33 := fun h => up (f33 (tidyP p t.pre) zt h)
  have k34 := fun h => up (f34 p (mvdP p ms (rnm T)) z zq t _ g gq h)
  have hs : sameP p (mvdP p ms (rnm T)) t (relT (rnm T) t) = true := by
    simp only [sameP, sameT_rel, Bool.and_true]
    simp [sameH, mvdP]
  rw [hs] at k34
  have k27 := fun h => f27 p z t g h
  have q27 := fun h => f27 (mvdP p ms (rnm T)) zq _ gq h
  have er : refsP (mvdP p ms (rnm T)) (relT (rnm T) t) = refsP p t := by rw [refsP_T gq.isT, refsT_rel, refsP_T g.isT]
  rw [er] at q27
  have hl : (refsP p t).length ≤ 1000 := by
    have := allR_len p.nodes.l (ints t.pre)
    unfold refsP
    simp at this
    omega
  have k26 := fun h => up (f26 ⟨false, refsP p t⟩ ⟨false, refsP p t⟩ hl h)
  simp only [Sl.avS, lv_false, decide_true] at k26
  have hts : ∀ t : Tr, t ∈ t.subs := fun t => by cases t; simp [Tr.subs]
  have k29 := fun h => up (f29 p z t g t (hts t) h)
  have q29 := fun h => up (f29 (mvdP p ms (rnm T)) zq _ gq (relT (rnm T) t) (hts _) h)
  rw [relT_dep, gq.root] at q29
  rw [g.root] at k29
  have hav : (mvdP p ms (rnm T)).av = .agg [.str p.name, p.uses.avS Us.av, p.reveal.avS Rf.av, .lst (ms.map Nd.av), iV ((rnm T p.root.toNat : Nat) : Int), .str p.scope, iV p.limit, .str p.escrow] := by simp [mvdP, Sl.avS]
  have hrt : (mvdP p ms (rnm T)).root = ((rnm T p.root.toNat : Nat) : Int) := rfl
  rw [hav] at q31 k34 q27 q29
  rw [hrt] at q29
  have hr0 : 0 ≤ p.root := by rw [← g.root]; omega
  have hr1 : p.root.toNat < n := by
    have := all_lt g t.i (by cases t; simp [Tr.pre, Tr.i])
    have := g.root
    omega
  have hr1i : p.root < (n : Int) := by omega
  have hM : (T.map nV).length = n := by rw [List.length_map, hT.len]
  have m1 : (T.map nV)[p.root.toNat]? = some (nV (rnm T p.root.toNat)) := by rw [List.getElem?_map, hT.at hr1]; rfl
  have g1 : ∀ hh, ((T.map nV)[p.root.toNat]'hh) = nV (rnm T p.root.toNat) := fun hh => by rw [List.getElem?_eq_getElem hh] at m1; injection m1
  have bq := beq_po p
  have bt := beq_po (tidyP p t.pre)
  have hN : (ms.map Nd.av).length = n := by rw [List.length_map, hms]
  have iN : sized 6 (ms.map Nd.av) = true := by
    unfold sized
    rw [List.all_eq_true]
    intro e he
    obtain ⟨x, _, rfl⟩ := List.mem_map.1 he
    rfl
  simp only [intB, mvB, ndB] at l0 l1 l3
  clear H hms hms' gq htd zq hRq hs er hT hT' hav hrt
  generalize refsP p t = R at *
  generalize tidyP p t.pre = Q at *
  generalize rnm T p.root.toNat = rr at *
  generalize T.map nV = M at *
  generalize ms.map Nd.av = N at *
  generalize (List.range n).map nV = M0 at *
  have cut : ∀ env, get env 2 = .ptr (0, 0) 0 → get env 5 = .own (0, 1) n → get env 9 = .ptr (0, 2) 0 →
      ∃ env', evC K2 (mu K2) (.seq c9p_8 (.seq c9p_9 (.seq c9p_10 (.seq c9p_11 c9p_12)))) ⟨env, [[.box 26 false p.av, .arr 3 1 false M, mvB p n p.root, .arr 45 6 false N]]⟩ = some (.ret, ⟨env', [[.box 26 false p.av, .arr 3 1 false M, mvB p n (rr : Int), .arr 45 6 true N, .box 26 false Q.av, .box 26 false Q.av]]⟩) ∧ get env' 4 = .bool true := by
    intro env e2 e5 e9
    obtain ⟨env8, l8, f2, f9⟩ := p9_8 p n M N rr hM hr0 hr1 hr1i g1 env e2 e5 e9
    obtain ⟨env9, l9, g2, g9, g15, g16⟩ := p9_9 p Q (.arr 3 1 false M) (mvB p n (rr : Int)) (.arr 45 6 false N) k31 env8 f2 f9
    obtain ⟨env10, l10, u2, u9, u15, u16, u17, u18⟩ := p9_10 p Q n rr M N hN q31 env9 g2 g9 g15 g16
    obtain ⟨env11, l11, v4⟩ := p9_11 p Q n rr _ R M N hN k34 k27 q27 k26 k33 k29 q29 env10 u2 u9 u15 u16 u17 u18
    refine ⟨env11, ?_, v4⟩
    simp [l8, l9, l10, l11, c9p_12]
  obtain ⟨env4, l4, w4⟩ := cut env3 c2 c5 c9'
  simp only [mvB] at l4
  generalize (CC.seq c9p_8 (.seq c9p_9 (.seq c9p_10 (.seq c9p_11 c9p_12)))) = rest at l4 ⊢
  simp [-List.all_eq_true, c9, c9p_0, c9p_1, c9p_2, c9p_3, c9p_4, c9p_5, c9p_6, c9p_7, KL2, lendF, k22, aw, ho2, ho3, k25, hn, n1, n2, n3, l0, a1, a2, a5, l1, b2, b5, l3, c2, c5, c9', l4, w4, bq]
end Go.Ab.Pl

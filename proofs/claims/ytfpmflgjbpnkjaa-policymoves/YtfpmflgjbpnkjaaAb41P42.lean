/-
  The nodes that are reached: the reference.
-/
import Derived.Test.YtfpmflgjbpnkjaaAb41P37
set_option linter.unusedVariables false
set_option linter.unusedSimpArgs false
set_option linter.unusedSectionVars false
namespace Go.Ab.Pl
open Go.Ab.Pol
set_option maxRecDepth 100000
set_option maxHeartbeats 4000000
abbrev RH (p : Po) (s : List Int) (o : Heap) : Heap := [.box 26 false p.av, ordB s] :: o
theorem ordB_ne {seen : List Int} (h : seen ≠ []) : ordB seen = .arr 3 1 false (seen.map iV) := by
  cases seen with
  | nil => exact absurd rfl h
  | cons a s => rfl
def hasI (i : Int) (_ : Unit) (x : Int) : Unit ⊕ Unit := if x = i then .inr () else .inl ()
theorem iter_hasI (i : Int) : ∀ l : List Int, (i ∈ l → iter (hasI i) () l = .inr ()) ∧ (i ∉ l → iter (hasI i) () l = .inl ())
  | [] => ⟨fun h => (by simp at h), fun _ => rfl⟩
  | x :: l => by
    obtain ⟨h1, h2⟩ := iter_hasI i l
    simp only [iter, hasI]
    by_cases e : x = i
    · exact ⟨fun _ => by simp [e], fun h => absurd (by simp [e]) h⟩
    · have e2 : ¬ i = x := fun q => e q.symm
      refine ⟨fun h => ?_, fun h => ?_⟩
      · simp only [e, if_false]
        exact h1 (by simpa [e2] using h)
      · simp only [e, if_false]
        exact h2 (by simpa [e2] using h)
theorem reaL_512 {v : Int → List Int → Bool × List Int} (hv : ∀ k s, s.length ≤ 512 → (v k s).2.length ≤ 512) : ∀ (ks : List Int) (s : List Int), s.length ≤ 512 → (reaL v ks s).2.length ≤ 512
  | [], s, h => h
  | k :: ks, s, h => by
    simp only [reaL]
    split
    · exact reaL_512 hv ks _ (hv k s h)
    · exact hv k s h
theorem rea_512 (ns : List Nd) : ∀ (f : Nat) (i : Int) (s : List Int), s.length ≤ 512 → (rea ns f i s).2.length ≤ 512
  | 0, i, s, h => h
  | f + 1, i, s, h => by
    rw [rea]
    split
    · exact h
    · rename_i hb
      cases ns[i.toNat]? with
      | none => exact h
      | some n => exact reaL_512 (fun k s hs => rea_512 ns f k s hs) n.kids.l _ (by simp; have : ¬ s.length = 512 := fun e => hb (.inr e); omega)
/-- What a call answers. -/
abbrev reaV (o : Heap) (r : Bool × List Int) : AV := if r.1 = true then .tup [.own (o.length, 1) r.2.length, .bool true] else .tup [.nils, .bool false]
theorem f82 (p : Po) (hp : okP p) (o : Heap) : ∀ (f : Nat) (i : Int) (seen : List Int) (T : List (List Blk)), p.nodes.l.length + 1 ≤ f + seen.length → In p.nodes.l.length seen → seen.length ≤ 512 →
    (mu K).fn 82 [p.av, iV i, .own (o.length, 1) seen.length] (T ++ RH p seen o) = some (.val (reaV o (rea p.nodes.l f i seen)) (T ++ RH p (rea p.nodes.l f i seen).2 o))
  | 0, i, seen, T, hf, hin, hm => by have := hin.len; omega
  | f + 1, i, seen, T, hf, hin, hm => by
    have ne : (o.length = T.length + (o.length + 1)) = False := by simp; omega
    have lt : (o.length < T.length + (o.length + 1)) = True := by simp; omega
    have hs : seen.length ≤ p.nodes.l.length := hin.len
    have hl := hp.1
    rw [fn_go (KX _ _ _) fn82 rfl (by simp [c82])]
    by_cases b1 : i < 0
    · have e : rea p.nodes.l (f + 1) i seen = (false, seen) := by
        have : badAt p.nodes.l i seen = true := by simp [badAt, b1]
        rw [rea, if_pos (.inl this)]
      rw [e]
      simp [c82, KL, lendF, b1]
    by_cases b2 : (p.nodes.l.length : Int) ≤ i
    · have e : rea p.nodes.l (f + 1) i seen = (false, seen) := by
        have : badAt p.nodes.l i seen = true := by simp [badAt, b2]
        rw [rea, if_pos (.inl this)]
      rw [e]
      simp [c82, KL, lendF, b1, b2, ne, hget_deep]
    by_cases b4 : seen.length = 512
    · have e : rea p.nodes.l (f + 1) i seen = (false, seen) := by rw [rea, if_pos (.inr b4)]
      have d4 : ((512 : Int) ≤ (seen.length : Int)) = True := by simp; omega
      have d4n : (512 ≤ seen.length) = True := by simp; omega
      rw [e]
      simp [c82, KL, lendF, b1, b2, d4, d4n, ne, hget_deep]
    have d4 : ((512 : Int) ≤ (seen.length : Int)) = False := by simp; omega
    have d4n : (512 ≤ seen.length) = False := by simp; omega
    have i0 : 0 ≤ i := by omega
    obtain ⟨n, hnd⟩ : ∃ n, p.nodes.l[i.toNat]? = some n := ⟨_, List.getElem?_eq_getElem (by omega)⟩
    have hmem : n ∈ p.nodes.l := List.mem_of_getElem? hnd
    obtain ⟨hok, hkl⟩ := hp.2 n hmem
    have key0 := loop_iter (K := K) (n := 1) (live := [1, 2, 3, 8]) (a := l82_0) (hasI i)
      (fun pre _ => ⟨[(1, iV i), (2, .own (o.length, 1) seen.length), (3, .ptr (T.length + (o.length + 1), 0) 0), (8, iV (pre.length : Int))], [.box 26 false p.av] :: (T ++ RH p seen o)⟩) (fun _ _ => True)
      (fun _ r => ∃ env, r = some (.exit 0, ⟨env, [.box 26 false p.av] :: (T ++ RH p seen o)⟩) ∧ get env 1 = iV i ∧ get env 2 = .own (o.length, 1) seen.length ∧ get env 3 = .ptr (T.length + (o.length + 1), 0) 0)
      (fun _ r => ∃ env, r = some (.ret, ⟨env, [.box 26 false p.av] :: (T ++ RH p seen o)⟩) ∧ get env 6 = .nils ∧ get env 7 = .bool false) seen
      (fun pre x r u hl' _ => by
        obtain ⟨h1, h2, w1⟩ := idx_facts hl' (by omega)
        have hne : seen ≠ [] := by rw [hl']; simp
        have ho := ordB_ne hne
        have h1n : pre.length < seen.length := by omega
        have hgx : ∀ hh, (seen[pre.length]'hh) = x := fun hh => by
          have := h2
          rw [List.getElem?_eq_getElem hh] at this
          injection this
        rw [loop_go]
        generalize (mu K).code (.loopAt 1 [1, 2, 3, 8] l82_0) = F
        clear hl'
        by_cases e : x = i
        · refine ⟨fun _ q => by simp [hasI, e] at q, fun _ _ => ?_⟩
          simp [l82_0, KL, lendF, h1, h1n, w1, ne, hget_deep, ho, hgx, e]
        · refine ⟨fun _ _ => ⟨trivial, ?_⟩, fun _ q => by simp [hasI, e] at q⟩
          simp [l82_0, KL, lendF, h1, h1n, w1, ne, hget_deep, ho, hgx, e])
      (fun u _ => by
        rw [loop_go]
        generalize (mu K).code (.loopAt 1 [1, 2, 3, 8] l82_0) = F
        simp [l82_0]) () trivial
    simp only [List.length_nil, Int.natCast_zero] at key0
    by_cases b3 : i ∈ seen
    · have e : rea p.nodes.l (f + 1) i seen = (false, seen) := by
        have : badAt p.nodes.l i seen = true := by simp [badAt, b3]
        rw [rea, if_pos (.inl this)]
      rw [e]
      rw [(iter_hasI i seen).1 b3] at key0
      obtain ⟨env, k, g6, g7⟩ := key0
      simp [c82, KL, lendF, b1, b2, d4, d4n, ne, hget_deep, k, g6, g7]
    rw [(iter_hasI i seen).2 b3] at key0
    obtain ⟨_, env0, k0, a1, a2, a3⟩ := key0
    have hb : badAt p.nodes.l i seen = false := bad_false.2 ⟨by omega, by omega, b3⟩
    have hia := fun (k : IntKind) => iaF_sl (av := Nd.av) (sz := 6) (s := p.nodes) (k := k) (j := i) (x := n) i0 hnd rfl
    have e0 : rea p.nodes.l (f + 1) i seen = reaL (fun k s => rea p.nodes.l f k s) n.kids.l (seen ++ [i]) := by
      rw [rea, if_neg (by rw [hb]; rintro (q | q); cases q; exact b4 q)]
      simp [hnd]
    rw [e0]
    obtain ⟨ot, oz, ho, hz⟩ := ordB_at seen
    have ho2 := ordB_snoc seen i
    have r1 : (seen.length + 1) * 8 ≤ room := by unfold room; omega
    have r2 : seen.length + 1 ≤ room := by unfold room; omega
    have hin' := hin.snoc i0 (by omega) b3
    have q1 := beq_po p
    have q4 := beq_avS _ beq_iV n.kids
    have stop : ∀ (j : Int) (s : List Int), ∃ env, (mu K).code (.loopAt 1 [1, 2, 3, 9, 10] l82_1) ⟨[(1, iV i), (2, .nils), (3, .ptr (T.length + (o.length + 1), 0) 0), (9, .bool false), (10, iV j)], [.box 26 false p.av] :: (T ++ RH p s o)⟩ =
        some (.exit 2, ⟨env, [.box 26 false p.av] :: (T ++ RH p s o)⟩) ∧ get env 2 = .nils ∧ get env 9 = .bool false := fun j s => by
      rw [loop_go]
      generalize (mu K).code (.loopAt 1 [1, 2, 3, 9, 10] l82_1) = F
      by_cases hj : j < (n.kids.l.length : Int)
      · simp [l82_1, KL, lendF, hia, hj]
      · simp [l82_1, KL, lendF, hia, hj]
    have key := loop_iter (K := K) (n := 1) (live := [1, 2, 3, 9, 10]) (a := l82_1) (fun s k => if (rea p.nodes.l f k s).1 = true then (.inl (rea p.nodes.l f k s).2 : List Int ⊕ List Int) else .inr (rea p.nodes.l f k s).2)
      (fun pre s => ⟨[(1, iV i), (2, .own (o.length, 1) s.length), (3, .ptr (T.length + (o.length + 1), 0) 0), (9, .bool true), (10, iV (pre.length : Int))], [.box 26 false p.av] :: (T ++ RH p s o)⟩)
      (fun _ s => In p.nodes.l.length s ∧ seen.length + 1 ≤ s.length ∧ s.length ≤ 512)
      (fun s r => ∃ env, r = some (.exit 2, ⟨env, [.box 26 false p.av] :: (T ++ RH p s o)⟩) ∧ get env 2 = .own (o.length, 1) s.length ∧ get env 9 = .bool true)
      (fun s r => ∃ env, r = some (.exit 2, ⟨env, [.box 26 false p.av] :: (T ++ RH p s o)⟩) ∧ get env 2 = .nils ∧ get env 9 = .bool false) n.kids.l
      (fun pre x r s hl' hi => by
        obtain ⟨h1, h2, w1⟩ := idx_facts hl' (by omega)
        have h1n : pre.length < n.kids.l.length := by omega
        have ih := f82 p hp o f x s ([.box 26 false p.av] :: T) (by omega) hi.1 hi.2.2
        have hix := fun (k : IntKind) => iaF_sl (av := iV) (sz := 1) (s := n.kids) (k := k) (j := (pre.length : Int)) (x := x) (by omega) (by simpa using h2) rfl
        have hi2 := in_rea p.nodes.l f x s hi.1
        have hi3 : seen.length + 1 ≤ (rea p.nodes.l f x s).2.length := by omega
        have hi4 := rea_512 p.nodes.l f x s hi.2.2
        have hst := stop ((pre.length : Int) + 1)
        simp only [List.cons_append] at ih
        rw [loop_go]
        generalize (mu K).code (.loopAt 1 [1, 2, 3, 9, 10] l82_1) = F at *
        clear hl'
        generalize rea p.nodes.l f x s = R at *
        obtain ⟨b, s'⟩ := R
        simp only at hi2 hi3 ih hi4 ⊢
        cases b
        · rw [show reaV o (false, s') = .tup [.nils, .bool false] from rfl] at ih
          obtain ⟨env, k, g2, g9⟩ := hst s'
          simp [l82_1, KL, lendF, h1, h1n, hia, hix, w1, ih, ne, hget_deep, q1, q4, k, g2, g9]
        · rw [show reaV o (true, s') = .tup [.own (o.length, 1) s'.length, .bool true] from rfl] at ih
          simp [l82_1, KL, lendF, h1, h1n, hia, hix, w1, ih, ne, hget_deep, q1, q4, hi2.1, hi3, hi4])
      (fun s _ => by
        rw [loop_go]
        generalize (mu K).code (.loopAt 1 [1, 2, 3, 9, 10] l82_1) = F
        simp [l82_1, hia]) (seen ++ [i]) ⟨hin', by simp, by simp; omega⟩
    have eR : RH p (seen ++ [i]) o = [Blk.box 26 false p.av, Blk.arr 3 1 false (List.map iV seen ++ [AV.int IntKind.i64 i])] :: o := by
      simp [ho2]
    obtain ⟨v1, v2⟩ := iter_reaL (fun k s => rea p.nodes.l f k s) n.kids.l (seen ++ [i])
    rw [eR] at key
    generalize reaL (fun k s => rea p.nodes.l f k s) n.kids.l (seen ++ [i]) = R at *
    obtain ⟨b, s'⟩ := R
    simp only [List.length_nil, Int.natCast_zero, List.length_append, List.length_singleton] at key
    cases b
    · rw [v2 rfl] at key
      obtain ⟨env, k, g2, g9⟩ := key
      simp [c82, KL, lendF, b1, b2, d4, d4n, ne, hget_deep, hset_deep, k0, a1, a2, a3, ho, ho2, hz, r1, r2, k, g2, g9]
    · rw [v1 rfl] at key
      obtain ⟨_, env, k, g2, g9⟩ := key
      simp [c82, KL, lendF, b1, b2, d4, d4n, ne, hget_deep, hset_deep, k0, a1, a2, a3, ho, ho2, hz, r1, r2, k, g2, g9, lt]
/-- The first call. -/
theorem f82_0 (p : Po) (hp : okP p) (i : Int) (o : Heap) : (mu K).fn 82 [p.av, iV i, .nils] o =
    some (.val (if (rea p.nodes.l (p.nodes.l.length + 1) i []).1 = true then .tup [.lst ((rea p.nodes.l (p.nodes.l.length + 1) i []).2.map iV), .bool true] else .tup [.nils, .bool false]) o) := by
  have hl := hp.1
  rw [fn_go (KX _ _ _) fn82 rfl (by simp [c82])]
  by_cases b1 : i < 0
  · have e : rea p.nodes.l (p.nodes.l.length + 1) i [] = (false, []) := by
      have : badAt p.nodes.l i [] = true := by simp [badAt, b1]
      rw [rea, if_pos (.inl this)]
    rw [e]
    simp [c82, KL, lendF, b1]
  by_cases b2 : (p.nodes.l.length : Int) ≤ i
  · have e : rea p.nodes.l (p.nodes.l.length + 1) i [] = (false, []) := by
      have : badAt p.nodes.l i [] = true := by simp [badAt, b2]
      rw [rea, if_pos (.inl this)]
    rw [e]
    simp [c82, KL, lendF, b1, b2]
  have i0 : 0 ≤ i := by omega
  obtain ⟨n, hnd⟩ : ∃ n, p.nodes.l[i.toNat]? = some n := ⟨_, List.getElem?_eq_getElem (by omega)⟩
  have hmem : n ∈ p.nodes.l := List.mem_of_getElem? hnd
  obtain ⟨hok, hkl⟩ := hp.2 n hmem
  have key0 : ∃ env, (mu K).code (.loopAt 1 [1, 2, 3, 8] l82_0) ⟨[(1, iV i), (2, .nils), (3, .ptr (o.length, 0) 0), (8, iV 0)], [.box 26 false p.av] :: o⟩ = some (.exit 0, ⟨env, [.box 26 false p.av] :: o⟩) ∧
      get env 1 = iV i ∧ get env 2 = .nils ∧ get env 3 = .ptr (o.length, 0) 0 := by
    rw [loop_go]
    generalize (mu K).code (.loopAt 1 [1, 2, 3, 8] l82_0) = F
    simp [l82_0]
  obtain ⟨env0, k0, a1, a2, a3⟩ := key0
  have hb : badAt p.nodes.l i [] = false := bad_false.2 ⟨by omega, by omega, by simp⟩
  have hia := fun (k : IntKind) => iaF_sl (av := Nd.av) (sz := 6) (s := p.nodes) (k := k) (j := i) (x := n) i0 hnd rfl
  have e0 : rea p.nodes.l (p.nodes.l.length + 1) i [] = reaL (fun k s => rea p.nodes.l p.nodes.l.length k s) n.kids.l [i] := by
    rw [rea, if_neg (by rw [hb]; rintro (q | q); cases q; simp at q)]
    simp [hnd]
  rw [e0]
  have hin0 : In p.nodes.l.length [] := in_nil _
  have hin' : In p.nodes.l.length [i] := hin0.snoc i0 (by omega) (by simp)
  have q1 := beq_po p
  have q4 := beq_avS _ beq_iV n.kids
  have stop : ∀ (j : Int) (s : List Int), ∃ env, (mu K).code (.loopAt 2 [1, 2, 3, 9, 10] l82_1) ⟨[(1, iV i), (2, .nils), (3, .ptr (o.length, 0) 0), (9, .bool false), (10, iV j)], RH p s o⟩ =
      some (.exit 2, ⟨env, RH p s o⟩) ∧ get env 2 = .nils ∧ get env 9 = .bool false := fun j s => by
    rw [loop_go]
    generalize (mu K).code (.loopAt 2 [1, 2, 3, 9, 10] l82_1) = F
    by_cases hj : j < (n.kids.l.length : Int)
    · simp [l82_1, KL, lendF, hia, hj]
    · simp [l82_1, KL, lendF, hia, hj]
  have key := loop_iter (K := K) (n := 2) (live := [1, 2, 3, 9, 10]) (a := l82_1) (fun s k => if (rea p.nodes.l p.nodes.l.length k s).1 = true then (.inl (rea p.nodes.l p.nodes.l.length k s).2 : List Int ⊕ List Int) else .inr (rea p.nodes.l p.nodes.l.length k s).2)
    (fun pre s => ⟨[(1, iV i), (2, .own (o.length, 1) s.length), (3, .ptr (o.length, 0) 0), (9, .bool true), (10, iV (pre.length : Int))], RH p s o⟩)
    (fun _ s => In p.nodes.l.length s ∧ 1 ≤ s.length ∧ s.length ≤ 512)
    (fun s r => ∃ env, r = some (.exit 2, ⟨env, RH p s o⟩) ∧ get env 2 = .own (o.length, 1) s.length ∧ get env 9 = .bool true)
    (fun s r => ∃ env, r = some (.exit 2, ⟨env, RH p s o⟩) ∧ get env 2 = .nils ∧ get env 9 = .bool false) n.kids.l
    (fun pre x r s hl' hi => by
      obtain ⟨h1, h2, w1⟩ := idx_facts hl' (by omega)
      have h1n : pre.length < n.kids.l.length := by omega
      have ih := f82 p hp o p.nodes.l.length x s [] (by omega) hi.1 hi.2.2
      have hix := fun (k : IntKind) => iaF_sl (av := iV) (sz := 1) (s := n.kids) (k := k) (j := (pre.length : Int)) (x := x) (by omega) (by simpa using h2) rfl
      have hi2 := in_rea p.nodes.l p.nodes.l.length x s hi.1
      have hi3 : 1 ≤ (rea p.nodes.l p.nodes.l.length x s).2.length := by omega
      have hi4 := rea_512 p.nodes.l p.nodes.l.length x s hi.2.2
      have hst := stop ((pre.length : Int) + 1)
      simp only [List.nil_append] at ih
      rw [loop_go]
      generalize (mu K).code (.loopAt 2 [1, 2, 3, 9, 10] l82_1) = F at *
      clear hl'
      generalize rea p.nodes.l p.nodes.l.length x s = R at *
      obtain ⟨b, s'⟩ := R
      simp only at hi2 hi3 ih hi4 ⊢
      cases b
      · rw [show reaV o (false, s') = .tup [.nils, .bool false] from rfl] at ih
        obtain ⟨env, k, g2, g9⟩ := hst s'
        simp [l82_1, KL, lendF, h1, h1n, hia, hix, w1, ih, q1, q4, k, g2, g9]
      · rw [show reaV o (true, s') = .tup [.own (o.length, 1) s'.length, .bool true] from rfl] at ih
        simp [l82_1, KL, lendF, h1, h1n, hia, hix, w1, ih, q1, q4, hi2.1, hi3, hi4])
    (fun s _ => by
      rw [loop_go]
      generalize (mu K).code (.loopAt 2 [1, 2, 3, 9, 10] l82_1) = F
      simp [l82_1, hia]) [i] ⟨hin', by simp, by simp⟩
  obtain ⟨v1, v2⟩ := iter_reaL (fun k s => rea p.nodes.l p.nodes.l.length k s) n.kids.l [i]
  have hR : (reaL (fun k s => rea p.nodes.l p.nodes.l.length k s) n.kids.l [i]).2 ≠ [] := fun e => by
    have h1 : 1 ≤ (reaL (fun k s => rea p.nodes.l p.nodes.l.length k s) n.kids.l [i]).2.length := by
      have := (in_reaL (n := p.nodes.l.length) (fun k s hs => in_rea p.nodes.l p.nodes.l.length k s hs) n.kids.l [i] hin').2
      simpa using this
    rw [e] at h1
    simp at h1
  have eR : RH p [i] o = [Blk.box 26 false p.av, Blk.arr 3 1 false [AV.int IntKind.i64 i]] :: o := rfl
  rw [eR] at key
  generalize reaL (fun k s => rea p.nodes.l p.nodes.l.length k s) n.kids.l [i] = R at *
  obtain ⟨b, s'⟩ := R
  have hs' := ordB_ne hR
  simp only [List.length_nil, Int.natCast_zero, List.length_singleton] at key hs'
  cases b
  · rw [v2 rfl] at key
    obtain ⟨env, k, g2, g9⟩ := key
    simp [c82, KL, lendF, b1, b2, k0, a1, a2, a3, List.replicate, room, k, g2, g9]
  · rw [v1 rfl] at key
    obtain ⟨_, env, k, g2, g9⟩ := key
    simp [c82, KL, lendF, b1, b2, k0, a1, a2, a3, List.replicate, room, k, g2, g9, hs']
end Go.Ab.Pl

/-
  Tidy: the reference.
-/
set_option linter.unusedVariables false
set_option linter.unusedSimpArgs false
namespace Go.Ab.Pl
open Go.Ab.Pol
set_option maxRecDepth 100000
set_option maxHeartbeats 4000000
def posF (k : Nat) (acc : List Int) (q : Nat × Nat) : List Int := if q.1 = k then acc ++ [(q.2 : Int)] else acc
theorem pos_none (k : Nat) : ∀ (L : List Nat) (s : Nat) (acc : List Int), k ∉ L → (L.zipIdx s).foldl (posF k) acc = acc
  | [], s, acc, _ => rfl
  | x :: L, s, acc, h => by
    simp only [List.mem_cons, not_or] at h
    have : ¬ x = k := fun e => h.1 e.symm
    simp only [List.zipIdx_cons, List.foldl_cons, posF, if_neg this]
    exact pos_none k L (s + 1) acc h.2
theorem pos_one (k : Nat) : ∀ (L : List Nat) (s : Nat) (acc : List Int), L.Nodup → k ∈ L → (L.zipIdx s).foldl (posF k) acc = acc ++ [((s + L.idxOf k : Nat) : Int)]
  | [], s, acc, _, h => by simp at h
  | x :: L, s, acc, hn, h => by
    simp only [List.zipIdx_cons, List.foldl_cons, posF]
    rw [List.nodup_cons] at hn
    by_cases e : x = k
    · subst e
      rw [if_pos rfl]
      have := pos_none x L (s + 1) (acc ++ [(s : Int)]) hn.1
      rw [this]
      simp
    · rw [if_neg e]
      have hm : k ∈ L := by
        rcases List.mem_cons.1 h with q | q
        · exact absurd q.symm e
        · exact q
      have := pos_one k L (s + 1) acc hn.2 hm
      rw [this]
      have e2 : (x == k) = false := by simp [e]
      rw [List.idxOf_cons, e2]
      simp
      omega
theorem l32_0_ok (L : List Nat) (hL : L.Nodup) (hl : L.length ≤ 1000) (n : Nd) (c k : Nat) (hk : n.kids.l[c]? = some (k : Int)) (hm : k ∈ L) (acc : List Int) (ha : acc.length ≤ 1000) (B0 B1 B2 B3 : Blk) (i : Int) (h : Heap) :
    ∃ env, (mu K).code (.loopAt 6 [1, 2, 4, 6, 7, 8, 9, 10, 11] l32_0) ⟨[(1, .ptr (h.length, 0) 0), (2, .ptr (h.length, 1) 0), (4, .lst (L.map fun (j : Nat) => iV (j : Int))), (6, .ptr (h.length, 2) 0), (7, iV i), (8, .ptr (h.length, 4) 0), (9, .own (h.length, 5) acc.length), (10, iV (c : Int)), (11, iV 0)],
      [B0, B1, B2, B3, .box 45 false n.av, ordB acc] :: h⟩ = some (.exit 4, ⟨env, [B0, B1, B2, B3, .box 45 false n.av, ordB (acc ++ [((L.idxOf k : Nat) : Int)])] :: h⟩) ∧
      get env 1 = .ptr (h.length, 0) 0 ∧ get env 2 = .ptr (h.length, 1) 0 ∧ get env 4 = .lst (L.map fun (j : Nat) => iV (j : Int)) ∧ get env 6 = .ptr (h.length, 2) 0 ∧ get env 7 = iV i ∧ get env 8 = .ptr (h.length, 4) 0 ∧
      get env 9 = .own (h.length, 5) (acc.length + 1) ∧ get env 10 = iV (c : Int) := by
  have hix2 := fun (kk : IntKind) => iaF_sl (av := iV) (sz := 1) (s := n.kids) (k := kk) (j := (c : Int)) (x := (k : Int)) (by omega) (by simpa using hk) rfl
  have hll : (L.map fun (j : Nat) => iV (j : Int)).length = L.length := by simp
  have key := loop_iter (K := K) (n := 6) (live := [1, 2, 4, 6, 7, 8, 9, 10, 11]) (a := l32_0) (ρ := Unit) (fun (b : List Int) (q : Nat × Nat) => .inl (posF k b q))
    (fun pre b => ⟨[(1, .ptr (h.length, 0) 0), (2, .ptr (h.length, 1) 0), (4, .lst (L.map fun (j : Nat) => iV (j : Int))), (6, .ptr (h.length, 2) 0), (7, iV i), (8, .ptr (h.length, 4) 0), (9, .own (h.length, 5) b.length), (10, iV (c : Int)), (11, iV (pre.length : Int))],
      [B0, B1, B2, B3, .box 45 false n.av, ordB b] :: h⟩) (fun pre b => b.length ≤ acc.length + pre.length)
    (fun b o => ∃ env, o = some (.exit 4, ⟨env, [B0, B1, B2, B3, .box 45 false n.av, ordB b] :: h⟩) ∧
      get env 1 = .ptr (h.length, 0) 0 ∧ get env 2 = .ptr (h.length, 1) 0 ∧ get env 4 = .lst (L.map fun (j : Nat) => iV (j : Int)) ∧ get env 6 = .ptr (h.length, 2) 0 ∧ get env 7 = iV i ∧ get env 8 = .ptr (h.length, 4) 0 ∧
      get env 9 = .own (h.length, 5) b.length ∧ get env 10 = iV (c : Int))
    (fun _ _ => False) L.zipIdx
    (fun pre x r b hl' hb => by
      obtain ⟨h1, h2, w1⟩ := idx_facts hl' (by simp; omega)
      simp only [List.length_zipIdx] at h1
      rw [List.getElem?_zipIdx] at h2
      obtain ⟨v, hv, hx⟩ := Option.map_eq_some_iff.1 h2
      obtain ⟨x1, x2⟩ := x
      simp only [Nat.zero_add, Prod.mk.injEq] at hx
      obtain ⟨rfl, rfl⟩ := hx
      have hix := fun (kk : IntKind) => iaF_lst (sz := 1) (l := L.map fun (j : Nat) => iV (j : Int)) (k := kk) (j := (pre.length : Int)) (v := iV (v : Int)) (by omega) (by rw [Int.toNat_natCast, List.getElem?_map, hv]; rfl) rfl
      have h1n : pre.length < L.length := by omega
      obtain ⟨ot, oz, ho, hz⟩ := ordB_at b
      have ho2 := ordB_snoc b (pre.length : Int)
      have r1 : (b.length + 1) * 8 ≤ room := by unfold room; omega
      have r2 : b.length + 1 ≤ room := by unfold room; omega
      rw [loop_go]
      generalize (mu K).code (.loopAt 6 [1, 2, 4, 6, 7, 8, 9, 10, 11] l32_0) = F
      generalize (L.map fun (j : Nat) => iV (j : Int)) = M at *
      clear hl'
      refine ⟨fun b' e => ?_, fun _ e => by cases e⟩
      injection e with e
      subst e
      by_cases e : v = k
      · subst e
        refine ⟨by simp [posF]; omega, ?_⟩
        simp [posF, l32_0, KL, lendF, h1, h1n, hll, hix, hix2, w1, ho, ho2, hz, r1, r2]
      · have e2 : ((v : Int) = (k : Int)) = False := by simp; omega
        refine ⟨by simp [posF, e]; omega, ?_⟩
        simp [posF, l32_0, KL, lendF, h1, h1n, hll, hix, hix2, w1, e, e2])
    (fun b _ => by
      rw [loop_go]
      generalize (mu K).code (.loopAt 6 [1, 2, 4, 6, 7, 8, 9, 10, 11] l32_0) = F
      generalize (L.map fun (j : Nat) => iV (j : Int)) = M at *
      simp [l32_0, hll]) acc (by simp)
  rw [iter_fold, pos_one k L 0 acc hL hm] at key
  simpa using key.2
theorem l32_1_ok (L : List Nat) (hL : L.Nodup) (hl : L.length ≤ 1000) (n : Nd) (ks : List Tr) (hk : n.kids.l = ks.map fun k => (k.i : Int)) (hm : ∀ k ∈ ks, k.i ∈ L) (hlen : n.kids.l.length ≤ 1000) (B0 B1 B2 B3 : Blk) (i : Int) (h : Heap) :
    ∃ env, (mu K).code (.loopAt 6 [1, 2, 4, 6, 7, 8, 9, 10] l32_1) ⟨[(1, .ptr (h.length, 0) 0), (2, .ptr (h.length, 1) 0), (4, .lst (L.map fun (j : Nat) => iV (j : Int))), (6, .ptr (h.length, 2) 0), (7, iV i), (8, .ptr (h.length, 4) 0), (9, .own (h.length, 5) 0), (10, iV 0)],
      [B0, B1, B2, B3, .box 45 false n.av, .arr 0 0 false []] :: h⟩ = some (.exit 2, ⟨env, [B0, B1, B2, B3, .box 45 false n.av, ordB (ks.map fun k => ((L.idxOf k.i : Nat) : Int))] :: h⟩) ∧
      get env 1 = .ptr (h.length, 0) 0 ∧ get env 2 = .ptr (h.length, 1) 0 ∧ get env 4 = .lst (L.map fun (j : Nat) => iV (j : Int)) ∧ get env 6 = .ptr (h.length, 2) 0 ∧ get env 7 = iV i ∧ get env 8 = .ptr (h.length, 4) 0 ∧ get env 9 = .own (h.length, 5) ks.length := by
  have hlk : n.kids.l.length = ks.length := by rw [hk]; simp
  have key := loop_iter (K := K) (n := 6) (live := [1, 2, 4, 6, 7, 8, 9, 10]) (a := l32_1) (ρ := Unit) (fun (b : List Int) (k : Tr) => .inl (b ++ [((L.idxOf k.i : Nat) : Int)]))
    (fun pre b => ⟨[(1, .ptr (h.length, 0) 0), (2, .ptr (h.length, 1) 0), (4, .lst (L.map fun (j : Nat) => iV (j : Int))), (6, .ptr (h.length, 2) 0), (7, iV i), (8, .ptr (h.length, 4) 0), (9, .own (h.length, 5) b.length), (10, iV (pre.length : Int))],
      [B0, B1, B2, B3, .box 45 false n.av, ordB b] :: h⟩) (fun pre b => b.length = pre.length)
    (fun b o => ∃ env, o = some (.exit 2, ⟨env, [B0, B1, B2, B3, .box 45 false n.av, ordB b] :: h⟩) ∧
      get env 1 = .ptr (h.length, 0) 0 ∧ get env 2 = .ptr (h.length, 1) 0 ∧ get env 4 = .lst (L.map fun (j : Nat) => iV (j : Int)) ∧ get env 6 = .ptr (h.length, 2) 0 ∧ get env 7 = iV i ∧ get env 8 = .ptr (h.length, 4) 0 ∧
      get env 9 = .own (h.length, 5) b.length)
    (fun _ _ => False) ks
    (fun pre x r b hl' hb => by
      obtain ⟨h1, h2, w1⟩ := idx_facts hl' (by omega)
      have h1' : ((pre.length : Int) < (n.kids.l.length : Int)) := by rw [hlk]; exact h1
      have h1n : pre.length < n.kids.l.length := by omega
      have g2 : n.kids.l[pre.length]? = some (x.i : Int) := by rw [hk, List.getElem?_map, h2]; rfl
      obtain ⟨env, k, g1, g2, g4, g6, g7, g8, g9, g10⟩ := l32_0_ok L hL hl n pre.length x.i g2 (hm x (by rw [hl']; simp)) b (by omega) B0 B1 B2 B3 i h
      rw [hb] at k g9
      rw [loop_go]
      generalize (mu K).code (.loopAt 6 [1, 2, 4, 6, 7, 8, 9, 10] l32_1) = F
      generalize (L.map fun (j : Nat) => iV (j : Int)) = M at *
      generalize L.idxOf x.i = z at *
      clear hl'
      refine ⟨fun b' e => ?_, fun _ e => by cases e⟩
      injection e with e
      subst e
      refine ⟨by simp [hb], ?_⟩
      simp [l32_1, KL, lendF, h1', h1n, w1, hb, k, g1, g2, g4, g6, g7, g8, g9, g10])
    (fun b _ => by
      rw [loop_go]
      generalize (mu K).code (.loopAt 6 [1, 2, 4, 6, 7, 8, 9, 10] l32_1) = F
      generalize (L.map fun (j : Nat) => iV (j : Int)) = M at *
      simp [l32_1, hlk]) [] rfl
  rw [iter_app] at key
  have e0 : ordB [] = .arr 0 0 false [] := rfl
  rw [e0] at key
  simpa using key.2
theorem f32_0 (p : Po) (hp : Sz p) (hr : (rea p.nodes.l (p.nodes.l.length + 1) p.root []).1 = false) (h : Heap) : (mu K).fn 32 [p.av] h = some (.val (.tup [zPo.av, iV 3]) h) := by
  have k82 := fun h => f82_0 p hp.nodes p.root h
  rw [hr] at k82
  simp only [Bool.false_eq_true, if_false] at k82
  have hz0 : zPo.av = .agg [.str [], .nils, .nils, .nils, iV 0, .str [], iV 0, .str []] := rfl
  rw [hz0, fn_go (KX _ _ _) fn32 rfl (by simp [c32])]
  simp [c32, KL, lendF, k82]
theorem f32t (p : Po) (hp : Sz p) (t : Tr) (hr : rea p.nodes.l (p.nodes.l.length + 1) p.root [] = (true, ints t.pre)) (ht : IsT p.nodes.l t) (hn : t.pre.Nodup) (h : Heap) :
    (mu K).fn 32 [p.av] h = some (.val (.tup [(tidyR p t.pre).1.av, .int .i64 (tidyR p t.pre).2]) h) := by
  have k82 := fun h => f82_0 p hp.nodes p.root h
  rw [hr] at k82
  simp only [if_true] at k82
  have hpl : t.pre.length ≤ 1000 := by
    have := in_rea p.nodes.l (p.nodes.l.length + 1) p.root [] ⟨by simp, by simp⟩
    rw [hr] at this
    have h1 := this.1.len
    have h2 := hp.nodes.1
    simp at h1
    omega
  have hML : (ints t.pre).map iV = t.pre.map fun (j : Nat) => iV (j : Int) := by simp
  rw [hML] at k82
  have hll : (t.pre.map fun (j : Nat) => iV (j : Int)).length = t.pre.length := by simp
  have hsl : t.subs.length = t.pre.length := by rw [pre_subs]; simp
  have hMS : (t.pre.map fun (j : Nat) => iV (j : Int)) = t.subs.map fun (s : Tr) => iV (s.i : Int) := by rw [pre_subs, List.map_map]; rfl
  have q1 := beq_avS _ beq_us p.uses
  have q2 := beq_avS _ beq_rf p.reveal
  have q3 := beq_avS _ beq_nd p.nodes
  have key1 := loop_iter (K := K) (n := 4) (live := [1, 2, 4, 6, 7]) (a := l32_2) (ρ := Unit) (fun (b : List Nd) (s : Tr) => .inl (b ++ [s.n.mv fun k => t.pre.idxOf k]))
    (fun pre b => ⟨[(1, .ptr (h.length, 0) 0), (2, .ptr (h.length, 1) 0), (4, .lst (t.pre.map fun (j : Nat) => iV (j : Int))), (6, .ptr (h.length, 2) 0), (7, iV (pre.length : Int))],
      [.box 26 false p.av, .box 26 false zPo.av, .box 26 false (.agg [.str p.name, p.uses.avS Us.av, p.reveal.avS Rf.av, .own (h.length, 3) b.length, iV 0, .str p.scope, iV p.limit, .str p.escrow]), arrN b] :: h⟩) (fun pre b => b.length = pre.length)
    (fun b o => ∃ env, o = some (.exit 0, ⟨env, [.box 26 false p.av, .box 26 false zPo.av, .box 26 false (.agg [.str p.name, p.uses.avS Us.av, p.reveal.avS Rf.av, .own (h.length, 3) b.length, iV 0, .str p.scope, iV p.limit, .str p.escrow]), arrN b] :: h⟩) ∧
      get env 2 = .ptr (h.length, 1) 0 ∧ get env 6 = .ptr (h.length, 2) 0)
    (fun _ _ => False) t.subs
    (fun pre x r b hl' hb => by
      obtain ⟨h1, h2, w1⟩ := idx_facts hl' (by omega)
      have hxm : x ∈ t.subs := by rw [hl']; simp
      obtain ⟨hxn, hxk⟩ := sub_node (subs_isT ht x hxm)
      have hkl := (hp.nodes.2 x.n (List.mem_of_getElem? hxn)).2
      have hix := fun (k : IntKind) => iaF_lst (sz := 1) (l := t.pre.map fun (j : Nat) => iV (j : Int)) (k := k) (j := (pre.length : Int)) (v := iV (x.i : Int)) (by omega) (by rw [Int.toNat_natCast, hMS, List.getElem?_map, h2]; rfl) rfl
      have hiy := fun (k : IntKind) => iaF_sl (av := Nd.av) (sz := 6) (s := p.nodes) (k := k) (j := (x.i : Int)) (x := x.n) (by omega) (by simpa using hxn) rfl
      obtain ⟨env, k, g1, g2, g4, g6, g7, g8, g9⟩ := l32_1_ok t.pre hn hpl x.n x.ks hxk (fun k hk => kids_pre t x hxm k hk) hkl (.box 26 false p.av) (.box 26 false zPo.av)
        (.box 26 false (.agg [.str p.name, p.uses.avS Us.av, p.reveal.avS Rf.av, .own (h.length, 3) b.length, iV 0, .str p.scope, iV p.limit, .str p.escrow])) (arrN b) (pre.length : Int) h
      have hlen2 : t.subs.length = pre.length + (r.length + 1) := by rw [hl']; simp
      have hmv : (x.n.mv fun k => t.pre.idxOf k).kids = ⟨false, x.ks.map fun k => ((t.pre.idxOf k.i : Nat) : Int)⟩ := by
        simp only [Nd.mv, hxk, List.map_map]
        congr 1
      have hmav : (x.n.mv fun k => t.pre.idxOf k).av = .agg [iV x.n.k, iV x.n.num, .str x.n.nm, .str x.n.attr, .lst ((x.ks.map fun k => ((t.pre.idxOf k.i : Nat) : Int)).map iV), iV x.n.pos] := by
        simp only [Nd.av, Nd.cs, hmv, Sl.avS, lv_false]
        rfl
      have hkl2 : x.ks.length = (x.ks.map fun k => ((t.pre.idxOf k.i : Nat) : Int)).length := by simp
      have q4 := beq_avS _ beq_iV x.n.kids
      generalize (x.ks.map fun k => ((t.pre.idxOf k.i : Nat) : Int)) = KS at *
      obtain ⟨ot, oz, ho, hz⟩ := ordB_at KS
      rw [ho] at k
      rw [hkl2] at g9
      rw [hb] at k
      have r1 : (pre.length + 1) * 80 ≤ room := by unfold room; omega
      have r2 : pre.length + 1 ≤ room := by unfold room; omega
      have h1' : ((pre.length : Int) < (t.pre.length : Int)) := by rw [← hsl]; exact h1
      have h1n : pre.length < t.pre.length := by omega
      refine ⟨fun b' e => ?_, fun _ e => by cases e⟩
      injection e with e
      subst e
      refine ⟨by simp [hb], ?_⟩
      rw [loop_go]
      generalize (mu K).code (.loopAt 4 [1, 2, 4, 6, 7] l32_2) = F
      generalize (t.pre.map fun (j : Nat) => iV (j : Int)) = M at *
      clear hl'
      unfold arrN at k ⊢
      by_cases hbe : b = []
      · have d : (b = []) = True := by simp [hbe]
        have hp0 : pre.length = 0 := by rw [← hb, hbe]; rfl
        simp only [d, if_true] at k
        simp [-List.all_eq_true, l32_2, KL, lendF, h1', h1n, hll, hix, hiy, w1, k, g1, g2, g4, g6, g7, g8, g9, hmav, r1, r2, hb, d, hz, q3, q4]
      · simp only [hbe, if_false] at k
        simp [-List.all_eq_true, l32_2, KL, lendF, h1', h1n, hll, hix, hiy, w1, k, g1, g2, g4, g6, g7, g8, g9, hmav, r1, r2, hb, hbe, hz, q3, q4])
    (fun b _ => by
      rw [loop_go]
      generalize (mu K).code (.loopAt 4 [1, 2, 4, 6, 7] l32_2) = F
      generalize (t.pre.map fun (j : Nat) => iV (j : Int)) = M at *
      simp [l32_2, hsl, hll]) [] rfl
  rw [iter_app, List.nil_append, ← tidy_subs ht] at key1
  simp only [List.length_nil, Int.natCast_zero] at key1
  obtain ⟨_, env1, b0, b2, b6⟩ := key1
  have hsz := sz_tidy hp ht hpl
  have k25 := fun h => f25 (tidyP p t.pre) hsz h
  have hav : (tidyP p t.pre).av = .agg [.str p.name, p.uses.avS Us.av, p.reveal.avS Rf.av, .lst ((tidyNs p.nodes.l t.pre).map Nd.av), iV 0, .str p.scope, iV p.limit, .str p.escrow] := by simp [tidyP, Sl.avS]
  rw [hav] at k25
  have hz0 : zPo.av = .agg [.str [], .nils, .nils, .nils, iV 0, .str [], iV 0, .str []] := rfl
  rw [hz0] at b0
  have hne : tidyNs p.nodes.l t.pre ≠ [] := by
    rw [tidy_subs ht]
    cases t with
    | nd i n ks => simp [Tr.subs]
  unfold arrN at b0
  simp only [if_true, hne, if_false, List.map_nil] at b0
  unfold tidyR
  rw [fn_go (KX _ _ _) fn32 rfl (by simp [c32])]
  generalize (t.pre.map fun (j : Nat) => iV (j : Int)) = M at *
  have hQ : ((tidyNs p.nodes.l t.pre).map Nd.av).length = (tidyNs p.nodes.l t.pre).length := by simp
  generalize (tidyNs p.nodes.l t.pre).length = T at *
  by_cases hc : chk (tidyP p t.pre) = 0
  · rw [if_pos hc]
    rw [hc] at k25
    simp only [hav]
    generalize (tidyNs p.nodes.l t.pre).map Nd.av = Q at *
    simp [c32, KL, lendF, k82, b0, b2, b6, k25, hll, q1, q2, q3, hQ]
  · rw [if_neg hc]
    simp only [hz0]
    generalize (tidyNs p.nodes.l t.pre).map Nd.av = Q at *
    simp [c32, KL, lendF, k82, b0, b2, b6, k25, hc, hll, q1, q2, q3, hQ]
end Go.Ab.Pl

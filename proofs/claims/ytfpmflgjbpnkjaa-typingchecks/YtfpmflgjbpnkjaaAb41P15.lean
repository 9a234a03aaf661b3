/-
  The place of a field, the type of a value: the program.
-/
import Derived.Test.YtfpmflgjbpnkjaaAb41P14
import Derived.Test.YtfpmflgjbpnkjaaAbOrd
set_option linter.unusedVariables false
set_option linter.unusedSimpArgs false
set_option linter.unusedSectionVars false
namespace Go.Ab.Pl
open Go.Ab.Pol
set_option maxRecDepth 100000
set_option maxHeartbeats 1000000
def fnd1 (l : List Sc) (attr : Bs) (b : Nat) (u : Us) : Option (Nat × Nat × Pol.Fd) := match scN l u.sc with
  | none => none
  | some s => match fdI s attr with
    | none => none
    | some k => match s.fields.l[k]? with
      | none => none
      | some f => some (b, k, f)
def useF (l : List Sc) (r : Rf) (b : Nat) (u : Us) : Nat ⊕ Option (Nat × Nat × Pol.Fd) := if u.al = r.al then .inr (fnd1 l r.attr b u) else .inl (b + 1)
theorem iter_use (l : List Sc) (r : Rf) : ∀ (us : List Us) (b : Nat), iter (useF l r) b us = match useI us r.al with
    | none => .inl (b + us.length)
    | some u => .inr (match us[u]? with
      | none => none
      | some x => fnd1 l r.attr (b + u) x)
  | [], b => by simp [iter, useI]
  | x :: us, b => by
    have ih := iter_use l r us (b + 1)
    unfold useI at ih ⊢
    simp only [iter, useF, List.findIdx?_cons]
    by_cases e : x.al = r.al
    · simp [e]
    · simp only [e, if_false, ih, decide_false, Bool.false_eq_true]
      cases us.findIdx? (fun u => decide (u.al = r.al)) with
      | none => simp; omega
      | some k =>
        have e2 : b + 1 + k = b + (k + 1) := by omega
        simp [e2]
theorem findF_1 (us : List Us) (l : List Sc) (r : Rf) : findF us l r = match useI us r.al with
    | none => none
    | some u => match us[u]? with
      | none => none
      | some x => fnd1 l r.attr u x := rfl
def plAV : Option (Nat × Nat × Pol.Fd) → AV
  | none => .agg [iV 0, iV 0]
  | some (u, k, _) => .agg [iV (u : Int), iV ((k : Int) + 2)]
def fdAV : Option (Nat × Nat × Pol.Fd) → AV
  | none => .agg [.str [], iV 0, iV 0, iV 0, .nils]
  | some (_, _, f) => f.av
theorem f93 (p : Po) (hp : p.uses.l.length ≤ 1000) (l : Sl Sc) (hl : okL l) (r : Rf) (h : Heap) : (mu K).fn 93 [fitAV p l, r.av] h = some (.val (.tup [plAV (findF p.uses.l l.l r), fdAV (findF p.uses.l l.l r), .bool (findF p.uses.l l.l r).isSome]) h) := by
  have key := loop_iter (K := K) (n := 4) (live := [2, 3, 4, 5, 15, 16, 17]) (a := l93_0) (useF l.l r)
    (fun pre b => ⟨[(2, .ptr (h.length, 0) 0), (3, .ptr (h.length, 1) 0), (4, .ptr (h.length, 2) 0), (5, .ptr (h.length, 3) 0), (15, p.uses.avS Us.av), (16, .int .i64 (p.uses.l.length : Int)), (17, .int .i64 (pre.length : Int))],
      [.box 132 false (fitAV p l), .box 34 false r.av, .box 54 false (.agg [iV 0, iV 0]), .box 57 false (.agg [.str [], iV 0, iV 0, iV 0, .nils])] :: h⟩) (fun pre b => b = pre.length)
    (fun b o => ∃ env R, o = some (.exit 0, ⟨env, (.box 132 false (fitAV p l) :: .box 34 false r.av :: .box 54 false (.agg [iV 0, iV 0]) :: .box 57 false (.agg [.str [], iV 0, iV 0, iV 0, .nils]) :: R) :: h⟩) ∧ get env 4 = .ptr (h.length, 2) 0 ∧ get env 5 = .ptr (h.length, 3) 0)
    (fun q o => match q with
      | none => ∃ env R, o = some (.exit 0, ⟨env, (.box 132 false (fitAV p l) :: .box 34 false r.av :: .box 54 false (.agg [iV 0, iV 0]) :: .box 57 false (.agg [.str [], iV 0, iV 0, iV 0, .nils]) :: R) :: h⟩) ∧ get env 4 = .ptr (h.length, 2) 0 ∧ get env 5 = .ptr (h.length, 3) 0
      | some (u, k, f) => ∃ env R, o = some (.ret, ⟨env, (.box 132 false (fitAV p l) :: .box 34 false r.av :: .box 54 false (.agg [iV (u : Int), iV ((k : Int) + 2)]) :: .box 57 false f.av :: R) :: h⟩) ∧ get env 4 = .ptr (h.length, 2) 0 ∧ get env 5 = .ptr (h.length, 3) 0 ∧ get env 6 = .bool true) p.uses.l
    (fun pre x rr b hl' hb => by
      obtain ⟨h1, h2, w1⟩ := idx_facts hl' (by omega)
      have hix := fun (k : IntKind) => iaF_sl (av := Us.av) (sz := 2) (s := p.uses) (k := k) (j := (pre.length : Int)) (x := x) (by omega) (by simpa using h2) rfl
      have k : ∀ h, (mu K).fn 128 [l.avS Sc.av, .str x.sc] h = _ := fun h => f128 l.nl l.l hl.len x.sc h
      rw [loop_go]
      generalize (mu K).code (.loopAt 4 [2, 3, 4, 5, 15, 16, 17] l93_0) = F
      clear hl'
      unfold useF
      by_cases e : x.al = r.al
      case neg => simp [l93_0, KL, lendF, h1, hix, w1, e, hb]
      have d : (x.al = r.al) = True := by simp [e]
      simp only [d, if_true]
      refine ⟨fun _ q => (by cases q), fun q hq => ?_⟩
      injection hq with hq
      subst hq
      unfold fnd1
      cases es : scN l.l x.sc with
      | none =>
        rw [es] at k
        have z0 : scAV none = .agg [.str [], .nils] := rfl
        rw [z0] at k
        simp [l93_0, KL, lendF, h1, hix, w1, d, k]
      | some s =>
        rw [es] at k
        have z0 : scAV (some s) = s.av := rfl
        rw [z0] at k
        have hs := hl.sc s (scN_of es).1
        have k2 := fun h => f129 s hs.len r.attr h
        cases ef : fdI s r.attr with
        | none =>
          rw [ef] at k2
          simp [l93_0, KL, lendF, h1, hix, w1, d, k, k2, ef]
        | some i =>
          rw [ef] at k2
          have hi : i < s.fields.l.length := by
            unfold fdI at ef
            exact (List.findIdx?_eq_some_iff_getElem.1 ef).1
          have hg : s.fields.l[i]? = some s.fields.l[i] := List.getElem?_eq_getElem hi
          generalize s.fields.l[i] = f at *
          have hiy := fun (k : IntKind) => iaF_sl (av := Fd.av) (sz := 5) (s := s.fields) (k := k) (j := (i : Int)) (x := f) (by omega) (by simpa using hg) rfl
          have w2 : IntKind.i64.wrap ((i : Int) + 2) = (i : Int) + 2 := wrap64 (by omega) (by have := hs.len; omega)
          have q1 := beq_avS _ beq_fd s.fields
          have q2 := beq_avS _ beq_strS f.words
          simp [l93_0, KL, lendF, h1, hix, w1, w2, d, k, k2, hiy, q1, q2, hb, ef, hg])
    (fun b _ => by
      rw [loop_go]
      generalize (mu K).code (.loopAt 4 [2, 3, 4, 5, 15, 16, 17] l93_0) = F
      simp [l93_0]) 0 rfl
  simp only [List.length_nil, Int.natCast_zero] at key
  rw [iter_use] at key
  rw [findF_1]
  rw [fn_go (KX _ _ _) fn93 rfl (by simp [c93])]
  cases eu : useI p.uses.l r.al with
  | none =>
    rw [eu] at key
    obtain ⟨_, env, R, k, g4, g5⟩ := key
    simp [c93, KL, lendF, k, g4, g5, plAV, fdAV]
  | some u =>
    rw [eu] at key
    simp only [Nat.zero_add] at key ⊢
    generalize (match p.uses.l[u]? with | none => none | some x => fnd1 l.l r.attr u x) = q at *
    cases q with
    | none =>
      obtain ⟨env, R, k, g4, g5⟩ := key
      simp [c93, KL, lendF, k, g4, g5, plAV, fdAV]
    | some q =>
      obtain ⟨u', k', f⟩ := q
      obtain ⟨env, R, k, g4, g5, g6⟩ := key
      simp [c93, KL, lendF, k, g4, g5, g6, plAV, fdAV]
end Go.Ab.Pl

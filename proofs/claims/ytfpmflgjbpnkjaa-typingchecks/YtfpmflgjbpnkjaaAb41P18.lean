/-
  Check and Field of typing: the program.
-/
import Derived.Test.YtfpmflgjbpnkjaaAb41P17
set_option linter.unusedVariables false
set_option linter.unusedSimpArgs false
set_option linter.unusedSectionVars false
namespace Go.Ab.Pl
open Go.Ab.Pol
set_option maxRecDepth 100000
set_option maxHeartbeats 1000000
def vsF (f : Nd → Option VT) (_ : Unit) (t : Tr) : Unit ⊕ (Int × Int) := if (visitT f t).2 = 0 then .inl () else .inr (visitT f t)
theorem iter_vs (f : Nd → Option VT) : ∀ ts : List Tr, iter (vsF f) () ts = if (visitTs f ts).2 = 0 then .inl () else .inr (visitTs f ts)
  | [] => rfl
  | t :: ts => by
    have ih := iter_vs f ts
    simp only [iter, vsF, visitTs]
    by_cases e : (visitT f t).2 = 0
    · simp [e, ih]
    · simp [e]
theorem vs_zero (f : Nd → Option VT) (ts : List Tr) (h : (visitTs f ts).2 = 0) : visitTs f ts = (0, 0) := by
  rw [visits_first] at h ⊢
  exact (firstE_zero h).1
mutual
theorem f94 (p : Po) (hp : Sz p) (l : Sl Sc) (hl : okL l) (hs : ∀ s ∈ l.l, schE s = 0) : ∀ (t : Tr) {c : Bool}, IsT p.nodes.l t → WF t c → ∀ (h : Heap),
    (mu K).fn 94 [fitAV p l, .int .i64 (t.i : Int)] h = some (.val (.tup [.int .i64 (visitT (vtF p l) t).1, .int .i64 (visitT (vtF p l) t).2]) h)
  | .nd i n ks, c, ht, hw, h => by
    have k0 := fun h => f130 p hp l hl hs (.nd i n ks) ht hw h
    obtain ⟨hn, hkk, hts⟩ := ht
    have ih := f94s p hp l hl hs ks hts hw.2
    have hmem : n ∈ p.nodes.l := List.mem_of_getElem? hn
    have hkl := (hp.nodes.2 n hmem).2
    have hix := fun (k : IntKind) => iaF_sl (av := Nd.av) (sz := 6) (s := p.nodes) (k := k) (j := (i : Int)) (x := n) (by omega) (by simpa using hn) rfl
    have hlk : n.kids.l.length = ks.length := by rw [hkk]; simp
    rw [fn_go (KX _ _ _) fn94 rfl (by simp [c94])]
    simp only [Tr.i, visitT] at k0 ⊢
    generalize condE (vtF p l) (.nd i n ks) = q at *
    obtain ⟨a, e⟩ := q
    simp only at k0 ⊢
    by_cases e0 : e = 0
    case neg =>
      rw [if_neg e0]
      simp [c94, KL, lendF, k0, e0]
    rw [if_pos e0]
    subst e0
    have key := loop_iter (K := K) (n := 1) (live := [2, 28, 29, 30]) (a := l94_0) (vsF (vtF p l))
      (fun pre _ => ⟨[(2, .ptr (h.length, 0) 0), (28, n.kids.avS iV), (29, .int .i64 (n.kids.l.length : Int)), (30, .int .i64 (pre.length : Int))], [.box 132 false (fitAV p l)] :: h⟩) (fun _ _ => True)
      (fun _ o => ∃ env, o = some (.exit 0, ⟨env, [.box 132 false (fitAV p l)] :: h⟩))
      (fun q o => ∃ env R, o = some (.ret, ⟨env, R :: h⟩) ∧ get env 4 = .int .i64 q.1 ∧ get env 5 = .int .i64 q.2) ks
      (fun pre x r b hl' _ => by
        obtain ⟨h1, h2, w1⟩ := idx_facts hl' (by omega)
        have g2 : n.kids.l[pre.length]? = some (x.i : Int) := by rw [hkk, List.getElem?_map, h2]; rfl
        have hiy := fun (k : IntKind) => iaF_sl (av := iV) (sz := 1) (s := n.kids) (k := k) (j := (pre.length : Int)) (x := (x.i : Int)) (by omega) (by simpa using g2) rfl
        have k := fun h => ih x (by rw [hl']; simp) h
        rw [hlk]
        rw [loop_go]
        generalize (mu K).code (.loopAt 1 [2, 28, 29, 30] l94_0) = F
        clear hl'
        unfold vsF
        generalize visitT (vtF p l) x = q at *
        obtain ⟨a, e⟩ := q
        simp only at k ⊢
        by_cases e0 : e = 0
        · subst e0
          simp [l94_0, KL, lendF, h1, hiy, w1, k]
        · simp [l94_0, KL, lendF, h1, hiy, w1, k, e0])
      (fun b _ => by
        rw [hlk]
        rw [loop_go]
        generalize (mu K).code (.loopAt 1 [2, 28, 29, 30] l94_0) = F
        simp [l94_0]) () trivial
    simp only [List.length_nil, Int.natCast_zero] at key
    rw [iter_vs] at key
    by_cases e1 : (visitTs (vtF p l) ks).2 = 0
    · rw [if_pos e1] at key
      rw [vs_zero _ _ e1]
      obtain ⟨_, env, k⟩ := key
      simp [c94, KL, lendF, k0, hix, k]
    · rw [if_neg e1] at key
      obtain ⟨env, R, k, g4, g5⟩ := key
      simp [c94, KL, lendF, k0, hix, k, g4, g5]
theorem f94s (p : Po) (hp : Sz p) (l : Sl Sc) (hl : okL l) (hs : ∀ s ∈ l.l, schE s = 0) : ∀ (ts : List Tr) {c : Bool}, IsTs p.nodes.l ts → WFs ts c → ∀ t ∈ ts, ∀ (h : Heap),
    (mu K).fn 94 [fitAV p l, .int .i64 (t.i : Int)] h = some (.val (.tup [.int .i64 (visitT (vtF p l) t).1, .int .i64 (visitT (vtF p l) t).2]) h)
  | [], c, _, _, t, ht, h => by simp at ht
  | x :: ts, c, h1, h2, t, ht, h => by
    rcases List.mem_cons.1 ht with e | ht
    · rw [e]
      exact f94 p hp l hl hs x h1.1 h2.1 h
    · exact f94s p hp l hl hs ts h1.2 h2.2 t ht h
end
theorem f38 (p : Po) (hp : Sz p) (l : Sl Sc) (hl : okL l) (t : Tr) (ht : chk p = 0 → Pol.Good p t) (h : Heap) :
    (mu K).fn 38 [p.av, l.avS Sc.av] h = some (.val (.tup [.int .i64 (typT p l.l t).1, .int .i64 (typT p l.l t).2]) h) := by
  have k92 := fun h => f92 p hp l hl h
  have key := loop_iter (K := K) (n := 2) (live := [6, 24, 25, 26]) (a := l38_0) (fun (_ : Unit) (r : Rf) => if (findF p.uses.l l.l r).isSome = true then (.inl () : Unit ⊕ Unit) else .inr ())
    (fun pre _ => ⟨[(6, .ptr (h.length, 1) 0), (24, p.reveal.avS Rf.av), (25, .int .i64 (p.reveal.l.length : Int)), (26, .int .i64 (pre.length : Int))], [.box 26 false p.av, .box 132 false (fitAV p l)] :: h⟩) (fun _ _ => True)
    (fun _ o => ∃ env, o = some (.exit 0, ⟨env, [.box 26 false p.av, .box 132 false (fitAV p l)] :: h⟩) ∧ get env 6 = .ptr (h.length, 1) 0)
    (fun q o => ∃ env R, o = some (.ret, ⟨env, R :: h⟩) ∧ get env 4 = .int .i64 0 ∧ get env 5 = .int .i64 9) p.reveal.l
    (fun pre x r b hl' _ => by
      obtain ⟨h1, h2, w1⟩ := idx_facts hl' (by have := hp.reveal.1; omega)
      have hix := fun (k : IntKind) => iaF_sl (av := Rf.av) (sz := 2) (s := p.reveal) (k := k) (j := (pre.length : Int)) (x := x) (by omega) (by simpa using h2) rfl
      have k := fun h => f93 p hp.uses.1 l hl x h
      rw [loop_go]
      generalize (mu K).code (.loopAt 2 [6, 24, 25, 26] l38_0) = F
      clear hl'
      cases e : findF p.uses.l l.l x with
      | none =>
        rw [e] at k
        simp only [plAV, fdAV] at k
        simp [l38_0, KL, lendF, h1, hix, w1, k]
      | some q =>
        obtain ⟨u, k', f⟩ := q
        rw [e] at k
        simp only [plAV, fdAV] at k
        simp [l38_0, KL, lendF, h1, hix, w1, k])
    (fun b _ => by
      rw [loop_go]
      generalize (mu K).code (.loopAt 2 [6, 24, 25, 26] l38_0) = F
      simp [l38_0]) () trivial
  simp only [List.length_nil, Int.natCast_zero] at key
  rw [fn_go (KX _ _ _) fn38 rfl (by simp [c38])]
  unfold typT
  by_cases hr : readyE p l.l = 0
  case neg =>
    rw [if_pos hr]
    simp [c38, KL, lendF, k92, hr]
  rw [if_neg (by simp [hr])]
  have rp := ready_of hr
  have g := ht rp.chk
  cases c3 : p.reveal.l.all (fun r => (findF p.uses.l l.l r).isSome)
  · rw [(iter_all (fun r : Rf => (findF p.uses.l l.l r).isSome) p.reveal.l).2 c3] at key
    obtain ⟨env, R, k, g4, g5⟩ := key
    simp [c38, KL, lendF, k92, hr, k, g4, g5]
  · rw [(iter_all (fun r : Rf => (findF p.uses.l l.l r).isSome) p.reveal.l).1 c3] at key
    obtain ⟨_, env, k, g6⟩ := key
    have k94 := fun h => f94 p hp l hl rp.sch t g.isT g.wf h
    rw [g.root] at k94
    have ev : vtOf p.uses.l l.l = vtF p l := funext fun n => pv_vt rp.sch n
    rw [ev]
    simp [c38, KL, lendF, k92, hr, k, g6, k94]
end Go.Ab.Pl

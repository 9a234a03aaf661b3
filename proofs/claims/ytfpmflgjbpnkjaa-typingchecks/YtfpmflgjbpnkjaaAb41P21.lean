/-
  Fields and conditions: the reference.
-/
import Derived.Test.YtfpmflgjbpnkjaaAb41P20
import Derived.Test.YtfpmflgjbpnkjaaAb41P17
set_option linter.unusedVariables false
set_option linter.unusedSimpArgs false
set_option linter.unusedSectionVars false
namespace Go.Ab.Pl
open Go.Ab.Pol
set_option maxRecDepth 100000
set_option maxHeartbeats 1000000
theorem f96 (p : Po) (hp : p.uses.l.length ≤ 1000) (l : Sl Sc) (hl : okL l) (r : Rf) (h : Heap) : (mu K).fn 96 [p.av, l.avS Sc.av, r.av] h = some (.val (.tup [plAV (findF p.uses.l l.l r), fdAV (findF p.uses.l l.l r), .bool (findF p.uses.l l.l r).isSome]) h) := by
  have k1 := fun h => f133 p hp r.al h
  rw [findF_1]
  rw [fn_go (KX _ _ _) fn96 rfl (by simp [c96])]
  cases eu : useI p.uses.l r.al with
  | none =>
    rw [eu] at k1
    simp [c96, KL, lendF, k1, plAV, fdAV]
  | some u =>
    rw [eu] at k1
    have hu : u < p.uses.l.length := by
      unfold useI at eu
      exact (List.findIdx?_eq_some_iff_getElem.1 eu).1
    have hg : p.uses.l[u]? = some p.uses.l[u] := List.getElem?_eq_getElem hu
    simp only [hg]
    generalize p.uses.l[u] = x at *
    have hix := fun (k : IntKind) => iaF_sl (av := Us.av) (sz := 2) (s := p.uses) (k := k) (j := (u : Int)) (x := x) (by omega) (by simpa using hg) rfl
    have k2 := fun h => f132 l hl.len x.sc h
    unfold fnd1
    cases es : scN l.l x.sc with
    | none =>
      rw [es] at k2
      have z0 : scAV none = .agg [.str [], .nils] := rfl
      rw [z0] at k2
      simp [c96, KL, lendF, k1, hix, k2, plAV, fdAV]
    | some s =>
      rw [es] at k2
      have z0 : scAV (some s) = s.av := rfl
      rw [z0] at k2
      have hs := hl.sc s (scN_of es).1
      have k3 := fun h => f134 s hs.len r.attr h
      cases ef : fdI s r.attr with
      | none =>
        rw [ef] at k3
        simp [c96, KL, lendF, k1, hix, k2, k3, ef, plAV, fdAV]
      | some i =>
        rw [ef] at k3
        have hi : i < s.fields.l.length := by
          unfold fdI at ef
          exact (List.findIdx?_eq_some_iff_getElem.1 ef).1
        have hg2 : s.fields.l[i]? = some s.fields.l[i] := List.getElem?_eq_getElem hi
        generalize s.fields.l[i] = f at *
        have hiy := fun (k : IntKind) => iaF_sl (av := Fd.av) (sz := 5) (s := s.fields) (k := k) (j := (i : Int)) (x := f) (by omega) (by simpa using hg2) rfl
        have w2 : IntKind.i64.wrap ((i : Int) + 2) = (i : Int) + 2 := wrap64 (by omega) (by have := hs.len; omega)
        have q1 := beq_avS _ beq_fd s.fields
        have q2 := beq_avS _ beq_strS f.words
        simp [c96, KL, lendF, k1, hix, k2, k3, hiy, w2, q1, q2, ef, hg2, plAV, fdAV]
/-- The field for which a node stands. -/
def rfd (us : List Us) (l : List Sc) (n : Nd) : Option (Nat × Nat × Pol.Fd) := if n.k = 9 then findF us l ⟨n.nm, n.attr⟩ else none
theorem f135 (p : Po) (hp : p.uses.l.length ≤ 1000) (l : Sl Sc) (hl : okL l) {i : Nat} {n : Nd} (hn : p.nodes.l[i]? = some n) (h : Heap) :
    (mu K).fn 135 [p.av, l.avS Sc.av, .int .i64 (i : Int)] h = some (.val (.tup [fdAV (rfd p.uses.l l.l n), .bool (rfd p.uses.l l.l n).isSome]) h) := by
  have k := fun h => f96 p hp l hl ⟨n.nm, n.attr⟩ h
  have hix := fun (k : IntKind) => iaF_sl (av := Nd.av) (sz := 6) (s := p.nodes) (k := k) (j := (i : Int)) (x := n) (by omega) (by simpa using hn) rfl
  rw [fn_go (KX _ _ _) fn135 rfl (by simp [c135])]
  unfold rfd
  by_cases c1 : n.k = 9
  case neg => simp [c135, KL, lendF, hix, c1, fdAV]
  have d : (n.k = 9) = True := by simp [c1]
  rw [if_pos c1]
  cases e : findF p.uses.l l.l ⟨n.nm, n.attr⟩ with
  | none =>
    rw [e] at k
    simp only [plAV, fdAV] at k
    simp [c135, KL, lendF, hix, d, k, fdAV]
  | some q =>
    obtain ⟨u, k', f⟩ := q
    rw [e] at k
    simp only [plAV, fdAV] at k
    simp [c135, KL, lendF, hix, d, k, fdAV]
def numN1 (us : List Us) (l : List Sc) (n : Nd) : Bool := decide (n.k = 10) || match rfd us l n with
  | none => false
  | some q => decide (q.2.2.kind = 0)
theorem f136 (p : Po) (hp : p.uses.l.length ≤ 1000) (l : Sl Sc) (hl : okL l) {i : Nat} {n : Nd} (hn : p.nodes.l[i]? = some n) (h : Heap) :
    (mu K).fn 136 [p.av, l.avS Sc.av, .int .i64 (i : Int)] h = some (.val (.bool (numN1 p.uses.l l.l n)) h) := by
  have k := fun h => f135 p hp l hl hn h
  have hix := fun (k : IntKind) => iaF_sl (av := Nd.av) (sz := 6) (s := p.nodes) (k := k) (j := (i : Int)) (x := n) (by omega) (by simpa using hn) rfl
  rw [fn_go (KX _ _ _) fn136 rfl (by simp [c136])]
  unfold numN1
  cases e : rfd p.uses.l l.l n with
  | none =>
    rw [e] at k
    simp only [fdAV] at k
    by_cases c1 : n.k = 10
    · have d : (n.k = 10) = True := by simp [c1]
      simp [c136, KL, lendF, hix, d, k]
    · simp [c136, KL, lendF, hix, c1, k]
  | some q =>
    obtain ⟨u, k', f⟩ := q
    rw [e] at k
    simp only [fdAV] at k
    by_cases c1 : n.k = 10
    · have d : (n.k = 10) = True := by simp [c1]
      simp [c136, KL, lendF, hix, d, k]
    · by_cases c2 : f.kind = 0
      · have d : (f.kind = 0) = True := by simp [c2]
        simp [c136, KL, lendF, hix, c1, k, d]
      · simp [c136, KL, lendF, hix, c1, k, c2]
theorem vt_tri {us : List Us} {l : List Sc} {n : Nd} {v : VT} (hk : n.k = 9 ∨ n.k = 10 ∨ n.k = 11) (hv : vtOf us l n = some v) :
    (numN1 us l n = true ∧ rfd us l n = none ∧ v = .num) ∨ (numN1 us l n = false ∧ rfd us l n = none ∧ v = .wd n.nm) ∨ (∃ q, numN1 us l n = true ∧ rfd us l n = some q ∧ v = .num) ∨ (∃ q, numN1 us l n = false ∧ rfd us l n = some q ∧ v = .fw q.2.2.words.l) := by
  unfold vtOf at hv
  unfold numN1 rfd
  rcases hk with hk | hk | hk
  · rw [if_neg (by omega), if_neg (by omega)] at hv
    rw [if_pos hk]
    cases e : findF us l ⟨n.nm, n.attr⟩ with
    | none => rw [e] at hv; cases hv
    | some q =>
      obtain ⟨u, k', f⟩ := q
      rw [e] at hv
      simp only [Option.some.injEq] at hv
      by_cases c : f.kind = 0
      · exact .inr (.inr (.inl ⟨_, by simp [hk, c], rfl, by rw [← hv, if_pos c]⟩))
      · exact .inr (.inr (.inr ⟨_, by simp [hk, c], rfl, by rw [← hv, if_neg c]⟩))
  · rw [if_pos hk] at hv
    injection hv with hv
    exact .inl ⟨by simp [hk], by rw [if_neg (by omega)], hv.symm⟩
  · rw [if_neg (by omega), if_pos hk] at hv
    injection hv with hv
    exact .inr (.inl ⟨by rw [if_neg (by omega)]; simp [hk], by rw [if_neg (by omega)], hv.symm⟩)
theorem f137 (p : Po) (hp : p.uses.l.length ≤ 1000) (l : Sl Sc) (hl : okL l) {i j : Nat} {a b : Nd} (ha : p.nodes.l[i]? = some a) (hb : p.nodes.l[j]? = some b) (ka : a.k = 9 ∨ a.k = 10 ∨ a.k = 11) (kb : b.k = 9 ∨ b.k = 10 ∨ b.k = 11)
    {va vb : VT} (hva : vtOf p.uses.l l.l a = some va) (hvb : vtOf p.uses.l l.l b = some vb) (h : Heap) :
    (mu K).fn 137 [p.av, l.avS Sc.av, .int .i64 (i : Int), .int .i64 (j : Int)] h = some (.val (.int .i64 (agreeV va vb)) h) := by
  have n1 := fun h => f136 p hp l hl ha h
  have n2 := fun h => f136 p hp l hl hb h
  have r1 := fun h => f135 p hp l hl ha h
  have r2 := fun h => f135 p hp l hl hb h
  have hix := fun (k : IntKind) => iaF_sl (av := Nd.av) (sz := 6) (s := p.nodes) (k := k) (j := (i : Int)) (x := a) (by omega) (by simpa using ha) rfl
  have hiy := fun (k : IntKind) => iaF_sl (av := Nd.av) (sz := 6) (s := p.nodes) (k := k) (j := (j : Int)) (x := b) (by omega) (by simpa using hb) rfl
  have ta := vt_tri ka hva
  have tb := vt_tri kb hvb
  have q1 := beq_avS _ beq_us p.uses
  have q2 := beq_avS _ beq_rf p.reveal
  have q3 := beq_avS _ beq_nd p.nodes
  have q4 := beq_avS _ beq_sc l
  have fl : ∀ {n : Nd} {q}, rfd p.uses.l l.l n = some q → q.2.2.words.l.length ≤ 1000 := fun {n q} e => by
    unfold rfd at e
    split at e
    · obtain ⟨s, h1, h2⟩ := find_mem e
      exact ((hl.sc s h1).fields _ h2).len
    · cases e
  rw [fn_go (KX _ _ _) fn137 rfl (by simp [c137])]
  rcases ta with ⟨a1, a2, rfl⟩ | ⟨a1, a2, rfl⟩ | ⟨⟨ua, wa, fa⟩, a1, a2, rfl⟩ | ⟨⟨ua, wa, fa⟩, a1, a2, rfl⟩
  · rcases tb with ⟨b1, b2, rfl⟩ | ⟨b1, b2, rfl⟩ | ⟨⟨ub, wb, fb⟩, b1, b2, rfl⟩ | ⟨⟨ub, wb, fb⟩, b1, b2, rfl⟩ <;> simp [c137, KL, lendF, n1, n2, a1, b1, q1, q2, q3, q4, agreeV]
  · rcases tb with ⟨b1, b2, rfl⟩ | ⟨b1, b2, rfl⟩ | ⟨⟨ub, wb, fb⟩, b1, b2, rfl⟩ | ⟨⟨ub, wb, fb⟩, b1, b2, rfl⟩
    · simp [c137, KL, lendF, n1, n2, a1, b1, q1, q2, q3, q4, agreeV]
    · rw [a2] at r1
      rw [b2] at r2
      simp only [fdAV] at r1 r2
      simp [c137, KL, lendF, n1, n2, a1, b1, r1, r2, q1, q2, q3, q4, agreeV]
    · simp [c137, KL, lendF, n1, n2, a1, b1, q1, q2, q3, q4, agreeV]
    · rw [a2] at r1
      rw [b2] at r2
      simp only [fdAV] at r1 r2
      have k := fun h => f164 fb.words (fl b2) a.nm h
      by_cases m : a.nm ∈ fb.words.l
      · simp only [decide_eq_true m] at k
        simp [c137, KL, lendF, n1, n2, a1, b1, r1, r2, q1, q2, q3, q4, agreeV, hix, hiy, k, m]
      · simp only [decide_eq_false m] at k
        simp [c137, KL, lendF, n1, n2, a1, b1, r1, r2, q1, q2, q3, q4, agreeV, hix, hiy, k, m]
  · rcases tb with ⟨b1, b2, rfl⟩ | ⟨b1, b2, rfl⟩ | ⟨⟨ub, wb, fb⟩, b1, b2, rfl⟩ | ⟨⟨ub, wb, fb⟩, b1, b2, rfl⟩ <;> simp [c137, KL, lendF, n1, n2, a1, b1, q1, q2, q3, q4, agreeV]
  · rcases tb with ⟨b1, b2, rfl⟩ | ⟨b1, b2, rfl⟩ | ⟨⟨ub, wb, fb⟩, b1, b2, rfl⟩ | ⟨⟨ub, wb, fb⟩, b1, b2, rfl⟩
    · simp [c137, KL, lendF, n1, n2, a1, b1, q1, q2, q3, q4, agreeV]
    · rw [a2] at r1
      rw [b2] at r2
      simp only [fdAV] at r1 r2
      have k := fun h => f164 fa.words (fl a2) b.nm h
      by_cases m : b.nm ∈ fa.words.l
      · simp only [decide_eq_true m] at k
        simp [c137, KL, lendF, n1, n2, a1, b1, r1, r2, q1, q2, q3, q4, agreeV, hix, hiy, k, m]
      · simp only [decide_eq_false m] at k
        simp [c137, KL, lendF, n1, n2, a1, b1, r1, r2, q1, q2, q3, q4, agreeV, hix, hiy, k, m]
    · simp [c137, KL, lendF, n1, n2, a1, b1, q1, q2, q3, q4, agreeV]
    · rw [a2] at r1
      rw [b2] at r2
      simp only [fdAV] at r1 r2
      have k := fun h => f163 fa.words fb.words (fl a2) h
      by_cases m : fa.words.l = fb.words.l
      · simp only [decide_eq_true m] at k
        simp [c137, KL, lendF, n1, n2, a1, b1, r1, r2, q1, q2, q3, q4, agreeV, hix, hiy, k, m]
      · simp only [decide_eq_false m] at k
        simp [c137, KL, lendF, n1, n2, a1, b1, r1, r2, q1, q2, q3, q4, agreeV, hix, hiy, k, m]
end Go.Ab.Pl

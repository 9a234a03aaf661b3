/-
  Regions that draw their order: whatever order is drawn.
-/
import Derived.Test.YtggkoocpokfogaaAbDraw
set_option linter.unusedVariables false
set_option linter.unusedSimpArgs false
namespace Go.Ab
open Go.RowKit
variable {P : Program}

structure Fit (ops : Array Oper) (ds : List DO) : Prop where
  op : ∀ (k : Nat) (d : DO), ds[k]? = some d → ∃ o : Oper, ops[d.ix]? = some o ∧ (∀ e ∈ o.after, Region.binds .any e = true → ∃ (p : Nat) (c : DO), p < k ∧ ds[p]? = some c ∧ c.ix = e.on) ∧
    (∀ i ∈ d.anc, ∃ e ∈ o.after, Region.binds .any e = true ∧ (e.on = i ∨ ∃ (p : Nat) (c : DO), p < k ∧ ds[p]? = some c ∧ c.ix = e.on ∧ i ∈ c.anc))
  pair : ∀ (p q : Nat) (c d : DO), p < q → ds[p]? = some c → ds[q]? = some d → pairOk d c = true

theorem Fit.snoc {ops : Array Oper} {l : List DO} {d : DO} {o : Oper} (h : Fit ops l) (ho : ops[d.ix]? = some o)
    (h1 : ∀ e ∈ o.after, Region.binds .any e = true → ∃ c ∈ l, c.ix = e.on)
    (h2 : ∀ i ∈ d.anc, ∃ e ∈ o.after, Region.binds .any e = true ∧ (e.on = i ∨ ∃ c ∈ l, c.ix = e.on ∧ i ∈ c.anc))
    (h3 : ∀ c ∈ l, pairOk d c = true) : Fit ops (l ++ [d]) := by
  have pos : ∀ c ∈ l, ∃ p, p < l.length ∧ (l ++ [d])[p]? = some c := fun c hc => by
    obtain ⟨p, hp⟩ := List.getElem?_of_mem hc
    have hlt := (List.getElem?_eq_some_iff.1 hp).1
    exact ⟨p, hlt, by rw [List.getElem?_append_left hlt]; exact hp⟩
  refine ⟨fun k c hc => ?_, fun p q c b hpq hc hb => ?_⟩
  · by_cases hk : k < l.length
    · rw [List.getElem?_append_left hk] at hc
      obtain ⟨o', k1, k2, k3⟩ := h.op k c hc
      refine ⟨o', k1, fun e he hb => ?_, fun i hi => ?_⟩
      · obtain ⟨p, c', q1, q2, q3⟩ := k2 e he hb
        exact ⟨p, c', q1, by rw [List.getElem?_append_left (by omega)]; exact q2, q3⟩
      · obtain ⟨e, q1, q2, q3⟩ := k3 i hi
        refine ⟨e, q1, q2, q3.imp id ?_⟩
        rintro ⟨p, c', q1, q2, q3⟩
        exact ⟨p, c', q1, by rw [List.getElem?_append_left (by omega)]; exact q2, q3⟩
    · have hk' : k = l.length := by
        have := (List.getElem?_eq_some_iff.1 hc).1
        simp at this; omega
      subst hk'
      simp at hc
      subst hc
      refine ⟨o, ho, fun e he hb => ?_, fun i hi => ?_⟩
      · obtain ⟨c', q1, q2⟩ := h1 e he hb
        obtain ⟨p, q3, q4⟩ := pos c' q1
        exact ⟨p, c', q3, q4, q2⟩
      · obtain ⟨e, q1, q2, q3⟩ := h2 i hi
        refine ⟨e, q1, q2, q3.imp id ?_⟩
        rintro ⟨c', q1, q2, q3⟩
        obtain ⟨p, q4, q5⟩ := pos c' q1
        exact ⟨p, c', q4, q5, q2, q3⟩
  · by_cases hq : q < l.length
    · rw [List.getElem?_append_left hq] at hb
      rw [List.getElem?_append_left (by omega)] at hc
      exact h.pair p q c b hpq hc hb
    · have hq' : q = l.length := by
        have := (List.getElem?_eq_some_iff.1 hb).1
        simp at this; omega
      subst hq'
      simp at hb
      subst hb
      rw [List.getElem?_append_left hpq] at hc
      exact h3 c (List.mem_of_getElem? hc)

theorem okD_fit {ops : Array Oper} : ∀ (ds seen : List DO), okD ops ds seen = true → Fit ops seen.reverse → Fit ops (seen.reverse ++ ds) ∧ ∀ i, i < ops.size → ∃ d ∈ seen.reverse ++ ds, d.ix = i
  | [], seen, h, hf => by
    simp only [okD, List.all_eq_true, List.mem_range, List.any_eq_true, beq_iff_eq] at h
    refine ⟨by simpa using hf, fun i hi => ?_⟩
    obtain ⟨d, h1, h2⟩ := h i hi
    exact ⟨d, by simpa using h1, h2⟩
  | d :: r, seen, h, hf => by
    simp only [okD] at h
    cases ho : ops[d.ix]? with
    | none => rw [ho] at h; simp at h
    | some o =>
      rw [ho] at h
      simp only [Bool.and_eq_true, List.all_eq_true, List.any_eq_true, Bool.or_eq_true, Bool.not_eq_true', beq_iff_eq, List.contains_iff_mem] at h
      obtain ⟨⟨⟨h1, h2⟩, h3⟩, h4⟩ := h
      have := okD_fit r (d :: seen) h4 (by
        rw [List.reverse_cons]
        refine hf.snoc ho (fun e he hb => ?_) (fun i hi => ?_) (fun c hc => h3 c (by simpa using hc))
        · rcases h1 e (by simpa using he) with h1 | ⟨c, h1, h5⟩
          · rw [hb] at h1; cases h1
          · exact ⟨c, by simpa using h1, h5⟩
        · obtain ⟨e, k1, k2, k3⟩ := h2 i hi
          refine ⟨e, by simpa using k1, k2, k3.imp id ?_⟩
          rintro ⟨c, q1, q2, q3⟩
          exact ⟨c, by simpa using q1, q2, q3⟩)
      simpa using this

theorem pairOk_ix {d c : DO} (h : pairOk d c = true) : c.ix ≠ d.ix := by
  simp only [pairOk, Bool.and_eq_true, bne_iff_ne, ne_eq] at h
  exact h.1.1
theorem pairOk_dst {d c : DO} (h : pairOk d c = true) {t : Nat} (h1 : c.co.dst = some t) : d.co.dst ≠ some t := fun h2 => by
  simp only [pairOk, Bool.and_eq_true, h1, h2, bne_iff_ne, ne_eq] at h
  exact h.2 trivial
theorem pairOk_looks {d c : DO} (h : pairOk d c = true) {t : Nat} (h1 : c.co.dst = some t) (h2 : t ∈ d.looks) : c.ix ∈ d.anc := by
  simp only [pairOk, Bool.and_eq_true, Bool.or_eq_true, h1, List.contains_iff_mem] at h
  rcases h.1.2 with h | h
  · exact h
  · have := h.1.1.1
    simp [h2] at this
theorem pairOk_looked {d c : DO} (h : pairOk d c = true) {t : Nat} (h1 : d.co.dst = some t) (h2 : t ∈ c.looks) : c.ix ∈ d.anc := by
  simp only [pairOk, Bool.and_eq_true, Bool.or_eq_true, h1, List.contains_iff_mem] at h
  rcases h.1.2 with h | h
  · exact h
  · have := h.1.1.2
    simp [h2] at this
theorem pairOk_loud {d c : DO} (h : pairOk d c = true) (h1 : loud c.co = true) : c.ix ∈ d.anc := by
  simp only [pairOk, Bool.and_eq_true, Bool.or_eq_true, List.contains_iff_mem] at h
  rcases h.1.2 with h | h
  · exact h
  · have := h.1.2
    simp [h1] at this
theorem pairOk_re {d c : DO} (h : pairOk d c = true) (h1 : loud d.co = true) (h2 : quietC c.co = true) (h3 : c.ix ∉ d.anc) : c.ix ∈ d.re := by
  simp only [pairOk, Bool.and_eq_true, Bool.or_eq_true, List.contains_iff_mem] at h
  rcases h.1.2 with h | h
  · exact absurd h h3
  · have := h.2
    simpa [h1, h2] using this

theorem anc_closed {ops : Array Oper} {ds : List DO} (fit : Fit ops ds) {D : Nat → Prop} (clo : ∀ (j : Nat) (o : Oper), ops[j]? = some o → D j → ∀ e ∈ o.after, Region.binds .any e = true → D e.on) :
    ∀ (k : Nat) (d : DO), ds[k]? = some d → D d.ix → ∀ i ∈ d.anc, D i := by
  intro k
  induction k using Nat.strongRecOn with
  | ind k ih =>
    intro d hd hD i hi
    obtain ⟨o, ho, _, h2⟩ := fit.op k d hd
    obtain ⟨e, he, hb, h3⟩ := h2 i hi
    have hon := clo _ o ho hD e he hb
    rcases h3 with rfl | ⟨p, c, h4, h5, h6, h7⟩
    · exact hon
    · exact ih p h4 c h5 (h6 ▸ hon) i h7

section
variable {K : Cfg} {O : Orc} {ds : List DO} {st : St} {ex : Ex} {st' : St} {V : Nat → AV} {E : Nat → Env} {Hp : Nat → Heap} {m : Nat} {ops : Array Oper}

theorem Trace.write (T : Trace K O ds [] st ex st' V E Hp m) (fit : Fit ops ds) {p : Nat} {c : DO} (hc : ds[p]? = some c) {t : Nat} (ht : c.co.dst = some t) : ∀ k, p < k → k ≤ m → get (E k) t = V p
  | 0, h, _ => by omega
  | k + 1, h, hk => by
    have hlt : k < ds.length := by have := T.le; omega
    obtain ⟨d, hd⟩ : ∃ d, ds[k]? = some d := ⟨ds[k], List.getElem?_eq_getElem hlt⟩
    rw [T.env k d (by omega) hd]
    by_cases hpk : p = k
    · subst hpk
      rw [hc] at hd
      injection hd with hd
      subst hd
      simp only [put, ht, get_set, if_true]
    · have hne := pairOk_dst (fit.pair p k c d (by omega) hc hd) ht
      have := T.write fit hc ht k (by omega) (by omega)
      cases hdd : d.co.dst with
      | none => simpa [put] using this
      | some u =>
        simp only [put, get_set]
        rw [if_neg (fun e => hne (by rw [hdd, e]))]
        exact this
theorem Trace.still (T : Trace K O ds [] st ex st' V E Hp m) {t : Nat} : ∀ k, k ≤ m → (∀ (p : Nat) (c : DO), p < k → ds[p]? = some c → c.co.dst ≠ some t) → get (E k) t = get st.env t
  | 0, _, _ => by rw [T.e0]
  | k + 1, hk, h => by
    have hlt : k < ds.length := by have := T.le; omega
    obtain ⟨d, hd⟩ : ∃ d, ds[k]? = some d := ⟨ds[k], List.getElem?_eq_getElem hlt⟩
    rw [T.env k d (by omega) hd]
    have hne := h k d (by omega) hd
    have := T.still k (by omega) fun p c hp hc => h p c (by omega) hc
    cases hdd : d.co.dst with
    | none => simpa [put] using this
    | some u =>
      simp only [put, get_set]
      rw [if_neg (fun e => hne (by rw [hdd, e]))]
      exact this
theorem StepOK.heap {d : DO} {e : Env} {h h' : Heap} {v : AV} (s : StepOK K O d e h v h') (hl : loud d.co = false) : h' = h := by
  rcases s with ⟨_, _, h1⟩ | ⟨_, ⟨q, _, _, h1⟩ | ⟨q, _, _, _, h1⟩ | ⟨q, h1, h2, _⟩⟩
  · exact h1
  · exact h1
  · exact h1
  · simp [loud, h1, h2] at hl
theorem Trace.heap (T : Trace K O ds [] st ex st' V E Hp m) {k : Nat} : ∀ j, k ≤ j → j ≤ m → (∀ (i : Nat) (d : DO), k ≤ i → i < j → ds[i]? = some d → loud d.co = false) → Hp j = Hp k
  | 0, h, _, _ => by rw [show k = 0 by omega]
  | j + 1, h, hm, hl => by
    by_cases hk : k = j + 1
    · rw [hk]
    · have hlt : j < ds.length := by have := T.le; omega
      obtain ⟨d, hd⟩ : ∃ d, ds[j]? = some d := ⟨ds[j], List.getElem?_eq_getElem hlt⟩
      rw [(T.stp j d (by omega) hd).heap (hl j d (by omega) (by omega) hd)]
      exact T.heap j (by omega) (by omega) fun i d h1 h2 => hl i d h1 (by omega)
/-- A quiet operation, asked later. -/
theorem Trace.later (T : Trace K O ds [] st ex st' V E Hp m) {k : Nat} {d : DO} {q : MOp} (hd : ds[k]? = some d) (hkm : k < m) (ho : d.co.op = .m q) (hq : quietM q = true)
    (hw : wanted d.co.gd (keep d.looks (E k)) = some true) : ∀ j, k ≤ j → j ≤ m → (∀ (i : Nat) (c : DO), k < i → i < j → ds[i]? = some c → loud c.co = true → d.ix ∈ c.re) → evQ K O q (keep d.looks (E k)) (Hp j) = some (V k)
  | 0, h, hm, hl => by
    have hk0 : k = 0 := by omega
    subst hk0
    rcases T.stp 0 d hkm hd with ⟨h1, _, _⟩ | ⟨_, ⟨q', h1, _, _⟩ | ⟨q', h1, _, h3, _⟩ | ⟨q', h1, h2, _⟩⟩
    · rw [hw] at h1; cases h1
    · rw [ho] at h1; cases h1
    · rw [ho] at h1; injection h1 with h1; subst h1; exact h3
    · rw [ho] at h1; injection h1 with h1; subst h1; rw [hq] at h2; cases h2
  | j + 1, h, hm, hl => by
    by_cases hk : k = j + 1
    · subst hk
      rcases T.stp _ d hkm hd with ⟨h1, _, _⟩ | ⟨_, ⟨q', h1, _, _⟩ | ⟨q', h1, _, h3, _⟩ | ⟨q', h1, h2, _⟩⟩
      · rw [hw] at h1; cases h1
      · rw [ho] at h1; cases h1
      · rw [ho] at h1; injection h1 with h1; subst h1; exact h3
      · rw [ho] at h1; injection h1 with h1; subst h1; rw [hq] at h2; cases h2
    · have hlt : j < ds.length := by have := T.le; omega
      obtain ⟨c, hc⟩ : ∃ c, ds[j]? = some c := ⟨ds[j], List.getElem?_eq_getElem hlt⟩
      by_cases hlo : loud c.co = true
      · by_cases hkj : k = j
        · subst hkj
          rw [hd] at hc
          injection hc with hc
          subst hc
          simp [loud, ho, hq] at hlo
        · exact T.again k d q hkm hd ho hq hw j c (by omega) (by omega) hc hlo (hl j c (by omega) (by omega) hc hlo)
      · rw [(T.stp j c (by omega) hc).heap (by simpa using hlo)]
        exact T.later hd hkm ho hq hw j (by omega) (by omega) fun i c h1 h2 => hl i c h1 (by omega)
end

end Go.Ab

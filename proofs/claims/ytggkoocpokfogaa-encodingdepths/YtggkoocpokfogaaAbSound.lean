/-
  The evaluator is sound: code, loops, functions; the least evaluator that is its own step.
-/
import Derived.Test.YtggkoocpokfogaaAbDraw3
set_option linter.unusedVariables false
set_option linter.unusedSimpArgs false
namespace Go.Ab
open Go.RowKit
variable {P : Program}

/-- A loop that is about to begin a round. -/
def LoopW (P : Program) (c : Code) (Q : Exit → Act → World → Prop) (a : Act) (w : World) : Prop :=
  ∀ (b : Frame) (k : List Item) (cs : List Frame), ∃ e a' w', Q e a' w' ∧ Arrives P (lone (b.at a (.code c :: .inLoop c :: k)) cs w) b k cs e a' w'
theorem loopW_loop {c : Code} {Q : Exit → Act → World → Prop} {a : Act} {w : World} (h : LoopW P c Q a w) : (Code.loop c).wp P Q a w := fun b k cs => by
  obtain ⟨e, a', w', hq, harr⟩ := h b k cs
  exact ⟨e, a', w', hq, .of_steps (.one step_loop) harr⟩
theorem loopW_step {c : Code} {Q : Exit → Act → World → Prop} {a : Act} {w : World} (h : c.wp P (Exit.then (LoopW P c Q) Q) a w) : LoopW P c Q a w := fun b k cs => by
  obtain ⟨e, a₁, w₁, hq, harr⟩ := h b (.inLoop c :: k) cs
  cases e with
  | normal =>
    obtain ⟨e₂, a₂, w₂, hq₂, harr₂⟩ := hq b k cs
    exact ⟨e₂, a₂, w₂, hq₂, .of_steps (Steps.trans harr (.one step_inLoop)) harr₂⟩
  | exit id => exact ⟨_, a₁, w₁, hq, .pass (x := .inLoop c) rfl (fun _ _ => .inl (by simp)) harr⟩
  | goto l => exact ⟨_, a₁, w₁, hq, .pass (x := .inLoop c) rfl (fun _ _ => .inl (by simp)) harr⟩
  | ret => exact ⟨_, a₁, w₁, hq, .pass (x := .inLoop c) rfl (fun _ _ => .inl (by simp)) harr⟩
  | panic ch => exact ⟨_, a₁, w₁, hq, .pass (x := .inLoop c) rfl (fun _ _ => .inl (by simp)) harr⟩
  | outgrown => exact ⟨_, a₁, w₁, hq, .pass (x := .inLoop c) rfl (fun _ _ => .inl (by simp)) harr⟩

theorem BSim.drop {w : World} {G : Gm} {L L' : Loc → Prop} {a : Loc} {B : Blk} {p : Loc → Bool} (h : BSim w G L a B) (hp : B.refOk p = true) (hL : ∀ q, L q → p q = true → L' q) : BSim w G L' a B := by
  cases B with
  | box t fz v =>
    obtain ⟨b, c, h1, h2, h3, h4, h5, h6⟩ := h
    refine ⟨b, c, h1, h2, h3, h4, fun j hj => ⟨(h5 j hj).1, (h5 j hj).2.goes (ImmKept.refl w G) (p := p) (cells_refOk hp (by omega)) fun q hq hpq => ⟨hL q hq hpq, Agree.refl G q⟩⟩, h6⟩
  | arr t sz vw es => exact h
  | map es => exact h.elim
  | dead => exact h

theorem keep_get (live : List Nat) (e : Env) (t : Nat) : get (keep live e) t = if t ∈ live then get e t else .top := by
  unfold keep
  induction live with
  | nil => simp [get]
  | cons x r ih =>
    simp only [List.map_cons, get, ih, List.mem_cons]
    by_cases c : x = t
    · subst c; simp
    · rw [if_neg c]
      by_cases c2 : t ∈ r
      · rw [if_pos c2, if_pos (.inr c2)]
      · rw [if_neg c2, if_neg (by rintro (rfl | h) <;> simp_all)]
theorem EnvRel.keep_ {w : World} {G : Gm} {L : Loc → Prop} {e : Env} {a : Act} (r : EnvRel w G L e a) (live : List Nat) : EnvRel w G L (keep live e) a := fun t => by
  rw [keep_get]
  split
  · exact r t
  · exact .top _ _

theorem dom_frame {f : List Blk} {o : Heap} {a : Loc} : dom (f :: o) a ↔ if a.1 = o.length then a.2 < f.length else dom o a := by
  unfold dom
  simp only [hget]
  split
  · by_cases c : a.2 < f.length
    · simp [c]
    · simp [c, List.getElem?_eq_none (Nat.le_of_not_lt c)]
  · rfl
theorem dom_level {h : Heap} {a : Loc} (hd : dom h a) : a.1 < h.length := by
  obtain ⟨B, hB⟩ := of_dom hd
  exact hget_lt hB
/-- What a place of the current frame's number is. -/
theorem dom_hlen {h : Heap} {a : Loc} (hd : dom h a) (hl : a.1 + 1 = h.length) : a.2 < hlen h := by
  cases h with
  | nil => simp at hl
  | cons f o =>
    rw [dom_frame, if_pos (by simpa using hl)] at hd
    exact hd

theorem cut_ok {n : Nat} {live : List Nat} {s s' : St} (hc : cut n live s = some s') {w0 : World} {G0 : Gm} {h0 : Heap} {w : World} {G : Gm} {a : Act} (g : Goes w0 G0 h0 w G s.h) (sm : Sim w G s.h) (r : EnvRel w G (dom s.h) s.env a)
    (hn : hlen h0 ≤ n) : Goes w0 G0 h0 w G s'.h ∧ Sim w G s'.h ∧ EnvRel w G (dom s'.h) s'.env a ∧ s'.h ≠ [] := by
  unfold cut at hc
  split at hc
  · cases hc
  · rename_i f o hh
    split at hc
    · injection hc with hc; subst hc
      exact ⟨g, sm, r.keep_ live, by simp [hh]⟩
    · split at hc
      · rename_i c
        obtain ⟨c1, c2, c3⟩ := c
        injection hc with hc; subst hc
        rw [hh] at g sm r
        have hdom : ∀ q, dom (f.take n :: o) q ↔ dom (f :: o) q ∧ (!(q.1 == o.length) || decide (q.2 < n)) = true := fun q => by
          rw [dom_frame, dom_frame]
          by_cases e : q.1 = o.length
          · simp [e, List.length_take]; omega
          · simp [e]
        refine ⟨⟨g.os, g.tape, g.output, g.size, g.heap, fun q b hq => g.img q b ((hdom q).1 hq).1, g.imm, fun q hq => ?_, g.depth, ?_⟩, ⟨fun q B hB => ?_, fun x y b hx hy => sm.inj x y b ((hdom x).1 hx).1 ((hdom y).1 hy).1, sm.imm⟩, fun t => ?_, by simp⟩
        · obtain ⟨k1, k2⟩ := g.loc q hq
          refine ⟨(hdom q).2 ⟨k1, ?_⟩, k2⟩
          by_cases e : q.1 = o.length
          · have hd := g.depth
            simp only [List.length_cons] at hd
            have := dom_hlen hq (by omega)
            simp [e]; omega
          · simp [e]
        · show hlen h0 ≤ (f.take n).length
          rw [List.length_take]; omega
        · have hd : dom (f.take n :: o) q := dom_of hB
          have hq := (hdom q).1 hd
          have hB' : hget (f :: o) q = some B := by
            simp only [hget] at hB ⊢
            split
            · rename_i e
              rw [if_pos e] at hB
              rw [List.getElem?_take] at hB
              split at hB
              · exact hB
              · cases hB
            · rename_i e
              rw [if_neg e] at hB
              exact hB
          have h1 := sm.blk q B hB'
          by_cases e : q.1 = o.length
          · have hmem : B ∈ f.take n := by
              simp only [hget, e, if_true] at hB
              exact List.mem_of_getElem? hB
            have hp := List.all_eq_true.1 c3 B hmem
            exact h1.drop hp fun x hx hpx => ⟨hx.1, (hdom x).2 ⟨hx.2, hpx⟩⟩
          · have hlt := dom_level hq.1
            simp only [List.length_cons] at hlt
            have : ∀ x, domTo (f :: o) q.1 x → domTo (f.take n :: o) q.1 x := fun x hx => ⟨hx.1, (hdom x).2 ⟨hx.2, by have := hx.1; simp; omega⟩⟩
            cases B with
            | box t fz v =>
              obtain ⟨b, c, h1, h2, h3, h4, h5, h6⟩ := h1
              exact ⟨b, c, h1, h2, h3, h4, fun j hj => ⟨(h5 j hj).1, (h5 j hj).2.wider this⟩, h6⟩
            | arr t sz vw es => exact h1
            | map es => exact h1.elim
            | dead => exact h1
        · have hr := r.keep_ live t
          refine hr.goes (ImmKept.refl w G) (p := fun a => !(a.1 == o.length) || decide (a.2 < n)) ?_ fun q hq hpq => ⟨(hdom q).2 ⟨hq, hpq⟩, Agree.refl G q⟩
          unfold cutE at c2
          have key : ∀ (e : Env), (e.all fun x => x.2.refOk fun a => !(a.1 == o.length) || decide (a.2 < n)) = true → (get e t).refOk (fun a => !(a.1 == o.length) || decide (a.2 < n)) = true := fun e => by
            induction e with
            | nil => intro _; simp [get, AV.refOk]
            | cons x e ih =>
              intro hall
              simp only [List.all_cons, Bool.and_eq_true] at hall
              obtain ⟨j, v⟩ := x
              simp only [get]
              split
              · exact hall.1
              · exact ih hall.2
          exact key _ c2
      · injection hc with hc; subst hc
        exact ⟨g, sm, r.keep_ live, by simp [hh]⟩

def CodeSound (P : Program) (H : Hints) (O : Orc) : Prop := ∀ (f : FuncId) (N : Nat) (D : List Deferred) (c : Code) (n : Nat) (live : List Nat) (st : St) (ex : Ex) (st' : St), O.code (.loopAt n live (cCode P H f N c)) st = some (ex, st') →
  ∀ (w0 : World) (G0 : Gm) (h0 : Heap) (w : World) (G : Gm) (a : Act), Goes w0 G0 h0 w G st.h → Sim w G st.h → st.h ≠ [] → EnvRel w G (dom st.h) st.env a → a.tmps.size = N → a.defers = D → hlen h0 ≤ n →
    LoopW P c (Post N D w0 G0 h0 ex st') a w

theorem Post.nonempty {N : Nat} {D : List Deferred} {w : World} {G : Gm} {h : Heap} {ex : Ex} {s : St} {e : Exit} {a : Act} {w' : World} (p : Post N D w G h ex s e a w') (hn : h ≠ []) : s.h ≠ [] := fun e0 => by
  obtain ⟨G', _, g, _⟩ := p
  have := g.depth
  rw [e0] at this
  cases h <;> simp_all

theorem evC_ok {O : Orc} (hO : FnSound P O) {H : Hints} (hL : CodeSound P H O) {K : Cfg} {f : FuncId} {N : Nat} {D : List Deferred} : ∀ (c : Code) (st : St) (ex : Ex) (st' : St), evC K O (cCode P H f N c) st = some (ex, st') →
    ∀ (w0 : World) (G0 : Gm) (h0 : Heap) (w : World) (G : Gm) (a : Act), Goes w0 G0 h0 w G st.h → Sim w G st.h → st.h ≠ [] → EnvRel w G (dom st.h) st.env a → a.tmps.size = N → a.defers = D → c.wp P (Post N D w0 G0 h0 ex st') a w
  | .skip, st, ex, st', he, w0, G0, h0, w, G, a, g, s, hn, r, hN, hd => by
    simp only [cCode, evC, Option.some.injEq, Prod.mk.injEq] at he
    obtain ⟨rfl, rfl⟩ := he
    exact wp_skip ⟨G, s, g, r, hN, hd, rfl⟩
  | .label _, st, ex, st', he, w0, G0, h0, w, G, a, g, s, hn, r, hN, hd => by
    simp only [cCode, evC, Option.some.injEq, Prod.mk.injEq] at he
    obtain ⟨rfl, rfl⟩ := he
    exact wp_label ⟨G, s, g, r, hN, hd, rfl⟩
  | .region id ops draw, st, ex, st', he, w0, G0, h0, w, G, a, g, s, hn, r, hN, hd => by
    simp only [cCode] at he
    cases draw with
    | true =>
      simp only [if_true] at he
      exact draw_ok hO he g s hn r hN hd
    | false =>
      simp only [Bool.false_eq_true, if_false, evC] at he
      exact wp_region_list (evOps_ok hO _ _ _ _ he w0 G0 h0 w G a g s hn r hN hd)
  | .seq x y, st, ex, st', he, w0, G0, h0, w, G, a, g, s, hn, r, hN, hd => by
    simp only [cCode, evC] at he
    have hx := evC_ok hO hL (K := K) (f := f) (N := N) (D := D) x st
    refine wp_seq ?_
    split at he
    · rename_i s1 h1
      refine wp_mono (hx _ _ h1 w0 G0 h0 w G a g s hn r hN hd) fun e a' w' p => ?_
      have hne : s1.h ≠ [] := by
        obtain ⟨G', q1, q2, _⟩ := p
        intro e0
        have h1 := q2.depth; have h2 := g.depth
        rw [e0] at h1
        cases hs : st.h with
        | nil => exact hn hs
        | cons q t => rw [hs] at h2; simp at h1 h2; omega
      obtain ⟨G', q1, q2, q3, q4, q5, rfl⟩ := p
      exact evC_ok hO hL y s1 ex st' he w0 G0 h0 w' G' a' q2 q1 hne q3 q4 q5
    · rename_i hnn
      refine wp_mono (hx ex st' he w0 G0 h0 w G a g s hn r hN hd) fun e a' w' p => ?_
      cases ex with
      | norm => exact absurd he (hnn st')
      | exit id => have p' := p; obtain ⟨G', q1, q2, q3, q4, q5, rfl⟩ := p; exact p'
      | ret => have p' := p; obtain ⟨G', q1, q2, q3, q4, q5, rfl⟩ := p; exact p'
      | pan v => have p' := p; obtain ⟨G', q1, q2, q3, q4, q5, x, rfl, _⟩ := p; exact p'
  | .cond x c1 c2, st, ex, st', he, w0, G0, h0, w, G, a, g, s, hn, r, hN, hd => by
    simp only [cCode] at he
    split at he
    · rename_i y hy
      simp only [evC] at he
      split at he
      · rename_i t ht
        have hr := opd_rel r hy
        rw [ht] at hr
        have hb := bool_shape hr
        cases t with
        | true =>
          simp only [if_true] at he
          exact wp_cond_true hb (evC_ok hO hL c1 st ex st' he w0 G0 h0 w G a g s hn r hN hd)
        | false =>
          simp only [Bool.false_eq_true, if_false] at he
          exact wp_cond_false hb (evC_ok hO hL c2 st ex st' he w0 G0 h0 w G a g s hn r hN hd)
      · cases he
    · simp [evC] at he
  | .block id c, st, ex, st', he, w0, G0, h0, w, G, a, g, s, hn, r, hN, hd => by
    simp only [cCode, evC] at he
    have hx := evC_ok hO hL (K := K) (f := f) (N := N) (D := D) c st
    refine wp_block ?_
    split at he
    · rename_i j s1 h1
      refine wp_mono (hx _ _ h1 w0 G0 h0 w G a g s hn r hN hd) fun e a' w' p => ?_
      obtain ⟨G', q1, q2, q3, q4, q5, rfl⟩ := p
      split at he
      · rename_i hj
        simp only [Option.some.injEq, Prod.mk.injEq] at he
        obtain ⟨rfl, rfl⟩ := he
        simp only [Exit.inBlock, hj, if_true]
        exact ⟨G', q1, q2, q3, q4, q5, rfl⟩
      · rename_i hj
        simp only [Option.some.injEq, Prod.mk.injEq] at he
        obtain ⟨rfl, rfl⟩ := he
        simp only [Exit.inBlock, hj, if_false]
        exact ⟨G', q1, q2, q3, q4, q5, rfl⟩
    · rename_i hnn
      refine wp_mono (hx ex st' he w0 G0 h0 w G a g s hn r hN hd) fun e a' w' p => ?_
      cases ex with
      | exit j => exact absurd he (hnn j st')
      | norm => have p' := p; obtain ⟨G', q1, q2, q3, q4, q5, rfl⟩ := p; exact p'
      | ret => have p' := p; obtain ⟨G', q1, q2, q3, q4, q5, rfl⟩ := p; exact p'
      | pan v => have p' := p; obtain ⟨G', q1, q2, q3, q4, q5, x, rfl, _⟩ := p; exact p'
  | .loop c, st, ex, st', he, w0, G0, h0, w, G, a, g, s, hn, r, hN, hd => by
    simp only [cCode, evC] at he
    exact loopW_loop (hL f N D c _ _ _ ex st' he w0 G0 h0 w G a g s hn (r.keep_ _) hN hd g.frame)
  | .exit id, st, ex, st', he, w0, G0, h0, w, G, a, g, s, hn, r, hN, hd => by
    simp only [cCode, evC, Option.some.injEq, Prod.mk.injEq] at he
    obtain ⟨rfl, rfl⟩ := he
    exact wp_exit ⟨G, s, g, r, hN, hd, rfl⟩
  | .ret, st, ex, st', he, w0, G0, h0, w, G, a, g, s, hn, r, hN, hd => by
    simp only [cCode, evC, Option.some.injEq, Prod.mk.injEq] at he
    obtain ⟨rfl, rfl⟩ := he
    exact wp_ret ⟨G, s, g, r, hN, hd, rfl⟩
  | .scope c, st, ex, st', he, w0, G0, h0, w, G, a, g, s, hn, r, hN, hd => by
    simp only [cCode, evC] at he
    refine wp_scope_straight (wp_mono (evC_ok hO hL c st ex st' he w0 G0 h0 w G a g s hn r hN hd) fun e a' w' p => ?_)
    cases ex with
    | exit j => have p' := p; obtain ⟨G', q1, q2, q3, q4, q5, rfl⟩ := p; exact p'
    | norm => have p' := p; obtain ⟨G', q1, q2, q3, q4, q5, rfl⟩ := p; exact p'
    | ret => have p' := p; obtain ⟨G', q1, q2, q3, q4, q5, rfl⟩ := p; exact p'
    | pan v => have p' := p; obtain ⟨G', q1, q2, q3, q4, q5, x, rfl, _⟩ := p; exact p'
  | .rangeFunc _ _ _ _, st, ex, st', he, w0, G0, h0, w, G, a, g, s, hn, r, hN, hd => by simp [cCode, evC] at he
  | .goto _, st, ex, st', he, w0, G0, h0, w, G, a, g, s, hn, r, hN, hd => by simp [cCode, evC] at he
  | .refuse _, st, ex, st', he, w0, G0, h0, w, G, a, g, s, hn, r, hN, hd => by simp [cCode, evC] at he

theorem codeSound_step {O : Orc} (hO : FnSound P O) {H : Hints} (hL : CodeSound P H O) (K : Cfg) : CodeSound P H (step K O) := by
  intro f N D c n live st ex st' he w0 G0 h0 w G a g s hn r hN hd hle
  simp only [step, evC] at he
  have hx := evC_ok hO hL (K := K) (f := f) (N := N) (D := D) c st
  refine loopW_step ?_
  split at he
  · rename_i s1 h1
    split at he
    · rename_i s2 hcut
      refine wp_mono (hx _ _ h1 w0 G0 h0 w G a g s hn r hN hd) fun e a' w' p => ?_
      obtain ⟨G', q1, q2, q3, q4, q5, rfl⟩ := p
      obtain ⟨k1, k2, k3, k4⟩ := cut_ok hcut q2 q1 q3 hle
      exact hL f N D c n live s2 ex st' he w0 G0 h0 w' G' a' k1 k2 k4 k3 q4 q5 hle
    · cases he
  · rename_i hnn
    refine wp_mono (hx ex st' he w0 G0 h0 w G a g s hn r hN hd) fun e a' w' p => ?_
    cases ex with
    | norm => exact absurd he (hnn st')
    | exit j => have p' := p; obtain ⟨G', q1, q2, q3, q4, q5, rfl⟩ := p; exact p'
    | ret => have p' := p; obtain ⟨G', q1, q2, q3, q4, q5, rfl⟩ := p; exact p'
    | pan v => have p' := p; obtain ⟨G', q1, q2, q3, q4, q5, x, rfl, _⟩ := p; exact p'

def resOne (tmps : Array Value) : ResultVar → Sem Value
  | .tmp t => pure (tmps.getD t undef)
  | .cell b t => do loadVar t (← asAddr (tmps.getD b undef))
theorem run_cRes {w : World} {G : Gm} {h : Heap} {N : Nat} {e : Env} {a : Act} (s : Sim w G h) (r : EnvRel w G (dom h) e a) : ∀ {rs : List ResultVar} {cs : List CRes} {vs : List AV}, cRes P N rs = some cs → evResL { env := e, h := h } cs = some vs →
    ∃ xs : List Value, (rs.mapM (resOne a.tmps)).run P w = .ok xs w ∧ xs.length = vs.length ∧
      ∀ i, i < vs.length → VRel w G (dom h) (vs.getD i .top) (xs.getD i undef)
  | [], cs, vs, hc, he => by
    simp only [cRes, Option.some.injEq] at hc
    subst hc
    simp only [evResL, Option.some.injEq] at he
    subst he
    exact ⟨[], rfl, rfl, fun i hi => by simp at hi⟩
  | .tmp t :: rs, cs, vs, hc, he => by
    simp only [cRes] at hc
    split at hc
    · rename_i cs' hcs
      injection hc with hc; subst hc
      simp only [evResL, evRes1] at he
      split at he
      · rename_i vs' hvs
        injection he with he; subst he
        obtain ⟨xs, k1, k2, k3⟩ := run_cRes s r hcs hvs
        refine ⟨a.tmps.getD t undef :: xs, ?_, by simp [k2], fun i hi => ?_⟩
        · rw [List.mapM_cons]
          simp only [resOne, Sem.run_bind, Sem.run_pure, Result.andThen_ok, k1]
        · cases i with
          | zero => simpa using r t
          | succ i => simpa using k3 i (by simpa using hi)
      · cases he
    · cases hc
  | .cell b t :: rs, cs, vs, hc, he => by
    simp only [cRes] at hc
    split at hc
    · rename_i ag sz cs' hsh hcs
      split at hc
      · rename_i hsz
        injection hc with hc; subst hc
        simp only [evResL, evRes1] at he
        split at he
        · rename_i v hv
          split at he
          · rename_i vs' hvs
            injection he with he; subst he
            obtain ⟨xs, k1, k2, k3⟩ := run_cRes s r hcs hvs
            obtain ⟨y, l1, l2⟩ := loadFrom_ok (P := P) s (r b) hsh hsz hv
            have hA : (do loadVar t (← asAddr (a.tmps.getD b undef)) : Sem Value).run P w = .ok y w := by
              unfold Instr.loadAt at l1
              generalize a.tmps.getD b undef = q at l1
              cases q with
              | pointer p =>
                cases p with
                | none => simp [Instr.sureAddr] at l1
                | some p => simpa [Instr.sureAddr, asAddr] using l1
              | _ => simp [Instr.sureAddr] at l1
            refine ⟨y :: xs, ?_, by simp [k2], fun i hi => ?_⟩
            · rw [List.mapM_cons, Sem.run_bind, show (resOne a.tmps (.cell b t)).run P w = .ok y w from hA]
              simp only [Result.andThen_ok, Sem.run_bind, k1, Sem.run_pure]
            · cases i with
              | zero => simpa using l2
              | succ i => simpa using k3 i (by simpa using hi)
          · cases he
        · cases he
      · cases hc
    · cases hc

theorem run_results {fn : Func} {tmps : Array Value} {w : World} {xs : List Value} (h : (fn.results.toList.mapM (resOne tmps)).run P w = .ok xs w) :
    (results fn tmps).run P w = .ok (match xs with | [x] => x | l => .tuple l.toArray) w := by
  have e : (fn.results.mapM (resOne tmps)).run P w = .ok xs.toArray w := by
    rw [Array.mapM_eq_mapM_toList]
    simp [h]
  have e2 : results fn tmps = (do let vs ← fn.results.mapM (resOne tmps); pure (if h : vs.size = 1 then vs[0] else .tuple vs)) := by
    unfold results
    congr 1
  rw [e2, Sem.run_bind, e, Result.andThen_ok, Sem.run_pure]
  match xs with
  | [] => rfl
  | [x] => rfl
  | x :: y :: l => rfl

theorem evRes_ok {w : World} {G : Gm} {h : Heap} {N : Nat} {e : Env} {a : Act} (s : Sim w G h) (r : EnvRel w G (dom h) e a) {fn : Func} {cs : List CRes} {v : AV} (hc : cRes P N fn.results.toList = some cs) (he : evRes { env := e, h := h } cs = some v) :
    ∃ x, (results fn a.tmps).run P w = .ok x w ∧ VRel w G (dom h) v x := by
  unfold evRes at he
  split at he
  · rename_i u hu
    injection he with he; subst he
    obtain ⟨xs, k1, k2, k3⟩ := run_cRes s r hc hu
    match xs, k2 with
    | [x], _ => exact ⟨x, run_results k1, by simpa using k3 0 (by simp)⟩
  · rename_i us hne hu
    injection he with he; subst he
    obtain ⟨xs, k1, k2, k3⟩ := run_cRes s r hc hu
    refine ⟨.tuple xs.toArray, ?_, .tup _ _ _ (by simp [k2]) fun i hi => by rw [toArray_getD]; exact k3 i hi⟩
    rw [run_results k1]
    match xs, k2 with
    | [], _ => rfl
    | [x], k2 =>
      match us, k2 with
      | [u], _ => exact absurd rfl (hne u)
    | x :: y :: l, _ => rfl
  · cases he

/-- A frame is opened, a frame is dropped. -/
theorem Sim.push {w : World} {G : Gm} {h : Heap} (s : Sim w G h) : Sim w G ([] :: h) := by
  have hg : ∀ a, hget ([] :: h) a = if a.1 = h.length then none else hget h a := fun a => by simp [hget]
  have hd : ∀ a, dom ([] :: h) a ↔ dom h a := fun a => by
    unfold dom
    rw [hg]
    split
    · rename_i e
      simp only [Option.isSome_none, Bool.false_eq_true, false_iff]
      intro hh
      have := dom_level (h := h) (a := a) hh
      omega
    · rfl
  refine ⟨fun a B hB => ?_, fun x y b hx hy => s.inj x y b ((hd x).1 hx) ((hd y).1 hy), s.imm⟩
  rw [hg] at hB
  split at hB
  · cases hB
  · exact (s.blk a B hB).kept (ImmKept.refl w G) (fun q hq => ⟨⟨hq.1, (hd q).2 hq.2⟩, Agree.refl G q⟩) ⟨rfl, rfl, rfl⟩ (fun _ _ => rfl) fun _ _ _ hi => hi
theorem dom_push {h : Heap} (a : Loc) : dom ([] :: h) a ↔ dom h a := by
  unfold dom
  simp only [hget]
  split
  · rename_i e
    simp only [List.getElem?_nil, Option.isSome_none, Bool.false_eq_true, false_iff]
    intro hh
    have := dom_level (h := h) (a := a) hh
    omega
  · rfl
theorem pop_ok {w0 : World} {G0 : Gm} {h0 : Heap} {w : World} {G : Gm} {h : Heap} (s : Sim w G h) (g : Goes w0 G0 ([] :: h0) w G h) {v v' : AV} {h' : Heap} {x : Value} (hv : VRel w G (dom h) v x) (hp : pop v h = some (v', h')) :
    ∃ G', Sim w G' h' ∧ Goes w0 G0 h0 w G' h' ∧ VRel w G' (dom h') v' x := by
  unfold pop at hp
  split at hp
  · rename_i u f o hvw
    split at hp
    · rename_i href
      simp only [Option.some.injEq, Prod.mk.injEq] at hp
      obtain ⟨rfl, rfl⟩ := hp
      obtain ⟨G', k1, k2, k3⟩ := view_ok _ s hv hvw
      have g' := g.trans k2
      have hd : ∀ q, dom o q ↔ dom (f :: o) q ∧ q.1 < o.length := fun q => by
        rw [dom_frame]
        constructor
        · intro h
          have := dom_level h
          rw [if_neg (by omega)]
          exact ⟨h, this⟩
        · rintro ⟨h, hl⟩
          rwa [if_neg (by omega)] at h
      have hdep := g'.depth
      simp only [List.length_cons] at hdep
      refine ⟨G', ⟨fun q B hB => ?_, fun x y b hx hy => k1.inj x y b ((hd x).1 hx).1 ((hd y).1 hy).1, k1.imm⟩, ⟨g'.os, g'.tape, g'.output, g'.size, fun b hb hn => g'.heap b hb fun q hq => hn q ((dom_push q).1 hq),
        fun q b hq e hb => ?_, g'.imm, fun q hq => ?_, by omega, ?_⟩, ?_⟩
      · have hq : dom o q := dom_of hB
        have hB' : hget (f :: o) q = some B := by
          have := dom_level hq
          simp only [hget]
          rw [if_neg (by omega)]
          exact hB
        exact (k1.blk q B hB').kept (ImmKept.refl w G') (fun y hy => ⟨⟨hy.1, (hd y).2 ⟨hy.2, by have := hy.1; have := dom_level hq; omega⟩⟩, Agree.refl G' y⟩) ⟨rfl, rfl, rfl⟩ (fun _ _ => rfl) fun _ _ _ hi => hi
      · obtain ⟨q0, e0, e1⟩ := g'.img q b ((hd q).1 hq).1 e hb
        exact ⟨q0, (dom_push q0).1 e0, e1⟩
      · obtain ⟨e0, e1⟩ := g'.loc q ((dom_push q).2 hq)
        refine ⟨(hd q).2 ⟨e0, ?_⟩, e1⟩
        have := dom_level hq
        omega
      · -- the frame of the caller's
        cases h0 with
        | nil => simp [hlen]
        | cons f0 o0 =>
          cases o with
          | nil => simp at hdep
          | cons f1 o1 =>
            show f0.length ≤ f1.length
            cases hf : f0.length with
            | zero => omega
            | succ m =>
              have hq : dom (f0 :: o0) (o0.length, m) := by rw [dom_frame]; simp [hf]
              have := (g'.loc (o0.length, m) ((dom_push _).2 hq)).1
              have hq2 := (hd (o0.length, m)).2 ⟨this, by simp only [List.length_cons] at hdep ⊢; omega⟩
              rw [dom_frame] at hq2
              simp only [List.length_cons] at hdep
              rw [if_pos (by omega)] at hq2
              exact hq2
      · exact k3.goes (ImmKept.refl w G') href fun q hq hpq => ⟨(hd q).2 ⟨hq, by simpa using hpq⟩, Agree.refl G' q⟩
    · cases hp
  · cases hp

theorem get_envOf : ∀ (args : List AV) (k t : Nat), get (envOf k args) t = if k ≤ t then args.getD (t - k) .top else .top
  | [], k, t => by simp [envOf, get]
  | a :: r, k, t => by
    simp only [envOf, get]
    by_cases c : k = t
    · subst c; simp
    · rw [if_neg c, get_envOf r (k + 1) t]
      by_cases c2 : k ≤ t
      · rw [if_pos (by omega), if_pos c2]
        obtain ⟨d, rfl⟩ : ∃ d, t = k + 1 + d := ⟨t - (k + 1), by omega⟩
        rw [show k + 1 + d - (k + 1) = d by omega, show k + 1 + d - k = d + 1 by omega]
        rfl
      · rw [if_neg (by omega), if_neg c2]

end Go.Ab

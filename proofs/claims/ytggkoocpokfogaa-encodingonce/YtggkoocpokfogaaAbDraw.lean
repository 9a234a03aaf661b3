/-
  Regions that draw their order: the evaluator's one order stands for all.
-/
import Derived.Test.YtggkoocpokfogaaAbRun
set_option linter.unusedVariables false
set_option linter.unusedSimpArgs false
namespace Go.Ab
open Go.RowKit
variable {P : Program}

mutual
theorem view_clean {p : Loc → Bool} : ∀ (v : AV) (h : Heap), v.refOk (fun _ => false) = true → v.view p h = some (v, h)
  | .agg cs, h, hp => by simp only [AV.refOk] at hp; simp only [AV.view, views_clean cs h hp]
  | .tup cs, h, hp => by simp only [AV.refOk] at hp; simp only [AV.view, views_clean cs h hp]
  | .own a n, h, hp => by simp [AV.refOk] at hp
  | .iface t v, h, hp => by simp only [AV.refOk] at hp; simp only [AV.view, view_clean v h hp]
  | .top, h, hp => by simp only [AV.view]
  | .bool _, h, hp => by simp only [AV.view]
  | .int _ _, h, hp => by simp only [AV.view]
  | .str _, h, hp => by simp only [AV.view]
  | .nils, h, hp => by simp only [AV.view]
  | .emp, h, hp => by simp only [AV.view]
  | .lst _, h, hp => by simp only [AV.view]
  | .ptr _ _, h, hp => by simp only [AV.view]
  | .eptr _ _ _ _ _, h, hp => by simp only [AV.view]
  | .iptr _ _, h, hp => by simp only [AV.view]
  | .nilp, h, hp => by simp only [AV.view]
  | .fn _ _ _, h, hp => by simp only [AV.view]
  | .nilf, h, hp => by simp only [AV.view]
  | .nili, h, hp => by simp only [AV.view]
  | .mp _, h, hp => by simp only [AV.view]
  | .nilm, h, hp => by simp only [AV.view]
  | .anyp, h, hp => by simp only [AV.view]
theorem views_clean {p : Loc → Bool} : ∀ (v : List AV) (h : Heap), AV.refOks (fun _ => false) v = true → AV.views p v h = some (v, h)
  | [], h, hp => by simp only [AV.views]
  | c :: cs, h, hp => by
    simp only [AV.refOks, Bool.and_eq_true] at hp
    simp only [AV.views, view_clean c h hp.1, views_clean cs h hp.2]
end

/-- A quiet operation leaves the memory alone. -/
theorem evQ_evM {K : Cfg} {O : Orc} {q : MOp} {e : Env} {h : Heap} {v : AV} (hq : evQ K O q e h = some v) : evM K O q e h = some (.val v h) := by
  have key : ∀ r : Option Out, outVal r = some v → (∀ u h', r = some (.val u h') → h' = h) → r = some (.val v h) := fun r h1 h2 => by
    cases r with
    | none => cases h1
    | some r => cases r with
      | val u h' => simp only [outVal, Option.some.injEq] at h1; rw [h1, h2 u h' rfl]
      | pan u h' => cases h1
  unfold evQ at hq
  split at hq
  · refine key _ hq fun u h' hr => ?_
    simp only [evM] at hr
    split at hr
    · simp only [Option.some.injEq, Out.val.injEq] at hr; exact hr.2.symm
    · cases hr
  · refine key _ hq fun u h' hr => ?_
    simp only [evM] at hr
    split at hr
    · split at hr
      · simp only [Option.some.injEq, Out.val.injEq] at hr; exact hr.2.symm
      · cases hr
    · cases hr
  · refine key _ hq fun u h' hr => ?_
    simp only [evM] at hr
    split at hr
    · simp only [Option.some.injEq, Out.val.injEq] at hr; exact hr.2.symm
    · cases hr
  · refine key _ hq fun u h' hr => ?_
    simp only [evM] at hr
    repeat' split at hr
    all_goals first | (cases hr; done) | (simp only [Option.some.injEq, Out.val.injEq] at hr; exact hr.2.symm)
  · refine key _ hq fun u h' hr => ?_
    simp only [evM] at hr
    repeat' split at hr
    all_goals first | (cases hr; done) | (simp only [Option.some.injEq, Out.val.injEq] at hr; exact hr.2.symm)
  · refine key _ hq fun u h' hr => ?_
    simp only [evM] at hr
    repeat' split at hr
    all_goals first | (cases hr; done) | (simp only [Option.some.injEq, Out.val.injEq] at hr; exact hr.2.symm)
  · rename_i sz x lo hi mx
    have fin : ∀ {r : Option Out} {u : AV} {h' : Heap}, r = some (.val u h') → (r = none ∨ ∃ y, r = some (.val y h)) → h' = h := fun e1 e2 => by
      rcases e2 with e2 | ⟨y, e2⟩
      · rw [e2] at e1; cases e1
      · rw [e2] at e1; injection e1 with e1; injection e1 with _ e1; exact e1.symm
    have hx : ∀ y, x.ev e = y → (y = .nils ∨ ∃ es, y = .lst es) → ∀ u h', evM K O (.slL sz x lo hi mx) e h = some (.val u h') → h' = h := fun y e1 hy u h' hr => by
      refine fin hr ?_
      rcases hy with rfl | ⟨es, rfl⟩ <;> cases mx <;> simp only [evM, e1, AV.view] <;> repeat' split
      all_goals first | exact .inl rfl | exact .inr ⟨_, rfl⟩
    split at hq
    · rename_i es he; exact key _ hq (hx _ he (.inr ⟨_, rfl⟩))
    · rename_i he; exact key _ hq (hx _ he (.inl rfl))
    · cases hq
  · split at hq
    · rename_i hp
      refine key _ hq fun u h' hr => ?_
      simp only [evM] at hr
      rw [views_clean _ h hp] at hr
      simp only [Bool.false_eq_true, if_false] at hr
      repeat' split at hr
      all_goals first | (cases hr; done) | skip
      all_goals simp only [Option.some.injEq, Out.val.injEq] at hr
      all_goals exact hr.2.symm
    · cases hq
  · cases hq

theorem evQ_mono {K : Cfg} {O O' : Orc} (q : MOp) (e : Env) (h : Heap) : evQ K O q e h = evQ K O' q e h := by
  unfold evQ
  split <;> rfl

theorem op_pure {H : Hints} {f : FuncId} {o : Oper} {q : POp} {w : World} {G : Gm} {L : Loc → Prop} {e : Env} {a : Act} {v : AV} (hop : cOp P H f o = .p q) (r : EnvRel w G L e a) (hv : evP q e = some v)
    {Kp : Act → World → Prop} {Q : Exit → Act → World → Prop} (k : ∀ x, VRel w G L v x → Kp (a.put o.dst x) w) : Oper.wp P o a w Kp Q := by
  obtain ⟨x, hx, hvx⟩ := pure_ok hop r hv
  unfold Oper.wp
  rw [hx]
  exact k x hvx

/-- A call. -/
theorem op_call {O : Orc} (hO : FnSound P O) {H : Hints} {f : FuncId} {o : Oper} {gf : Opd} {xs : List Opd} (hop : cOp P H f o = .m (.call gf xs)) {K : Cfg} {w : World} {G : Gm} {h : Heap} {e : Env} {a : Act} {r : Out}
    (s : Sim w G h) (rr : EnvRel w G (dom h) e a) (hev : evM K O (.call gf xs) e h = some r) {Kp : Act → World → Prop} {Q : Exit → Act → World → Prop}
    (k : ∀ en w', EndRel w G h r en w' → match en with
      | .returned x => Kp (a.put o.dst x) w'
      | .panicked c => Q (.panic c) a w'
      | .outgrown => False) : Oper.wp P o a w Kp Q := by
  obtain ⟨c, gop, ho, hcal, hgop, hxs⟩ := call_shape hop
  simp only [evM] at hev
  split at hev
  · rename_i gid first captured hgv
    split at hev
    · rename_i vs h1 hvs
      have hrg := opd_rel rr hgop
      rw [hgv] at hrg
      obtain ⟨va, vb, hgx, hla, hlb, hra, hrb⟩ := fn_shape hrg
      obtain ⟨q1, q2⟩ := opds_rel rr hxs
      have hargs : ArgsRel w G (dom h) (first ++ xs.map (·.ev e) ++ captured) (va ++ c.args.map a.eval ++ vb) := by
        refine append_rel (append_rel ⟨hla, hra⟩ ⟨by simp [q1], fun i hi => ?_⟩) ⟨hlb, hrb⟩
        have := q2 i (by simpa using hi)
        have e1 : (c.args.map a.eval).getD i undef = (c.args.toList.map a.eval).getD i undef := by simp [Array.getD_eq_getD_getElem?]
        rw [e1]; exact this
      obtain ⟨G1, k1, k2, k3, k4⟩ := views_ok _ (xs := fun i => (va ++ c.args.map a.eval ++ vb).getD i undef) s hargs.2 hvs
      obtain ⟨hent, hcl⟩ := hO gid vs h1 _ hev
      have hC := hcl w G1 (va ++ c.args.map a.eval ++ vb) k1 ⟨by rw [hargs.1, k3], fun i hi => k4 i (by rw [← k3]; exact hi)⟩
      unfold Oper.wp
      rw [call_run ho hcal hgx hent w, Oper.upon_enter]
      refine hC.mono fun en w' hen => ?_
      have hen' : EndRel w G h r en w' := by
        obtain ⟨G', l1, l2, l3⟩ := hen
        exact ⟨G', l1, k2.trans l2, l3⟩
      have := k en w' hen'
      cases en with
      | returned x => exact this
      | panicked c => exact this
      | outgrown => exact this.elim
    · cases hev
  · cases hev

theorem op_val {O : Orc} (hO : FnSound P O) {H : Hints} {f : FuncId} {o : Oper} {q : MOp} (hop : cOp P H f o = .m q) {K : Cfg} {w : World} {G : Gm} {h h' : Heap} {e : Env} {a : Act} {v : AV}
    (s : Sim w G h) (hn : h ≠ []) (rr : EnvRel w G (dom h) e a) (hev : evM K O q e h = some (.val v h')) {Kp : Act → World → Prop} {Q : Exit → Act → World → Prop}
    (k : ∀ x w' G', Sim w' G' h' → Goes w G h w' G' h' → VRel w' G' (dom h') v x → Kp (a.put o.dst x) w') : Oper.wp P o a w Kp Q := by
  by_cases hcall : ∃ gf xs, q = .call gf xs
  · obtain ⟨gf, xs, rfl⟩ := hcall
    refine op_call hO hop s rr hev fun en w' hen => ?_
    obtain ⟨G', l1, l2, x, rfl, l3⟩ := hen
    exact k x w' G' l1 l2 l3
  · obtain ⟨nx, x, w', G', k1, k2, k3, k4, k5⟩ := mem_ok s hn hop rr (fun gf xs e => hcall ⟨gf, xs, e⟩) hev
    unfold Oper.wp
    rw [k1]
    rcases k2 with rfl | ⟨rfl, rfl⟩
    · exact k _ _ _ k3 k4 k5
    · exact k _ _ _ k3 k4 k5

theorem op_pan {O : Orc} (hO : FnSound P O) {H : Hints} {f : FuncId} {o : Oper} {q : MOp} (hop : cOp P H f o = .m q) {K : Cfg} {w : World} {G : Gm} {h h' : Heap} {e : Env} {a : Act} {v : AV}
    (s : Sim w G h) (rr : EnvRel w G (dom h) e a) (hev : evM K O q e h = some (.pan v h')) {Kp : Act → World → Prop} {Q : Exit → Act → World → Prop}
    (k : ∀ x w' G', Sim w' G' h' → Goes w G h w' G' h' → VRel w' G' (dom h') v x → Q (.panic [{ v := x, recovered := false }]) a w') : Oper.wp P o a w Kp Q := by
  by_cases hcall : ∃ gf xs, q = .call gf xs
  · obtain ⟨gf, xs, rfl⟩ := hcall
    refine op_call hO hop s rr hev fun en w' hen => ?_
    obtain ⟨G', l1, l2, x, rfl, l3⟩ := hen
    exact k x w' G' l1 l2 l3
  · have hp : ∃ x y, o.op = .panic x ∧ cOpd x = some y ∧ q = .pan y := by
      cases q <;> simp only [evM] at hev
      case pan y =>
        unfold cOp at hop
        cases ho : o.op with
        | panic x =>
          simp only [ho] at hop
          split at hop
          · rename_i y' hy'
            injection hop with hop
            injection hop with e1
            subst e1
            exact ⟨x, y', rfl, hy', rfl⟩
          · cases hop
        | _ => simp only [ho] at hop; repeat' (first | (cases hop; done) | split at hop)
      case call gf xs => exact absurd ⟨gf, xs, rfl⟩ hcall
      all_goals repeat' (first | (cases hev; done) | split at hev | unfold appTo at hev)
    obtain ⟨x, y, ho, hy, rfl⟩ := hp
    simp only [evM] at hev
    split at hev
    · rename_i t u hyu
      injection hev with hev
      injection hev with e1 e2
      subst e1; subst e2
      obtain ⟨rv, k1, k2⟩ := m_pan (P := P) rr ho hy hyu
      unfold Oper.wp
      rw [k1, Oper.upon_panic]
      exact k _ _ _ s (Goes.refl w G h) k2
    · cases hev

/-- One operation of our order. -/
def StepOK (K : Cfg) (O : Orc) (d : DO) (E : Env) (h : Heap) (v : AV) (h' : Heap) : Prop :=
  (wanted d.co.gd (keep d.looks E) = some false ∧ v = .tup [] ∧ h' = h) ∨
  (wanted d.co.gd (keep d.looks E) = some true ∧
    ((∃ q, d.co.op = .p q ∧ evP q (keep d.looks E) = some v ∧ h' = h) ∨
     (∃ q, d.co.op = .m q ∧ quietM q = true ∧ evQ K O q (keep d.looks E) h = some v ∧ h' = h) ∨
     (∃ q, d.co.op = .m q ∧ quietM q = false ∧ evM K O q (keep d.looks E) h = some (.val v h'))))

structure Trace (K : Cfg) (O : Orc) (ds : List DO) (pd : Pend) (s : St) (ex : Ex) (s' : St) (V : Nat → AV) (E : Nat → Env) (Hp : Nat → Heap) (m : Nat) : Prop where
  le : m ≤ ds.length
  e0 : E 0 = s.env
  h0 : Hp 0 = s.h
  env : ∀ k d, k < m → ds[k]? = some d → E (k + 1) = put (E k) d.co.dst (V k)
  stp : ∀ k d, k < m → ds[k]? = some d → StepOK K O d (E k) (Hp k) (V k) (Hp (k + 1))
  pend : ∀ k d, k < m → ds[k]? = some d → loud d.co = true → ∀ x ∈ pd, x.1 ∈ d.re → evQ K O x.2.1 x.2.2.1 (Hp (k + 1)) = some x.2.2.2
  again : ∀ k d q, k < m → ds[k]? = some d → d.co.op = .m q → quietM q = true → wanted d.co.gd (keep d.looks (E k)) = some true →
    ∀ j c, k < j → j < m → ds[j]? = some c → loud c.co = true → d.ix ∈ c.re → evQ K O q (keep d.looks (E k)) (Hp (j + 1)) = some (V k)
  fin : (ex = .norm ∧ m = ds.length ∧ s' = { env := E m, h := Hp m }) ∨
    ∃ d q v h, ds[m]? = some d ∧ wanted d.co.gd (keep d.looks (E m)) = some true ∧ d.co.op = .m q ∧ quietM q = false ∧ evM K O q (keep d.looks (E m)) (Hp m) = some (.pan v h) ∧ ex = .pan v ∧ s' = { env := [], h := h }

def shiftN {α : Type} (x : α) (F : Nat → α) : Nat → α
  | 0 => x
  | k + 1 => F k

theorem recheck_mem {K : Cfg} {O : Orc} {re : List Nat} {pd : Pend} {h : Heap} (hr : recheck K O re pd h = true) {x : Nat × MOp × Env × AV} (hx : x ∈ pd) (hi : x.1 ∈ re) : evQ K O x.2.1 x.2.2.1 h = some x.2.2.2 := by
  unfold recheck at hr
  have := List.all_eq_true.1 hr x hx
  simp only [Bool.or_eq_true, Bool.not_eq_true'] at this
  rcases this with h1 | h1
  · have : re.contains x.1 = true := by simpa using hi
    rw [this] at h1; cases h1
  · unfold same1 at h1
    split at h1
    · rename_i u hu; rw [hu, AV.beq_eq _ _ h1]
    · cases h1

/-- A step in front of a trace. -/
theorem Trace.cons {K : Cfg} {O : Orc} {d : DO} {r : List DO} {pd pd' : Pend} {s s1 : St} {ex : Ex} {s' : St} {V : Nat → AV} {E : Nat → Env} {Hp : Nat → Heap} {m : Nat} {v : AV}
    (t : Trace K O r pd' s1 ex s' V E Hp m) (he : s1.env = put s.env d.co.dst v) (hs : StepOK K O d s.env s.h v s1.h)
    (hp : loud d.co = true → ∀ x ∈ pd, x.1 ∈ d.re → evQ K O x.2.1 x.2.2.1 s1.h = some x.2.2.2)
    (hsub : ∀ x ∈ pd, x ∈ pd')
    (hq : ∀ q, d.co.op = .m q → quietM q = true → wanted d.co.gd (keep d.looks s.env) = some true → (d.ix, q, keep d.looks s.env, v) ∈ pd') :
    Trace K O (d :: r) pd s ex s' (shiftN v V) (shiftN s.env E) (shiftN s.h Hp) (m + 1) where
  le := by simpa using t.le
  e0 := rfl
  h0 := rfl
  env := fun k c hk hc => by
    cases k with
    | zero =>
      simp only [List.getElem?_cons_zero, Option.some.injEq] at hc
      subst hc
      simp only [shiftN, t.e0, he]
    | succ k => simp only [shiftN]; exact t.env k c (by omega) (by simpa using hc)
  stp := fun k c hk hc => by
    cases k with
    | zero =>
      simp only [List.getElem?_cons_zero, Option.some.injEq] at hc
      subst hc
      simp only [shiftN, t.h0]; exact hs
    | succ k => simp only [shiftN]; exact t.stp k c (by omega) (by simpa using hc)
  pend := fun k c hk hc hl x hx hi => by
    cases k with
    | zero =>
      simp only [List.getElem?_cons_zero, Option.some.injEq] at hc
      subst hc
      simp only [shiftN, t.h0]; exact hp hl x hx hi
    | succ k => simp only [shiftN]; exact t.pend k c (by omega) (by simpa using hc) hl x (hsub x hx) hi
  again := fun k c q hk hc ho hqt hw j b hkj hj hb hl hi => by
    cases j with
    | zero => omega
    | succ j =>
      cases k with
      | zero =>
        simp only [List.getElem?_cons_zero, Option.some.injEq] at hc
        subst hc
        simp only [shiftN] at hw ⊢
        exact t.pend j b (by omega) (by simpa using hb) hl _ (hq q ho hqt hw) hi
      | succ k => simp only [shiftN] at hw ⊢; exact t.again k c q (by omega) (by simpa using hc) ho hqt hw j b (by omega) (by omega) (by simpa using hb) hl hi
  fin := by
    rcases t.fin with ⟨h1, h2, h3⟩ | ⟨c, q, u, h, h1, h2, h3, h4, h5, h6, h7⟩
    · exact .inl ⟨h1, by simp [h2], h3⟩
    · exact .inr ⟨c, q, u, h, by simpa using h1, h2, h3, h4, h5, h6, h7⟩

theorem evD_trace {K : Cfg} {O : Orc} : ∀ (ds : List DO) (pd : Pend) (s : St) (ex : Ex) (s' : St), evD K O ds pd s = some (ex, s') → ∃ V E Hp m, Trace K O ds pd s ex s' V E Hp m
  | [], pd, s, ex, s', he => by
    simp only [evD, Option.some.injEq, Prod.mk.injEq] at he
    obtain ⟨rfl, rfl⟩ := he
    exact ⟨fun _ => .top, fun _ => s.env, fun _ => s.h, 0, { le := Nat.le_refl 0, e0 := rfl, h0 := rfl, env := fun k _ hk => absurd hk (Nat.not_lt_zero k), stp := fun k _ hk => absurd hk (Nat.not_lt_zero k), pend := fun k _ hk => absurd hk (Nat.not_lt_zero k), again := fun k _ _ hk => absurd hk (Nat.not_lt_zero k), fin := .inl ⟨rfl, rfl, rfl⟩ }⟩
  | d :: r, pd, s, ex, s', he => by
    simp only [evD] at he
    split at he
    · cases he
    · rename_i hw
      split at he
      · cases he
      · rename_i hre
        obtain ⟨V, E, Hp, m, t⟩ := evD_trace r pd _ ex s' he
        refine ⟨_, _, _, _, t.cons rfl (.inl ⟨hw, rfl, rfl⟩) (fun hl x hx hi => ?_) (fun x hx => hx) (fun q _ _ hw' => by rw [hw] at hw'; cases hw')⟩
        cases hrc : recheck K O d.re pd s.h with
        | true => exact recheck_mem hrc hx hi
        | false => exact absurd ⟨hl, hrc⟩ hre
    · rename_i hw
      split at he
      · rename_i q hop
        split at he
        · rename_i v hv
          obtain ⟨V, E, Hp, m, t⟩ := evD_trace r pd _ ex s' he
          exact ⟨_, _, _, _, t.cons rfl (.inr ⟨hw, .inl ⟨q, hop, hv, rfl⟩⟩) (fun hl => by simp [loud, hop] at hl) (fun x hx => hx) (fun q' h1 => by rw [hop] at h1; cases h1)⟩
        · cases he
      · rename_i q hop
        split at he
        · rename_i hqt
          split at he
          · rename_i v hv
            obtain ⟨V, E, Hp, m, t⟩ := evD_trace r _ _ ex s' he
            exact ⟨_, _, _, _, t.cons rfl (.inr ⟨hw, .inr (.inl ⟨q, hop, hqt, hv, rfl⟩)⟩) (fun hl => by simp [loud, hop, hqt] at hl) (fun x hx => List.mem_cons_of_mem _ hx)
              (fun q' h1 _ _ => by rw [hop] at h1; injection h1 with h1; subst h1; exact List.mem_cons_self ..)⟩
          · cases he
        · rename_i hqt
          have hqf : quietM q = false := by simpa using hqt
          split at he
          · rename_i v h hv
            split at he
            · rename_i hrc
              obtain ⟨V, E, Hp, m, t⟩ := evD_trace r pd _ ex s' he
              exact ⟨_, _, _, _, t.cons rfl (.inr ⟨hw, .inr (.inr ⟨q, hop, hqf, hv⟩)⟩) (fun _ x hx hi => recheck_mem hrc hx hi) (fun x hx => hx)
                (fun q' h1 h2 _ => by rw [hop] at h1; injection h1 with h1; subst h1; rw [hqf] at h2; cases h2)⟩
            · cases he
          · rename_i v h hv
            simp only [Option.some.injEq, Prod.mk.injEq] at he
            obtain ⟨rfl, rfl⟩ := he
            exact ⟨fun _ => .top, fun _ => s.env, fun _ => s.h, 0, { le := Nat.zero_le _, e0 := rfl, h0 := rfl, env := fun k _ hk => absurd hk (Nat.not_lt_zero k), stp := fun k _ hk => absurd hk (Nat.not_lt_zero k), pend := fun k _ hk => absurd hk (Nat.not_lt_zero k), again := fun k _ _ hk => absurd hk (Nat.not_lt_zero k), fin := .inr ⟨d, q, v, h, by simp, hw, hop, hqf, hv, rfl, rfl⟩ }⟩
          · cases he
      · cases he

end Go.Ab

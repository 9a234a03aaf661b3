/-
  Regions that draw their order: the evaluator's one order stands for all.
-/
import Derived.Test.YtcbhkkeoncmigaaAbRun
set_option linter.unusedVariables false
set_option linter.unusedSimpArgs false
namespace Go.Ab
open Go.RowKit
variable {P : Program}

mutual
theorem view_clean {p : Loc → Bool} : ∀ (v : AV) (h : Heap), v.refOk (fun _ => false) = true → v.view p h = some (v, h)
  | .agg cs, h, hp => by simp only [AV.refOk] at hp; simp only [AV.view, views_clean cs h hp]
  | .tup cs, h, hp => by simp only [AV.refOk] at hp; simp only [AV.view, views_clean cs h hp]
  | .own a n, h, hp => by simp [AV.refOk] at hp
  | .iface t v, h, hp => by simp only [AV.refOk] at hp; simp only [AV.view, view_clean v h hp]
  | .top, h, hp => by simp only [AV.view]
  | .bool _, h, hp => by simp only [AV.view]
  | .int _ _, h, hp => by simp only [AV.view]
  | .str _, h, hp => by simp only [AV.view]
  | .nils, h, hp => by simp only [AV.view]
  | .emp, h, hp => by simp only [AV.view]
  | .lst _, h, hp => by simp only [AV.view]
  | .ptr _ _, h, hp => by simp only [AV.view]
  | .eptr _ _ _ _ _, h, hp => by simp only [AV.view]
  | .iptr _ _, h, hp => by simp only [AV.view]
  | .nilp, h, hp => by simp only [AV.view]
  | .fn _ _ _, h, hp => by simp only [AV.view]
  | .nilf, h, hp => by simp only [AV.view]
  | .nili, h, hp => by simp only [AV.view]
  | .mp _, h, hp => by simp only [AV.view]
  | .nilm, h, hp => by simp only [AV.view]
  | .anyp, h, hp => by simp only [AV.view]
theorem views_clean {p : Loc → Bool} : ∀ (v : List AV) (h : Heap), AV.refOks (fun _ => false) v = true → AV.views p v h = some (v, h)
  | [], h, hp => by simp only [AV.views]
  | c :: cs, h, hp => by
    simp only [AV.refOks, Bool.and_eq_true] at hp
    simp only [AV.views, view_clean c h hp.1, views_clean cs h hp.2]
end

/-- A quiet operation leaves the memory alone. -/
theorem evQ_evM {K : Cfg} {O : Orc} {q : MOp} {e : Env} {h : Heap} {v : AV} (hq : evQ K O q e h = some v) : evM K O q e h = some (.val v h) := by
  have key : ∀ r : Option Out, outVal r = some v → (∀ u h', r = some (.val u h') → h' = h) → r = some (.val v h) := fun r h1 h2 => by
    cases r with
    | none => cases h1
    | some r => cases r with
      | val u h' => simp only [outVal, Option.some.injEq] at h1; rw [h1, h2 u h' rfl]
      | pan u h' => cases h1
  unfold evQ at hq
  split at hq
  · refine key _ hq fun u h' hr => ?_
    simp only [evM] at hr
    split at hr
    · simp only [Option.some.injEq, Out.val.injEq] at hr; exact hr.2.symm
    · cases hr
  · refine key _ hq fun u h' hr => ?_
    simp only [evM] at hr
    split at hr
    · split at hr
      · simp only [Option.some.injEq, Out.val.injEq] at hr; exact hr.2.symm
      · cases hr
    · cases hr
  · refine key _ hq fun u h' hr => ?_
    simp only [evM] at hr
    split at hr
    · simp only [Option.some.injEq, Out.val.injEq] at hr; exact hr.2.symm
    · cases hr
  · refine key _ hq fun u h' hr => ?_
    simp only [evM] at hr
    repeat' split at hr
    all_goals first | (cases hr; done) | (simp only [Option.some.injEq, Out.val.injEq] at hr; exact hr.2.symm)
  · refine key _ hq fun u h' hr => ?_
    simp only [evM] at hr
    repeat' split at hr
    all_goals first | (cases hr; done) | (simp only [Option.some.injEq, Out.val.injEq] at hr; exact hr.2.symm)
  · refine key _ hq fun u h' hr => ?_
    simp only [evM] at hr
    repeat' split at hr
    all_goals first | (cases hr; done) | (simp only [Option.some.injEq, Out.val.injEq] at hr; exact hr.2.symm)
  · rename_i sz x lo hi mx
    have fin : ∀ {r : Option Out} {u : AV} {h' : Heap}, r = some (.val u h') → (r = none ∨ ∃ y, r = some (.val y h)) → h' = h := fun e1 e2 => by
      rcases e2 with e2 | ⟨y, e2⟩
      · rw [e2] at e1; cases e1
      · rw [e2] at e1; injection e1 with e1; injection e1 with _ e1; exact e1.symm
    have hx : ∀ y, x.ev e = y → (y = .nils ∨ ∃ es, y = .lst es) → ∀ u h', evM K O (.slL sz x lo hi mx) e h = some (.val u h') → h' = h := fun y e1 hy u h' hr => by
      refine fin hr ?_
      rcases hy with rfl | ⟨es, rfl⟩ <;> cases mx <;> simp only [evM, e1, AV.view] <;> repeat' split
      all_goals first | exact .inl rfl | exact .inr ⟨_, rfl⟩
    split at hq
    · rename_i es he; exact key _ hq (hx _ he (.inr ⟨_, rfl⟩))
    · rename_i he; exact key _ hq (hx _ he (.inl rfl))
    · cases hq
  · split at hq
    · rename_i hp
      refine key _ hq fun u h' hr => ?_
      simp only [evM] at hr
      rw [views_clean _ h hp] at hr
      simp only [Bool.false_eq_true, if_false] at hr
      repeat' split at hr
      all_goals first | (cases hr; done) | skip
      all_goals simp only [Option.some.injEq, Out.val.injEq] at hr
      all_goals exact hr.2.symm
    · cases hq
  · cases hq

theorem evQ_mono {K : Cfg} {O O' : Orc} (q : MOp) (e : Env) (h : Heap) : evQ K O q e h = evQ K O' q e h := by
  unfold evQ
  split <;> rfl

theorem op_pure {H : Hints} {f : FuncId} {o : Oper} {q : POp} {w : World} {G : Gm} {L : Loc → Prop} {e : Env} {a : Act} {v : AV} (hop : cOp P H f o = .p q) (r : EnvRel w G L e a) (hv : evP q e = some v)
    {Kp : Act → World → Prop} {Q : Exit → Act → World → Prop} (k : ∀ x, VRel w G L v x → Kp (a.put o.dst x) w) : Oper.wp P o a w Kp Q := by
  obtain ⟨x, hx, hvx⟩ := pure_ok hop r hv
  unfold Oper.wp
  rw [hx]
  exact k x hvx

/-- A call. -/
theorem op_call {O : Orc} (hO : FnSound P O) {H : Hints} {f : FuncId} {o : Oper} {gf : Opd} {xs : List Opd} (hop : cOp P H f o = .m (.call gf xs)) {K : Cfg} {w : World} {G : Gm} {h : Heap} {e : Env} {a : Act} {r : Out}
    (s : Sim w G h) (rr : EnvRel w G (dom h) e a) (hev : evM K O (.call gf xs) e h = some r) {Kp : Act → World → Prop} {Q : Exit → Act → World → Prop}
    (k : ∀ en w', EndRel w G h r en w' → match en with
      | .returned x => Kp (a.put o.dst x) w'
      | .panicked c => Q (.panic c) a w'
      | .outgrown => False) : Oper.wp P o a w Kp Q := by
  obtain ⟨c, gop, ho, hcal, hgop, hxs⟩ := call_shape hop
  simp only [evM] at hev
  split at hev
  · rename_i gid first captured hgv
    split at hev
    · rename_i vs h1 hvs
      have hrg := opd_rel rr hgop
      rw [hgv] at hrg
      obtain ⟨va, vb, hgx, hla, hlb, hra, hrb⟩ := fn_shape hrg
      obtain ⟨q1, q2⟩ := opds_rel rr hxs
      have hargs : ArgsRel w G (dom h) (first ++ xs.map (·.ev e) ++ captured) (va ++ c.args.map a.eval ++ vb) := by
        refine append_rel (append_rel ⟨hla, hra⟩ ⟨by simp [q1], fun i hi => ?_⟩) ⟨hlb, hrb⟩
        have := q2 i (by simpa using hi)
        have e1 : (c.args.map a.eval).getD i undef = (c.args.toList.map a.eval).getD i undef := by simp [Array.getD_eq_getD_getElem?]
        rw [e1]; exact this
      obtain ⟨G1, k1, k2, k3, k4⟩ := views_ok _ (xs := fun i => (va ++ c.args.map a.eval ++ vb).getD i undef) s hargs.2 hvs
      obtain ⟨hent, hcl⟩ := hO gid vs h1 _ hev
      have hC := hcl w G1 (va ++ c.args.map a.eval ++ vb) k1 ⟨by rw [hargs.1, k3], fun i hi => k4 i (by rw [← k3]; exact hi)⟩
      unfold Oper.wp
      rw [call_run ho hcal hgx hent w, Oper.upon_enter]
      refine hC.mono fun en w' hen => ?_
      have hen' : EndRel w G h r en w' := by
        obtain ⟨G', l1, l2, l3⟩ := hen
        exact ⟨G', l1, k2.trans l2, l3⟩
      have := k en w' hen'
      cases en with
      | returned x => exact this
      | panicked c => exact this
      | outgrown => exact this.elim
    · cases hev
  · cases hev

theorem op_val {O : Orc} (hO : FnSound P O) {H : Hints} {f : FuncId} {o : Oper} {q : MOp} (hop : cOp P H f o = .m q) {K : Cfg} {w : World} {G : Gm} {h h' : Heap} {e : Env} {a : Act} {v : AV}
    (s : Sim w G h) (hn : h ≠ []) (rr : EnvRel w G (dom h) e a) (hev : evM K O q e h = some (.val v h')) {Kp : Act → World → Prop} {Q : Exit → Act → World → Prop}
    (k : ∀ x w' G', Sim w' G' h' → Goes w G h w' G' h' → VRel w' G' (dom h') v x → Kp (a.put o.dst x) w') : Oper.wp P o a w Kp Q := by
  by_cases hcall : ∃ gf xs, q = .call gf xs
  · obtain ⟨gf, xs, rfl⟩ := hcall
    refine op_call hO hop s rr hev fun en w' hen => ?_
    obtain ⟨G', l1, l2, x, rfl, l3⟩ := hen
    exact k x w' G' l1 l2 l3
  · obtain ⟨nx, x, w', G', k1, k2, k3, k4, k5⟩ := mem_ok s hn hop rr (fun gf xs e => hcall ⟨gf, xs, e⟩) hev
    unfold Oper.wp
    rw [k1]
    rcases k2 with rfl | ⟨rfl, rfl⟩
    · exact k _ _ _ k3 k4 k5
    · exact k _ _ _ k3 k4 k5

theorem op_pan {O : Orc} (hO : FnSound P O) {H : Hints} {f : FuncId} {o : Oper} {q : MOp} (hop : cOp P H f o = .m q) {K : Cfg} {w : World} {G : Gm} {h h' : Heap} {e : Env} {a : Act} {v : AV}
    (s : Sim w G h) (rr : EnvRel w G (dom h) e a) (hev : evM K O q e h = some (.pan v h')) {Kp : Act → World → Prop} {Q : Exit → Act → World → Prop}
    (k : ∀ x w' G', Sim w' G' h' → Goes w G h w' G' h' → VRel w' G' (dom h') v x → Q (.panic [{ v := x, recovered := false }]) a w') : Oper.wp P o a w Kp Q := by
  by_cases hcall : ∃ gf xs, q = .call gf xs
  · obtain ⟨gf, xs, rfl⟩ := hcall
    refine op_call hO hop s rr hev fun en w' hen => ?_
    obtain ⟨G', l1, l2, x, rfl, l3⟩ := hen
    exact k x w' G' l1 l2 l3
  · have hp : ∃ x y, o.op = .panic x ∧ cOpd x = some y ∧ q = .pan y := by
      cases q <;> simp only [evM] at hev
      case pan y =>
        unfold cOp at hop
        cases ho : o.op with
        | panic x =>
          simp only [ho] at hop
          split at hop
          · rename_i y' hy'
            injection hop with hop
            injection hop with e1
            subst e1
            exact ⟨x, y', rfl, hy', rfl⟩
          · cases hop
        | _ => simp only [ho] at hop; repeat' (first | (cases hop; done) | split at hop)
      case call gf xs => exact absurd ⟨gf, xs, rfl⟩ hcall
      all_goals repeat' (first | (cases hev; done) | split at hev | unfold appTo at hev)
    obtain ⟨x, y, ho, hy, rfl⟩ := hp
    simp only [evM] at hev
    split at hev
    · rename_i t u hyu
      injection hev with hev
      injection hev with e1 e2
      subst e1; subst e2
      obtain ⟨rv, k1, k2⟩ := m_pan (P := P) rr ho hy hyu
      unfold Oper.wp
      rw [k1, Oper.upon_panic]
      exact k _ _ _ s (Goes.refl w G h) k2
    · cases hev

/-- One operation of our order. -/
def StepOK (K : Cfg) (O : Orc) (d : DO) (E : Env) (h : Heap) (v : AV) (h' : Heap) : Prop :=
  (wanted d.co.gd (keep d.looks E) = some false ∧ v = .tup [] ∧ h' = h) ∨
  (wanted d.co.gd (keep d.looks E) = some true ∧
    ((∃ q, d.co.op = .p q ∧ evP q (keep d.looks E) = some v ∧ h' = h) ∨
     (∃ q, d.co.op = .m q ∧ quietM q = true ∧ evQ K O q (keep d.looks E) h = some v ∧ h' = h) ∨
     (∃ q, d.co.op = .m q ∧ quietM q = false ∧ evM K O q (keep d.looks E) h = some (.val v h'))))

structure Trace (K : Cfg) (O : Orc) (ds : List DO) (pd : Pend) (s : St) (ex : Ex) (s' : St) (V : Nat → AV) (E : Nat → Env) (Hp : Nat → Heap) (m : Nat) : Prop where
  le : m ≤ ds.length
  e0 : E 0 = s.env
  h0 : Hp 0 = s.h
  env : ∀ k d, k < m → ds[k]? = some d → E (k + 1) = put (E k) d.co.dst (V k)
  stp : ∀ k d, k < m → ds[k]? = some d → StepOK K O d (E k) (Hp k) (V k) (Hp (k + 1))
  pend : ∀ k d, k < m → ds[k]? = some d → loud d.co = true → ∀ x ∈ pd, x.1 ∈ d.re → evQ K O x.2.1 x.2.2.1 (Hp (k + 1)) = some x.2.2.2
  again : ∀ k d q, k < m → ds[k]? = some d → d.co.op = .m q → quietM q = true → wanted d.co.gd (keep d.looks (E k)) = some true →
    ∀ j c, k < j → j < m → ds[j]? = some c → loud c.co = true → d.ix ∈ c.re → evQ K O q (keep d.looks (E k)) (Hp (j + 1)) = some (V k)
  fin : (ex = .norm ∧ m = ds.length ∧ s' = { env := E m, h := Hp m }) ∨
    ∃ d q v h, ds[m]? = some d ∧ wanted d.co.gd (keep d.looks (E m)) = some true ∧ d.co.op = .m q ∧ quietM q = false ∧ evM K O q (keep d.looks (E m)) (Hp m) = some (.pan v h) ∧ ex = .pan v ∧ s' = { env := [], h := h }

def shiftN {α : Type} (x : α) (F : Nat → α) : Nat → α
  | 0 => x
  | k + 1 => F k

theorem recheck_mem {K : Cfg} {O : Orc} {re : List Nat} {pd : Pend} {h : Heap} (hr : recheck K O re pd h = true) {x : Nat × MOp × Env × AV} (hx : x ∈ pd) (hi : x.1 ∈ re) : evQ K O x.2.1 x.2.2.1 h = some x.2.2.2 := by
  unfold recheck at hr
  have := List.all_eq_true.1 hr x hx
  simp only [Bool.or_eq_true, Bool.not_eq_true'] at this
  rcases this with h1 | h1
  · have : re.contains x.1 = true := by simpa using hi
    rw [this] at h1; cases h1
  · unfold same1 at h1
    split at h1
    · rename_i u hu; rw [hu, AV.beq_eq _ _ h1]
    · cases h1

/-- A step in front of a trace. -/
theorem Trace.cons {K : Cfg} {O : Orc} {d : DO} {r : List DO} {pd pd' : Pend} {s s1 : St} {ex : Ex} {s' : St} {V : Nat → AV} {E : Nat → Env} {Hp : Nat → Heap} {m : Nat} {v : AV}
    (t : Trace K O r pd' s1 ex s' V E Hp m) (he : s1.env = put s.env d.co.dst v) (hs : StepOK K O d s.env s.h v s1.h)
    (hp : loud d.co = true → ∀ x ∈ pd, x.1 ∈ d.re → evQ K O x.2.1 x.2.2.1 s1.h = some x.2.2.2)
    (hsub : ∀ x ∈ pd, x ∈ pd')
    (hq : ∀ q, d.co.op = .m q → quietM q = true → wanted d.co.gd (keep d.looks s.env) = some true → (d.ix, q, keep d.looks s.env, v) ∈ pd') :
    Trace K O (d :: r) pd s ex s' (shiftN v V) (shiftN s.env E) (shiftN s.h Hp) (m + 1) where
  le := by simpa using t.le
  e0 := rfl
  h0 := rfl
  env := fun k c hk hc => by
    cases k with
    | zero =>
      simp only [List.getElem?_cons_zero, Option.some.injEq] at hc
      subst hc
      simp only [shiftN, t.e0, he]
    | succ k => simp only [shiftN]; exact t.env k c (by omega) (by simpa using hc)
  stp := fun k c hk hc => by
    cases k with
    | zero =>
      simp only [List.getElem?_cons_zero, Option.some.injEq] at hc
      subst hc
      simp only [shiftN, t.h0]; exact hs
    | succ k => simp only [shiftN]; exact t.stp k c (by omega) (by simpa using hc)
  pend := fun k c hk hc hl x hx hi => by
    cases k with
    | zero =>
      simp only [List.getElem?_cons_zero, Option.some.injEq] at hc
      subst hc
      simp only [shiftN, t.h0]; exact hp hl x hx hi
    | succ k => simp only [shiftN]; exact t.pend k c (by omega) (by simpa using hc) hl x (hsub x hx) hi
  again := fun k c q hk hc ho hqt hw j b hkj hj hb hl hi => by
    cases j with
    | zero => omega
    | succ j =>
      cases k with
      | zero =>
        simp only [List.getElem?_cons_zero, Option.some.injEq] at hc
        subst hc
        simp only [shiftN] at hw ⊢
        exact t.pend j b (by omega) (by simpa using hb) hl _ (hq q ho hqt hw) hi
      | succ k => simp only [shiftN] at hw ⊢; exact t.again k c q (by omega) (by simpa using hc) ho hqt hw j b (by omega) (by omega) (by simpa using hb) hl hi
  fin := by
    rcases t.fin with ⟨h1, h2, h3⟩ | ⟨c, q, u, h, h1, h2, h3, h4, h5, h6, h7⟩
    · exact .inl ⟨h1, by simp [h2], h3⟩
    · exact .inr ⟨c, q, u, h, by simpa using h1, h2, h3, h4, h5, h6, h7⟩

theorem evD_trace {K : Cfg} {O : Orc} : ∀ (ds : List DO) (pd : Pend) (s : St) (ex : Ex) (s' : St), evD K O ds pd s = some (ex, s') → ∃ V E Hp m, Trace K O ds pd s ex s' V E Hp m
  | [], pd, s, ex, s', he => by
    simp only [evD, Option.some.injEq, Prod.mk.injEq] at he
    obtain ⟨rfl, rfl⟩ := he
    exact ⟨fun _ => .top, fun _ => s.env, fun _ => s.h, 0, { le := Nat.le_refl 0, e0 := rfl, h0 := rfl, env := fun k _ hk => absurd hk (Nat.not_lt_zero k), stp := fun k _ hk => absurd hk (Nat.not_lt_zero k), pend := fun k _ hk => absurd hk (Nat.not_lt_zero k), again := fun k _ _ hk => absurd hk (Nat.not_lt_zero k), fin := .inl ⟨rfl, rfl, rfl⟩ }⟩
  | d :: r, pd, s, ex, s', he => by
    simp only [evD] at he
    split at he
    · cases he
    · rename_i hw
      split at he
      · cases he
      · rename_i hre
        obtain ⟨V, E, Hp, m, t⟩ := evD_trace r pd _ ex s' he
        refine ⟨_, _, _, _, t.cons rfl (.inl ⟨hw, rfl, rfl⟩) (fun hl x hx hi => ?_) (fun x hx => hx) (fun q _ _ hw' => by rw [hw] at hw'; cases hw')⟩
        cases hrc : recheck K O d.re pd s.h with
        | true => exact recheck_mem hrc hx hi
        | false => exact absurd ⟨hl, hrc⟩ hre
    · rename_i hw
      split at he
      · rename_i q hop
        split at he
        · rename_i v hv
          obtain ⟨V, E, Hp, m, t⟩ := evD_trace r pd _ ex s' he
          exact ⟨_, _, _, _, t.cons rfl (.inr ⟨hw, .inl ⟨q, hop, hv, rfl⟩⟩) (fun hl => by simp [loud, hop] at hl) (fun x hx => hx) (fun q' h1 => by rw [hop] at h1; cases h1)⟩
        · cases he
      · rename_i q hop
        split at he
        · rename_i hqt
          split at he
          · rename_i v hv
            obtain ⟨V, E, Hp, m, t⟩ := evD_trace r _ _ ex s' he
            exact ⟨_, _, _, _, t.cons rfl (.inr ⟨hw, .inr (.inl ⟨q, hop, hqt, hv, rfl⟩)⟩) (fun hl => by simp [loud, hop, hqt] at hl) (fun x hx => List.mem_cons_of_mem _ hx)
              (fun q' h1 _ _ => by rw [hop] at h1; injection h1 with h1; subst h1; exact List.mem_cons_self ..)⟩
          · cases he
        · rename_i hqt
          have hqf : quietM q = false := by simpa using hqt
          split at he
          · rename_i v h hv
            split at he
            · rename_i hrc
              obtain ⟨V, E, Hp, m, t⟩ := evD_trace r pd _ ex s' he
              exact ⟨_, _, _, _, t.cons rfl (.inr ⟨hw, .inr (.inr ⟨q, hop, hqf, hv⟩)⟩) (fun _ x hx hi => recheck_mem hrc hx hi) (fun x hx => hx)
                (fun q' h1 h2 _ => by rw [hop] at h1; injection h1 with h1; subst h1; rw [hqf] at h2; cases h2)⟩
            · cases he
          · rename_i v h hv
            simp only [Option.some.injEq, Prod.mk.injEq] at he
            obtain ⟨rfl, rfl⟩ := he
            exact ⟨fun _ => .top, fun _ => s.env, fun _ => s.h, 0, { le := Nat.zero_le _, e0 := rfl, h0 := rfl, env := fun k _ hk => absurd hk (Nat.not_lt_zero k), stp := fun k _ hk => absurd hk (Nat.not_lt_zero k), pend := fun k _ hk => absurd hk (Nat.not_lt_zero k), again := fun k _ _ hk => absurd hk (Nat.not_lt_zero k), fin := .inr ⟨d, q, v, h, by simp, hw, hop, hqf, hv, rfl, rfl⟩ }⟩
          · cases he
      · cases he

end Go.Ab

/-
  Regions that draw their order: whatever order is drawn.
-/
set_option linter.unusedVariables false
set_option linter.unusedSimpArgs false
namespace Go.Ab
open Go.RowKit
variable {P : Program}

structure Fit (ops : Array Oper) (ds : List DO) : Prop where
  op : ∀ (k : Nat) (d : DO), ds[k]? = some d → ∃ o : Oper, ops[d.ix]? = some o ∧ (∀ e ∈ o.after, Region.binds .any e = true → ∃ (p : Nat) (c : DO), p < k ∧ ds[p]? = some c ∧ c.ix = e.on) ∧
    (∀ i ∈ d.anc, ∃ e ∈ o.after, Region.binds .any e = true ∧ (e.on = i ∨ ∃ (p : Nat) (c : DO), p < k ∧ ds[p]? = some c ∧ c.ix = e.on ∧ i ∈ c.anc))
  pair : ∀ (p q : Nat) (c d : DO), p < q → ds[p]? = some c → ds[q]? = some d → pairOk d c = true

theorem Fit.snoc {ops : Array Oper} {l : List DO} {d : DO} {o : Oper} (h : Fit ops l) (ho : ops[d.ix]? = some o)
    (h1 : ∀ e ∈ o.after, Region.binds .any e = true → ∃ c ∈ l, c.ix = e.on)
    (h2 : ∀ i ∈ d.anc, ∃ e ∈ o.after, Region.binds .any e = true ∧ (e.on = i ∨ ∃ c ∈ l, c.ix = e.on ∧ i ∈ c.anc))
    (h3 : ∀ c ∈ l, pairOk d c = true) : Fit ops (l ++ [d]) := by
  have pos : ∀ c ∈ l, ∃ p, p < l.length ∧ (l ++ [d])[p]? = some c := fun c hc => by
    obtain ⟨p, hp⟩ := List.getElem?_of_mem hc
    have hlt := (List.getElem?_eq_some_iff.1 hp).1
    exact ⟨p, hlt, by rw [List.getElem?_append_left hlt]; exact hp⟩
  refine ⟨fun k c hc => ?_, fun p q c b hpq hc hb => ?_⟩
  · by_cases hk : k < l.length
    · rw [List.getElem?_append_left hk] at hc
      obtain ⟨o', k1, k2, k3⟩ := h.op k c hc
      refine ⟨o', k1, fun e he hb => ?_, fun i hi => ?_⟩
      · obtain ⟨p, c', q1, q2, q3⟩ := k2 e he hb
        exact ⟨p, c', q1, by rw [List.getElem?_append_left (by omega)]; exact q2, q3⟩
      · obtain ⟨e, q1, q2, q3⟩ := k3 i hi
        refine ⟨e, q1, q2, q3.imp id ?_⟩
        rintro ⟨p, c', q1, q2, q3⟩
        exact ⟨p, c', q1, by rw [List.getElem?_append_left (by omega)]; exact q2, q3⟩
    · have hk' : k = l.length := by
        have := (List.getElem?_eq_some_iff.1 hc).1
        simp at this; omega
      subst hk'
      simp at hc
      subst hc
      refine ⟨o, ho, fun e he hb => ?_, fun i hi => ?_⟩
      · obtain ⟨c', q1, q2⟩ := h1 e he hb
        obtain ⟨p, q3, q4⟩ := pos c' q1
        exact ⟨p, c', q3, q4, q2⟩
      · obtain ⟨e, q1, q2, q3⟩ := h2 i hi
        refine ⟨e, q1, q2, q3.imp id ?_⟩
        rintro ⟨c', q1, q2, q3⟩
        obtain ⟨p, q4, q5⟩ := pos c' q1
        exact ⟨p, c', q4, q5, q2, q3⟩
  · by_cases hq : q < l.length
    · rw [List.getElem?_append_left hq] at hb
      rw [List.getElem?_append_left (by omega)] at hc
      exact h.pair p q c b hpq hc hb
    · have hq' : q = l.length := by
        have := (List.getElem?_eq_some_iff.1 hb).1
        simp at this; omega
      subst hq'
      simp at hb
      subst hb
      rw [List.getElem?_append_left hpq] at hc
      exact h3 c (List.mem_of_getElem? hc)

theorem okD_fit {ops : Array Oper} : ∀ (ds seen : List DO), okD ops ds seen = true → Fit ops seen.reverse → Fit ops (seen.reverse ++ ds) ∧ ∀ i, i < ops.size → ∃ d ∈ seen.reverse ++ ds, d.ix = i
  | [], seen, h, hf => by
    simp only [okD, List.all_eq_true, List.mem_range, List.any_eq_true, beq_iff_eq] at h
    refine ⟨by simpa using hf, fun i hi => ?_⟩
    obtain ⟨d, h1, h2⟩ := h i hi
    exact ⟨d, by simpa using h1, h2⟩
  | d :: r, seen, h, hf => by
    simp only [okD] at h
    cases ho : ops[d.ix]? with
    | none => rw [ho] at h; simp at h
    | some o =>
      rw [ho] at h
      simp only [Bool.and_eq_true, List.all_eq_true, List.any_eq_true, Bool.or_eq_true, Bool.not_eq_true', beq_iff_eq, List.contains_iff_mem] at h
      obtain ⟨⟨⟨h1, h2⟩, h3⟩, h4⟩ := h
      have := okD_fit r (d :: seen) h4 (by
        rw [List.reverse_cons]
        refine hf.snoc ho (fun e he hb => ?_) (fun i hi => ?_) (fun c hc => h3 c (by simpa using hc))
        · rcases h1 e (by simpa using he) with h1 | ⟨c, h1, h5⟩
          · rw [hb] at h1; cases h1
          · exact ⟨c, by simpa using h1, h5⟩
        · obtain ⟨e, k1, k2, k3⟩ := h2 i hi
          refine ⟨e, by simpa using k1, k2, k3.imp id ?_⟩
          rintro ⟨c, q1, q2, q3⟩
          exact ⟨c, by simpa using q1, q2, q3⟩)
      simpa using this

theorem pairOk_ix {d c : DO} (h : pairOk d c = true) : c.ix ≠ d.ix := by
  simp only [pairOk, Bool.and_eq_true, bne_iff_ne, ne_eq] at h
  exact h.1.1
theorem pairOk_dst {d c : DO} (h : pairOk d c = true) {t : Nat} (h1 : c.co.dst = some t) : d.co.dst ≠ some t := fun h2 => by
  simp only [pairOk, Bool.and_eq_true, h1, h2, bne_iff_ne, ne_eq] at h
  exact h.2 trivial
theorem pairOk_looks {d c : DO} (h : pairOk d c = true) {t : Nat} (h1 : c.co.dst = some t) (h2 : t ∈ d.looks) : c.ix ∈ d.anc := by
  simp only [pairOk, Bool.and_eq_true, Bool.or_eq_true, h1, List.contains_iff_mem] at h
  rcases h.1.2 with h | h
  · exact h
  · have := h.1.1.1
    simp [h2] at this
theorem pairOk_looked {d c : DO} (h : pairOk d c = true) {t : Nat} (h1 : d.co.dst = some t) (h2 : t ∈ c.looks) : c.ix ∈ d.anc := by
  simp only [pairOk, Bool.and_eq_true, Bool.or_eq_true, h1, List.contains_iff_mem] at h
  rcases h.1.2 with h | h
  · exact h
  · have := h.1.1.2
    simp [h2] at this
theorem pairOk_loud {d c : DO} (h : pairOk d c = true) (h1 : loud c.co = true) : c.ix ∈ d.anc := by
  simp only [pairOk, Bool.and_eq_true, Bool.or_eq_true, List.contains_iff_mem] at h
  rcases h.1.2 with h | h
  · exact h
  · have := h.1.2
    simp [h1] at this
theorem pairOk_re {d c : DO} (h : pairOk d c = true) (h1 : loud d.co = true) (h2 : quietC c.co = true) (h3 : c.ix ∉ d.anc) : c.ix ∈ d.re := by
  simp only [pairOk, Bool.and_eq_true, Bool.or_eq_true, List.contains_iff_mem] at h
  rcases h.1.2 with h | h
  · exact absurd h h3
  · have := h.2
    simpa [h1, h2] using this

theorem anc_closed {ops : Array Oper} {ds : List DO} (fit : Fit ops ds) {D : Nat → Prop} (clo : ∀ (j : Nat) (o : Oper), ops[j]? = some o → D j → ∀ e ∈ o.after, Region.binds .any e = true → D e.on) :
    ∀ (k : Nat) (d : DO), ds[k]? = some d → D d.ix → ∀ i ∈ d.anc, D i := by
  intro k
  induction k using Nat.strongRecOn with
  | ind k ih =>
    intro d hd hD i hi
    obtain ⟨o, ho, _, h2⟩ := fit.op k d hd
    obtain ⟨e, he, hb, h3⟩ := h2 i hi
    have hon := clo _ o ho hD e he hb
    rcases h3 with rfl | ⟨p, c, h4, h5, h6, h7⟩
    · exact hon
    · exact ih p h4 c h5 (h6 ▸ hon) i h7

section
variable {K : Cfg} {O : Orc} {ds : List DO} {st : St} {ex : Ex} {st' : St} {V : Nat → AV} {E : Nat → Env} {Hp : Nat → Heap} {m : Nat} {ops : Array Oper}

theorem Trace.write (T : Trace K O ds [] st ex st' V E Hp m) (fit : Fit ops ds) {p : Nat} {c : DO} (hc : ds[p]? = some c) {t : Nat} (ht : c.co.dst = some t) : ∀ k, p < k → k ≤ m → get (E k) t = V p
  | 0, h, _ => by omega
  | k + 1, h, hk => by
    have hlt : k < ds.length := by have := T.le; omega
    obtain ⟨d, hd⟩ : ∃ d, ds[k]? = some d := ⟨ds[k], List.getElem?_eq_getElem hlt⟩
    rw [T.env k d (by omega) hd]
    by_cases hpk : p = k
    · subst hpk
      rw [hc] at hd
      injection hd with hd
      subst hd
      simp only [put, ht, get_set, if_true]
    · have hne := pairOk_dst (fit.pair p k c d (by omega) hc hd) ht
      have := T.write fit hc ht k (by omega) (by omega)
      cases hdd : d.co.dst with
      | none => simpa [put] using this
      | some u =>
        simp only [put, get_set]
        rw [if_neg (fun e => hne (by rw [hdd, e]))]
        exact this
theorem Trace.still (T : Trace K O ds [] st ex st' V E Hp m) {t : Nat} : ∀ k, k ≤ m → (∀ (p : Nat) (c : DO), p < k → ds[p]? = some c → c.co.dst ≠ some t) → get (E k) t = get st.env t
  | 0, _, _ => by rw [T.e0]
  | k + 1, hk, h => by
    have hlt : k < ds.length := by have := T.le; omega
    obtain ⟨d, hd⟩ : ∃ d, ds[k]? = some d := ⟨ds[k], List.getElem?_eq_getElem hlt⟩
    rw [T.env k d (by omega) hd]
    have hne := h k d (by omega) hd
    have := T.still k (by omega) fun p c hp hc => h p c (by omega) hc
    cases hdd : d.co.dst with
    | none => simpa [put] using this
    | some u =>
      simp only [put, get_set]
      rw [if_neg (fun e => hne (by rw [hdd, e]))]
      exact this
theorem StepOK.heap {d : DO} {e : Env} {h h' : Heap} {v : AV} (s : StepOK K O d e h v h') (hl : loud d.co = false) : h' = h := by
  rcases s with ⟨_, _, h1⟩ | ⟨_, ⟨q, _, _, h1⟩ | ⟨q, _, _, _, h1⟩ | ⟨q, h1, h2, _⟩⟩
  · exact h1
  · exact h1
  · exact h1
  · simp [loud, h1, h2] at hl
theorem Trace.heap (T : Trace K O ds [] st ex st' V E Hp m) {k : Nat} : ∀ j, k ≤ j → j ≤ m → (∀ (i : Nat) (d : DO), k ≤ i → i < j → ds[i]? = some d → loud d.co = false) → Hp j = Hp k
  | 0, h, _, _ => by rw [show k = 0 by omega]
  | j + 1, h, hm, hl => by
    by_cases hk : k = j + 1
    · rw [hk]
    · have hlt : j < ds.length := by have := T.le; omega
      obtain ⟨d, hd⟩ : ∃ d, ds[j]? = some d := ⟨ds[j], List.getElem?_eq_getElem hlt⟩
      rw [(T.stp j d (by omega) hd).heap (hl j d (by omega) (by omega) hd)]
      exact T.heap j (by omega) (by omega) fun i d h1 h2 => hl i d h1 (by omega)
/-- A quiet operation, asked later. -/
theorem Trace.later (T : Trace K O ds [] st ex st' V E Hp m) {k : Nat} {d : DO} {q : MOp} (hd : ds[k]? = some d) (hkm : k < m) (ho : d.co.op = .m q) (hq : quietM q = true)
    (hw : wanted d.co.gd (keep d.looks (E k)) = some true) : ∀ j, k ≤ j → j ≤ m → (∀ (i : Nat) (c : DO), k < i → i < j → ds[i]? = some c → loud c.co = true → d.ix ∈ c.re) → evQ K O q (keep d.looks (E k)) (Hp j) = some (V k)
  | 0, h, hm, hl => by
    have hk0 : k = 0 := by omega
    subst hk0
    rcases T.stp 0 d hkm hd with ⟨h1, _, _⟩ | ⟨_, ⟨q', h1, _, _⟩ | ⟨q', h1, _, h3, _⟩ | ⟨q', h1, h2, _⟩⟩
    · rw [hw] at h1; cases h1
    · rw [ho] at h1; cases h1
    · rw [ho] at h1; injection h1 with h1; subst h1; exact h3
    · rw [ho] at h1; injection h1 with h1; subst h1; rw [hq] at h2; cases h2
  | j + 1, h, hm, hl => by
    by_cases hk : k = j + 1
    · subst hk
      rcases T.stp _ d hkm hd with ⟨h1, _, _⟩ | ⟨_, ⟨q', h1, _, _⟩ | ⟨q', h1, _, h3, _⟩ | ⟨q', h1, h2, _⟩⟩
      · rw [hw] at h1; cases h1
      · rw [ho] at h1; cases h1
      · rw [ho] at h1; injection h1 with h1; subst h1; exact h3
      · rw [ho] at h1; injection h1 with h1; subst h1; rw [hq] at h2; cases h2
    · have hlt : j < ds.length := by have := T.le; omega
      obtain ⟨c, hc⟩ : ∃ c, ds[j]? = some c := ⟨ds[j], List.getElem?_eq_getElem hlt⟩
      by_cases hlo : loud c.co = true
      · by_cases hkj : k = j
        · subst hkj
          rw [hd] at hc
          injection hc with hc
          subst hc
          simp [loud, ho, hq] at hlo
        · exact T.again k d q hkm hd ho hq hw j c (by omega) (by omega) hc hlo (hl j c (by omega) (by omega) hc hlo)
      · rw [(T.stp j c (by omega) hc).heap (by simpa using hlo)]
        exact T.later hd hkm ho hq hw j (by omega) (by omega) fun i c h1 h2 => hl i c h1 (by omega)
end

end Go.Ab

/-
  Regions that draw their order: the walk of any order.
-/
set_option linter.unusedVariables false
set_option linter.unusedSimpArgs false
namespace Go.Ab
open Go.RowKit
variable {P : Program}

theorem keep_get' (live : List Nat) (e : Env) (t : Nat) : get (keep live e) t = if t ∈ live then get e t else .top := by
  unfold keep
  induction live with
  | nil => simp [get]
  | cons u r ih =>
    simp only [List.map_cons, get, ih, List.mem_cons]
    by_cases h : u = t
    · subst h; simp
    · rw [if_neg h]
      have : ¬ t = u := fun e => h e.symm
      simp [this]

def listedOf (listed : Array Bool) (i : Nat) : Prop := listed.getD i false = true
theorem listed_set {listed : Array Bool} {i j : Nat} (h : i < listed.size) : listedOf (listed.setIfInBounds i true) j ↔ j = i ∨ listedOf listed j := by
  unfold listedOf
  by_cases hij : i = j
  · subst hij; simp [h]
  · rw [getD_set_ne false hij]
    exact ⟨.inr, fun h => h.resolve_left (fun e => hij e.symm)⟩

structure Inv (N : Nat) (D : List Deferred) (w0 : World) (G0 : Gm) (h0 : Heap) (ops : Array Oper) (ds : List DO) (st : St) (V : Nat → AV) (Hp : Nat → Heap) (m : Nat) (listed : Array Bool) (a : Act) (w : World) (G : Gm) (kh : Nat) : Prop where
  size : listed.size = ops.size
  clo : ∀ (j : Nat) (o : Oper), ops[j]? = some o → listedOf listed j → ∀ e ∈ o.after, Region.binds .any e = true → listedOf listed e.on
  lt : ∀ (k : Nat) (d : DO), ds[k]? = some d → listedOf listed d.ix → k < m
  tm : a.tmps.size = N
  df : a.defers = D
  le : kh ≤ m
  sim : Sim w G (Hp kh)
  goes : Goes w0 G0 h0 w G (Hp kh)
  ne : Hp kh ≠ []
  ld : ∀ (k : Nat) (d : DO), ds[k]? = some d → loud d.co = true → (listedOf listed d.ix ↔ k < kh)
  wr : ∀ (k : Nat) (d : DO) (t : Nat), ds[k]? = some d → d.co.dst = some t → listedOf listed d.ix → VRel w G (dom (Hp kh)) (V k) (a.tmps.getD t undef)
  st : ∀ (t : Nat), (∀ (k : Nat) (d : DO), ds[k]? = some d → d.co.dst = some t → ¬ listedOf listed d.ix) → VRel w G (dom (Hp kh)) (get st.env t) (a.tmps.getD t undef)

section
variable {N : Nat} {D : List Deferred} {w0 : World} {G0 : Gm} {h0 : Heap} {K : Cfg} {O : Orc} {ds : List DO} {st : St} {ex : Ex} {st' : St} {V : Nat → AV} {E : Nat → Env} {Hp : Nat → Heap} {m : Nat} {ops : Array Oper}
  {listed : Array Bool} {a : Act} {w : World} {G : Gm} {kh : Nat}

/-- Operation k may come up. -/
structure Up (ops : Array Oper) (listed : Array Bool) (d : DO) (o : Oper) : Prop where
  op : ops[d.ix]? = some o
  un : ¬ listedOf listed d.ix
  on : ∀ e ∈ o.after, Region.binds .any e = true → listedOf listed e.on

theorem Up.anc (fit : Fit ops ds) (I : Inv N D w0 G0 h0 ops ds st V Hp m listed a w G kh) {k : Nat} {d : DO} {o : Oper} (hd : ds[k]? = some d) (u : Up ops listed d o) : ∀ i ∈ d.anc, listedOf listed i := fun i hi => by
  obtain ⟨o', ho, _, h2⟩ := fit.op k d hd
  rw [u.op] at ho
  injection ho with ho
  subst ho
  obtain ⟨e, he, hb, h3⟩ := h2 i hi
  have hon := u.on e he hb
  rcases h3 with rfl | ⟨p, c, _, h5, h6, h7⟩
  · exact hon
  · exact anc_closed fit I.clo p c h5 (h6 ▸ hon) i h7
theorem Up.later (fit : Fit ops ds) (I : Inv N D w0 G0 h0 ops ds st V Hp m listed a w G kh) {k : Nat} {d : DO} {o : Oper} (hd : ds[k]? = some d) (u : Up ops listed d o) {j : Nat} {c : DO} (hc : ds[j]? = some c) (hl : listedOf listed c.ix) : d.ix ∉ c.anc :=
  fun h => u.un (anc_closed fit I.clo j c hc hl _ h)

theorem Inv.env (fit : Fit ops ds) (T : Trace K O ds [] st ex st' V E Hp m) (I : Inv N D w0 G0 h0 ops ds st V Hp m listed a w G kh) {k : Nat} {d : DO} {o : Oper} (hd : ds[k]? = some d) (hk : k ≤ m) (u : Up ops listed d o) :
    EnvRel w G (dom (Hp kh)) (keep d.looks (E k)) a := fun t => by
  rw [keep_get']
  split
  · rename_i ht
    by_cases hw : ∃ (p : Nat) (c : DO), p < k ∧ ds[p]? = some c ∧ c.co.dst = some t
    · obtain ⟨p, c, hp, hc, hct⟩ := hw
      rw [T.write fit hc hct k hp hk]
      exact I.wr p c t hc hct (u.anc fit I hd _ (pairOk_looks (fit.pair p k c d hp hc hd) hct ht))
    · have hno : ∀ (p : Nat) (c : DO), p < k → ds[p]? = some c → c.co.dst ≠ some t := fun p c h1 h2 h3 => hw ⟨p, c, h1, h2, h3⟩
      rw [T.still k hk hno]
      refine I.st t fun k' d' h1 h2 h3 => ?_
      rcases Nat.lt_trichotomy k' k with h | h | h
      · exact hno k' d' h h1 h2
      · subst h
        rw [hd] at h1
        injection h1 with h1
        subst h1
        exact u.un h3
      · exact u.later fit I hd h1 h3 (pairOk_looked (fit.pair k k' d d' h hd h1) h2 ht)
  · exact .top _ _

/-- Where a loud operation may come up, the memory is its own. -/
theorem Inv.loudAt (fit : Fit ops ds) (T : Trace K O ds [] st ex st' V E Hp m) (I : Inv N D w0 G0 h0 ops ds st V Hp m listed a w G kh) {k : Nat} {d : DO} {o : Oper} (hd : ds[k]? = some d) (hk : k ≤ m) (u : Up ops listed d o) (hl : loud d.co = true) :
    kh ≤ k ∧ Hp k = Hp kh := by
  have h1 : kh ≤ k := by
    rcases Nat.lt_or_ge k kh with h | h
    · exact absurd ((I.ld k d hd hl).2 h) u.un
    · exact h
  refine ⟨h1, T.heap k h1 hk fun i c h2 h3 hc => ?_⟩
  by_cases hlc : loud c.co = true
  · have := u.anc fit I hd _ (pairOk_loud (fit.pair i k c d h3 hc hd) hlc)
    have := (I.ld i c hc hlc).1 this
    omega
  · simpa using hlc

/-- The next state. -/
theorem Inv.next (fit : Fit ops ds) (I : Inv N D w0 G0 h0 ops ds st V Hp m listed a w G kh) {k : Nat} {d : DO} {o : Oper} (hd : ds[k]? = some d) (hk : k < m) (u : Up ops listed d o) (hdst : d.co.dst = o.dst) (hin : inN N o.dst = true)
    {kh' : Nat} {x : Value} {w' : World} {G' : Gm} (hle : kh' ≤ m) (s' : Sim w' G' (Hp kh')) (g' : Goes w G (Hp kh) w' G' (Hp kh')) (hv : VRel w' G' (dom (Hp kh')) (V k) x)
    (hld : ∀ (j : Nat) (c : DO), ds[j]? = some c → loud c.co = true → (c.ix = d.ix ∨ listedOf listed c.ix ↔ j < kh')) :
    Inv N D w0 G0 h0 ops ds st V Hp m (listed.setIfInBounds d.ix true) (a.put o.dst x) w' G' kh' := by
  have hix : d.ix < listed.size := by rw [I.size]; exact (Array.getElem?_eq_some_iff.1 u.op).1
  have uniq : ∀ (j : Nat) (c : DO), ds[j]? = some c → c.ix = d.ix → j = k := fun j c hc he => by
    rcases Nat.lt_trichotomy j k with h | h | h
    · exact absurd he (pairOk_ix (fit.pair j k c d h hc hd))
    · exact h
    · exact absurd he.symm (pairOk_ix (fit.pair k j d c h hd hc))
  have slot : ∀ t, (a.put o.dst x).tmps.getD t undef = if o.dst = some t then x else a.tmps.getD t undef := fun t => by
    cases hdd : o.dst with
    | none => simp [Act.put]
    | some t' =>
      by_cases ht : t' = t
      · subst ht
        rw [hdd] at hin
        simp only [inN, decide_eq_true_eq] at hin
        have : t' < a.tmps.size := by rw [I.tm]; exact hin
        simp [Act.put, this]
      · have : ¬ (some t' = some t) := fun e => ht (by injection e)
        rw [if_neg this]
        simp [Act.put, Array.getD_eq_getD_getElem?, Array.getElem?_setIfInBounds_ne ht]
  refine { size := by simp [I.size], clo := ?_, lt := ?_, tm := by rw [put_size]; exact I.tm, df := by rw [put_defers]; exact I.df, le := hle, sim := s', goes := I.goes.trans g', ne := ?_, ld := ?_, wr := ?_, st := ?_ }
  · intro j oj hj hl e he hb
    rw [listed_set hix] at hl ⊢
    rcases hl with rfl | hl
    · rw [u.op] at hj
      injection hj with hj
      subst hj
      exact .inr (u.on e he hb)
    · exact .inr (I.clo j oj hj hl e he hb)
  · intro j c hc hl
    rw [listed_set hix] at hl
    rcases hl with hl | hl
    · rw [uniq j c hc hl]; exact hk
    · exact I.lt j c hc hl
  · intro e0
    have := g'.depth
    rw [e0] at this
    have hne := I.ne
    cases hs : Hp kh <;> simp_all
  · intro j c hc hl
    rw [listed_set hix]
    exact hld j c hc hl
  · intro j c t hc ht hl
    rw [listed_set hix] at hl
    rw [slot]
    rcases hl with hl | hl
    · have hjk := uniq j c hc hl
      subst hjk
      rw [hd] at hc
      injection hc with hc
      subst hc
      rw [if_pos (by rw [← hdst]; exact ht)]
      exact hv
    · have hjk : j ≠ k := fun e => by subst e; rw [hd] at hc; injection hc with hc; subst hc; exact u.un hl
      have hne : o.dst ≠ some t := by
        rw [← hdst]
        rcases Nat.lt_or_gt_of_ne hjk with h | h
        · exact pairOk_dst (fit.pair j k c d h hc hd) ht
        · intro e; exact pairOk_dst (fit.pair k j d c h hd hc) e ht
      rw [if_neg hne]
      exact (I.wr j c t hc ht hl).along g'
  · intro t ht
    have hne : o.dst ≠ some t := fun e => ht k d hd (by rw [hdst]; exact e) ((listed_set hix).2 (.inl rfl))
    rw [slot, if_neg hne]
    exact (I.st t fun j c hc hct hl => ht j c hc hct ((listed_set hix).2 (.inr hl))).along g'

/-- The loud ones, behind an operation that is not loud. -/
theorem Inv.ld_same (fit : Fit ops ds) (I : Inv N D w0 G0 h0 ops ds st V Hp m listed a w G kh) {k : Nat} {d : DO} (hd : ds[k]? = some d) (hl : loud d.co = false) :
    ∀ (j : Nat) (c : DO), ds[j]? = some c → loud c.co = true → (c.ix = d.ix ∨ listedOf listed c.ix ↔ j < kh) := fun j c hc hlc => by
  have hne : c.ix ≠ d.ix := fun e => by
    rcases Nat.lt_trichotomy j k with h | h | h
    · exact pairOk_ix (fit.pair j k c d h hc hd) e
    · subst h; rw [hd] at hc; injection hc with hc; subst hc; rw [hl] at hlc; cases hlc
    · exact pairOk_ix (fit.pair k j d c h hd hc) e.symm
  rw [← I.ld j c hc hlc]
  exact ⟨fun h => h.resolve_left hne, .inr⟩
theorem Inv.ld_loud (fit : Fit ops ds) (I : Inv N D w0 G0 h0 ops ds st V Hp m listed a w G kh) {k : Nat} {d : DO} {o : Oper} (hd : ds[k]? = some d) (u : Up ops listed d o) (hl : loud d.co = true) :
    ∀ (j : Nat) (c : DO), ds[j]? = some c → loud c.co = true → (c.ix = d.ix ∨ listedOf listed c.ix ↔ j < k + 1) := fun j c hc hlc => by
  rcases Nat.lt_trichotomy j k with h | h | h
  · exact ⟨fun _ => by omega, fun _ => .inr (u.anc fit I hd _ (pairOk_loud (fit.pair j k c d h hc hd) hlc))⟩
  · subst h
    rw [hd] at hc
    injection hc with hc
    subst hc
    exact ⟨fun _ => by omega, fun _ => .inl rfl⟩
  · refine ⟨fun h1 => ?_, fun h1 => by omega⟩
    rcases h1 with h1 | h1
    · exact absurd h1.symm (pairOk_ix (fit.pair k j d c h hd hc))
    · exact absurd (pairOk_loud (fit.pair k j d c h hd hc) hl) (u.later fit I hd hc h1)

/-- All have come up. -/
theorem Inv.done (fit : Fit ops ds) (T : Trace K O ds [] st ex st' V E Hp m) (I : Inv N D w0 G0 h0 ops ds st V Hp m listed a w G kh) (hr : Region.ready .any ops listed = []) : Post N D w0 G0 h0 ex st' .normal a w := by
  have all : ∀ (k : Nat) (d : DO), ds[k]? = some d → listedOf listed d.ix := fun k => by
    induction k using Nat.strongRecOn with
    | ind k ih =>
      intro d hd
      by_cases h : listedOf listed d.ix
      · exact h
      · obtain ⟨o, ho, h1, _⟩ := fit.op k d hd
        have hlt : d.ix < listed.size := by rw [I.size]; exact (Array.getElem?_eq_some_iff.1 ho).1
        have : d.ix ∈ Region.ready .any ops listed := mem_ready.2 ⟨by unfold listedOf at h; simpa [Array.getD, hlt] using h, o, ho, fun e he hb => by
          obtain ⟨p, c, hp, hc, hce⟩ := h1 e he hb
          have := ih p hp c hc
          rw [hce] at this
          exact this⟩
        rw [hr] at this
        cases this
  rcases T.fin with ⟨rfl, hm, rfl⟩ | ⟨d, q, v, h, hd, _⟩
  · have hh : Hp m = Hp kh := T.heap m I.le (Nat.le_refl m) fun i c h1 h2 hc => by
      by_cases hlc : loud c.co = true
      · have := (I.ld i c hc hlc).1 (all i c hc)
        omega
      · simpa using hlc
    refine ⟨G, by rw [hh]; exact I.sim, by simp only [hh]; exact I.goes, fun t => ?_, I.tm, I.df, rfl⟩
    simp only [hh]
    by_cases hw : ∃ (p : Nat) (c : DO), p < m ∧ ds[p]? = some c ∧ c.co.dst = some t
    · obtain ⟨p, c, hp, hc, hct⟩ := hw
      rw [T.write fit hc hct m hp (Nat.le_refl m)]
      exact I.wr p c t hc hct (all p c hc)
    · rw [T.still m (Nat.le_refl m) fun p c h1 h2 h3 => hw ⟨p, c, h1, h2, h3⟩]
      exact I.st t fun k d h1 h2 h3 => hw ⟨k, d, I.lt k d h1 h3, h1, h2⟩
  · exact absurd (I.lt m d hd (all m d hd)) (Nat.lt_irrefl m)

theorem Inv.step (fit : Fit ops ds) {H : Hints} {f : FuncId} (hO : FnSound P O) (hco : ∀ (k : Nat) (d : DO) (o : Oper), ds[k]? = some d → ops[d.ix]? = some o → d.co = cOper P H f N ops o)
    (T : Trace K O ds [] st ex st' V E Hp m) (I : Inv N D w0 G0 h0 ops ds st V Hp m listed a w G kh) {i : Nat} (hi : i ∈ Region.ready .any ops listed) {Kp : Act → World → Prop}
    (k : ∀ a' w' G' kh', Inv N D w0 G0 h0 ops ds st V Hp m (listed.setIfInBounds i true) a' w' G' kh' → Kp a' w')
    (cover : ∀ i, i < ops.size → ∃ d ∈ ds, d.ix = i) : wpOp P ops (Post N D w0 G0 h0 ex st') i Kp a w := by
  obtain ⟨hun, o, ho, hon⟩ := mem_ready.1 hi
  have hlt : i < listed.size := by rw [I.size]; exact (Array.getElem?_eq_some_iff.1 ho).1
  obtain ⟨d, hdm, hdi⟩ := cover i (by rw [← I.size]; exact hlt)
  obtain ⟨p, hd⟩ := List.getElem?_of_mem hdm
  subst hdi
  have u : Up ops listed d o := ⟨ho, (fun h => by unfold listedOf at h; simp [Array.getD, hlt] at h hun; rw [h] at hun; cases hun), hon⟩
  have hc := hco p d o hd ho
  have hdst : d.co.dst = o.dst := by rw [hc]; unfold cOper; split <;> (try split) <;> rfl
  -- the operation stands before the end
  have hpm : p ≤ m := by
    rcases T.fin with ⟨_, hm, _⟩ | ⟨c, q, v, h, hcm, _, hop, hq, _⟩
    · rw [hm]; exact Nat.le_of_lt (List.getElem?_eq_some_iff.1 hd).1
    · rcases Nat.lt_or_ge m p with h1 | h1
      · have := u.anc fit I hd _ (pairOk_loud (fit.pair m p c d h1 hcm hd) (by simp [loud, hop, hq]))
        exact absurd (I.lt m c hcm this) (Nat.lt_irrefl m)
      · exact h1
  have r := I.env fit T hd hpm u
  -- its shape
  have shape : d.co.op ≠ .bad → ∃ gd, cGuard ops o.guard = some gd ∧ inN N o.dst = true ∧ d.co = { dst := o.dst, gd := gd, op := cOp P H f o } := fun hb => by
    rw [hc] at hb ⊢
    unfold cOper at hb ⊢
    split at hb
    · exact absurd rfl hb
    · rename_i gd hgd
      split at hb
      · rename_i hin
        simp only [hgd, hin, if_true]
        exact ⟨gd, rfl, trivial, rfl⟩
      · exact absurd rfl hb
  have shape' : d.co.gd ≠ none → ∃ gd, cGuard ops o.guard = some gd ∧ inN N o.dst = true ∧ d.co = { dst := o.dst, gd := gd, op := cOp P H f o } := fun hb => by
    rw [hc] at hb ⊢
    unfold cOper at hb ⊢
    split at hb
    · exact absurd rfl hb
    · rename_i gd hgd
      split at hb
      · rename_i hin
        simp only [hgd, hin, if_true]
        exact ⟨gd, rfl, trivial, rfl⟩
      · exact absurd rfl hb
  unfold wpOp
  simp only [ho]
  rcases Nat.lt_or_ge p m with hp | hp
  · rcases T.stp p d hp hd with ⟨hw, hV, hH⟩ | ⟨hw, hS⟩
    · -- passed over
      have hg : d.co.gd ≠ none := fun e => by rw [e] at hw; simp [wanted] at hw
      obtain ⟨gd, hgd, hin, hco'⟩ := shape' hg
      rw [hco'] at hw
      have hwt := wanted_ok r hgd hw
      rw [if_neg (by rw [hwt]; simp)]
      have hv : ∀ {w' : World} {G' : Gm} {L : Loc → Prop}, VRel w' G' L (V p) undef := by intro w' G' L; rw [hV]; exact .tup _ _ _ rfl fun i hi => by simp at hi
      by_cases hl : loud d.co = true
      · obtain ⟨h1, h2⟩ := I.loudAt fit T hd hpm u hl
        have hH' : Hp (p + 1) = Hp kh := hH.trans h2
        exact k _ _ _ _ (I.next fit hd hp u hdst hin (kh' := p + 1) (by omega) (by rw [hH']; exact I.sim) (by rw [hH']; exact Goes.refl _ _ _) hv (I.ld_loud fit hd u hl))
      · exact k _ _ _ _ (I.next fit hd hp u hdst hin I.le I.sim (Goes.refl _ _ _) hv (I.ld_same fit hd (by simpa using hl)))
    · have hb : d.co.op ≠ .bad := fun e => by rcases hS with ⟨q, h1, _⟩ | ⟨q, h1, _⟩ | ⟨q, h1, _⟩ <;> rw [e] at h1 <;> cases h1
      obtain ⟨gd, hgd, hin, hco'⟩ := shape hb
      have hop' : d.co.op = cOp P H f o := by rw [hco']
      have hw' := hw
      rw [hco'] at hw'
      have hwt := wanted_ok r hgd hw'
      rw [if_pos hwt]
      refine .inl ?_
      rcases hS with ⟨q, h1, h2, h3⟩ | ⟨q, h1, h2, h3, h4⟩ | ⟨q, h1, h2, h3⟩
      · rw [hop'] at h1
        refine op_pure h1 r h2 fun x hx => ?_
        exact k _ _ _ _ (I.next fit hd hp u hdst hin I.le I.sim (Goes.refl _ _ _) hx (I.ld_same fit hd (by simp [loud, hop', h1])))
      · have hlf : loud d.co = false := by simp [loud, h1, h2]
        have hq : evQ K O q (keep d.looks (E p)) (Hp kh) = some (V p) := by
          rcases Nat.lt_or_ge kh p with hlt' | hge
          · have hh : Hp p = Hp kh := T.heap p (by omega) hpm fun j c e1 e2 hc => by
              by_cases hlc : loud c.co = true
              · have := u.anc fit I hd _ (pairOk_loud (fit.pair j p c d e2 hc hd) hlc)
                have := (I.ld j c hc hlc).1 this
                omega
              · simpa using hlc
            rw [← hh]
            exact T.later hd hp h1 h2 hw p (Nat.le_refl p) hpm fun j c e1 e2 => by omega
          · refine T.later hd hp h1 h2 hw kh hge I.le fun j c e1 e2 hc hlc => ?_
            exact pairOk_re (fit.pair p j d c e1 hd hc) hlc (by simp [quietC, h1, h2]) (u.later fit I hd hc ((I.ld j c hc hlc).2 e2))
        rw [hop'] at h1
        refine op_val hO h1 I.sim I.ne r (evQ_evM hq) fun x w' G' s' g' hx => ?_
        exact k _ _ _ _ (I.next fit hd hp u hdst hin I.le s' g' hx (I.ld_same fit hd hlf))
      · have hl : loud d.co = true := by simp [loud, h1, h2]
        obtain ⟨e1, e2⟩ := I.loudAt fit T hd hpm u hl
        rw [hop'] at h1
        rw [e2] at h3
        refine op_val hO h1 I.sim I.ne r h3 fun x w' G' s' g' hx => ?_
        exact k _ _ _ _ (I.next fit hd hp u hdst hin (kh' := p + 1) (by omega) s' g' hx (I.ld_loud fit hd u hl))
  · have hpe : p = m := by omega
    subst hpe
    rcases T.fin with ⟨_, hm, _⟩ | ⟨c, q, v, h, hcm, hw, hop, hq, hev, rfl, rfl⟩
    · have := (List.getElem?_eq_some_iff.1 hd).1
      omega
    · rw [hd] at hcm
      injection hcm with hcm
      subst hcm
      have hb : d.co.op ≠ .bad := fun e => by rw [e] at hop; cases hop
      obtain ⟨gd, hgd, hin, hco'⟩ := shape hb
      have hop' : d.co.op = cOp P H f o := by rw [hco']
      have hw' := hw
      rw [hco'] at hw'
      have hwt := wanted_ok r hgd hw'
      rw [if_pos hwt]
      refine .inl ?_
      have hl : loud d.co = true := by simp [loud, hop, hq]
      obtain ⟨e1, e2⟩ := I.loudAt fit T hd hpm u hl
      rw [hop'] at hop
      rw [e2] at hev
      refine op_pan hO hop I.sim r hev fun x w' G' s' g' hx => ?_
      exact ⟨G', s', I.goes.trans g', fun t => .top _ _, I.tm, I.df, x, rfl, hx⟩

theorem count_set : ∀ (l : List Bool) (i : Nat), l[i]? = some false → (l.set i true).count false + 1 = l.count false
  | [], i, h => by simp at h
  | b :: l, 0, h => by
    simp only [List.getElem?_cons_zero, Option.some.injEq] at h
    subst h
    simp
  | b :: l, i + 1, h => by
    have := count_set l i (by simpa using h)
    simp only [List.set_cons_succ, List.count_cons]
    omega

theorem draw_any (fit : Fit ops ds) {H : Hints} {f : FuncId} (hO : FnSound P O) (hco : ∀ (k : Nat) (d : DO) (o : Oper), ds[k]? = some d → ops[d.ix]? = some o → d.co = cOper P H f N ops o)
    (T : Trace K O ds [] st ex st' V E Hp m) (cover : ∀ i, i < ops.size → ∃ d ∈ ds, d.ix = i) : ∀ (fuel : Nat) (listed : Array Bool) (a : Act) (w : World) (G : Gm) (kh : Nat),
    Inv N D w0 G0 h0 ops ds st V Hp m listed a w G kh → listed.toList.count false ≤ fuel → wpAny P .any ops (Post N D w0 G0 h0 ex st') fuel listed a w
  | 0, listed, a, w, G, kh, I, hc => by
    have hr : Region.ready .any ops listed = [] := by
      refine List.eq_nil_iff_forall_not_mem.2 fun i hi => ?_
      obtain ⟨hun, o, ho, _⟩ := mem_ready.1 hi
      have hlt : i < listed.size := by rw [I.size]; exact (Array.getElem?_eq_some_iff.1 ho).1
      have : false ∈ listed.toList := by
        have e : listed[i]'hlt = false := by simpa [Array.getD, hlt] using hun
        rw [← e]; simp
      have := List.count_pos_iff.2 this
      omega
    exact ⟨hr, I.done fit T hr⟩
  | fuel + 1, listed, a, w, G, kh, I, hc => by
    refine ⟨fun hr => I.done fit T hr, fun i hi => ?_⟩
    refine I.step fit hO hco T hi (fun a' w' G' kh' I' => draw_any fit hO hco T cover fuel _ a' w' G' kh' I' ?_) cover
    obtain ⟨hun, o, ho, _⟩ := mem_ready.1 hi
    have hlt : i < listed.size := by rw [I.size]; exact (Array.getElem?_eq_some_iff.1 ho).1
    have e : listed[i]'hlt = false := by simpa [Array.getD, hlt] using hun
    have := count_set listed.toList i (by rw [Array.getElem?_toList, Array.getElem?_eq_getElem hlt, e])
    rw [Array.toList_setIfInBounds]
    omega

end

theorem draw_ok {O : Orc} (hO : FnSound P O) {H : Hints} {f : FuncId} {N : Nat} {D : List Deferred} {K : Cfg} {id : Nat} {ops : Array Oper} {hs : List (Nat × List Nat × List Nat)} {st : St} {ex : Ex} {st' : St}
    (he : evC K O (cDraw P H f N ops hs) st = some (ex, st')) {w0 : World} {G0 : Gm} {h0 : Heap} {w : World} {G : Gm} {a : Act} (g : Goes w0 G0 h0 w G st.h) (s : Sim w G st.h) (hn : st.h ≠ []) (r : EnvRel w G (dom st.h) st.env a)
    (hN : a.tmps.size = N) (hd : a.defers = D) : (Code.region id ops true).wp P (Post N D w0 G0 h0 ex st') a w := by
  unfold cDraw at he
  split at he
  · rename_i hok
    obtain ⟨hmx, hok⟩ := hok
    simp only [evC] at he
    obtain ⟨fit, cover⟩ := okD_fit _ _ hok ⟨fun k d h => by simp at h, fun p q c d _ h => by simp at h⟩
    simp only [List.reverse_nil, List.nil_append] at fit cover
    obtain ⟨V, E, Hp, m, T⟩ := evD_trace _ _ _ _ _ he
    refine wp_region_any hmx ?_
    have hco : ∀ (k : Nat) (d : DO) (o : Oper), (hs.map (cDO P H f N ops))[k]? = some d → ops[d.ix]? = some o → d.co = cOper P H f N ops o := fun k d o hk ho => by
      rw [List.getElem?_map] at hk
      cases hx : hs[k]? with
      | none => rw [hx] at hk; cases hk
      | some x =>
        rw [hx] at hk
        simp only [Option.map_some, Option.some.injEq] at hk
        subst hk
        unfold cDO at ho ⊢
        cases hz : ops[x.1]? with
        | none => rw [hz] at ho; simp only [hz] at ho; cases ho
        | some o' =>
          rw [hz] at ho
          simp only [hz, Option.some.injEq] at ho
          simp only [ho]
    have none_ : ∀ i, ¬ listedOf (Array.replicate ops.size false) i := fun i h => by
      unfold listedOf at h
      simp only [Array.getD_eq_getD_getElem?] at h
      rw [Array.getElem?_replicate] at h
      split at h <;> simp at h
    have s1 : Sim { w with drawn := w.drawn + 1 } G (Hp 0) := by rw [T.h0]; exact s.world (Nat.le_refl _) fun b _ => rfl
    have g1 : Goes w G st.h { w with drawn := w.drawn + 1 } G st.h := Goes.world s rfl rfl rfl (Nat.le_refl _) fun b _ => rfl
    refine draw_any fit hO hco T cover ops.size _ a _ G 0 ?_ (by simp [List.count_replicate])
    refine { size := by simp, clo := fun j o _ h => absurd h (none_ j), lt := fun k d _ h => absurd h (none_ _), tm := hN, df := hd, le := Nat.zero_le m, sim := s1, goes := ?_, ne := by rw [T.h0]; exact hn,
             ld := fun k d _ _ => ⟨fun h => absurd h (none_ _), fun h => absurd h (Nat.not_lt_zero k)⟩, wr := fun k d t _ _ h => absurd h (none_ _), st := fun t _ => ?_ }
    · rw [T.h0]; exact g.trans g1
    · rw [T.h0]; exact (r t).along g1
  · simp [evC] at he

end Go.Ab

/-
  Regions, loops, calls: the evaluator is sound.
-/
import Derived.Test.YtggkoocpokfogaaAbCode
set_option linter.unusedVariables false
set_option linter.unusedSimpArgs false
namespace Go.Ab
open Go.RowKit
variable {P : Program}

theorem call_run {c : Call} {o : Oper} {a : Act} {gop : Operand} (ho : o.op = .call c) (hc : c.callee = .value gop) {g : FuncId} {va vb : Array Value} (hg : a.eval gop = .func (.func g) va vb) (hent : Enterable P g) (w : World) :
    (execOp a.eval o).run P w = .ok (.enter g (va ++ c.args.map a.eval ++ vb)) w := by
  have := hent (va ++ c.args.map a.eval ++ vb) w
  simp only [execOp, ho, resolve, hc, hg, Deferred.ofValue, Sem.run_bind, Sem.run_pure, Result.andThen_ok, invoke, this]

theorem append_rel {w : World} {G : Gm} {L : Loc → Prop} {x y : List AV} {u v : Array Value} (h : ArgsRel w G L x u) (k : ArgsRel w G L y v) : ArgsRel w G L (x ++ y) (u ++ v) := by
  refine ⟨by simp [h.1, k.1], fun i hi => ?_⟩
  simp only [List.length_append] at hi
  have h1 := h.1
  by_cases c : i < x.length
  · have e1 : (x ++ y).getD i .top = x.getD i .top := by simp only [List.getD_eq_getElem?_getD]; rw [List.getElem?_append_left c]
    have e2 : (u ++ v).getD i undef = u.getD i undef := by simp only [Array.getD_eq_getD_getElem?]; rw [Array.getElem?_append_left (by omega)]
    rw [e1, e2]; exact h.2 i c
  · have e1 : (x ++ y).getD i .top = y.getD (i - x.length) .top := by simp only [List.getD_eq_getElem?_getD]; rw [List.getElem?_append_right (by omega)]
    have e2 : (u ++ v).getD i undef = v.getD (i - x.length) undef := by simp only [Array.getD_eq_getD_getElem?]; rw [Array.getElem?_append_right (by omega), h1]
    rw [e1, e2]; exact k.2 _ (by omega)

theorem call_shape {H : Hints} {f : FuncId} {o : Oper} {gf : Opd} {xs : List Opd} (hop : cOp P H f o = .m (.call gf xs)) :
    ∃ c gop, o.op = .call c ∧ c.callee = .value gop ∧ cOpd gop = some gf ∧ cOpds c.args.toList = some xs := by
  unfold cOp at hop
  cases ho : o.op with
  | call c =>
    simp only [ho] at hop
    split at hop
    · rename_i gop ys hcal hys
      split at hop
      · split at hop <;> cases hop
      · split at hop
        · rename_i g' hg'
          injection hop with hop
          injection hop with e1 e2
          subst e1; subst e2
          exact ⟨c, gop, rfl, hcal, hg', hys⟩
        · cases hop
    all_goals repeat' (first | (cases hop; done) | split at hop)
  | _ => simp only [ho] at hop; repeat' (first | (cases hop; done) | split at hop)

theorem evOps_ok {O : Orc} (hO : FnSound P O) {H : Hints} {f : FuncId} {N : Nat} {D : List Deferred} {K : Cfg} {ops : Array Oper} : ∀ (l : List Oper) (st : St) (ex : Ex) (st' : St), evOps K O (l.map (cOper P H f N ops)) st = some (ex, st') →
    ∀ (w0 : World) (G0 : Gm) (h0 : Heap) (w : World) (G : Gm) (a : Act), Goes w0 G0 h0 w G st.h → Sim w G st.h → st.h ≠ [] → EnvRel w G (dom st.h) st.env a → a.tmps.size = N → a.defers = D →
    wpList P ops (Post N D w0 G0 h0 ex st') l a w
  | [], st, ex, st', he, w0, G0, h0, w, G, a, g, s, hn, r, hN, hd => by
    simp only [List.map_nil, evOps, Option.some.injEq, Prod.mk.injEq] at he
    obtain ⟨rfl, rfl⟩ := he
    exact wpList_nil ⟨G, s, g, r, hN, hd, rfl⟩
  | o :: l, st, ex, st', he, w0, G0, h0, w, G, a, g, s, hn, r, hN, hd => by
    simp only [List.map_cons, evOps] at he
    have hbad : ∀ c : CO, c = cOper P H f N ops o → (c.op = .bad → False) → ∃ gd, cGuard ops o.guard = some gd ∧ inN N o.dst = true ∧ c = { dst := o.dst, gd := gd, op := cOp P H f o } := fun c hc hb => by
      unfold cOper at hc
      split at hc
      · subst hc; exact absurd rfl hb
      · rename_i gd hgd
        split at hc
        · rename_i hin; exact ⟨gd, hgd, hin, hc⟩
        · subst hc; exact absurd rfl hb
    have hshape : (cOper P H f N ops o).dst = o.dst := by unfold cOper; split <;> (try split) <;> rfl
    unfold wpList
    split at he
    · cases he
    · -- passed over
      rename_i hw
      have hcase : (∃ gd, cGuard ops o.guard = some gd ∧ inN N o.dst = true ∧ cOper P H f N ops o = { dst := o.dst, gd := gd, op := cOp P H f o }) ∨ (cOper P H f N ops o).gd = none := by
        unfold cOper
        split
        · exact .inr rfl
        · rename_i gd hgd
          split
          · rename_i hin; exact .inl ⟨gd, hgd, hin, rfl⟩
          · exact .inr rfl
      rcases hcase with ⟨gd, hgd, hin, hco⟩ | hb
      · rw [hco] at hw he
        have hwt := wanted_ok r hgd hw
        rw [if_neg (by rw [hwt]; simp)]
        exact evOps_ok hO l _ ex st' he w0 G0 h0 w G _ g s hn (r.put_ (x := undef) (.tup _ _ _ rfl fun i hi => by simp at hi) (by rw [hN]; exact hin)) (by rw [put_size]; exact hN) (by rw [put_defers]; exact hd)
      · rw [hb] at hw
        simp [wanted] at hw
    · rename_i hw
      have hnb : (cOper P H f N ops o).op ≠ .bad := fun hb => by rw [hb] at he; cases he
      obtain ⟨gd, hgd, hin, hco⟩ := hbad _ rfl (fun hb => hnb hb)
      rw [hco] at hw he
      simp only at he
      have hwt := wanted_ok r hgd hw
      rw [if_pos hwt]
      refine .inl ?_
      have next : ∀ {x : Value} {v : AV} {w' : World} {G' : Gm} {h' : Heap}, Sim w' G' h' → Goes w G st.h w' G' h' → VRel w' G' (dom h') v x → evOps K O (l.map (cOper P H f N ops)) { env := put st.env o.dst v, h := h' } = some (ex, st') →
          wpList P ops (Post N D w0 G0 h0 ex st') l (a.put o.dst x) w' := fun s' g' v' he' =>
        evOps_ok hO l _ ex st' he' w0 G0 h0 _ _ _ (g.trans g') s' (fun e0 => by have := g'.depth; simp only at e0; rw [e0] at this; cases hs : st.h <;> simp_all) ((r.along g').put_ v' (by rw [hN]; exact hin)) (by rw [put_size]; exact hN) (by rw [put_defers]; exact hd)
      cases hop : cOp P H f o with
      | bad => rw [hop] at he; simp only at he; cases he
      | p q =>
        rw [hop] at he
        simp only at he
        split at he
        · rename_i v hv
          obtain ⟨x, hx, hvx⟩ := pure_ok hop r hv
          unfold Oper.wp
          rw [hx]
          exact next s (Goes.refl w G st.h) hvx he
        · cases he
      | m q =>
        rw [hop] at he
        simp only at he
        by_cases hcall : ∃ gf xs, q = .call gf xs
        · obtain ⟨gf, xs, rfl⟩ := hcall
          -- a call
          have hc := call_shape hop
          obtain ⟨c, gop, ho, hcal, hgop, hxs⟩ := hc
          simp only [evM] at he
          split at he
          · rename_i v h' hev
            split at hev
            · rename_i gid first captured hgv
              split at hev
              · rename_i vs h1 hvs
                have hrg := opd_rel r hgop
                rw [hgv] at hrg
                obtain ⟨va, vb, hgx, hla, hlb, hra, hrb⟩ := fn_shape hrg
                obtain ⟨q1, q2⟩ := opds_rel r hxs
                have hargs : ArgsRel w G (dom st.h) (first ++ xs.map (·.ev st.env) ++ captured) (va ++ c.args.map a.eval ++ vb) := by
                  refine append_rel (append_rel ⟨hla, hra⟩ ⟨by simp [q1], fun i hi => ?_⟩) ⟨hlb, hrb⟩
                  have := q2 i (by simpa using hi)
                  have e1 : (c.args.map a.eval).getD i undef = (c.args.toList.map a.eval).getD i undef := by simp [Array.getD_eq_getD_getElem?]
                  rw [e1]; exact this
                obtain ⟨G1, k1, k2, k3, k4⟩ := views_ok _ (xs := fun i => (va ++ c.args.map a.eval ++ vb).getD i undef) s hargs.2 hvs
                obtain ⟨hent, hcl⟩ := hO gid vs h1 _ hev
                have hC := hcl w G1 (va ++ c.args.map a.eval ++ vb) k1 ⟨by rw [hargs.1, k3], fun i hi => k4 i (by rw [← k3]; exact hi)⟩
                unfold Oper.wp
                rw [call_run ho hcal hgx hent w, Oper.upon_enter]
                refine hC.mono fun en w' hen => ?_
                obtain ⟨G', l1, l2, x, rfl, l3⟩ := hen
                exact next l1 (k2.trans l2) l3 he
              · cases hev
            · cases hev
          · rename_i v h' hev
            injection he with he
            injection he with e1 e2
            subst e1; subst e2
            split at hev
            · rename_i gid first captured hgv
              split at hev
              · rename_i vs h1 hvs
                have hrg := opd_rel r hgop
                rw [hgv] at hrg
                obtain ⟨va, vb, hgx, hla, hlb, hra, hrb⟩ := fn_shape hrg
                obtain ⟨q1, q2⟩ := opds_rel r hxs
                have hargs : ArgsRel w G (dom st.h) (first ++ xs.map (·.ev st.env) ++ captured) (va ++ c.args.map a.eval ++ vb) := by
                  refine append_rel (append_rel ⟨hla, hra⟩ ⟨by simp [q1], fun i hi => ?_⟩) ⟨hlb, hrb⟩
                  have := q2 i (by simpa using hi)
                  have e1 : (c.args.map a.eval).getD i undef = (c.args.toList.map a.eval).getD i undef := by simp [Array.getD_eq_getD_getElem?]
                  rw [e1]; exact this
                obtain ⟨G1, k1, k2, k3, k4⟩ := views_ok _ (xs := fun i => (va ++ c.args.map a.eval ++ vb).getD i undef) s hargs.2 hvs
                obtain ⟨hent, hcl⟩ := hO gid vs h1 _ hev
                have hC := hcl w G1 (va ++ c.args.map a.eval ++ vb) k1 ⟨by rw [hargs.1, k3], fun i hi => k4 i (by rw [← k3]; exact hi)⟩
                unfold Oper.wp
                rw [call_run ho hcal hgx hent w, Oper.upon_enter]
                refine hC.mono fun en w' hen => ?_
                obtain ⟨G', l1, l2, x, rfl, l3⟩ := hen
                exact ⟨G', l1, g.trans (k2.trans l2), r.along (k2.trans l2), hN, hd, x, rfl, l3⟩
              · cases hev
            · cases hev
          · cases he
        · have hq : ∀ gf xs, q ≠ .call gf xs := fun gf xs e => hcall ⟨gf, xs, e⟩
          split at he
          · rename_i v h' hev
            obtain ⟨nx, x, w', G', k1, k2, k3, k4, k5⟩ := mem_ok s hn hop r hq hev
            unfold Oper.wp
            rw [k1]
            rcases k2 with rfl | ⟨rfl, rfl⟩
            · exact next k3 k4 k5 he
            · exact next k3 k4 k5 he
          · rename_i v h' hev
            injection he with he
            injection he with e1 e2
            subst e1; subst e2
            -- a panic of the program's own
            have hp : ∃ x y, o.op = .panic x ∧ cOpd x = some y ∧ q = .pan y := by
              cases q <;> simp only [evM] at hev
              case pan y =>
                unfold cOp at hop
                cases ho : o.op with
                | panic x =>
                  simp only [ho] at hop
                  split at hop
                  · rename_i y' hy'
                    injection hop with hop
                    injection hop with e1
                    subst e1
                    exact ⟨x, y', rfl, hy', rfl⟩
                  · cases hop
                | _ => simp only [ho] at hop; repeat' (first | (cases hop; done) | split at hop)
              case call gf xs => exact absurd rfl (hq gf xs)
              all_goals repeat' (first | (cases hev; done) | split at hev | unfold appTo at hev)
            obtain ⟨x, y, ho, hy, rfl⟩ := hp
            simp only [evM] at hev
            split at hev
            · rename_i t u hyu
              injection hev with hev
              injection hev with e1 e2
              subst e1; subst e2
              obtain ⟨rv, k1, k2⟩ := m_pan (P := P) r ho hy hyu
              unfold Oper.wp
              rw [k1, Oper.upon_panic]
              exact ⟨G, s, g, r, hN, hd, rv, rfl, k2⟩
            · cases hev
          · cases he

end Go.Ab

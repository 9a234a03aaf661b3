/-
  The least evaluator that is its own step: 'mu'. Its equations; it is sound; what runs with fuel is its word.
-/
import Derived.Test.YtggkoocpokfogaaAbFn
set_option linter.unusedVariables false
set_option linter.unusedSimpArgs false
namespace Go.Ab

structure Rl where
  fn : FuncId → List AV → Heap → Out → Prop
  code : CC → St → Ex × St → Prop
structure Orc.sub (O : Orc) (R : Rl) : Prop where
  fn : ∀ f a h r, O.fn f a h = some r → R.fn f a h r
  code : ∀ c s r, O.code c s = some r → R.code c s r
def stepR (K : Cfg) (R : Rl) : Rl where
  fn f a h r := ∃ O : Orc, O.sub R ∧ (step K O).fn f a h = some r
  code c s r := ∃ O : Orc, O.sub R ∧ (step K O).code c s = some r
structure Rl.le (R S : Rl) : Prop where
  fn : ∀ f a h r, R.fn f a h r → S.fn f a h r
  code : ∀ c s r, R.code c s r → S.code c s r
theorem Orc.sub.le {O : Orc} {R S : Rl} (h : O.sub R) (k : R.le S) : O.sub S := ⟨fun f a g r e => k.fn _ _ _ _ (h.fn _ _ _ _ e), fun c s r e => k.code _ _ _ (h.code _ _ _ e)⟩
theorem stepR_mono {K : Cfg} {R S : Rl} (k : R.le S) : (stepR K R).le (stepR K S) :=
  ⟨fun _ _ _ _ ⟨O, h, e⟩ => ⟨O, h.le k, e⟩, fun _ _ _ ⟨O, h, e⟩ => ⟨O, h.le k, e⟩⟩
def muR (K : Cfg) : Rl where
  fn f a h r := ∀ R : Rl, (stepR K R).le R → R.fn f a h r
  code c s r := ∀ R : Rl, (stepR K R).le R → R.code c s r
theorem muR_least {K : Cfg} {R : Rl} (h : (stepR K R).le R) : (muR K).le R := ⟨fun _ _ _ _ k => k R h, fun _ _ _ k => k R h⟩
theorem muR_pre (K : Cfg) : (stepR K (muR K)).le (muR K) :=
  ⟨fun f a h r k R hR => hR.fn _ _ _ _ ((stepR_mono (muR_least hR)).fn _ _ _ _ k), fun c s r k R hR => hR.code _ _ _ ((stepR_mono (muR_least hR)).code _ _ _ k)⟩
theorem muR_post (K : Cfg) : (muR K).le (stepR K (muR K)) := muR_least (stepR_mono (muR_pre K))
/-- What is kept by steps holds of all that mu says. -/
theorem muR_induct {K : Cfg} {R : Rl} (h : (stepR K ⟨fun f a g r => (muR K).fn f a g r ∧ R.fn f a g r, fun c s r => (muR K).code c s r ∧ R.code c s r⟩).le R) : (muR K).le R := by
  have hsub : Rl.le ⟨fun f a g r => (muR K).fn f a g r ∧ R.fn f a g r, fun c s r => (muR K).code c s r ∧ R.code c s r⟩ (muR K) := ⟨fun _ _ _ _ e => e.1, fun _ _ _ e => e.1⟩
  have key : (stepR K ⟨fun f a g r => (muR K).fn f a g r ∧ R.fn f a g r, fun c s r => (muR K).code c s r ∧ R.code c s r⟩).le ⟨fun f a g r => (muR K).fn f a g r ∧ R.fn f a g r, fun c s r => (muR K).code c s r ∧ R.code c s r⟩ :=
    ⟨fun f a g r k => ⟨(muR_pre K).fn _ _ _ _ ((stepR_mono hsub).fn _ _ _ _ k), h.fn _ _ _ _ k⟩, fun c s r k => ⟨(muR_pre K).code _ _ _ ((stepR_mono hsub).code _ _ _ k), h.code _ _ _ k⟩⟩
  exact ⟨fun f a g r k => ((muR_least key).fn _ _ _ _ k).2, fun c s r k => ((muR_least key).code _ _ _ k).2⟩

/-- Two oracles that never part have a common one. -/
theorem joined {O O' : Orc} (h : ∀ f a g r r', O.fn f a g = some r → O'.fn f a g = some r' → r = r') (k : ∀ c s r r', O.code c s = some r → O'.code c s = some r' → r = r') : ∃ J : Orc, O.le J ∧ O'.le J := by
  refine ⟨⟨fun f a g => (O.fn f a g).or (O'.fn f a g), fun c s => (O.code c s).or (O'.code c s)⟩, ⟨fun f a g r e => by simp [e], fun c s r e => by simp [e]⟩, ⟨fun f a g r e => ?_, fun c s r e => ?_⟩⟩
  · cases e1 : O.fn f a g with
    | none => simp [e1, e]
    | some q => simp [e1, h f a g q r e1 e]
  · cases e1 : O.code c s with
    | none => simp [e1, e]
    | some q => simp [e1, k c s q r e1 e]
theorem muR_one (K : Cfg) : (muR K).le ⟨fun f a g r => ∀ r', (muR K).fn f a g r' → r = r', fun c s r => ∀ r', (muR K).code c s r' → r = r'⟩ := by
  refine muR_induct ⟨fun f a g r k r' h' => ?_, fun c s r k r' h' => ?_⟩
  · obtain ⟨O, hO, e⟩ := k
    obtain ⟨O', hO', e'⟩ := (muR_post K).fn _ _ _ _ h'
    obtain ⟨J, j1, j2⟩ := joined (O := O) (O' := O') (fun f a g r r' q q' => (hO.fn _ _ _ _ q).2 r' (hO'.fn _ _ _ _ q')) (fun c s r r' q q' => (hO.code _ _ _ q).2 r' (hO'.code _ _ _ q'))
    have e1 := (step_mono (K := K) j1).fn _ _ _ _ e
    have e2 := (step_mono (K := K) j2).fn _ _ _ _ e'
    rw [e1] at e2
    injection e2
  · obtain ⟨O, hO, e⟩ := k
    obtain ⟨O', hO', e'⟩ := (muR_post K).code _ _ _ h'
    obtain ⟨J, j1, j2⟩ := joined (O := O) (O' := O') (fun f a g r r' q q' => (hO.fn _ _ _ _ q).2 r' (hO'.fn _ _ _ _ q')) (fun c s r r' q q' => (hO.code _ _ _ q).2 r' (hO'.code _ _ _ q'))
    have e1 := (step_mono (K := K) j1).code _ _ _ e
    have e2 := (step_mono (K := K) j2).code _ _ _ e'
    rw [e1] at e2
    injection e2

open Classical in
/-- The evaluator. -/
noncomputable def mu (K : Cfg) : Orc where
  fn f a h := if k : ∃ r, (muR K).fn f a h r then some (Classical.choose k) else none
  code c s := if k : ∃ r, (muR K).code c s r then some (Classical.choose k) else none
theorem mu_fn {K : Cfg} {f : FuncId} {a : List AV} {h : Heap} {r : Out} : (mu K).fn f a h = some r ↔ (muR K).fn f a h r := by
  constructor
  · intro e
    unfold mu at e
    simp only at e
    split at e
    · rename_i k
      injection e with e
      rw [← e]
      exact Classical.choose_spec k
    · cases e
  · intro e
    unfold mu
    simp only
    have k : ∃ r, (muR K).fn f a h r := ⟨r, e⟩
    rw [dif_pos k, (muR_one K).fn _ _ _ _ (Classical.choose_spec k) r e]
theorem mu_code {K : Cfg} {c : CC} {s : St} {r : Ex × St} : (mu K).code c s = some r ↔ (muR K).code c s r := by
  constructor
  · intro e
    unfold mu at e
    simp only at e
    split at e
    · rename_i k
      injection e with e
      rw [← e]
      exact Classical.choose_spec k
    · cases e
  · intro e
    unfold mu
    simp only
    have k : ∃ r, (muR K).code c s r := ⟨r, e⟩
    rw [dif_pos k, (muR_one K).code _ _ _ (Classical.choose_spec k) r e]
theorem mu_sub (K : Cfg) : (mu K).sub (muR K) := ⟨fun _ _ _ _ e => mu_fn.1 e, fun _ _ _ e => mu_code.1 e⟩
theorem sub_mu {K : Cfg} {O : Orc} (h : O.sub (muR K)) : O.le (mu K) := ⟨fun _ _ _ _ e => mu_fn.2 (h.fn _ _ _ _ e), fun _ _ _ e => mu_code.2 (h.code _ _ _ e)⟩
theorem step_mu_fn (K : Cfg) (f : FuncId) (a : List AV) (h : Heap) : (mu K).fn f a h = (step K (mu K)).fn f a h := by
  apply Option.ext
  intro r
  constructor
  · intro e
    obtain ⟨O, hO, e'⟩ := (muR_post K).fn _ _ _ _ (mu_fn.1 e)
    exact (step_mono (sub_mu hO)).fn _ _ _ _ e'
  · intro e
    exact mu_fn.2 ((muR_pre K).fn _ _ _ _ ⟨mu K, mu_sub K, e⟩)
theorem step_mu_code (K : Cfg) (c : CC) (s : St) : (mu K).code c s = (step K (mu K)).code c s := by
  apply Option.ext
  intro r
  constructor
  · intro e
    obtain ⟨O, hO, e'⟩ := (muR_post K).code _ _ _ (mu_code.1 e)
    exact (step_mono (sub_mu hO)).code _ _ _ e'
  · intro e
    exact mu_code.2 ((muR_pre K).code _ _ _ ⟨mu K, mu_sub K, e⟩)
/-- What runs with fuel is the evaluator's word. -/
theorem evF_le (K : Cfg) : ∀ n, (evF K n).le (mu K)
  | 0 => ⟨fun _ _ _ _ e => by simp [evF] at e, fun _ _ _ e => by simp [evF] at e⟩
  | n + 1 => ⟨fun f a h r e => by rw [step_mu_fn]; exact (step_mono (evF_le K n)).fn _ _ _ _ e, fun c s r e => by rw [step_mu_code]; exact (step_mono (evF_le K n)).code _ _ _ e⟩

/-- The evaluator is sound. -/
theorem mu_sound {P : Program} {H : Hints} {K : Cfg} (hK : K.fns = cFun P H) (hKd : K.dfn = dFun P H)
    (hX : ∀ f args h out, K.X f args h = some out → Enterable P f ∧ ∀ (w : World) (G : Gm) (xs : Array Value), Sim w G h → ArgsRel w G (dom h) args xs → Calls P f xs w (EndRel w G h out)) :
    FnSound P (mu K) ∧ CodeSound P H (mu K) := by
  have key : (muR K).le ⟨fun f args h out => Enterable P f ∧ ∀ (w : World) (G : Gm) (xs : Array Value), Sim w G h → ArgsRel w G (dom h) args xs → Calls P f xs w (EndRel w G h out),
      fun cc st r => ∀ (f : FuncId) (N : Nat) (D : List Deferred) (c : Code) (n : Nat) (live : List Nat), cc = .loopAt n live (cCode P H f N c) →
        ∀ (w0 : World) (G0 : Gm) (h0 : Heap) (w : World) (G : Gm) (a : Act), Goes w0 G0 h0 w G st.h → Sim w G st.h → st.h ≠ [] → EnvRel w G (dom st.h) st.env a → a.tmps.size = N → a.defers = D → hlen h0 ≤ n →
          LoopW P c (Post N D w0 G0 h0 r.1 r.2) a w⟩ := by
    refine muR_induct ⟨fun f a h r k => ?_, fun cc st r k => ?_⟩
    · obtain ⟨O, hO, e⟩ := k
      exact fnSound_step (fun f a h r e => (hO.fn _ _ _ _ e).2) (H := H) (fun f N D c n live st ex st' e => (hO.code _ _ _ e).2 f N D c n live rfl) hK hKd hX f a h r e
    · obtain ⟨O, hO, e⟩ := k
      intro f N D c n live hcc
      subst hcc
      exact codeSound_step (fun f a h r e => (hO.fn _ _ _ _ e).2) (H := H) (fun f N D c n live st ex st' e => (hO.code _ _ _ e).2 f N D c n live rfl) K f N D c n live st r.1 r.2 e
  exact ⟨fun f a h r e => key.fn _ _ _ _ (mu_fn.1 e), fun f N D c n live st ex st' e => key.code _ _ _ (mu_code.1 e) f N D c n live rfl⟩

end Go.Ab

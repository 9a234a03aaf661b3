/-
  Code: what the evaluator says of it holds.
-/
import Derived.Test.YtggkoocpokfogaaAbMops
import Derived.Test.YtggkoocpokfogaaAbUns
set_option linter.unusedVariables false
set_option linter.unusedSimpArgs false
namespace Go.Ab
open Go.RowKit
variable {P : Program}

def outHeap : Out → Heap
  | .val _ h => h
  | .pan _ h => h
/-- How a call ends. -/
def EndRel (w : World) (G : Gm) (h : Heap) (out : Out) (e : Ending) (w' : World) : Prop :=
  ∃ G', Sim w' G' (outHeap out) ∧ Goes w G h w' G' (outHeap out) ∧
    match out with
    | .val v h' => ∃ x, e = .returned x ∧ VRel w' G' (dom h') v x
    | .pan v h' => ∃ x, e = .panicked [{ v := x, recovered := false }] ∧ VRel w' G' (dom h') v x
def Enterable (P : Program) (f : FuncId) : Prop := ∀ (args : Array Value) (w : World), (callFunc f args).run P w = .ok (.enter f args) w
def ArgsRel (w : World) (G : Gm) (L : Loc → Prop) (args : List AV) (xs : Array Value) : Prop := xs.size = args.length ∧ ∀ i, i < args.length → VRel w G L (args.getD i .top) (xs.getD i undef)
/-- The evaluator's word on calls holds. -/
def FnSound (P : Program) (O : Orc) : Prop := ∀ f args h out, O.fn f args h = some out → Enterable P f ∧ ∀ (w : World) (G : Gm) (xs : Array Value), Sim w G h → ArgsRel w G (dom h) args xs → Calls P f xs w (EndRel w G h out)

/-- What holds behind a piece of code. -/
def Post (N : Nat) (D : List Deferred) (w : World) (G : Gm) (h : Heap) (ex : Ex) (s : St) : Exit → Act → World → Prop := fun e a' w' =>
  ∃ G', Sim w' G' s.h ∧ Goes w G h w' G' s.h ∧ EnvRel w' G' (dom s.h) s.env a' ∧ a'.tmps.size = N ∧ a'.defers = D ∧
    match ex with
    | .norm => e = .normal
    | .exit id => e = .exit id
    | .ret => e = .ret
    | .pan v => ∃ x, e = .panic [{ v := x, recovered := false }] ∧ VRel w' G' (dom s.h) v x
theorem Post.from {N : Nat} {D : List Deferred} {w w1 : World} {G G1 : Gm} {h h1 : Heap} {ex : Ex} {s : St} {e : Exit} {a : Act} {w' : World} (g : Goes w G h w1 G1 h1) (p : Post N D w1 G1 h1 ex s e a w') : Post N D w G h ex s e a w' := by
  obtain ⟨G', k1, k2, k3⟩ := p
  exact ⟨G', k1, g.trans k2, k3⟩

theorem EnvRel.along {w w' : World} {G G' : Gm} {h h' : Heap} {e : Env} {a : Act} (r : EnvRel w G (dom h) e a) (g : Goes w G h w' G' h') : EnvRel w' G' (dom h') e a := fun t => (r t).along g
theorem get_set (e : Env) (d t : Nat) (v : AV) : get (set e d v) t = if t = d then v else get e t := by
  induction e with
  | nil =>
    simp only [set, get]
    by_cases c : d = t
    · rw [if_pos c, if_pos c.symm]
    · rw [if_neg c, if_neg (Ne.symm c)]
  | cons x r ih =>
    obtain ⟨j, u⟩ := x
    simp only [set]
    by_cases c : j = d
    · subst c
      rw [if_pos rfl]
      simp only [get]
      by_cases c2 : j = t
      · rw [if_pos c2, if_pos c2.symm]
      · rw [if_neg c2, if_neg (Ne.symm c2), if_neg c2]
    · rw [if_neg c]
      simp only [get, ih]
      by_cases c2 : j = t
      · rw [if_pos c2, if_pos c2, if_neg (fun e => c (c2.trans e))]
      · rw [if_neg c2, if_neg c2]
theorem EnvRel.put_ {w : World} {G : Gm} {L : Loc → Prop} {e : Env} {a : Act} (r : EnvRel w G L e a) {d : Option Nat} {v : AV} {x : Value} (hv : VRel w G L v x) (hd : inN a.tmps.size d = true) :
    EnvRel w G L (put e d v) (a.put d x) := by
  intro t
  cases d with
  | none => exact r t
  | some d =>
    simp only [inN, decide_eq_true_eq] at hd
    simp only [put, Act.put, get_set]
    by_cases c : t = d
    · subst c
      rw [if_pos rfl, Array.getD_eq_getD_getElem?, Array.getElem?_setIfInBounds, if_pos rfl, if_pos hd]
      exact hv
    · rw [if_neg c, Array.getD_eq_getD_getElem?, Array.getElem?_setIfInBounds, if_neg (Ne.symm c), ← Array.getD_eq_getD_getElem?]
      exact r t
theorem put_size (a : Act) (d : Option Nat) (x : Value) : (a.put d x).tmps.size = a.tmps.size := by cases d <;> simp [Act.put]
theorem put_defers (a : Act) (d : Option Nat) (x : Value) : (a.put d x).defers = a.defers := by cases d <;> rfl

theorem wanted_ok {w : World} {G : Gm} {L : Loc → Prop} {e : Env} {a : Act} (r : EnvRel w G L e a) {ops : Array Oper} {o : Oper} {g : Option (Nat × Bool)} (hg : cGuard ops o.guard = some g) {b : Bool} (hw : wanted g e = some b) :
    Region.wanted o (yielded ops a.tmps) = b := by
  unfold Region.wanted
  cases hgd : o.guard with
  | none =>
    rw [hgd] at hg
    simp only [cGuard, Option.some.injEq] at hg
    subst hg
    simpa [wanted] using hw
  | some q =>
    obtain ⟨j, want⟩ := q
    rw [hgd] at hg
    simp only [cGuard] at hg
    cases hd : (ops[j]?).bind (·.dst) with
    | none => simp [hd] at hg
    | some t =>
      simp only [hd, Option.some.injEq] at hg
      subst hg
      simp only [wanted] at hw
      have ht := r t
      simp only [yielded, hd, Option.bind_some]
      have key : ∀ y, a.tmps.getD t undef = y → y ≠ undef → a.tmps[t]? = some y := fun y hy hne => by
        rw [Array.getD_eq_getD_getElem?] at hy
        cases hq : a.tmps[t]? with
        | none => rw [hq] at hy; exact absurd hy.symm hne
        | some z => rw [hq] at hy; simpa using hy
      split at hw
      · rename_i c hc
        injection hw with hw
        rw [hc] at ht
        have h1 := bool_shape ht
        rw [key _ h1 (by unfold undef; simp)]
        rw [← hw]
        cases c <;> cases want <;> rfl
      · rename_i hc
        injection hw with hw
        rw [hc] at ht
        obtain ⟨vs, h1, h2, _⟩ := tup_shape ht
        have hvs : vs = #[] := Array.eq_empty_of_size_eq_zero (by simpa using h2)
        subst hvs
        rw [Array.getD_eq_getD_getElem?] at h1
        subst hw
        cases hq : a.tmps[t]? with
        | none => rfl
        | some z =>
          rw [hq] at h1
          simp only [Option.getD_some] at h1
          subst h1
          rfl
      · cases hw

/-- An operation on memory, but for calls. -/
theorem mem_ok {H : Hints} {f : FuncId} {o : Oper} {q : MOp} {w : World} {G : Gm} {h : Heap} (s : Sim w G h) (hn : h ≠ []) (hc : cOp P H f o = .m q) {e : Env} {a : Act} (he : EnvRel w G (dom h) e a)
    {K : Cfg} {O : Orc} (hq : ∀ g xs, q ≠ .call g xs) {v : AV} {h' : Heap} (hev : evM K O q e h = some (.val v h')) : MemOk P w G h a o v h' := by
  unfold cOp at hc
  cases hop : o.op with
  | assign x =>
    simp only [hop] at hc
    split at hc
    · rename_i y hy
      split at hc
      · injection hc with hc; subst hc
        simp only [evM] at hev
        have := m_mat (P := P) s hn he hop hy
        generalize matV (y.ev e) h = r at hev this
        obtain ⟨r1, r2⟩ := r
        injection hev with hev
        injection hev with e1 e2
        subst e1; subst e2
        exact this
      · cases hc
    · cases hc
  | alloc t =>
    simp only [hop] at hc
    split at hc
    · rename_i ag sz z hsh hz
      split at hc
      · rename_i hsz
        injection hc with hc; subst hc
        simp only [evM] at hev
        obtain ⟨i, zv, hi, hzv, hzz, hzl⟩ := zero_parts hz
        obtain ⟨d, i', _, hi', hisz, _⟩ := shape_parts hsh
        rw [hi] at hi'
        injection hi' with hi'; subst hi'
        split at hev
        · have := m_allocM (P := P) (a := a) s hn hop hz (by omega)
          generalize matV z h = r at hev this
          obtain ⟨r1, r2⟩ := r
          simp only [Option.some.injEq, Out.val.injEq] at hev
          obtain ⟨rfl, rfl⟩ := hev
          exact this
        · simp only [Option.some.injEq, Out.val.injEq] at hev
          obtain ⟨rfl, rfl⟩ := hev
          obtain ⟨x, w', G', k1, k2, k3, k4⟩ := m_alloc (P := P) s hn hop hz (by omega)
          exact ⟨_, _, _, _, k1, .inl rfl, k2, k3, k4⟩
      · cases hc
    · cases hc
  | box t x =>
    simp only [hop] at hc
    split at hc
    · rename_i y ag sz hy hsh
      split at hc
      · rename_i hsz
        injection hc with hc; subst hc
        simp only [evM] at hev
        split at hev
        · rename_i hl
          injection hev with hev
          injection hev with e1 e2
          subst e1; subst e2
          obtain ⟨x, w', G', k1, k2, k3, k4⟩ := m_box (P := P) s hn he hop hy (by omega)
          exact ⟨_, _, _, _, k1, .inl rfl, k2, k3, k4⟩
        · cases hev
      · cases hc
    · cases hc
  | buildSlice t n ps =>
    simp only [hop] at hc
    split at hc
    · rename_i el hu
      split at hc
      · rename_i ag sz z s' hsh hz hps
        split at hc
        · rename_i hb
          injection hc with hc; subst hc
          exact m_bldS s hn he hop hu hsh hz hps hb.1 hb.2 hev
        · cases hc
      · cases hc
    · cases hc
  | load t x =>
    simp only [hop] at hc
    split at hc
    · rename_i y ag sz hy hsh
      split at hc
      · rename_i hsz
        injection hc with hc; subst hc
        simp only [evM] at hev
        split at hev
        · rename_i u hu
          injection hev with hev
          injection hev with e1 e2
          subst e1; subst e2
          exact m_load s he hop hy hsh hsz hu
        · cases hev
      · cases hc
    · cases hc
  | store t A x =>
    simp only [hop] at hc
    split at hc
    · rename_i b y ag sz hb hy hsh
      split at hc
      · rename_i hsz
        injection hc with hc; subst hc
        exact m_store s hn he hop hb hy hsh hsz hev
      · cases hc
    · cases hc
  | convert s' d x =>
    simp only [hop] at hc
    split at hc
    · cases hc
    · cases hc
    · rename_i y el hy hs hd
      split at hc
      · rename_i hel
        injection hc with hc; subst hc
        simp only [evM] at hev
        split at hev
        · rename_i es hes
          split at hev
          · rename_i qs hqs
            injection hev with hev
            injection hev with e1 e2
            subst e1; subst e2
            exact m_b2s s he hop hy hs hel hd hes hqs
          · cases hev
        · cases hev
      · cases hc
    · rename_i y el hy hs hd
      split at hc
      · rename_i hel
        injection hc with hc; subst hc
        simp only [evM] at hev
        split at hev
        · rename_i qs hqs
          injection hev with hev
          injection hev with e1 e2
          subst e1; subst e2
          exact m_s2b s he hop hy hs hd hel hqs
        · cases hev
      · cases hc
    · rename_i y t hy hs hd
      split at hc
      · rename_i j hi
        split at hc
        · rename_i hj
          injection hc with hc; subst hc
          exact m_cvU s he hop hy hs hd hi hj hev
        · cases hc
      · cases hc
    · rename_i y t hy hs hd
      split at hc
      · rename_i j hi
        split at hc
        · rename_i hj
          injection hc with hc; subst hc
          exact m_cvP s he hop hy hs hd hi hj.1 hj.2.1 hj.2.2 hev
        · cases hc
      · cases hc
    · cases hc
  | makeSlice t l c =>
    simp only [hop] at hc
    split at hc
    · rename_i el l' c' hu hl hcc
      split at hc
      · rename_i i z hi hz
        split at hc
        · rename_i hsz
          injection hc with hc; subst hc
          exact m_mkS s hn he hop hu hi hz hsz hl hcc hev
        · cases hc
      · cases hc
    · cases hc
  | slice t x lo hi mx =>
    simp only [hop] at hc
    split at hc
    · cases hc
    · rename_i el y lo' hi' mx' hu hy hlo hhi hmx
      split at hc
      · rename_i ag sz hsh
        injection hc with hc; subst hc
        exact m_slL s he hop hy hlo hhi hmx hu hsh hev
      · cases hc
    · rename_i n el y lo' hi' hu hy hlo hhi hmx
      split at hc
      · rename_i ag sz hsh
        injection hc with hc; subst hc
        have hmx : mx = none := by
          cases mx with
          | none => rfl
          | some m => simp only [cOpdO] at hmx; split at hmx <;> cases hmx
        subst hmx
        exact m_slA s he hop hy hlo hhi hu hsh hev
      · cases hc
    · cases hc
  | call c =>
    simp only [hop] at hc
    split at hc
    · split at hc
      · split at hc <;> cases hc
      · split at hc
        · injection hc with hc
          exact absurd hc.symm (hq _ _)
        · cases hc
    · rename_i x hcal hx
      split at hc
      · rename_i el hu
        injection hc with hc; subst hc
        obtain ⟨x0, hl, hx0⟩ := cOpds_one hx
        exact m_usd s he hop hcal hl hx0 hu hev
      · cases hc
    · rename_i x k hcal hx
      split at hc
      · rename_i pt it hts
        split at hc
        · rename_i te hp
          split at hc
          · rename_i hce
            injection hc with hc; subst hc
            obtain ⟨x0, k0, hl, hx0, hk0⟩ := cOpds_two hx
            exact m_ustr s he hop hcal hl hx0 hk0 hts hp hce hev
          · cases hc
        · cases hc
      · cases hc
    · repeat' (first | (cases hc; done) | split at hc)
    · cases hc
    · cases hc
    · rename_i S X hcal hx
      have hargs := cOpds_two hx
      obtain ⟨s0, x0, hl, hs0, hx0⟩ := hargs
      split at hc
      · rename_i t u ht hu'
        split at hc
        · rename_i el el' hu hu2
          split at hc
          · rename_i i z hi hz
            split at hc
            · rename_i hb
              obtain ⟨b1, b2⟩ := hb
              subst b2
              injection hc with hc; subst hc
              exact m_app s hn he hop hcal hl hs0 hx0 ht hu' hu hi hz b1 hev
            · cases hc
          · cases hc
        · rename_i el hu hu2
          split at hc
          · rename_i i z hi hz
            split at hc
            · rename_i hb
              injection hc with hc; subst hc
              exact m_appS s hn he hop hcal hl hs0 hx0 ht hu' hu hu2 hi hz hb hev
            · cases hc
          · cases hc
        · cases hc
      · cases hc
    · cases hc
  | panic x =>
    simp only [hop] at hc
    split at hc
    · injection hc with hc; subst hc
      simp only [evM] at hev
      split at hev <;> cases hev
    · cases hc
  | move x => simp only [hop] at hc; repeat' (first | (cases hc; done) | split at hc)
  | pick x y z => simp only [hop] at hc; repeat' (first | (cases hc; done) | split at hc)
  | build t ps => simp only [hop] at hc; repeat' (first | (cases hc; done) | split at hc)
  | nilCheck x => simp only [hop] at hc; repeat' (first | (cases hc; done) | split at hc)
  | binOp b t x y u => simp only [hop] at hc; repeat' (first | (cases hc; done) | split at hc)
  | unOp u t x => simp only [hop] at hc; repeat' (first | (cases hc; done) | split at hc)
  | makeInterface t x => simp only [hop] at hc; repeat' (first | (cases hc; done) | split at hc)
  | makeFunc t x y => simp only [hop] at hc; repeat' (first | (cases hc; done) | split at hc)
  | fieldAddr t x y => simp only [hop] at hc; repeat' (first | (cases hc; done) | split at hc)
  | field t x y => simp only [hop] at hc; repeat' (first | (cases hc; done) | split at hc)
  | indexAddr t x y => simp only [hop] at hc; repeat' (first | (cases hc; done) | split at hc)
  | index t x y => simp only [hop] at hc; repeat' (first | (cases hc; done) | split at hc)
  | typeAssert x y z u => simp only [hop] at hc; repeat' (first | (cases hc; done) | split at hc)
  | extract x y => simp only [hop] at hc; repeat' (first | (cases hc; done) | split at hc)
  | _ => simp only [hop] at hc; cases hc

end Go.Ab

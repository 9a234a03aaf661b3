/-
  Regions that draw their order: the walk of any order.
-/
import Derived.Test.YtggkoocpokfogaaAbDraw2
set_option linter.unusedVariables false
set_option linter.unusedSimpArgs false
namespace Go.Ab
open Go.RowKit
variable {P : Program}

theorem keep_get' (live : List Nat) (e : Env) (t : Nat) : get (keep live e) t = if t ∈ live then get e t else .top := by
  unfold keep
  induction live with
  | nil => simp [get]
  | cons u r ih =>
    simp only [List.map_cons, get, ih, List.mem_cons]
    by_cases h : u = t
    · subst h; simp
    · rw [if_neg h]
      have : ¬ t = u := fun e => h e.symm
      simp [this]

def listedOf (listed : Array Bool) (i : Nat) : Prop := listed.getD i false = true
theorem listed_set {listed : Array Bool} {i j : Nat} (h : i < listed.size) : listedOf (listed.setIfInBounds i true) j ↔ j = i ∨ listedOf listed j := by
  unfold listedOf
  by_cases hij : i = j
  · subst hij; simp [h]
  · rw [getD_set_ne false hij]
    exact ⟨.inr, fun h => h.resolve_left (fun e => hij e.symm)⟩

structure Inv (N : Nat) (D : List Deferred) (w0 : World) (G0 : Gm) (h0 : Heap) (ops : Array Oper) (ds : List DO) (st : St) (V : Nat → AV) (Hp : Nat → Heap) (m : Nat) (listed : Array Bool) (a : Act) (w : World) (G : Gm) (kh : Nat) : Prop where
  size : listed.size = ops.size
  clo : ∀ (j : Nat) (o : Oper), ops[j]? = some o → listedOf listed j → ∀ e ∈ o.after, Region.binds .any e = true → listedOf listed e.on
  lt : ∀ (k : Nat) (d : DO), ds[k]? = some d → listedOf listed d.ix → k < m
  tm : a.tmps.size = N
  df : a.defers = D
  le : kh ≤ m
  sim : Sim w G (Hp kh)
  goes : Goes w0 G0 h0 w G (Hp kh)
  ne : Hp kh ≠ []
  ld : ∀ (k : Nat) (d : DO), ds[k]? = some d → loud d.co = true → (listedOf listed d.ix ↔ k < kh)
  wr : ∀ (k : Nat) (d : DO) (t : Nat), ds[k]? = some d → d.co.dst = some t → listedOf listed d.ix → VRel w G (dom (Hp kh)) (V k) (a.tmps.getD t undef)
  st : ∀ (t : Nat), (∀ (k : Nat) (d : DO), ds[k]? = some d → d.co.dst = some t → ¬ listedOf listed d.ix) → VRel w G (dom (Hp kh)) (get st.env t) (a.tmps.getD t undef)

section
variable {N : Nat} {D : List Deferred} {w0 : World} {G0 : Gm} {h0 : Heap} {K : Cfg} {O : Orc} {ds : List DO} {st : St} {ex : Ex} {st' : St} {V : Nat → AV} {E : Nat → Env} {Hp : Nat → Heap} {m : Nat} {ops : Array Oper}
  {listed : Array Bool} {a : Act} {w : World} {G : Gm} {kh : Nat}

/-- Operation k may come up. -/
structure Up (ops : Array Oper) (listed : Array Bool) (d : DO) (o : Oper) : Prop where
  op : ops[d.ix]? = some o
  un : ¬ listedOf listed d.ix
  on : ∀ e ∈ o.after, Region.binds .any e = true → listedOf listed e.on

theorem Up.anc (fit : Fit ops ds) (I : Inv N D w0 G0 h0 ops ds st V Hp m listed a w G kh) {k : Nat} {d : DO} {o : Oper} (hd : ds[k]? = some d) (u : Up ops listed d o) : ∀ i ∈ d.anc, listedOf listed i := fun i hi => by
  obtain ⟨o', ho, _, h2⟩ := fit.op k d hd
  rw [u.op] at ho
  injection ho with ho
  subst ho
  obtain ⟨e, he, hb, h3⟩ := h2 i hi
  have hon := u.on e he hb
  rcases h3 with rfl | ⟨p, c, _, h5, h6, h7⟩
  · exact hon
  · exact anc_closed fit I.clo p c h5 (h6 ▸ hon) i h7
theorem Up.later (fit : Fit ops ds) (I : Inv N D w0 G0 h0 ops ds st V Hp m listed a w G kh) {k : Nat} {d : DO} {o : Oper} (hd : ds[k]? = some d) (u : Up ops listed d o) {j : Nat} {c : DO} (hc : ds[j]? = some c) (hl : listedOf listed c.ix) : d.ix ∉ c.anc :=
  fun h => u.un (anc_closed fit I.clo j c hc hl _ h)

theorem Inv.env (fit : Fit ops ds) (T : Trace K O ds [] st ex st' V E Hp m) (I : Inv N D w0 G0 h0 ops ds st V Hp m listed a w G kh) {k : Nat} {d : DO} {o : Oper} (hd : ds[k]? = some d) (hk : k ≤ m) (u : Up ops listed d o) :
    EnvRel w G (dom (Hp kh)) (keep d.looks (E k)) a := fun t => by
  rw [keep_get']
  split
  · rename_i ht
    by_cases hw : ∃ (p : Nat) (c : DO), p < k ∧ ds[p]? = some c ∧ c.co.dst = some t
    · obtain ⟨p, c, hp, hc, hct⟩ := hw
      rw [T.write fit hc hct k hp hk]
      exact I.wr p c t hc hct (u.anc fit I hd _ (pairOk_looks (fit.pair p k c d hp hc hd) hct ht))
    · have hno : ∀ (p : Nat) (c : DO), p < k → ds[p]? = some c → c.co.dst ≠ some t := fun p c h1 h2 h3 => hw ⟨p, c, h1, h2, h3⟩
      rw [T.still k hk hno]
      refine I.st t fun k' d' h1 h2 h3 => ?_
      rcases Nat.lt_trichotomy k' k with h | h | h
      · exact hno k' d' h h1 h2
      · subst h
        rw [hd] at h1
        injection h1 with h1
        subst h1
        exact u.un h3
      · exact u.later fit I hd h1 h3 (pairOk_looked (fit.pair k k' d d' h hd h1) h2 ht)
  · exact .top _ _

/-- Where a loud operation may come up, the memory is its own. -/
theorem Inv.loudAt (fit : Fit ops ds) (T : Trace K O ds [] st ex st' V E Hp m) (I : Inv N D w0 G0 h0 ops ds st V Hp m listed a w G kh) {k : Nat} {d : DO} {o : Oper} (hd : ds[k]? = some d) (hk : k ≤ m) (u : Up ops listed d o) (hl : loud d.co = true) :
    kh ≤ k ∧ Hp k = Hp kh := by
  have h1 : kh ≤ k := by
    rcases Nat.lt_or_ge k kh with h | h
    · exact absurd ((I.ld k d hd hl).2 h) u.un
    · exact h
  refine ⟨h1, T.heap k h1 hk fun i c h2 h3 hc => ?_⟩
  by_cases hlc : loud c.co = true
  · have := u.anc fit I hd _ (pairOk_loud (fit.pair i k c d h3 hc hd) hlc)
    have := (I.ld i c hc hlc).1 this
    omega
  · simpa using hlc

/-- The next state. -/
theorem Inv.next (fit : Fit ops ds) (I : Inv N D w0 G0 h0 ops ds st V Hp m listed a w G kh) {k : Nat} {d : DO} {o : Oper} (hd : ds[k]? = some d) (hk : k < m) (u : Up ops listed d o) (hdst : d.co.dst = o.dst) (hin : inN N o.dst = true)
    {kh' : Nat} {x : Value} {w' : World} {G' : Gm} (hle : kh' ≤ m) (s' : Sim w' G' (Hp kh')) (g' : Goes w G (Hp kh) w' G' (Hp kh')) (hv : VRel w' G' (dom (Hp kh')) (V k) x)
    (hld : ∀ (j : Nat) (c : DO), ds[j]? = some c → loud c.co = true → (c.ix = d.ix ∨ listedOf listed c.ix ↔ j < kh')) :
    Inv N D w0 G0 h0 ops ds st V Hp m (listed.setIfInBounds d.ix true) (a.put o.dst x) w' G' kh' := by
  have hix : d.ix < listed.size := by rw [I.size]; exact (Array.getElem?_eq_some_iff.1 u.op).1
  have uniq : ∀ (j : Nat) (c : DO), ds[j]? = some c → c.ix = d.ix → j = k := fun j c hc he => by
    rcases Nat.lt_trichotomy j k with h | h | h
    · exact absurd he (pairOk_ix (fit.pair j k c d h hc hd))
    · exact h
    · exact absurd he.symm (pairOk_ix (fit.pair k j d c h hd hc))
  have slot : ∀ t, (a.put o.dst x).tmps.getD t undef = if o.dst = some t then x else a.tmps.getD t undef := fun t => by
    cases hdd : o.dst with
    | none => simp [Act.put]
    | some t' =>
      by_cases ht : t' = t
      · subst ht
        rw [hdd] at hin
        simp only [inN, decide_eq_true_eq] at hin
        have : t' < a.tmps.size := by rw [I.tm]; exact hin
        simp [Act.put, this]
      · have : ¬ (some t' = some t) := fun e => ht (by injection e)
        rw [if_neg this]
        simp [Act.put, Array.getD_eq_getD_getElem?, Array.getElem?_setIfInBounds_ne ht]
  refine { size := by simp [I.size], clo := ?_, lt := ?_, tm := by rw [put_size]; exact I.tm, df := by rw [put_defers]; exact I.df, le := hle, sim := s', goes := I.goes.trans g', ne := ?_, ld := ?_, wr := ?_, st := ?_ }
  · intro j oj hj hl e he hb
    rw [listed_set hix] at hl ⊢
    rcases hl with rfl | hl
    · rw [u.op] at hj
      injection hj with hj
      subst hj
      exact .inr (u.on e he hb)
    · exact .inr (I.clo j oj hj hl e he hb)
  · intro j c hc hl
    rw [listed_set hix] at hl
    rcases hl with hl | hl
    · rw [uniq j c hc hl]; exact hk
    · exact I.lt j c hc hl
  · intro e0
    have := g'.depth
    rw [e0] at this
    have hne := I.ne
    cases hs : Hp kh <;> simp_all
  · intro j c hc hl
    rw [listed_set hix]
    exact hld j c hc hl
  · intro j c t hc ht hl
    rw [listed_set hix] at hl
    rw [slot]
    rcases hl with hl | hl
    · have hjk := uniq j c hc hl
      subst hjk
      rw [hd] at hc
      injection hc with hc
      subst hc
      rw [if_pos (by rw [← hdst]; exact ht)]
      exact hv
    · have hjk : j ≠ k := fun e => by subst e; rw [hd] at hc; injection hc with hc; subst hc; exact u.un hl
      have hne : o.dst ≠ some t := by
        rw [← hdst]
        rcases Nat.lt_or_gt_of_ne hjk with h | h
        · exact pairOk_dst (fit.pair j k c d h hc hd) ht
        · intro e; exact pairOk_dst (fit.pair k j d c h hd hc) e ht
      rw [if_neg hne]
      exact (I.wr j c t hc ht hl).along g'
  · intro t ht
    have hne : o.dst ≠ some t := fun e => ht k d hd (by rw [hdst]; exact e) ((listed_set hix).2 (.inl rfl))
    rw [slot, if_neg hne]
    exact (I.st t fun j c hc hct hl => ht j c hc hct ((listed_set hix).2 (.inr hl))).along g'

/-- The loud ones, behind an operation that is not loud. -/
theorem Inv.ld_same (fit : Fit ops ds) (I : Inv N D w0 G0 h0 ops ds st V Hp m listed a w G kh) {k : Nat} {d : DO} (hd : ds[k]? = some d) (hl : loud d.co = false) :
    ∀ (j : Nat) (c : DO), ds[j]? = some c → loud c.co = true → (c.ix = d.ix ∨ listedOf listed c.ix ↔ j < kh) := fun j c hc hlc => by
  have hne : c.ix ≠ d.ix := fun e => by
    rcases Nat.lt_trichotomy j k with h | h | h
    · exact pairOk_ix (fit.pair j k c d h hc hd) e
    · subst h; rw [hd] at hc; injection hc with hc; subst hc; rw [hl] at hlc; cases hlc
    · exact pairOk_ix (fit.pair k j d c h hd hc) e.symm
  rw [← I.ld j c hc hlc]
  exact ⟨fun h => h.resolve_left hne, .inr⟩
theorem Inv.ld_loud (fit : Fit ops ds) (I : Inv N D w0 G0 h0 ops ds st V Hp m listed a w G kh) {k : Nat} {d : DO} {o : Oper} (hd : ds[k]? = some d) (u : Up ops listed d o) (hl : loud d.co = true) :
    ∀ (j : Nat) (c : DO), ds[j]? = some c → loud c.co = true → (c.ix = d.ix ∨ listedOf listed c.ix ↔ j < k + 1) := fun j c hc hlc => by
  rcases Nat.lt_trichotomy j k with h | h | h
  · exact ⟨fun _ => by omega, fun _ => .inr (u.anc fit I hd _ (pairOk_loud (fit.pair j k c d h hc hd) hlc))⟩
  · subst h
    rw [hd] at hc
    injection hc with hc
    subst hc
    exact ⟨fun _ => by omega, fun _ => .inl rfl⟩
  · refine ⟨fun h1 => ?_, fun h1 => by omega⟩
    rcases h1 with h1 | h1
    · exact absurd h1.symm (pairOk_ix (fit.pair k j d c h hd hc))
    · exact absurd (pairOk_loud (fit.pair k j d c h hd hc) hl) (u.later fit I hd hc h1)

/-- All have come up. -/
theorem Inv.done (fit : Fit ops ds) (T : Trace K O ds [] st ex st' V E Hp m) (I : Inv N D w0 G0 h0 ops ds st V Hp m listed a w G kh) (hr : Region.ready .any ops listed = []) : Post N D w0 G0 h0 ex st' .normal a w := by
  have all : ∀ (k : Nat) (d : DO), ds[k]? = some d → listedOf listed d.ix := fun k => by
    induction k using Nat.strongRecOn with
    | ind k ih =>
      intro d hd
      by_cases h : listedOf listed d.ix
      · exact h
      · obtain ⟨o, ho, h1, _⟩ := fit.op k d hd
        have hlt : d.ix < listed.size := by rw [I.size]; exact (Array.getElem?_eq_some_iff.1 ho).1
        have : d.ix ∈ Region.ready .any ops listed := mem_ready.2 ⟨by unfold listedOf at h; simpa [Array.getD, hlt] using h, o, ho, fun e he hb => by
          obtain ⟨p, c, hp, hc, hce⟩ := h1 e he hb
          have := ih p hp c hc
          rw [hce] at this
          exact this⟩
        rw [hr] at this
        cases this
  rcases T.fin with ⟨rfl, hm, rfl⟩ | ⟨d, q, v, h, hd, _⟩
  · have hh : Hp m = Hp kh := T.heap m I.le (Nat.le_refl m) fun i c h1 h2 hc => by
      by_cases hlc : loud c.co = true
      · have := (I.ld i c hc hlc).1 (all i c hc)
        omega
      · simpa using hlc
    refine ⟨G, by rw [hh]; exact I.sim, by simp only [hh]; exact I.goes, fun t => ?_, I.tm, I.df, rfl⟩
    simp only [hh]
    by_cases hw : ∃ (p : Nat) (c : DO), p < m ∧ ds[p]? = some c ∧ c.co.dst = some t
    · obtain ⟨p, c, hp, hc, hct⟩ := hw
      rw [T.write fit hc hct m hp (Nat.le_refl m)]
      exact I.wr p c t hc hct (all p c hc)
    · rw [T.still m (Nat.le_refl m) fun p c h1 h2 h3 => hw ⟨p, c, h1, h2, h3⟩]
      exact I.st t fun k d h1 h2 h3 => hw ⟨k, d, I.lt k d h1 h3, h1, h2⟩
  · exact absurd (I.lt m d hd (all m d hd)) (Nat.lt_irrefl m)

theorem Inv.step (fit : Fit ops ds) {H : Hints} {f : FuncId} (hO : FnSound P O) (hco : ∀ (k : Nat) (d : DO) (o : Oper), ds[k]? = some d → ops[d.ix]? = some o → d.co = cOper P H f N ops o)
    (T : Trace K O ds [] st ex st' V E Hp m) (I : Inv N D w0 G0 h0 ops ds st V Hp m listed a w G kh) {i : Nat} (hi : i ∈ Region.ready .any ops listed) {Kp : Act → World → Prop}
    (k : ∀ a' w' G' kh', Inv N D w0 G0 h0 ops ds st V Hp m (listed.setIfInBounds i true) a' w' G' kh' → Kp a' w')
    (cover : ∀ i, i < ops.size → ∃ d ∈ ds, d.ix = i) : wpOp P ops (Post N D w0 G0 h0 ex st') i Kp a w := by
  obtain ⟨hun, o, ho, hon⟩ := mem_ready.1 hi
  have hlt : i < listed.size := by rw [I.size]; exact (Array.getElem?_eq_some_iff.1 ho).1
  obtain ⟨d, hdm, hdi⟩ := cover i (by rw [← I.size]; exact hlt)
  obtain ⟨p, hd⟩ := List.getElem?_of_mem hdm
  subst hdi
  have u : Up ops listed d o := ⟨ho, (fun h => by unfold listedOf at h; simp [Array.getD, hlt] at h hun; rw [h] at hun; cases hun), hon⟩
  have hc := hco p d o hd ho
  have hdst : d.co.dst = o.dst := by rw [hc]; unfold cOper; split <;> (try split) <;> rfl
  -- the operation stands before the end
  have hpm : p ≤ m := by
    rcases T.fin with ⟨_, hm, _⟩ | ⟨c, q, v, h, hcm, _, hop, hq, _⟩
    · rw [hm]; exact Nat.le_of_lt (List.getElem?_eq_some_iff.1 hd).1
    · rcases Nat.lt_or_ge m p with h1 | h1
      · have := u.anc fit I hd _ (pairOk_loud (fit.pair m p c d h1 hcm hd) (by simp [loud, hop, hq]))
        exact absurd (I.lt m c hcm this) (Nat.lt_irrefl m)
      · exact h1
  have r := I.env fit T hd hpm u
  -- its shape
  have shape : d.co.op ≠ .bad → ∃ gd, cGuard ops o.guard = some gd ∧ inN N o.dst = true ∧ d.co = { dst := o.dst, gd := gd, op := cOp P H f o } := fun hb => by
    rw [hc] at hb ⊢
    unfold cOper at hb ⊢
    split at hb
    · exact absurd rfl hb
    · rename_i gd hgd
      split at hb
      · rename_i hin
        simp only [hgd, hin, if_true]
        exact ⟨gd, rfl, trivial, rfl⟩
      · exact absurd rfl hb
  have shape' : d.co.gd ≠ none → ∃ gd, cGuard ops o.guard = some gd ∧ inN N o.dst = true ∧ d.co = { dst := o.dst, gd := gd, op := cOp P H f o } := fun hb => by
    rw [hc] at hb ⊢
    unfold cOper at hb ⊢
    split at hb
    · exact absurd rfl hb
    · rename_i gd hgd
      split at hb
      · rename_i hin
        simp only [hgd, hin, if_true]
        exact ⟨gd, rfl, trivial, rfl⟩
      · exact absurd rfl hb
  unfold wpOp
  simp only [ho]
  rcases Nat.lt_or_ge p m with hp | hp
  · rcases T.stp p d hp hd with ⟨hw, hV, hH⟩ | ⟨hw, hS⟩
    · -- passed over
      have hg : d.co.gd ≠ none := fun e => by rw [e] at hw; simp [wanted] at hw
      obtain ⟨gd, hgd, hin, hco'⟩ := shape' hg
      rw [hco'] at hw
      have hwt := wanted_ok r hgd hw
      rw [if_neg (by rw [hwt]; simp)]
      have hv : ∀ {w' : World} {G' : Gm} {L : Loc → Prop}, VRel w' G' L (V p) undef := by intro w' G' L; rw [hV]; exact .tup _ _ _ rfl fun i hi => by simp at hi
      by_cases hl : loud d.co = true
      · obtain ⟨h1, h2⟩ := I.loudAt fit T hd hpm u hl
        have hH' : Hp (p + 1) = Hp kh := hH.trans h2
        exact k _ _ _ _ (I.next fit hd hp u hdst hin (kh' := p + 1) (by omega) (by rw [hH']; exact I.sim) (by rw [hH']; exact Goes.refl _ _ _) hv (I.ld_loud fit hd u hl))
      · exact k _ _ _ _ (I.next fit hd hp u hdst hin I.le I.sim (Goes.refl _ _ _) hv (I.ld_same fit hd (by simpa using hl)))
    · have hb : d.co.op ≠ .bad := fun e => by rcases hS with ⟨q, h1, _⟩ | ⟨q, h1, _⟩ | ⟨q, h1, _⟩ <;> rw [e] at h1 <;> cases h1
      obtain ⟨gd, hgd, hin, hco'⟩ := shape hb
      have hop' : d.co.op = cOp P H f o := by rw [hco']
      have hw' := hw
      rw [hco'] at hw'
      have hwt := wanted_ok r hgd hw'
      rw [if_pos hwt]
      refine .inl ?_
      rcases hS with ⟨q, h1, h2, h3⟩ | ⟨q, h1, h2, h3, h4⟩ | ⟨q, h1, h2, h3⟩
      · rw [hop'] at h1
        refine op_pure h1 r h2 fun x hx => ?_
        exact k _ _ _ _ (I.next fit hd hp u hdst hin I.le I.sim (Goes.refl _ _ _) hx (I.ld_same fit hd (by simp [loud, hop', h1])))
      · have hlf : loud d.co = false := by simp [loud, h1, h2]
        have hq : evQ K O q (keep d.looks (E p)) (Hp kh) = some (V p) := by
          rcases Nat.lt_or_ge kh p with hlt' | hge
          · have hh : Hp p = Hp kh := T.heap p (by omega) hpm fun j c e1 e2 hc => by
              by_cases hlc : loud c.co = true
              · have := u.anc fit I hd _ (pairOk_loud (fit.pair j p c d e2 hc hd) hlc)
                have := (I.ld j c hc hlc).1 this
                omega
              · simpa using hlc
            rw [← hh]
            exact T.later hd hp h1 h2 hw p (Nat.le_refl p) hpm fun j c e1 e2 => by omega
          · refine T.later hd hp h1 h2 hw kh hge I.le fun j c e1 e2 hc hlc => ?_
            exact pairOk_re (fit.pair p j d c e1 hd hc) hlc (by simp [quietC, h1, h2]) (u.later fit I hd hc ((I.ld j c hc hlc).2 e2))
        rw [hop'] at h1
        refine op_val hO h1 I.sim I.ne r (evQ_evM hq) fun x w' G' s' g' hx => ?_
        exact k _ _ _ _ (I.next fit hd hp u hdst hin I.le s' g' hx (I.ld_same fit hd hlf))
      · have hl : loud d.co = true := by simp [loud, h1, h2]
        obtain ⟨e1, e2⟩ := I.loudAt fit T hd hpm u hl
        rw [hop'] at h1
        rw [e2] at h3
        refine op_val hO h1 I.sim I.ne r h3 fun x w' G' s' g' hx => ?_
        exact k _ _ _ _ (I.next fit hd hp u hdst hin (kh' := p + 1) (by omega) s' g' hx (I.ld_loud fit hd u hl))
  · have hpe : p = m := by omega
    subst hpe
    rcases T.fin with ⟨_, hm, _⟩ | ⟨c, q, v, h, hcm, hw, hop, hq, hev, rfl, rfl⟩
    · have := (List.getElem?_eq_some_iff.1 hd).1
      omega
    · rw [hd] at hcm
      injection hcm with hcm
      subst hcm
      have hb : d.co.op ≠ .bad := fun e => by rw [e] at hop; cases hop
      obtain ⟨gd, hgd, hin, hco'⟩ := shape hb
      have hop' : d.co.op = cOp P H f o := by rw [hco']
      have hw' := hw
      rw [hco'] at hw'
      have hwt := wanted_ok r hgd hw'
      rw [if_pos hwt]
      refine .inl ?_
      have hl : loud d.co = true := by simp [loud, hop, hq]
      obtain ⟨e1, e2⟩ := I.loudAt fit T hd hpm u hl
      rw [hop'] at hop
      rw [e2] at hev
      refine op_pan hO hop I.sim r hev fun x w' G' s' g' hx => ?_
      exact ⟨G', s', I.goes.trans g', fun t => .top _ _, I.tm, I.df, x, rfl, hx⟩

theorem count_set : ∀ (l : List Bool) (i : Nat), l[i]? = some false → (l.set i true).count false + 1 = l.count false
  | [], i, h => by simp at h
  | b :: l, 0, h => by
    simp only [List.getElem?_cons_zero, Option.some.injEq] at h
    subst h
    simp
  | b :: l, i + 1, h => by
    have := count_set l i (by simpa using h)
    simp only [List.set_cons_succ, List.count_cons]
    omega

theorem draw_any (fit : Fit ops ds) {H : Hints} {f : FuncId} (hO : FnSound P O) (hco : ∀ (k : Nat) (d : DO) (o : Oper), ds[k]? = some d → ops[d.ix]? = some o → d.co = cOper P H f N ops o)
    (T : Trace K O ds [] st ex st' V E Hp m) (cover : ∀ i, i < ops.size → ∃ d ∈ ds, d.ix = i) : ∀ (fuel : Nat) (listed : Array Bool) (a : Act) (w : World) (G : Gm) (kh : Nat),
    Inv N D w0 G0 h0 ops ds st V Hp m listed a w G kh → listed.toList.count false ≤ fuel → wpAny P .any ops (Post N D w0 G0 h0 ex st') fuel listed a w
  | 0, listed, a, w, G, kh, I, hc => by
    have hr : Region.ready .any ops listed = [] := by
      refine List.eq_nil_iff_forall_not_mem.2 fun i hi => ?_
      obtain ⟨hun, o, ho, _⟩ := mem_ready.1 hi
      have hlt : i < listed.size := by rw [I.size]; exact (Array.getElem?_eq_some_iff.1 ho).1
      have : false ∈ listed.toList := by
        have e : listed[i]'hlt = false := by simpa [Array.getD, hlt] using hun
        rw [← e]; simp
      have := List.count_pos_iff.2 this
      omega
    exact ⟨hr, I.done fit T hr⟩
  | fuel + 1, listed, a, w, G, kh, I, hc => by
    refine ⟨fun hr => I.done fit T hr, fun i hi => ?_⟩
    refine I.step fit hO hco T hi (fun a' w' G' kh' I' => draw_any fit hO hco T cover fuel _ a' w' G' kh' I' ?_) cover
    obtain ⟨hun, o, ho, _⟩ := mem_ready.1 hi
    have hlt : i < listed.size := by rw [I.size]; exact (Array.getElem?_eq_some_iff.1 ho).1
    have e : listed[i]'hlt = false := by simpa [Array.getD, hlt] using hun
    have := count_set listed.toList i (by rw [Array.getElem?_toList, Array.getElem?_eq_getElem hlt, e])
    rw [Array.toList_setIfInBounds]
    omega

end

theorem draw_ok {O : Orc} (hO : FnSound P O) {H : Hints} {f : FuncId} {N : Nat} {D : List Deferred} {K : Cfg} {id : Nat} {ops : Array Oper} {hs : List (Nat × List Nat × List Nat)} {st : St} {ex : Ex} {st' : St}
    (he : evC K O (cDraw P H f N ops hs) st = some (ex, st')) {w0 : World} {G0 : Gm} {h0 : Heap} {w : World} {G : Gm} {a : Act} (g : Goes w0 G0 h0 w G st.h) (s : Sim w G st.h) (hn : st.h ≠ []) (r : EnvRel w G (dom st.h) st.env a)
    (hN : a.tmps.size = N) (hd : a.defers = D) : (Code.region id ops true).wp P (Post N D w0 G0 h0 ex st') a w := by
  unfold cDraw at he
  split at he
  · rename_i hok
    obtain ⟨hmx, hok⟩ := hok
    simp only [evC] at he
    obtain ⟨fit, cover⟩ := okD_fit _ _ hok ⟨fun k d h => by simp at h, fun p q c d _ h => by simp at h⟩
    simp only [List.reverse_nil, List.nil_append] at fit cover
    obtain ⟨V, E, Hp, m, T⟩ := evD_trace _ _ _ _ _ he
    refine wp_region_any hmx ?_
    have hco : ∀ (k : Nat) (d : DO) (o : Oper), (hs.map (cDO P H f N ops))[k]? = some d → ops[d.ix]? = some o → d.co = cOper P H f N ops o := fun k d o hk ho => by
      rw [List.getElem?_map] at hk
      cases hx : hs[k]? with
      | none => rw [hx] at hk; cases hk
      | some x =>
        rw [hx] at hk
        simp only [Option.map_some, Option.some.injEq] at hk
        subst hk
        unfold cDO at ho ⊢
        cases hz : ops[x.1]? with
        | none => rw [hz] at ho; simp only [hz] at ho; cases ho
        | some o' =>
          rw [hz] at ho
          simp only [hz, Option.some.injEq] at ho
          simp only [ho]
    have none_ : ∀ i, ¬ listedOf (Array.replicate ops.size false) i := fun i h => by
      unfold listedOf at h
      simp only [Array.getD_eq_getD_getElem?] at h
      rw [Array.getElem?_replicate] at h
      split at h <;> simp at h
    have s1 : Sim { w with drawn := w.drawn + 1 } G (Hp 0) := by rw [T.h0]; exact s.world (Nat.le_refl _) fun b _ => rfl
    have g1 : Goes w G st.h { w with drawn := w.drawn + 1 } G st.h := Goes.world s rfl rfl rfl (Nat.le_refl _) fun b _ => rfl
    refine draw_any fit hO hco T cover ops.size _ a _ G 0 ?_ (by simp [List.count_replicate])
    refine { size := by simp, clo := fun j o _ h => absurd h (none_ j), lt := fun k d _ h => absurd h (none_ _), tm := hN, df := hd, le := Nat.zero_le m, sim := s1, goes := ?_, ne := by rw [T.h0]; exact hn,
             ld := fun k d _ _ => ⟨fun h => absurd h (none_ _), fun h => absurd h (Nat.not_lt_zero k)⟩, wr := fun k d t _ _ h => absurd h (none_ _), st := fun t _ => ?_ }
    · rw [T.h0]; exact g.trans g1
    · rw [T.h0]; exact (r t).along g1
  · simp [evC] at he

end Go.Ab

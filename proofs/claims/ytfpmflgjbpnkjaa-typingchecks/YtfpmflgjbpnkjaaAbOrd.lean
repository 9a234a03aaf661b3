/-
  Policies that fit their schemas: other orders of the schemas, further schemas, and changed nodes.
-/
import Derived.Test.YtfpmflgjbpnkjaaAbTyp
set_option linter.unusedVariables false
set_option linter.unusedSimpArgs false
namespace Go.Ab.Pol

theorem firstE_zero : ∀ {l : List (Int × Int)}, (firstE l).2 = 0 → firstE l = (0, 0) ∧ ∀ e ∈ l, e.2 = 0
  | [], _ => ⟨rfl, fun e h => by simp at h⟩
  | e :: l, h => by
    simp only [firstE] at h ⊢
    by_cases he : e.2 = 0
    · rw [if_pos he] at h ⊢
      obtain ⟨a, b⟩ := firstE_zero h
      exact ⟨a, fun x hx => by
        rcases List.mem_cons.1 hx with rfl | hx
        · exact he
        · exact b x hx⟩
    · rw [if_neg he] at h
      exact absurd h he
theorem zero_firstE : ∀ {l : List (Int × Int)}, (∀ e ∈ l, e.2 = 0) → firstE l = (0, 0)
  | [], _ => rfl
  | e :: l, h => by
    simp only [firstE]
    rw [if_pos (h e (by simp))]
    exact zero_firstE fun x hx => h x (by simp [hx])
structure FitP (p : Po) (l : List Sc) (t : Tr) : Prop where
  ready : readyE p l = 0
  revs : ∀ r ∈ p.reveal.l, (findF p.uses.l l r).isSome = true
  conds : ∀ s ∈ t.subs, (condE (vtOf p.uses.l l) s).2 = 0
theorem fit_of {p : Po} {l : List Sc} {t : Tr} (h : (typT p l t).2 = 0) : FitP p l t ∧ typT p l t = (0, 0) := by
  unfold typT at h ⊢
  split at h
  · rename_i a; exact absurd h a
  rename_i a
  split at h
  · simp at h
  rename_i b
  rw [if_neg a, if_neg b]
  rw [visit_first] at h ⊢
  obtain ⟨c, d⟩ := firstE_zero h
  refine ⟨⟨by simpa using a, ?_, fun s hs => d _ (List.mem_map.2 ⟨s, hs, rfl⟩)⟩, c⟩
  have b : p.reveal.l.all (fun r => (findF p.uses.l l r).isSome) = true := (Bool.not_eq_false _).mp b
  exact List.all_eq_true.1 b
theorem of_fit {p : Po} {l : List Sc} {t : Tr} (h : FitP p l t) : typT p l t = (0, 0) := by
  unfold typT
  rw [if_neg (by simp [h.ready]), if_neg (by rw [List.all_eq_true.2 h.revs]; simp), visit_first]
  exact zero_firstE fun e he => by
    obtain ⟨s, hs, rfl⟩ := List.mem_map.1 he
    exact h.conds s hs
theorem firstS_zero : ∀ {l : List Sc}, firstS l = 0 → ∀ s ∈ l, schE s = 0
  | [], _, s, h => by simp at h
  | x :: l, h, s, hs => by
    simp only [firstS] at h
    split at h
    · rename_i a
      rcases List.mem_cons.1 hs with rfl | hs
      · exact a
      · exact firstS_zero h s hs
    · rename_i a; exact absurd h a
theorem zero_firstS : ∀ {l : List Sc}, (∀ s ∈ l, schE s = 0) → firstS l = 0
  | [], _ => rfl
  | x :: l, h => by
    simp only [firstS]
    rw [if_pos (h x (by simp))]
    exact zero_firstS fun s hs => h s (by simp [hs])
structure ReadyP (p : Po) (l : List Sc) : Prop where
  chk : chk p = 0
  sch : ∀ s ∈ l, schE s = 0
  nd : (l.map Sc.name).Nodup
  uses : ∀ u ∈ p.uses.l, (scN l u.sc).isSome = true
theorem ready_of {p : Po} {l : List Sc} (h : readyE p l = 0) : ReadyP p l := by
  unfold readyE at h
  split at h
  · rename_i a; exact absurd h a
  rename_i a
  split at h
  · rename_i b; exact absurd h b
  rename_i b
  split at h
  · simp at h
  rename_i c
  split at h
  · simp at h
  rename_i d
  refine ⟨by simpa using a, firstS_zero (by simpa using b), Classical.not_not.1 c, ?_⟩
  have d : p.uses.l.all (fun u => (scN l u.sc).isSome) = true := (Bool.not_eq_false _).mp d
  exact List.all_eq_true.1 d
theorem of_ready {p : Po} {l : List Sc} (h : ReadyP p l) : readyE p l = 0 := by
  unfold readyE
  rw [if_neg (by simp [h.chk]), if_neg (by simp [zero_firstS h.sch]), if_neg (by simp [h.nd]), if_neg (by rw [List.all_eq_true.2 h.uses]; simp)]
theorem scN_mem : ∀ {l : List Sc} {nm : Bs} {s : Sc}, (l.map Sc.name).Nodup → s ∈ l → s.name = nm → scN l nm = some s
  | [], _, _, _, h, _ => by simp at h
  | x :: l, nm, s, hn, hs, he => by
    unfold scN
    simp only [List.map_cons, List.nodup_cons] at hn
    rcases List.mem_cons.1 hs with rfl | hs
    · simp [List.find?, he]
    · have hx : x.name ≠ nm := fun e => hn.1 (by rw [e, ← he]; exact List.mem_map.2 ⟨s, hs, rfl⟩)
      simp only [List.find?, hx, decide_false]
      exact scN_mem hn.2 hs he
theorem scN_of {l : List Sc} {nm : Bs} {s : Sc} (h : scN l nm = some s) : s ∈ l ∧ s.name = nm := by
  unfold scN at h
  exact ⟨List.mem_of_find?_eq_some h, by simpa using List.find?_some h⟩
theorem findF_more {us : List Us} {l m : List Sc} (hu : ∀ u ∈ us, (scN l u.sc).isSome = true) (hm : (m.map Sc.name).Nodup) (hs : ∀ s ∈ l, s ∈ m) (r : Rf) : findF us m r = findF us l r := by
  unfold findF
  cases useI us r.al with
  | none => rfl
  | some u =>
    simp only
    cases hx : us[u]? with
    | none => rfl
    | some x =>
      simp only
      obtain ⟨s, e⟩ := Option.isSome_iff_exists.1 (hu x (List.mem_of_getElem? hx))
      obtain ⟨a, b⟩ := scN_of e
      rw [e, scN_mem hm (hs s a) b]
/-- Other schemas, among which all the old ones are. -/
theorem fit_more {p : Po} {l m : List Sc} {t : Tr} (h : FitP p l t) (hv : ∀ s ∈ m, schE s = 0) (hm : (m.map Sc.name).Nodup) (hs : ∀ s ∈ l, s ∈ m) : FitP p m t := by
  have r := ready_of h.ready
  have hf : findF p.uses.l m = findF p.uses.l l := funext fun x => findF_more r.uses hm hs x
  have hvt : vtOf p.uses.l m = vtOf p.uses.l l := funext fun n => by unfold vtOf; rw [hf]
  refine ⟨of_ready ⟨r.chk, hv, hm, fun u hu => ?_⟩, fun x hx => by rw [hf]; exact h.revs x hx, fun s q => by rw [hvt]; exact h.conds s q⟩
  obtain ⟨s, e⟩ := Option.isSome_iff_exists.1 (r.uses u hu)
  obtain ⟨a, b⟩ := scN_of e
  rw [scN_mem hm (hs s a) b]
  rfl

/- A node that is changed. -/
theorem isTs_iff {ns : List Nd} : ∀ {ts : List Tr}, IsTs ns ts ↔ ∀ t ∈ ts, IsT ns t
  | [] => by simp [IsTs]
  | t :: ts => by simp [IsTs, isTs_iff (ts := ts)]
theorem wfs_iff {c : Bool} : ∀ {ts : List Tr}, WFs ts c ↔ ∀ t ∈ ts, WF t c
  | [] => by simp [WFs]
  | t :: ts => by simp [WFs, wfs_iff (ts := ts)]
theorem deps_iff {f : Nat} : ∀ {ts : List Tr}, Tr.deps ts ≤ f ↔ ∀ t ∈ ts, t.dep ≤ f
  | [] => by simp [Tr.deps]
  | t :: ts => by
    simp only [Tr.deps, List.mem_cons, forall_eq_or_imp]
    rw [← deps_iff (ts := ts)]
    omega
theorem pres_flat : ∀ ts : List Tr, Tr.pres ts = ts.flatMap Tr.pre
  | [] => rfl
  | t :: ts => by simp [Tr.pres, pres_flat ts]
theorem subss_flat : ∀ ts : List Tr, Tr.subss ts = ts.flatMap Tr.subs
  | [] => rfl
  | t :: ts => by simp [Tr.subss, subss_flat ts]
section
variable (i : Nat) (n' : Nd) (sw : Bool)
mutual
/-- The tree with another node at an index, its kids exchanged or not. -/
def swT : Tr → Tr
  | .nd j n ks => if j = i then .nd j n' (if sw then (swTs ks).reverse else swTs ks) else .nd j n (swTs ks)
def swTs : List Tr → List Tr
  | [] => []
  | t :: ts => swT t :: swTs ts
end
end
theorem swTs_map (i : Nat) (n' : Nd) (sw : Bool) : ∀ ts : List Tr, swTs i n' sw ts = ts.map (swT i n' sw)
  | [] => rfl
  | t :: ts => by simp [swTs, swTs_map i n' sw ts]
theorem swT_i (i : Nat) (n' : Nd) (sw : Bool) : ∀ t : Tr, (swT i n' sw t).i = t.i
  | .nd j n ks => by
    simp only [swT]
    split <;> rfl
structure SwOk (n0 n' : Nd) (sw : Bool) : Prop where
  nm : n'.nm = n0.nm
  attr : n'.attr = n0.attr
  k : n'.k = n0.k
  how : (sw = true ∧ n0.k = 6 ∧ (n0.num = 0 ∨ n0.num = 1) ∧ n'.num = n0.num ∧ n0.kids.l.length = 2 ∧ n'.kids.l = n0.kids.l.reverse) ∨
    (sw = false ∧ n0.k = 10 ∧ -2147483648 ≤ n'.num ∧ n'.num ≤ 2147483647 ∧ n'.kids.l = n0.kids.l)
section
variable {i : Nat} {n0 n' : Nd} {sw : Bool} {ns : List Nd}
mutual
theorem swT_isT (h0 : ns[i]? = some n0) (ok : SwOk n0 n' sw) : ∀ t : Tr, IsT ns t → IsT (ns.set i n') (swT i n' sw t)
  | .nd j n ks, ⟨a1, a2, a3⟩ => by
    have ih := swTs_isT h0 ok ks a3
    have hlt := (List.getElem?_eq_some_iff.1 h0).1
    have hmap : (swTs i n' sw ks).map (fun t => (t.i : Int)) = ks.map (fun t => (t.i : Int)) := by
      rw [swTs_map, List.map_map]
      exact List.map_congr_left fun t _ => by simp [swT_i]
    simp only [swT]
    split
    · rename_i e
      subst e
      rw [h0] at a1
      injection a1 with a1
      subst a1
      refine ⟨by rw [List.getElem?_set_self hlt], ?_, ?_⟩
      · rcases ok.how with ⟨rfl, _, _, _, _, q⟩ | ⟨rfl, _, _, _, q⟩
        · simp only [if_true, List.map_reverse, hmap]
          rw [q, a2]
        · simp only [Bool.false_eq_true, if_false, hmap]
          rw [q, a2]
      · cases sw
        · simpa using ih
        · rw [isTs_iff] at ih ⊢
          intro t ht
          exact ih t (by simpa using ht)
    · rename_i e
      refine ⟨by rw [List.getElem?_set_ne (fun q => e q.symm)]; exact a1, ?_, ih⟩
      rw [hmap]; exact a2
theorem swTs_isT (h0 : ns[i]? = some n0) (ok : SwOk n0 n' sw) : ∀ ts : List Tr, IsTs ns ts → IsTs (ns.set i n') (swTs i n' sw ts)
  | [], _ => trivial
  | t :: ts, h => ⟨swT_isT h0 ok t h.1, swTs_isT h0 ok ts h.2⟩
end
theorem form_sw (ok : SwOk n0 n' sw) {c : Bool} (h : formE n0 c = 0) : formE n' c = 0 := by
  have hl : n'.kids.l.length = n0.kids.l.length := by
    rcases ok.how with ⟨_, _, _, _, _, q⟩ | ⟨_, _, _, _, q⟩ <;> rw [q]
    simp
  have hs : shapeOk n' c = shapeOk n0 c := by simp only [shapeOk, textsOk, ok.k, ok.nm, ok.attr, hl]
  unfold formE at h ⊢
  rw [hs]
  split at h
  · simp at h
  · rename_i a
    rw [if_neg a]
    split at h
    · simp at h
    · rename_i b
      rw [if_neg]
      rcases ok.how with ⟨_, a1, _, q, _, _⟩ | ⟨_, a1, q1, q2, _⟩
      · simp only [lowN, highN, ok.k, a1, q] at b ⊢
        simpa using b
      · simp only [lowN, highN, ok.k, a1]
        simp
        omega
mutual
theorem swT_wf (h0 : ns[i]? = some n0) (ok : SwOk n0 n' sw) : ∀ (t : Tr) {c : Bool}, IsT ns t → WF t c → WF (swT i n' sw t) c
  | .nd j n ks, c, ⟨a1, a2, a3⟩, ⟨b1, b2⟩ => by
    have ih := swTs_wf h0 ok ks a3 b2
    simp only [swT]
    split
    · rename_i e
      subst e
      rw [h0] at a1
      injection a1 with a1
      subst a1
      refine ⟨form_sw ok b1, ?_⟩
      rw [ok.k]
      cases sw
      · simpa using ih
      · rw [wfs_iff] at ih ⊢
        intro t ht
        exact ih t (by simpa using ht)
    · exact ⟨b1, ih⟩
theorem swTs_wf (h0 : ns[i]? = some n0) (ok : SwOk n0 n' sw) : ∀ (ts : List Tr) {c : Bool}, IsTs ns ts → WFs ts c → WFs (swTs i n' sw ts) c
  | [], _, _, _ => trivial
  | t :: ts, c, h, w => ⟨swT_wf h0 ok t h.1 w.1, swTs_wf h0 ok ts h.2 w.2⟩
end
mutual
theorem swT_dep : ∀ (t : Tr) (f : Nat), t.dep ≤ f → (swT i n' sw t).dep ≤ f
  | .nd j n ks, f, h => by
    cases f with
    | zero => simp [Tr.dep] at h
    | succ f =>
      have ih := swTs_dep ks f (by simp only [Tr.dep] at h; omega)
      simp only [swT]
      split
      · cases sw
        · simp only [Tr.dep, Bool.false_eq_true, if_false]; omega
        · have : Tr.deps (swTs i n' true ks).reverse ≤ f := by
            rw [deps_iff] at ih ⊢
            intro t ht
            exact ih t (by simpa using ht)
          simp only [Tr.dep, if_true]; omega
      · simp only [Tr.dep]; omega
theorem swTs_dep : ∀ (ts : List Tr) (f : Nat), Tr.deps ts ≤ f → Tr.deps (swTs i n' sw ts) ≤ f
  | [], f, h => h
  | t :: ts, f, h => by
    simp only [Tr.deps] at h
    have a := swT_dep t f (by omega)
    have b := swTs_dep ts f (by omega)
    simp only [swTs, Tr.deps]; omega
end
mutual
theorem swT_pre : ∀ t : Tr, (swT i n' sw t).pre.Perm t.pre
  | .nd j n ks => by
    have ih := swTs_pre ks
    simp only [swT]
    split
    · cases sw
      · simpa [Tr.pre] using ih
      · simp only [Tr.pre, if_true]
        refine List.Perm.cons _ (List.Perm.trans ?_ ih)
        rw [pres_flat, pres_flat]
        exact (List.reverse_perm _).flatMap_right _
    · simpa [Tr.pre] using ih
theorem swTs_pre : ∀ ts : List Tr, (Tr.pres (swTs i n' sw ts)).Perm (Tr.pres ts)
  | [] => List.Perm.refl _
  | t :: ts => by
    simp only [swTs, Tr.pres]
    exact (swT_pre t).append (swTs_pre ts)
end
mutual
theorem swT_subs : ∀ (t : Tr), ∀ s ∈ (swT i n' sw t).subs, ∃ s0 ∈ t.subs, s = swT i n' sw s0
  | .nd j n ks, s, hs => by
    have ih := swTs_subs ks
    have key : s = swT i n' sw (.nd j n ks) ∨ s ∈ Tr.subss (swTs i n' sw ks) := by
      simp only [swT] at hs ⊢
      split at hs
      · rename_i e
        rw [if_pos e]
        cases sw
        · simpa [Tr.subs] using hs
        · simp only [Tr.subs, if_true, List.mem_cons] at hs ⊢
          refine hs.imp id fun q => ?_
          rw [subss_flat, List.mem_flatMap] at q ⊢
          obtain ⟨a, b, c⟩ := q
          exact ⟨a, by simpa using b, c⟩
      · rename_i e
        rw [if_neg e]
        simpa [Tr.subs] using hs
    rcases key with rfl | q
    · exact ⟨.nd j n ks, by simp [Tr.subs], rfl⟩
    · obtain ⟨s0, a, b⟩ := ih s q
      exact ⟨s0, by simp [Tr.subs, a], b⟩
theorem swTs_subs : ∀ (ts : List Tr), ∀ s ∈ Tr.subss (swTs i n' sw ts), ∃ s0 ∈ Tr.subss ts, s = swT i n' sw s0
  | [], s, hs => by simp [swTs, Tr.subss] at hs
  | t :: ts, s, hs => by
    simp only [swTs, Tr.subss, List.mem_append] at hs
    rcases hs with hs | hs
    · obtain ⟨s0, a, b⟩ := swT_subs t s hs
      exact ⟨s0, by simp [Tr.subss, a], b⟩
    · obtain ⟨s0, a, b⟩ := swTs_subs ts s hs
      exact ⟨s0, by simp [Tr.subss, a], b⟩
end
theorem swT_n (f : Nd → Option VT) (h0 : ns[i]? = some n0) (hf : f n' = f n0) : ∀ t : Tr, IsT ns t → f (swT i n' sw t).n = f t.n
  | .nd j n ks, ⟨a1, _⟩ => by
    simp only [swT]
    split
    · rename_i e
      subst e
      rw [h0] at a1
      injection a1 with a1
      subst a1
      exact hf
    · rfl
theorem kidsV_sw (f : Nd → Option VT) (h0 : ns[i]? = some n0) (hf : f n' = f n0) : ∀ ts : List Tr, IsTs ns ts → kidsV f (swTs i n' sw ts) = kidsV f ts
  | [], _ => rfl
  | t :: ts, h => by
    simp only [swTs, kidsV, swT_n f h0 hf t h.1, swT_i, kidsV_sw f h0 hf ts h.2]
theorem agree_comm (a b : VT) (h : agreeV a b = 0) : agreeV b a = 0 := by
  cases a <;> cases b <;> simp only [agreeV] at h ⊢ <;> (try exact h)
  rename_i x y
  split at h
  · rename_i e; simp [e]
  · cases h
theorem condE_sw (f : Nd → Option VT) (h0 : ns[i]? = some n0) (ok : SwOk n0 n' sw) (hf : f n' = f n0) : ∀ s : Tr, IsT ns s → (condE f s).2 = 0 → (condE f (swT i n' sw s)).2 = 0
  | .nd j n ks, ⟨a1, a2, a3⟩, h => by
    have hk := kidsV_sw (sw := sw) f h0 hf ks a3
    simp only [swT]
    split
    · rename_i e
      subst e
      rw [h0] at a1
      injection a1 with a1
      subst a1
      rcases ok.how with ⟨rfl, b1, b2, b3, b4, b5⟩ | ⟨rfl, b1, _⟩
      · rw [a2, List.length_map] at b4
        obtain ⟨x, y, rfl⟩ : ∃ x y, ks = [x, y] := by
          match ks, b4 with
          | [x, y], _ => exact ⟨x, y, rfl⟩
        have hx := swT_n (sw := true) f h0 hf x a3.1
        have hy := swT_n (sw := true) f h0 hf y a3.2.1
        have num : ¬ (n0.num ≠ 0 ∧ n0.num ≠ 1 ∧ True) := by omega
        simp only [condE, b1, true_or, if_true, kidsV] at h
        simp only [condE, ok.k, b1, true_or, if_true, swTs, List.reverse_cons, List.reverse_nil, List.nil_append, List.singleton_append, kidsV, hx, hy]
        cases ex : f x.n with
        | none => rw [ex] at h; simp at h
        | some u =>
          cases ey : f y.n with
          | none => rw [ex, ey] at h; simp at h
          | some v =>
            rw [ex, ey] at h
            have c0 : agreeV u v = 0 := by
              have n1 : ¬ (n0.num ≠ 0 ∧ n0.num ≠ 1 ∧ [u, v].all isNum = false) := fun q => num ⟨q.1, q.2.1, trivial⟩
              simp only [condV, b1, if_true, if_neg n1, firstA, firstL] at h
              by_cases z : agreeV u v = 0
              · exact z
              · simp [z] at h
            have n2 : ¬ (n'.num ≠ 0 ∧ n'.num ≠ 1 ∧ [v, u].all isNum = false) := fun q => num ⟨by rw [← b3]; exact q.1, by rw [← b3]; exact q.2.1, trivial⟩
            have e0 : condV n' [v, u] = 0 := by
              unfold condV
              rw [ok.k, b1, if_pos rfl, if_neg n2]
              simp [firstA, firstL, agree_comm u v c0]
            simp only [e0, if_true]
      · simp [condE, ok.k, b1]
    · simp only [condE] at h ⊢
      rw [hk]
      exact h
end
/-- A comparison whose values are exchanged, or a number that is another one. -/
theorem fit_sw {p q : Po} {l : List Sc} {t : Tr} {i : Nat} {n0 n' : Nd} {sw : Bool} (g : Good p t) (h : FitP p l t) (h0 : p.nodes.l[i]? = some n0) (ok : SwOk n0 n' sw)
    (hn : q.nodes.l = p.nodes.l.set i n') (hq : q.name = p.name ∧ q.uses = p.uses ∧ q.reveal = p.reveal ∧ q.root = p.root ∧ q.scope = p.scope ∧ q.limit = p.limit ∧ q.escrow = p.escrow) :
    Good q (swT i n' sw t) ∧ FitP q l (swT i n' sw t) := by
  obtain ⟨e1, e2, e3, e4, e5, e6, e7⟩ := hq
  have gq : Good q (swT i n' sw t) := by
    refine ⟨by rw [hn, e2, e3, List.length_set]; exact g.sizes, ?_, by rw [e5, e6]; exact g.limit, by rw [hn]; exact swT_isT h0 ok t g.isT, by rw [swT_i, e4]; exact g.root, swT_wf h0 ok t g.isT g.wf,
      swT_dep t _ g.dep, (swT_pre t).nodup_iff.2 g.nodup, by rw [hn, List.length_set, ← g.all]; exact (swT_pre t).length_eq, by rw [e2]; exact g.aliases, by rw [e3]; exact g.reveals, ?_, ?_⟩
    · have := g.names
      unfold namesOk at this ⊢
      rw [e1, e2, e3, e5, e7]; exact this
    · intro r hr
      rw [e3] at hr
      have := g.revs r hr
      unfold used at this ⊢
      rw [e2]; exact this
    · intro n hm hk
      rw [hn] at hm
      have : n ∈ p.nodes.l := by
        rcases List.mem_or_eq_of_mem_set hm with q | rfl
        · exact q
        · rw [ok.k] at hk
          rcases ok.how with ⟨_, q, _⟩ | ⟨_, q, _⟩ <;> omega
      have := g.refs n this hk
      unfold used at this ⊢
      rw [e2]; exact this
  have r := ready_of h.ready
  refine ⟨gq, of_ready ⟨good_chk gq, r.sch, r.nd, by rw [e2]; exact r.uses⟩, by rw [e2, e3]; exact h.revs, fun s hs => ?_⟩
  obtain ⟨s0, a, rfl⟩ := swT_subs t s hs
  rw [e2]
  have hf : vtOf p.uses.l l n' = vtOf p.uses.l l n0 := by unfold vtOf; rw [ok.k, ok.nm, ok.attr]
  exact condE_sw _ h0 ok hf s0 (subs_isT g.isT s0 a) (h.conds s0 a)
end Go.Ab.Pol

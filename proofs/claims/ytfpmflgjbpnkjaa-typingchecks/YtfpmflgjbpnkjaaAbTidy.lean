/-
  Tidy policies: the nodes that are reached, numbered anew.
-/
import Derived.Test.YtfpmflgjbpnkjaaAbOrd
set_option linter.unusedVariables false
set_option linter.unusedSimpArgs false
namespace Go.Ab.Pol

def reaL (v : Int → List Int → Bool × List Int) : List Int → List Int → Bool × List Int
  | [], seen => (true, seen)
  | k :: ks, seen => if (v k seen).1 = true then reaL v ks (v k seen).2 else v k seen
/-- The nodes that are reached. -/
def rea (ns : List Nd) : Nat → Int → List Int → Bool × List Int
  | 0, i, seen => (false, seen)
  | f + 1, i, seen => if badAt ns i seen = true ∨ seen.length = 512 then (false, seen) else match ns[i.toNat]? with
    | none => (false, seen)
    | some n => reaL (fun k s => rea ns f k s) n.kids.l (seen ++ [i])
mutual
theorem rea_of : ∀ (t : Tr) {ns : List Nd} {f : Nat} {seen : List Int}, IsT ns t → t.dep ≤ f → (seen ++ ints t.pre).Nodup → seen.length + t.pre.length ≤ 512 → rea ns f t.i seen = (true, seen ++ ints t.pre)
  | .nd i n ks, ns, f, seen, h1, h3, h4, h5 => by
    obtain ⟨a1, a2, a3⟩ := h1
    cases f with
    | zero => simp [Tr.dep] at h3
    | succ f =>
      have hlt := (List.getElem?_eq_some_iff.1 a1).1
      have hb : badAt ns (i : Int) seen = false := bad_false.2 ⟨by omega, by omega, fun hm => by
        simp only [Tr.pre, List.map_cons] at h4
        have := (List.nodup_append.1 h4).2.2 _ hm (i : Int) (by simp)
        exact this rfl⟩
      simp only [Tr.pre, List.length_cons] at h5
      have := reas_of ks (ns := ns) (f := f) (seen := seen ++ [(i : Int)]) a3 (by simp only [Tr.dep] at h3; omega) (by simpa [Tr.pre] using h4) (by simp; omega)
      show rea ns (f + 1) (i : Int) seen = _
      rw [rea, if_neg (by rw [hb]; rintro (q | q); cases q; omega)]
      simp only [Int.toNat_natCast, a1, a2, this]
      simp [Tr.pre]
theorem reas_of : ∀ (ts : List Tr) {ns : List Nd} {f : Nat} {seen : List Int}, IsTs ns ts → Tr.deps ts ≤ f → (seen ++ ints (Tr.pres ts)).Nodup → seen.length + (Tr.pres ts).length ≤ 512 → reaL (fun k s => rea ns f k s) (ts.map fun t => (t.i : Int)) seen = (true, seen ++ ints (Tr.pres ts))
  | [], ns, f, seen, _, _, _, _ => by simp [reaL, Tr.pres]
  | t :: ts, ns, f, seen, h1, h3, h4, h5 => by
    have h4' : ((seen ++ ints t.pre) ++ ints (Tr.pres ts)).Nodup := by simpa [Tr.pres] using h4
    simp only [Tr.pres, List.length_append] at h5
    have k1 := rea_of t (f := f) (seen := seen) h1.1 (by simp only [Tr.deps] at h3; omega) (List.nodup_append.1 h4').1 (by omega)
    have k2 := reas_of ts (f := f) (seen := seen ++ ints t.pre) h1.2 (by simp only [Tr.deps] at h3; omega) h4' (by simp; omega)
    simp only [List.map_cons, reaL, k1, if_true, k2]
    simp [Tr.pres]
end
theorem reaL_tree {ns : List Nd} {f : Nat} (ih : ∀ (i : Int) (seen s' : List Int), seen.Nodup → rea ns f i seen = (true, s') → ∃ t : Tr, IsT ns t ∧ (t.i : Int) = i ∧ t.dep ≤ f ∧ s' = seen ++ ints t.pre ∧ s'.Nodup) :
    ∀ (ks : List Int) (seen s' : List Int), seen.Nodup → reaL (fun k s => rea ns f k s) ks seen = (true, s') → ∃ ts : List Tr, IsTs ns ts ∧ ts.map (fun t => (t.i : Int)) = ks ∧ Tr.deps ts ≤ f ∧ s' = seen ++ ints (Tr.pres ts) ∧ s'.Nodup
  | [], seen, s', hn, h => by
    simp only [reaL, Prod.mk.injEq, true_and] at h
    subst h
    exact ⟨[], trivial, rfl, Nat.zero_le _, by simp [Tr.pres], hn⟩
  | k :: ks, seen, s', hn, h => by
    simp only [reaL] at h
    split at h
    · rename_i h0
      obtain ⟨s1, hs1⟩ : ∃ s1, rea ns f k seen = (true, s1) := ⟨_, Prod.ext h0 rfl⟩
      rw [hs1] at h
      obtain ⟨t, a1, a2, a4, a5, a6⟩ := ih k seen s1 hn hs1
      obtain ⟨ts, b1, b2, b4, b5, b6⟩ := reaL_tree ih ks s1 s' a6 h
      refine ⟨t :: ts, ⟨a1, b1⟩, by simp [a2, b2], by simp only [Tr.deps]; omega, ?_, b6⟩
      rw [b5, a5]
      simp [Tr.pres]
    · rename_i h0
      rw [h] at h0
      exact absurd rfl h0
theorem rea_tree {ns : List Nd} : ∀ (f : Nat) (i : Int) (seen s' : List Int), seen.Nodup → rea ns f i seen = (true, s') → ∃ t : Tr, IsT ns t ∧ (t.i : Int) = i ∧ t.dep ≤ f ∧ s' = seen ++ ints t.pre ∧ s'.Nodup
  | 0, i, seen, s', hn, h => by simp [rea] at h
  | f + 1, i, seen, s', hn, h => by
    simp only [rea] at h
    split at h
    · simp at h
    · rename_i hb
      have hb : badAt ns i seen = false := by
        cases e : badAt ns i seen
        · rfl
        · exact absurd (.inl e) hb
      obtain ⟨h0, h1, h2⟩ := bad_false.1 hb
      split at h
      · simp at h
      · rename_i n hnd
        have hn2 : (seen ++ [i]).Nodup := by
          rw [List.nodup_append]
          exact ⟨hn, by simp, fun a ha b hb2 e => by
            simp only [List.mem_singleton] at hb2
            rw [e, hb2] at ha
            exact h2 ha⟩
        obtain ⟨ts, b1, b2, b4, b5, b6⟩ := reaL_tree (rea_tree f) n.kids.l (seen ++ [i]) s' hn2 h
        refine ⟨.nd i.toNat n ts, ⟨hnd, b2.symm, b1⟩, Int.toNat_of_nonneg h0, by simp only [Tr.dep]; omega, ?_, b6⟩
        rw [b5]
        simp [Tr.pre, Int.toNat_of_nonneg h0]

/- Other numbers. -/
def zNd : Nd := ⟨0, 0, [], [], ⟨true, []⟩, 0⟩
/-- A node whose kids have other numbers. -/
def Nd.mv (r : Nat → Nat) (n : Nd) : Nd := { n with kids := ⟨true, n.kids.l.map fun k => ((r k.toNat : Nat) : Int)⟩ }
mutual
def relT (r : Nat → Nat) : Tr → Tr
  | .nd i n ks => .nd (r i) (n.mv r) (relTs r ks)
def relTs (r : Nat → Nat) : List Tr → List Tr
  | [] => []
  | t :: ts => relT r t :: relTs r ts
end
theorem relTs_map (r : Nat → Nat) : ∀ ts : List Tr, relTs r ts = ts.map (relT r)
  | [] => rfl
  | t :: ts => by simp [relTs, relTs_map r ts]
theorem relT_i (r : Nat → Nat) : ∀ t : Tr, (relT r t).i = r t.i
  | .nd i n ks => rfl
theorem relT_n (r : Nat → Nat) : ∀ t : Tr, (relT r t).n = t.n.mv r
  | .nd i n ks => rfl
mutual
theorem relT_pre (r : Nat → Nat) : ∀ t : Tr, (relT r t).pre = t.pre.map r
  | .nd i n ks => by simp [relT, Tr.pre, relTs_pre r ks]
theorem relTs_pre (r : Nat → Nat) : ∀ ts : List Tr, Tr.pres (relTs r ts) = (Tr.pres ts).map r
  | [] => rfl
  | t :: ts => by simp [relTs, Tr.pres, relT_pre r t, relTs_pre r ts]
end
mutual
theorem relT_dep (r : Nat → Nat) : ∀ t : Tr, (relT r t).dep = t.dep
  | .nd i n ks => by simp [relT, Tr.dep, relTs_dep r ks]
theorem relTs_dep (r : Nat → Nat) : ∀ ts : List Tr, Tr.deps (relTs r ts) = Tr.deps ts
  | [] => rfl
  | t :: ts => by simp [relTs, Tr.deps, relT_dep r t, relTs_dep r ts]
end
mutual
theorem relT_subs (r : Nat → Nat) : ∀ t : Tr, (relT r t).subs = t.subs.map (relT r)
  | .nd i n ks => by simp [relT, Tr.subs, relTs_subs r ks]
theorem relTs_subs (r : Nat → Nat) : ∀ ts : List Tr, Tr.subss (relTs r ts) = (Tr.subss ts).map (relT r)
  | [] => rfl
  | t :: ts => by simp [relTs, Tr.subss, relT_subs r t, relTs_subs r ts]
end
theorem form_mv (r : Nat → Nat) (n : Nd) (c : Bool) : formE (n.mv r) c = formE n c := by
  have hl : (n.mv r).kids.l.length = n.kids.l.length := by simp [Nd.mv]
  have hs : shapeOk (n.mv r) c = shapeOk n c := by simp only [shapeOk, textsOk, hl]; rfl
  unfold formE
  rw [hs]
  have h1 : lowN (n.mv r) = lowN n := rfl
  have h2 : highN (n.mv r) = highN n := by unfold highN; rw [hl]; rfl
  rw [h1, h2]
  rfl
mutual
theorem relT_wf (r : Nat → Nat) : ∀ (t : Tr) {c : Bool}, WF t c → WF (relT r t) c
  | .nd i n ks, c, ⟨a, b⟩ => ⟨by rw [form_mv]; exact a, relTs_wf r ks b⟩
theorem relTs_wf (r : Nat → Nat) : ∀ (ts : List Tr) {c : Bool}, WFs ts c → WFs (relTs r ts) c
  | [], _, _ => trivial
  | t :: ts, c, h => ⟨relT_wf r t h.1, relTs_wf r ts h.2⟩
end
/-- The nodes whose numbers are in a list, in its order, with new numbers. -/
def tidyNs (ns : List Nd) (L : List Nat) : List Nd := L.map fun i => (ns.getD i zNd).mv fun k => L.idxOf k
theorem getElem_idxOf {L : List Nat} : ∀ {i : Nat}, i ∈ L → L[L.idxOf i]? = some i := by
  intro i h
  have hl := List.idxOf_lt_length_of_mem h
  rw [List.getElem?_eq_getElem hl]
  congr 1
  exact List.getElem_idxOf hl
mutual
theorem relT_isT {ns : List Nd} {L : List Nat} : ∀ t : Tr, IsT ns t → (∀ j ∈ t.pre, j ∈ L) → IsT (tidyNs ns L) (relT (fun k => L.idxOf k) t)
  | .nd i n ks, ⟨a1, a2, a3⟩, h => by
    refine ⟨?_, ?_, relTs_isT ks a3 fun j hj => h j (by simp [Tr.pre, hj])⟩
    · unfold tidyNs
      rw [List.getElem?_map, getElem_idxOf (h i (by simp [Tr.pre]))]
      simp [List.getD, a1]
    · show n.kids.l.map _ = _
      rw [a2, relTs_map, List.map_map, List.map_map]
      exact List.map_congr_left fun t _ => by simp [relT_i]
theorem relTs_isT {ns : List Nd} {L : List Nat} : ∀ ts : List Tr, IsTs ns ts → (∀ j ∈ Tr.pres ts, j ∈ L) → IsTs (tidyNs ns L) (relTs (fun k => L.idxOf k) ts)
  | [], _, _ => trivial
  | t :: ts, h, hm => ⟨relT_isT t h.1 fun j hj => hm j (by simp [Tr.pres, hj]), relTs_isT ts h.2 fun j hj => hm j (by simp [Tr.pres, hj])⟩
end
theorem idxOf_inj {L : List Nat} {a b : Nat} (ha : a ∈ L) (hb : b ∈ L) (h : L.idxOf a = L.idxOf b) : a = b := by
  have h1 := getElem_idxOf ha
  have h2 := getElem_idxOf hb
  rw [h, h2] at h1
  injection h1 with h1
  exact h1.symm
theorem idx_nodup {L : List Nat} : ∀ {l : List Nat}, l.Nodup → (∀ j ∈ l, j ∈ L) → (l.map fun k => L.idxOf k).Nodup
  | [], _, _ => by simp
  | a :: l, hn, hm => by
    simp only [List.nodup_cons, List.map_cons] at hn ⊢
    refine ⟨fun q => ?_, idx_nodup hn.2 fun j hj => hm j (by simp [hj])⟩
    obtain ⟨b, hb, e⟩ := List.mem_map.1 q
    have := idxOf_inj (hm b (by simp [hb])) (hm a (by simp)) e
    exact hn.1 (by rw [← this]; exact hb)
/- Parts of a tree. -/
mutual
theorem subs_wf : ∀ {t : Tr} {c : Bool}, WF t c → ∀ s ∈ t.subs, WF s (decide (s.n.k ≤ 8))
  | .nd i n ks, c, h, s, hs => by
    simp only [Tr.subs, List.mem_cons] at hs
    rcases hs with rfl | hs
    · obtain ⟨_, _, h3, _⟩ := form_parts h.1
      show WF _ (decide (n.k ≤ 8))
      rw [h3]; exact h
    · exact subss_wf h.2 s hs
theorem subss_wf : ∀ {ts : List Tr} {c : Bool}, WFs ts c → ∀ s ∈ Tr.subss ts, WF s (decide (s.n.k ≤ 8))
  | [], c, h, s, hs => by simp [Tr.subss] at hs
  | t :: ts, c, h, s, hs => by
    simp only [Tr.subss, List.mem_append] at hs
    rcases hs with hs | hs
    · exact subs_wf h.1 s hs
    · exact subss_wf h.2 s hs
end
mutual
theorem subs_dep : ∀ {t : Tr}, ∀ s ∈ t.subs, s.dep ≤ t.dep
  | .nd i n ks, s, hs => by
    simp only [Tr.subs, List.mem_cons] at hs
    rcases hs with rfl | hs
    · exact Nat.le_refl _
    · have := subss_dep s hs
      simp only [Tr.dep]; omega
theorem subss_dep : ∀ {ts : List Tr}, ∀ s ∈ Tr.subss ts, s.dep ≤ Tr.deps ts
  | [], s, hs => by simp [Tr.subss] at hs
  | t :: ts, s, hs => by
    simp only [Tr.subss, List.mem_append] at hs
    simp only [Tr.deps]
    rcases hs with hs | hs
    · have := subs_dep s hs; omega
    · have := subss_dep s hs; omega
end
mutual
theorem subs_pre : ∀ {t : Tr}, ∀ s ∈ t.subs, s.pre.Sublist t.pre
  | .nd i n ks, s, hs => by
    simp only [Tr.subs, List.mem_cons] at hs
    rcases hs with rfl | hs
    · exact List.Sublist.refl _
    · exact (subss_pre s hs).cons _
theorem subss_pre : ∀ {ts : List Tr}, ∀ s ∈ Tr.subss ts, s.pre.Sublist (Tr.pres ts)
  | [], s, hs => by simp [Tr.subss] at hs
  | t :: ts, s, hs => by
    simp only [Tr.subss, List.mem_append] at hs
    simp only [Tr.pres]
    rcases hs with hs | hs
    · exact (subs_pre s hs).trans (List.sublist_append_left _ _)
    · exact (subss_pre s hs).trans (List.sublist_append_right _ _)
end
mutual
theorem subs_subs : ∀ {t : Tr}, ∀ s ∈ t.subs, ∀ u ∈ s.subs, u ∈ t.subs
  | .nd i n ks, s, hs, u, hu => by
    simp only [Tr.subs, List.mem_cons] at hs
    rcases hs with rfl | hs
    · exact hu
    · simp only [Tr.subs, List.mem_cons]
      exact .inr (subss_subs s hs u hu)
theorem subss_subs : ∀ {ts : List Tr}, ∀ s ∈ Tr.subss ts, ∀ u ∈ s.subs, u ∈ Tr.subss ts
  | [], s, hs, u, hu => by simp [Tr.subss] at hs
  | t :: ts, s, hs, u, hu => by
    simp only [Tr.subss, List.mem_append] at hs ⊢
    rcases hs with hs | hs
    · exact .inl (subs_subs s hs u hu)
    · exact .inr (subss_subs s hs u hu)
end
theorem all_lt {p : Po} {t : Tr} (g : Good p t) : ∀ j ∈ t.pre, j < p.nodes.l.length := by
  intro j hj
  rw [pre_subs] at hj
  obtain ⟨s, hs, rfl⟩ := List.mem_map.1 hj
  have := subs_isT g.isT s hs
  cases s with
  | nd i n ks => exact (List.getElem?_eq_some_iff.1 this.1).1
theorem nodup_len : ∀ (n : Nat) (l : List Nat), l.Nodup → (∀ j ∈ l, j < n) → l.length ≤ n
  | 0, l, _, h => by
    cases l with
    | nil => simp
    | cons a l => exact absurd (h a (by simp)) (by omega)
  | n + 1, l, hn, hl => by
    by_cases hm : n ∈ l
    · have := nodup_len n (l.erase n) (hn.erase n) (fun x hx => by
        have a := hl x (List.mem_of_mem_erase hx)
        have b : x ≠ n := fun e => by
          rw [e] at hx
          exact (hn.not_mem_erase) hx
        omega)
      rw [List.length_erase_of_mem hm] at this
      omega
    · have := nodup_len n l hn (fun x hx => by
        have a := hl x hx
        have b : x ≠ n := fun e => hm (by rw [← e]; exact hx)
        omega)
      omega
theorem nodup_full : ∀ (n : Nat) (l : List Nat), l.Nodup → (∀ j ∈ l, j < n) → l.length = n → ∀ j, j < n → j ∈ l
  | 0, _, _, _, _, j, hj => by omega
  | n + 1, l, hn, hl, hlen, j, hj => by
    by_cases hm : n ∈ l
    · have h1 := nodup_full n (l.erase n) (hn.erase n) (fun x hx => by
        have a := hl x (List.mem_of_mem_erase hx)
        have b : x ≠ n := fun e => by
          rw [e] at hx
          exact (hn.not_mem_erase) hx
        omega) (by rw [List.length_erase_of_mem hm]; omega)
      by_cases e : j = n
      · rw [e]; exact hm
      · exact List.mem_of_mem_erase (h1 j (by omega))
    · exfalso
      have h2 : ∀ x ∈ l, x < n := fun x hx => by
        have a := hl x hx
        have b : x ≠ n := fun e => hm (by rw [← e]; exact hx)
        omega
      have := nodup_len n l hn h2
      omega
/-- Each node is the root of a part of the tree. -/
theorem sub_at {p : Po} {t : Tr} (g : Good p t) {i : Nat} (hi : i < p.nodes.l.length) : ∃ s ∈ t.subs, s.i = i := by
  have := nodup_full _ t.pre g.nodup (all_lt g) g.all i hi
  rw [pre_subs] at this
  obtain ⟨s, hs, e⟩ := List.mem_map.1 this
  exact ⟨s, hs, e⟩
theorem vtOf_mv (us : List Us) (l : List Sc) (r : Nat → Nat) (n : Nd) : vtOf us l (n.mv r) = vtOf us l n := rfl
theorem kidsV_rel (f : Nd → Option VT) (r : Nat → Nat) (hf : ∀ n, f (n.mv r) = f n) : ∀ (ks : List Tr) {vs : List VT}, kidsV f ks = .inr vs → kidsV f (relTs r ks) = .inr vs
  | [], vs, h => h
  | t :: ts, vs, h => by
    simp only [relTs, kidsV, relT_n, hf] at h ⊢
    split at h
    · cases h
    · split at h
      · cases h
      · rename_i ws hw
        rw [kidsV_rel f r hf ts hw]
        exact h
theorem condE_rel (f : Nd → Option VT) (r : Nat → Nat) (hf : ∀ n, f (n.mv r) = f n) : ∀ s : Tr, (condE f s).2 = 0 → (condE f (relT r s)).2 = 0
  | .nd i n ks, h => by
    have hk : (n.mv r).k = n.k := rfl
    have hc : ∀ vs, condV (n.mv r) vs = condV n vs := fun vs => rfl
    simp only [relT, condE, hk, hc] at h ⊢
    split at h
    · rename_i a
      rw [if_pos a]
      cases e : kidsV f ks with
      | inl k => rw [e] at h; simp at h
      | inr vs =>
        rw [e] at h
        rw [kidsV_rel f r hf ks e]
        simp only at h ⊢
        by_cases z : condV n vs = 0
        · rw [if_pos z]
        · rw [if_neg z] at h; exact absurd h z
    · rename_i a
      rw [if_neg a]
/-- A part of a policy that fits, its nodes numbered anew. -/
theorem fit_part {p q : Po} {l : List Sc} {t s : Tr} (g : Good p t) (h : FitP p l t) (hs : s ∈ t.subs) (hk : s.n.k ≤ 8) (hn : q.nodes.l = tidyNs p.nodes.l s.pre) (hr : q.root = 0)
    (hq : q.name = p.name ∧ q.uses.l = p.uses.l ∧ q.reveal.l = p.reveal.l ∧ q.scope = p.scope ∧ q.limit = p.limit ∧ q.escrow = p.escrow) :
    Good q (relT (fun k => s.pre.idxOf k) s) ∧ FitP q l (relT (fun k => s.pre.idxOf k) s) := by
  obtain ⟨e1, e2, e3, e5, e6, e7⟩ := hq
  have hnd : s.pre.Nodup := (subs_pre s hs).nodup g.nodup
  have hlen : q.nodes.l.length = s.pre.length := by rw [hn]; simp [tidyNs]
  have hle : s.pre.length ≤ p.nodes.l.length := by rw [← g.all]; exact (subs_pre s hs).length_le
  have huse : ∀ al, used p al = true → used q al = true := fun al h => by unfold used at h ⊢; rw [e2]; exact h
  have gq : Good q (relT (fun k => s.pre.idxOf k) s) := by
    have sz := g.sizes
    refine ⟨by rw [hlen, e2, e3]; omega, ?_, by rw [e5, e6]; exact g.limit, by rw [hn]; exact relT_isT s (subs_isT g.isT s hs) fun j hj => hj, ?_, relT_wf _ s (by
        have := subs_wf g.wf s hs
        rwa [decide_eq_true hk] at this), by rw [relT_dep]; exact Nat.le_trans (subs_dep s hs) g.dep, by rw [relT_pre]; exact idx_nodup hnd fun j hj => hj, by rw [relT_pre, List.length_map, hlen], by rw [e2]; exact g.aliases, by rw [e3]; exact g.reveals, ?_, ?_⟩
    · have := g.names
      unfold namesOk at this ⊢
      rw [e1, e2, e3, e5, e7]; exact this
    · rw [relT_i, hr]
      cases s with
      | nd i n ks => simp [Tr.i, Tr.pre]
    · intro r hr2
      rw [e3] at hr2
      exact huse _ (g.revs r hr2)
    · intro n hm hk9
      rw [hn] at hm
      obtain ⟨i, hi, rfl⟩ := List.mem_map.1 hm
      have hlt := all_lt g i ((subs_pre s hs).subset hi)
      refine huse _ (g.refs (p.nodes.l.getD i zNd) ?_ hk9)
      simp [List.getD, List.getElem?_eq_getElem hlt]
  have r := ready_of h.ready
  refine ⟨gq, of_ready ⟨good_chk gq, r.sch, r.nd, by rw [e2]; exact r.uses⟩, by rw [e2, e3]; exact h.revs, fun u hu => ?_⟩
  rw [relT_subs] at hu
  obtain ⟨s0, a, rfl⟩ := List.mem_map.1 hu
  rw [e2]
  exact condE_rel _ _ (fun n => vtOf_mv _ _ _ n) s0 (h.conds s0 (subs_subs s hs s0 a))
end Go.Ab.Pol

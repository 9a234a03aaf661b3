/-
  Policies: plain data; when a policy is well-formed; its tree.
-/
import Derived.Test.YtfpmflgjbpnkjaaAbData
set_option linter.unusedVariables false
set_option linter.unusedSimpArgs false
namespace Go.Ab.Pol
abbrev Bs := List UInt8
abbrev iV (n : Int) : AV := .int .i64 n
structure Nd where
  k : Int
  num : Int
  nm : Bs
  attr : Bs
  kids : Sl Int
  pos : Int
structure Us where
  al : Bs
  sc : Bs
  deriving DecidableEq
structure Rf where
  al : Bs
  attr : Bs
  deriving DecidableEq
structure Po where
  name : Bs
  uses : Sl Us
  reveal : Sl Rf
  nodes : Sl Nd
  root : Int
  scope : Bs
  limit : Int
  escrow : Bs
abbrev Nd.cs (x : Nd) : List AV := [iV x.k, iV x.num, .str x.nm, .str x.attr, x.kids.avS iV, iV x.pos]
abbrev Nd.av (x : Nd) : AV := .agg x.cs
abbrev Us.cs (x : Us) : List AV := [.str x.al, .str x.sc]
abbrev Us.av (x : Us) : AV := .agg x.cs
abbrev Rf.cs (x : Rf) : List AV := [.str x.al, .str x.attr]
abbrev Rf.av (x : Rf) : AV := .agg x.cs
abbrev Po.cs (x : Po) : List AV := [.str x.name, x.uses.avS Us.av, x.reveal.avS Rf.av, x.nodes.avS Nd.av, iV x.root, .str x.scope, iV x.limit, .str x.escrow]
abbrev Po.av (x : Po) : AV := .agg x.cs

/- Names and words. -/
def letterI (n : Int) : Bool := decide (97 ≤ n ∧ n ≤ 122) || decide (65 ≤ n ∧ n ≤ 90)
def digitI (n : Int) : Bool := decide (48 ≤ n ∧ n ≤ 57)
def nameCh (first : Bool) (n : Int) : Bool := letterI n || (!first && (decide (n = 95) || digitI n))
def wordCh (n : Int) : Bool := letterI n || digitI n || decide (n = 45) || decide (n = 95)
def nameL : Bool → Bs → Bool
  | _, [] => true
  | b, c :: s => nameCh b (c.toNat : Int) && nameL false s
def wordL : Bs → Bool
  | [] => true
  | c :: s => wordCh (c.toNat : Int) && wordL s
def kws : List Bs := [[112, 111, 108, 105, 99, 121], [117, 115, 101, 115], [114, 101, 118, 101, 97, 108], [112, 114, 111, 118, 101], [115, 99, 111, 112, 101], [108, 105, 109, 105, 116], [101, 115, 99, 114, 111, 119], [101, 110, 100], [97, 108, 108],
  [97, 110, 121], [97, 116, 108, 101, 97, 115, 116], [110, 111, 116], [116, 114, 117, 101], [102, 97, 108, 115, 101], [98, 101, 116, 119, 101, 101, 110], [97, 110, 100], [105, 110]]
def kw (s : Bs) : Bool := decide (s ∈ kws)
def nameOk (s : Bs) : Bool := nameL true s && decide (s ≠ []) && decide (s.length ≤ 32) && !kw s
def wordOk (s : Bs) : Bool := wordL s && decide (s ≠ []) && decide (s.length ≤ 32)

/- A node alone. -/
def kidsOk (k : Int) (n : Nat) : Bool :=
  if k = 0 ∨ k = 1 ∨ k = 9 ∨ k = 10 ∨ k = 11 then decide (n = 0) else if k = 2 then decide (n = 1) else if k = 3 ∨ k = 4 ∨ k = 5 then decide (1 ≤ n)
  else if k = 6 then decide (n = 2) else if k = 7 then decide (n = 3) else if k = 8 then decide (2 ≤ n) else false
def textsOk (x : Nd) : Bool := if x.k = 9 then nameOk x.nm && nameOk x.attr else if x.k = 11 then wordOk x.nm && decide (x.attr = []) else decide (x.nm = []) && decide (x.attr = [])
def lowN (x : Nd) : Int := if x.k = 5 then 1 else if x.k = 10 then -2147483648 else 0
def highN (x : Nd) : Int := if x.k = 5 then (x.kids.l.length : Int) else if x.k = 6 then 5 else if x.k = 10 then 2147483647 else 0
def shapeOk (x : Nd) (c : Bool) : Bool := decide (0 ≤ x.k) && decide (x.k < 12) && (decide (x.k ≤ 8) == c) && kidsOk x.k x.kids.l.length && textsOk x
def formE (x : Nd) (c : Bool) : Int := if shapeOk x c = false then 3 else if x.num < lowN x ∨ highN x < x.num then 2 else 0

/- The visit of the nodes. -/
def badAt (ns : List Nd) (i : Int) (seen : List Int) : Bool := decide (i < 0) || decide ((ns.length : Int) ≤ i) || decide (i ∈ seen)
def visL (v : Int → List Int → Int × List Int) : List Int → List Int → Int × List Int
  | [], seen => (0, seen)
  | k :: ks, seen => if (v k seen).1 = 0 then visL v ks (v k seen).2 else v k seen
def vis (ns : List Nd) : Nat → Int → Bool → List Int → Int × List Int
  | 0, i, c, seen => if badAt ns i seen then (3, seen) else (7, seen)
  | f + 1, i, c, seen => if badAt ns i seen then (3, seen) else match ns[i.toNat]? with
    | none => (3, seen)
    | some n => if formE n c = 0 then visL (fun k s => vis ns f k (decide (n.k ≤ 5)) s) n.kids.l (seen ++ [i]) else (formE n c, seen ++ [i])
def treeE (p : Po) : Int := if (vis p.nodes.l 32 p.root true []).1 = 0 then (if (vis p.nodes.l 32 p.root true []).2.length = p.nodes.l.length then 0 else 3) else (vis p.nodes.l 32 p.root true []).1
def namesOk (p : Po) : Bool := nameOk p.name && (decide (p.escrow = []) || nameOk p.escrow) && (decide (p.scope = []) || wordOk p.scope) &&
  p.uses.l.all (fun u => nameOk u.al && nameOk u.sc) && p.reveal.l.all (fun r => nameOk r.al && nameOk r.attr)
def used (p : Po) (s : Bs) : Bool := p.uses.l.any fun u => decide (u.al = s)
def chk (p : Po) : Int :=
  if 512 < p.nodes.l.length ∨ p.uses.l.length < 1 ∨ 4 < p.uses.l.length ∨ 64 < p.reveal.l.length then 6
  else if namesOk p = false then 3
  else if p.limit < 0 ∨ 65536 < p.limit ∨ (0 < p.limit ∧ p.scope = []) then 2
  else if treeE p ≠ 0 then treeE p
  else if ¬ (p.uses.l.map Us.al).Nodup ∨ ¬ p.reveal.l.Nodup then 8
  else if p.reveal.l.all (fun r => used p r.al) = false then 9
  else if p.nodes.l.all (fun n => !(decide (n.k = 9)) || used p n.nm) = false then 9
  else 0

/- The tree of a well-formed policy. -/
inductive Tr where
  | nd (i : Nat) (n : Nd) (ks : List Tr)
def Tr.i : Tr → Nat
  | .nd i _ _ => i
def Tr.n : Tr → Nd
  | .nd _ n _ => n
def Tr.ks : Tr → List Tr
  | .nd _ _ ks => ks
mutual
/-- The nodes in preorder. -/
def Tr.pre : Tr → List Nat
  | .nd i _ ks => i :: Tr.pres ks
def Tr.pres : List Tr → List Nat
  | [] => []
  | t :: ts => t.pre ++ Tr.pres ts
end
mutual
def Tr.dep : Tr → Nat
  | .nd _ _ ks => Tr.deps ks + 1
def Tr.deps : List Tr → Nat
  | [] => 0
  | t :: ts => max t.dep (Tr.deps ts)
end
mutual
/-- The tree lies in the list of nodes. -/
def IsT (ns : List Nd) : Tr → Prop
  | .nd i n ks => ns[i]? = some n ∧ n.kids.l = ks.map (fun t => (t.i : Int)) ∧ IsTs ns ks
def IsTs (ns : List Nd) : List Tr → Prop
  | [] => True
  | t :: ts => IsT ns t ∧ IsTs ns ts
end
mutual
/-- All nodes are of the right form. -/
def WF : Tr → Bool → Prop
  | .nd _ n ks, c => formE n c = 0 ∧ WFs ks (decide (n.k ≤ 5))
def WFs : List Tr → Bool → Prop
  | [], _ => True
  | t :: ts, c => WF t c ∧ WFs ts c
end
abbrev ints (l : List Nat) : List Int := l.map fun (i : Nat) => (i : Int)
theorem bad_false {ns : List Nd} {i : Int} {seen : List Int} : badAt ns i seen = false ↔ 0 ≤ i ∧ i < (ns.length : Int) ∧ i ∉ seen := by
  unfold badAt
  simp only [Bool.or_eq_false_iff, decide_eq_false_iff_not]
  constructor
  · rintro ⟨⟨h1, h2⟩, h3⟩; exact ⟨by omega, by omega, h3⟩
  · rintro ⟨h1, h2, h3⟩; exact ⟨⟨by omega, by omega⟩, h3⟩
mutual
theorem vis_of : ∀ (t : Tr) {ns : List Nd} {f : Nat} {c : Bool} {seen : List Int}, IsT ns t → WF t c → t.dep ≤ f → (seen ++ ints t.pre).Nodup → vis ns f t.i c seen = (0, seen ++ ints t.pre)
  | .nd i n ks, ns, f, c, seen, h1, h2, h3, h4 => by
    obtain ⟨a1, a2, a3⟩ := h1
    obtain ⟨b1, b2⟩ := h2
    cases f with
    | zero => simp [Tr.dep] at h3
    | succ f =>
      have hlt := (List.getElem?_eq_some_iff.1 a1).1
      have hb : badAt ns (i : Int) seen = false := bad_false.2 ⟨by omega, by omega, fun hm => by
        simp only [Tr.pre, List.map_cons] at h4
        have := (List.nodup_append.1 h4).2.2 _ hm (i : Int) (by simp)
        exact this rfl⟩
      have := viss_of ks (ns := ns) (f := f) (c := decide (n.k ≤ 5)) (seen := seen ++ [(i : Int)]) a3 b2 (by simp only [Tr.dep] at h3; omega) (by simpa [Tr.pre] using h4)
      show vis ns (f + 1) (i : Int) c seen = _
      rw [vis, hb]
      simp only [Bool.false_eq_true, if_false, Int.toNat_natCast, a1, b1, if_true, a2, this]
      simp [Tr.pre]
theorem viss_of : ∀ (ts : List Tr) {ns : List Nd} {f : Nat} {c : Bool} {seen : List Int}, IsTs ns ts → WFs ts c → Tr.deps ts ≤ f → (seen ++ ints (Tr.pres ts)).Nodup → visL (fun k s => vis ns f k c s) (ts.map fun t => (t.i : Int)) seen = (0, seen ++ ints (Tr.pres ts))
  | [], ns, f, c, seen, _, _, _, _ => by simp [visL, Tr.pres]
  | t :: ts, ns, f, c, seen, h1, h2, h3, h4 => by
    have h4' : ((seen ++ ints t.pre) ++ ints (Tr.pres ts)).Nodup := by simpa [Tr.pres] using h4
    have k1 := vis_of t (f := f) (seen := seen) h1.1 h2.1 (by simp only [Tr.deps] at h3; omega) (List.nodup_append.1 h4').1
    have k2 := viss_of ts (f := f) (seen := seen ++ ints t.pre) h1.2 h2.2 (by simp only [Tr.deps] at h3; omega) h4'
    simp only [List.map_cons, visL, k1, if_true, k2]
    simp [Tr.pres]
end
theorem vis_zero {ns : List Nd} {i : Int} {c : Bool} {seen s' : List Int} (h : vis ns 0 i c seen = (0, s')) : False := by
  unfold vis at h
  split at h <;> simp at h
theorem visL_tree {ns : List Nd} {f : Nat} {c : Bool} (ih : ∀ (i : Int) (seen s' : List Int), seen.Nodup → vis ns f i c seen = (0, s') → ∃ t : Tr, IsT ns t ∧ (t.i : Int) = i ∧ WF t c ∧ t.dep ≤ f ∧ s' = seen ++ ints t.pre ∧ s'.Nodup) :
    ∀ (ks : List Int) (seen s' : List Int), seen.Nodup → visL (fun k s => vis ns f k c s) ks seen = (0, s') → ∃ ts : List Tr, IsTs ns ts ∧ ts.map (fun t => (t.i : Int)) = ks ∧ WFs ts c ∧ Tr.deps ts ≤ f ∧ s' = seen ++ ints (Tr.pres ts) ∧ s'.Nodup
  | [], seen, s', hn, h => by
    simp only [visL, Prod.mk.injEq, true_and] at h
    subst h
    exact ⟨[], trivial, rfl, trivial, Nat.zero_le _, by simp [Tr.pres], hn⟩
  | k :: ks, seen, s', hn, h => by
    simp only [visL] at h
    split at h
    · rename_i h0
      obtain ⟨s1, hs1⟩ : ∃ s1, vis ns f k c seen = (0, s1) := ⟨_, Prod.ext h0 rfl⟩
      rw [hs1] at h
      obtain ⟨t, a1, a2, a3, a4, a5, a6⟩ := ih k seen s1 hn hs1
      obtain ⟨ts, b1, b2, b3, b4, b5, b6⟩ := visL_tree ih ks s1 s' a6 h
      refine ⟨t :: ts, ⟨a1, b1⟩, by simp [a2, b2], ⟨a3, b3⟩, by simp only [Tr.deps]; omega, ?_, b6⟩
      rw [b5, a5]
      simp [Tr.pres]
    · rename_i h0
      rw [h] at h0
      exact absurd rfl h0
theorem vis_tree {ns : List Nd} : ∀ (f : Nat) (c : Bool) (i : Int) (seen s' : List Int), seen.Nodup → vis ns f i c seen = (0, s') → ∃ t : Tr, IsT ns t ∧ (t.i : Int) = i ∧ WF t c ∧ t.dep ≤ f ∧ s' = seen ++ ints t.pre ∧ s'.Nodup
  | 0, c, i, seen, s', hn, h => (vis_zero h).elim
  | f + 1, c, i, seen, s', hn, h => by
    simp only [vis] at h
    split at h
    · simp at h
    · rename_i hb
      have hb : badAt ns i seen = false := by simpa using hb
      obtain ⟨h0, h1, h2⟩ := bad_false.1 hb
      split at h
      · simp at h
      · rename_i n hnd
        split at h
        · rename_i he
          have hn2 : (seen ++ [i]).Nodup := by
            rw [List.nodup_append]
            exact ⟨hn, by simp, fun a ha b hb2 e => by
              simp only [List.mem_singleton] at hb2
              rw [e, hb2] at ha
              exact h2 ha⟩
          obtain ⟨ts, b1, b2, b3, b4, b5, b6⟩ := visL_tree (vis_tree f (decide (n.k ≤ 5))) n.kids.l (seen ++ [i]) s' hn2 h
          refine ⟨.nd i.toNat n ts, ⟨hnd, b2.symm, b1⟩, Int.toNat_of_nonneg h0, ⟨he, b3⟩, by simp only [Tr.dep]; omega, ?_, b6⟩
          rw [b5]
          simp [Tr.pre, Int.toNat_of_nonneg h0]
        · rename_i he
          simp only [Prod.mk.injEq] at h
          exact absurd h.1 he
/-- A policy is well-formed, and this is its tree. -/
structure Good (p : Po) (t : Tr) : Prop where
  sizes : p.nodes.l.length ≤ 512 ∧ 1 ≤ p.uses.l.length ∧ p.uses.l.length ≤ 4 ∧ p.reveal.l.length ≤ 64
  names : namesOk p = true
  limit : 0 ≤ p.limit ∧ p.limit ≤ 65536 ∧ (0 < p.limit → p.scope ≠ [])
  isT : IsT p.nodes.l t
  root : (t.i : Int) = p.root
  wf : WF t true
  dep : t.dep ≤ 32
  nodup : t.pre.Nodup
  all : t.pre.length = p.nodes.l.length
  aliases : (p.uses.l.map Us.al).Nodup
  reveals : p.reveal.l.Nodup
  revs : ∀ r ∈ p.reveal.l, used p r.al = true
  refs : ∀ n ∈ p.nodes.l, n.k = 9 → used p n.nm = true
theorem ints_nodup {l : List Nat} : (ints l).Nodup ↔ l.Nodup := by
  unfold List.Nodup
  rw [List.pairwise_map]
  constructor
  · exact fun h => h.imp fun q e => q (by rw [e])
  · exact fun h => h.imp fun q e => q (by omega)
theorem chk_good {p : Po} (h : chk p = 0) : ∃ t, Good p t := by
  unfold chk at h
  split at h
  · simp at h
  rename_i h1
  split at h
  · simp at h
  rename_i h2
  split at h
  · simp at h
  rename_i h3
  split at h
  · rename_i h4; exact absurd h h4
  rename_i h4
  split at h
  · simp at h
  rename_i h5
  split at h
  · simp at h
  rename_i h6
  split at h
  · simp at h
  rename_i h7
  have h4 : treeE p = 0 := by simpa using h4
  unfold treeE at h4
  split at h4
  · rename_i k1
    split at h4
    · rename_i k2
      obtain ⟨s', hs⟩ : ∃ s', vis p.nodes.l 32 p.root true [] = (0, s') := ⟨_, Prod.ext k1 rfl⟩
      rw [hs] at k2
      obtain ⟨t, a1, a2, a3, a4, a5, a6⟩ := vis_tree 32 true p.root [] s' (by simp) hs
      simp only [List.nil_append] at a5
      subst a5
      refine ⟨t, ⟨by omega, by omega, by omega, by omega⟩, by simpa using h2, ⟨by omega, by omega, fun q e => h3 (.inr (.inr ⟨q, e⟩))⟩, a1, a2, a3, a4, ints_nodup.1 a6, by simpa using k2, ?_, ?_, ?_, ?_⟩
      · exact Classical.not_not.1 fun q => h5 (.inl q)
      · exact Classical.not_not.1 fun q => h5 (.inr q)
      · have h6 : p.reveal.l.all (fun r => used p r.al) = true := by simpa using h6
        exact List.all_eq_true.1 h6
      · have h7 : p.nodes.l.all (fun n => !(decide (n.k = 9)) || used p n.nm) = true := by
          cases e : p.nodes.l.all (fun n => !(decide (n.k = 9)) || used p n.nm)
          · exact absurd e h7
          · rfl
        intro n hn hk
        have := List.all_eq_true.1 h7 n hn
        simpa [hk] using this
    · simp at h4
  · rename_i k1; exact absurd h4 k1
theorem good_chk {p : Po} {t : Tr} (g : Good p t) : chk p = 0 := by
  have hv := vis_of t (ns := p.nodes.l) (f := 32) (c := true) (seen := []) g.isT g.wf g.dep (by simpa using ints_nodup.2 g.nodup)
  rw [g.root] at hv
  have ht : treeE p = 0 := by
    unfold treeE
    rw [hv]
    simp [g.all]
  unfold chk
  have s := g.sizes
  rw [if_neg (by omega), if_neg (by rw [g.names]; simp), if_neg (by
    have := g.limit
    rintro (q | q | ⟨q1, q2⟩)
    · omega
    · omega
    · exact this.2.2 q1 q2), if_neg (by simp [ht]), if_neg (by
    rintro (q | q)
    · exact q g.aliases
    · exact q g.reveals), if_neg (by
    rw [List.all_eq_true.2 g.revs]; simp), if_neg (by
    rw [List.all_eq_true.2 fun n hn => by
      by_cases hk : n.k = 9
      · simp [hk, g.refs n hn hk]
      · simp [hk]]
    simp)]
end Go.Ab.Pol

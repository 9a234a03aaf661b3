/-
  Types of policies: what a condition demands of its values, the first node that is wrong, and what a policy that fits has.
-/
import Derived.Test.YtfpmflgjbpnkjaaAbNorm
set_option linter.unusedVariables false
set_option linter.unusedSimpArgs false
namespace Go.Ab.Pol

/-- The type of a value: a number, a word, one of some words. -/
inductive VT where
  | num
  | wd (w : Bs)
  | fw (ws : List Bs)
def vtOf (us : List Us) (l : List Sc) (n : Nd) : Option VT :=
  if n.k = 10 then some .num else if n.k = 11 then some (.wd n.nm) else match findF us l ⟨n.nm, n.attr⟩ with
    | none => none
    | some (_, _, f) => some (if f.kind = 0 then .num else .fw f.words.l)
def agreeV : VT → VT → Int
  | .num, .num => 0
  | .num, _ => 10
  | _, .num => 10
  | .fw a, .fw b => if a = b then 0 else 10
  | .fw a, .wd w => if w ∈ a then 0 else 9
  | .wd w, .fw b => if w ∈ b then 0 else 9
  | .wd _, .wd _ => 0
def isNum : VT → Bool
  | .num => true
  | _ => false
def firstL (v : VT) : List VT → Int
  | [] => 0
  | x :: l => if agreeV v x = 0 then firstL v l else agreeV v x
def firstA : List VT → Int
  | [] => 0
  | v :: l => firstL v l
def condV (n : Nd) (l : List VT) : Int :=
  if n.k = 6 then (if n.num ≠ 0 ∧ n.num ≠ 1 ∧ l.all isNum = false then 10 else firstA l)
  else if n.k = 7 then (if l.all isNum = false then 10 else 0) else firstA l
section
variable (f : Nd → Option VT)
/-- The types of the kids, or the first kid that has none. -/
def kidsV : List Tr → Nat ⊕ List VT
  | [] => .inr []
  | t :: ts => match f t.n with
    | none => .inl t.i
    | some v => match kidsV ts with
      | .inl i => .inl i
      | .inr vs => .inr (v :: vs)
def condE : Tr → Int × Int
  | .nd i n ks => if n.k = 6 ∨ n.k = 7 ∨ n.k = 8 then (match kidsV f ks with
      | .inl k => ((k : Int), 9)
      | .inr vs => if condV n vs = 0 then (0, 0) else ((i : Int), condV n vs)) else (0, 0)
mutual
def visitT : Tr → Int × Int
  | .nd i n ks => if (condE f (.nd i n ks)).2 = 0 then visitTs ks else condE f (.nd i n ks)
def visitTs : List Tr → Int × Int
  | [] => (0, 0)
  | t :: ts => if (visitT t).2 = 0 then visitTs ts else visitT t
end
end
mutual
/-- The parts of a tree, in preorder. -/
def Tr.subs : Tr → List Tr
  | .nd i n ks => .nd i n ks :: Tr.subss ks
def Tr.subss : List Tr → List Tr
  | [] => []
  | t :: ts => t.subs ++ Tr.subss ts
end
def firstE : List (Int × Int) → Int × Int
  | [] => (0, 0)
  | e :: l => if e.2 = 0 then firstE l else e
theorem firstE_append (l m : List (Int × Int)) : firstE (l ++ m) = if (firstE l).2 = 0 then firstE m else firstE l := by
  induction l with
  | nil => simp [firstE]
  | cons e l ih =>
    simp only [List.cons_append, firstE]
    by_cases h : e.2 = 0
    · simp [h, ih]
    · simp [h]
mutual
theorem visit_first (f : Nd → Option VT) : ∀ t : Tr, visitT f t = firstE (t.subs.map (condE f))
  | .nd i n ks => by
    have := visits_first f ks
    simp only [visitT, Tr.subs, List.map_cons, firstE, this]
theorem visits_first (f : Nd → Option VT) : ∀ ts : List Tr, visitTs f ts = firstE ((Tr.subss ts).map (condE f))
  | [] => rfl
  | t :: ts => by
    have h1 := visit_first f t
    have h2 := visits_first f ts
    simp only [visitTs, Tr.subss, List.map_append, firstE_append, h1, h2]
end
mutual
theorem pre_subs : ∀ t : Tr, t.pre = t.subs.map Tr.i
  | .nd i n ks => by simp [Tr.pre, Tr.subs, Tr.i, pres_subss ks]
theorem pres_subss : ∀ ts : List Tr, Tr.pres ts = (Tr.subss ts).map Tr.i
  | [] => rfl
  | t :: ts => by simp [Tr.pres, Tr.subss, pre_subs t, pres_subss ts]
end
mutual
theorem subs_isT {ns : List Nd} : ∀ {t : Tr}, IsT ns t → ∀ s ∈ t.subs, IsT ns s
  | .nd i n ks, h, s, hs => by
    simp only [Tr.subs, List.mem_cons] at hs
    rcases hs with rfl | hs
    · exact h
    · exact subss_isT h.2.2 s hs
theorem subss_isT {ns : List Nd} : ∀ {ts : List Tr}, IsTs ns ts → ∀ s ∈ Tr.subss ts, IsT ns s
  | [], h, s, hs => by simp [Tr.subss] at hs
  | t :: ts, h, s, hs => by
    simp only [Tr.subss, List.mem_append] at hs
    rcases hs with hs | hs
    · exact subs_isT h.1 s hs
    · exact subss_isT h.2 s hs
end
/-- The errors up to the Uses. -/
def firstS : List Sc → Int
  | [] => 0
  | s :: l => if schE s = 0 then firstS l else schE s
def readyE (p : Po) (l : List Sc) : Int :=
  if chk p ≠ 0 then chk p else if firstS l ≠ 0 then firstS l else if ¬ (l.map Sc.name).Nodup then 8
  else if p.uses.l.all (fun u => (scN l u.sc).isSome) = false then 9 else 0
/-- The node and the error of a policy with schemas; `t`: the policy's tree. -/
def typT (p : Po) (l : List Sc) (t : Tr) : Int × Int :=
  if readyE p l ≠ 0 then (0, readyE p l) else if p.reveal.l.all (fun r => (findF p.uses.l l r).isSome) = false then (0, 9)
  else visitT (vtOf p.uses.l l) t

/- What a policy that fits has. -/
theorem firstL_zero {v : VT} : ∀ {l : List VT}, firstL v l = 0 → ∀ x ∈ l, agreeV v x = 0
  | [], _, x, hx => by simp at hx
  | y :: l, h, x, hx => by
    simp only [firstL] at h
    split at h
    · rename_i h0
      rcases List.mem_cons.1 hx with rfl | hx
      · exact h0
      · exact firstL_zero h x hx
    · rename_i h0; exact absurd h h0
theorem kidsV_inr {f : Nd → Option VT} : ∀ {ts : List Tr} {vs : List VT}, kidsV f ts = .inr vs → ts.map (fun t => f t.n) = vs.map some
  | [], vs, h => by
    simp only [kidsV, Sum.inr.injEq] at h
    subst h; rfl
  | t :: ts, vs, h => by
    simp only [kidsV] at h
    split at h
    · cases h
    · rename_i v hv
      split at h
      · cases h
      · rename_i ws hw
        simp only [Sum.inr.injEq] at h
        subst h
        simp [hv, kidsV_inr hw]
/-- The field of a node. -/
def fdOf (us : List Us) (l : List Sc) (n : Nd) : Fd := match findF us l ⟨n.nm, n.attr⟩ with
  | none => zFd
  | some (_, _, f) => f
theorem vt_num {us : List Us} {l : List Sc} {n : Nd} (hk : n.k = 9 ∨ n.k = 10 ∨ n.k = 11) (h : vtOf us l n = some .num) : (n.k = 9 ∧ (fdOf us l n).kind = 0) ∨ n.k = 10 := by
  unfold vtOf at h
  split at h
  · rename_i e; exact .inr e
  split at h
  · cases h
  · split at h
    · cases h
    · rename_i f hf
      split at h
      · rename_i e
        refine .inl ⟨by omega, ?_⟩
        unfold fdOf
        rw [hf]
        exact e
      · cases h
theorem vt_wd {us : List Us} {l : List Sc} {n : Nd} {w : Bs} (h : vtOf us l n = some (.wd w)) : n.k = 11 ∧ n.nm = w := by
  unfold vtOf at h
  split at h
  · cases h
  split at h
  · rename_i e
    simp only [Option.some.injEq, VT.wd.injEq] at h
    exact ⟨e, h⟩
  · split at h
    · cases h
    · split at h <;> cases h
theorem vt_fw {us : List Us} {l : List Sc} {n : Nd} {ws : List Bs} (hk : n.k = 9 ∨ n.k = 10 ∨ n.k = 11) (h : vtOf us l n = some (.fw ws)) : n.k = 9 ∧ (fdOf us l n).kind ≠ 0 ∧ (fdOf us l n).words.l = ws := by
  unfold vtOf at h
  split at h
  · cases h
  split at h
  · cases h
  · split at h
    · cases h
    · rename_i f hf
      split at h
      · cases h
      · rename_i e
        simp only [Option.some.injEq, VT.fw.injEq] at h
        unfold fdOf
        rw [hf]
        exact ⟨by omega, e, h⟩
theorem fits_of {us : List Us} {l : List Sc} {how : Int} (hh : How how) {a b : Nd} (ha : a.k = 9 ∨ a.k = 10 ∨ a.k = 11) (hb : b.k = 9 ∨ b.k = 10 ∨ b.k = 11) {x y : VT} (hx : vtOf us l a = some x) (hy : vtOf us l b = some y)
    (hag : agreeV x y = 0) (hn : (how = 0 ∨ how = 1) ∨ (isNum x = true ∧ isNum y = true)) : Fits (fdOf us l) how a b := by
  refine ⟨hh, ha, hb, ?_⟩
  cases x with
  | num =>
    cases y with
    | num => exact .inl ⟨vt_num ha hx, vt_num hb hy⟩
    | wd w => simp [agreeV] at hag
    | fw ws => simp [agreeV] at hag
  | wd u =>
    obtain ⟨a1, a2⟩ := vt_wd hx
    have hn2 : how = 0 ∨ how = 1 := hn.resolve_right (by simp [isNum])
    cases y with
    | num => simp [agreeV] at hag
    | wd w =>
      obtain ⟨b1, b2⟩ := vt_wd hy
      exact .inr ⟨hn2, .inr a1, .inr b1, fun q => by omega, fun q => by omega, fun _ q => by omega⟩
    | fw ws =>
      obtain ⟨b1, b2, b3⟩ := vt_fw hb hy
      simp only [agreeV] at hag
      split at hag
      · rename_i hm
        exact .inr ⟨hn2, .inr a1, .inl ⟨b1, b2⟩, fun q => by omega, fun q => by omega, fun _ _ => by rw [a2, b3]; exact hm⟩
      · cases hag
  | fw us' =>
    obtain ⟨a1, a2, a3⟩ := vt_fw ha hx
    have hn2 : how = 0 ∨ how = 1 := hn.resolve_right (by simp [isNum])
    cases y with
    | num => simp [agreeV] at hag
    | wd w =>
      obtain ⟨b1, b2⟩ := vt_wd hy
      simp only [agreeV] at hag
      split at hag
      · rename_i hm
        exact .inr ⟨hn2, .inl ⟨a1, a2⟩, .inr b1, fun _ q => by omega, fun _ _ => by rw [b2, a3]; exact hm, fun q => by omega⟩
      · cases hag
    | fw ws =>
      obtain ⟨b1, b2, b3⟩ := vt_fw hb hy
      simp only [agreeV] at hag
      split at hag
      · rename_i hm
        exact .inr ⟨hn2, .inl ⟨a1, a2⟩, .inl ⟨b1, b2⟩, fun _ _ => by rw [a3, b3, hm], fun _ q => by omega, fun q => by omega⟩
      · cases hag
theorem form_parts {n : Nd} {c : Bool} (h : formE n c = 0) : 0 ≤ n.k ∧ n.k < 12 ∧ (decide (n.k ≤ 8) = c) ∧ kidsOk n.k n.kids.l.length = true ∧ textsOk n = true ∧ lowN n ≤ n.num ∧ n.num ≤ highN n := by
  unfold formE at h
  split at h
  · simp at h
  · rename_i h1
    split at h
    · simp at h
    · rename_i h2
      have h1 : shapeOk n c = true := by simpa using h1
      simp only [shapeOk, Bool.and_eq_true, decide_eq_true_eq, beq_iff_eq] at h1
      exact ⟨h1.1.1.1.1, h1.1.1.1.2, h1.1.1.2, h1.1.2, h1.2, by omega, by omega⟩
theorem wfs_mem {c : Bool} : ∀ {ts : List Tr}, WFs ts c → ∀ t ∈ ts, WF t c
  | [], _, t, ht => by simp at ht
  | s :: ts, h, t, ht => by
    rcases List.mem_cons.1 ht with rfl | ht
    · exact h.1
    · exact wfs_mem h.2 t ht
theorem wf_val {t : Tr} (h : WF t false) : t.n.k = 9 ∨ t.n.k = 10 ∨ t.n.k = 11 := by
  cases t with
  | nd i n ks =>
    obtain ⟨h1, h2, h3, _⟩ := form_parts h.1
    simp only [Tr.n]
    simp only [decide_eq_false_iff_not] at h3
    omega
end Go.Ab.Pol

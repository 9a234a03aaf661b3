/-
  Schemas, values of nodes, and the normal form of a condition: it means what the condition means.
-/
import Derived.Test.YtfpmflgjbpnkjaaAbSem
set_option linter.unusedVariables false
set_option linter.unusedSimpArgs false
namespace Go.Ab.Pol

structure Fd where
  name : Bs
  kind : Int
  mn : Int
  mx : Int
  words : Sl Bs
structure Sc where
  name : Bs
  fields : Sl Fd
abbrev Fd.cs (x : Fd) : List AV := [.str x.name, iV x.kind, iV x.mn, iV x.mx, x.words.avS .str]
abbrev Fd.av (x : Fd) : AV := .agg x.cs
abbrev Sc.cs (x : Sc) : List AV := [.str x.name, x.fields.avS Fd.av]
abbrev Sc.av (x : Sc) : AV := .agg x.cs
def wordsL : List Bs → List Bs → Int
  | _, [] => 0
  | met, w :: l => if wordOk w = false then 1 else if w ∈ met then 8 else wordsL (met ++ [w]) l
def wordsE (l : List Bs) : Int := if l.length < 1 ∨ 64 < l.length then 6 else wordsL [] l
def fieldE (f : Fd) : Int :=
  if f.kind = 0 then (if f.words.l ≠ [] then 3 else if f.mn < -2147483648 ∨ 2147483647 < f.mx ∨ f.mx < f.mn then 2 else 0)
  else if f.kind = 1 then (if f.mn ≠ 0 ∨ f.mx ≠ 0 then 3 else wordsE f.words.l) else 3
def fieldsL : List Bs → List Fd → Int
  | _, [] => 0
  | met, f :: l => if nameOk f.name = false then 1 else if f.name ∈ met then 8 else if fieldE f ≠ 0 then fieldE f else fieldsL (met ++ [f.name]) l
def schE (s : Sc) : Int := if nameOk s.name = false then 1 else if s.fields.l.length < 1 ∨ 16 < s.fields.l.length then 6 else fieldsL [] s.fields.l
def useI (us : List Us) (al : Bs) : Option Nat := us.findIdx? fun u => decide (u.al = al)
def scN (l : List Sc) (nm : Bs) : Option Sc := l.find? fun s => decide (s.name = nm)
def fdI (s : Sc) (nm : Bs) : Option Nat := s.fields.l.findIdx? fun f => decide (f.name = nm)
/-- The place of a field and the field. -/
def findF (us : List Us) (l : List Sc) (r : Rf) : Option (Nat × Nat × Fd) := match useI us r.al with
  | none => none
  | some u => match us[u]? with
    | none => none
    | some x => match scN l x.sc with
      | none => none
      | some s => match fdI s r.attr with
        | none => none
        | some k => match s.fields.l[k]? with
          | none => none
          | some f => some (u, k, f)
def zFd : Fd := ⟨[], 0, 0, 0, ⟨true, []⟩⟩

/- Values. -/
inductive Vl where
  | num (n : Int)
  | word (w : Bs)
  deriving DecidableEq
def cmpI (how a b : Int) : Bool :=
  if how = 0 then decide (a = b) else if how = 1 then decide (a ≠ b) else if how = 2 then decide (a < b) else if how = 3 then decide (a ≤ b) else if how = 4 then decide (a > b) else decide (a ≥ b)
def cmpV (how : Int) : Vl → Vl → Bool
  | .num a, .num b => cmpI how a b
  | .word a, .word b => if how = 0 then decide (a = b) else decide (a ≠ b)
  | _, _ => false
def complement (how : Int) : Int := if how = 0 then 1 else if how = 1 then 0 else if how = 2 then 5 else if how = 3 then 4 else if how = 4 then 3 else 2
def mirror (how : Int) : Int := if how = 0 then 0 else if how = 1 then 1 else if how = 2 then 4 else if how = 3 then 5 else if how = 4 then 2 else 3
def How (h : Int) : Prop := h = 0 ∨ h = 1 ∨ h = 2 ∨ h = 3 ∨ h = 4 ∨ h = 5
theorem cmpI_mirror {h : Int} (hh : How h) (a b : Int) : cmpI (mirror h) b a = cmpI h a b := by
  rcases hh with rfl | rfl | rfl | rfl | rfl | rfl <;> simp [cmpI, mirror] <;> (try omega) <;> (constructor <;> intro e <;> omega)
theorem cmpI_compl {h : Int} (hh : How h) (a b : Int) : cmpI (complement h) a b = !cmpI h a b := by
  rcases hh with rfl | rfl | rfl | rfl | rfl | rfl <;> simp [cmpI, complement]
  all_goals (rw [Bool.eq_iff_iff]; simp; try omega)
theorem how_mirror {h : Int} (hh : How h) : How (mirror h) := by
  rcases hh with rfl | rfl | rfl | rfl | rfl | rfl <;> simp [How, mirror]
theorem how_compl {h : Int} (hh : How h) : How (complement h) := by
  rcases hh with rfl | rfl | rfl | rfl | rfl | rfl <;> simp [How, complement]

/- The normal form. `fd`: the field of a node that stands for one. -/
section
variable (fd : Nd → Fd)
def relC (how : Int) (a b : Nd) : Cd := .atom 6 how [a, b]
def numN (n : Int) : Nd := ⟨10, n, [], [], ⟨true, []⟩, 0⟩
def within (x : Nd) (lo hi : Int) : Cd :=
  if min hi (fd x).mx < max lo (fd x).mn then cB false
  else if max lo (fd x).mn = (fd x).mn ∧ min hi (fd x).mx = (fd x).mx then cB true
  else if max lo (fd x).mn = min hi (fd x).mx then relC 0 x (numN (max lo (fd x).mn))
  else .atom 7 0 [x, numN (max lo (fd x).mn), numN (min hi (fd x).mx)]
def bounded (how : Int) (x : Nd) (c : Int) : Cd :=
  if how = 0 then within fd x c c else if how = 2 then within fd x (fd x).mn (c - 1) else if how = 3 then within fd x (fd x).mn c
  else if how = 4 then within fd x (c + 1) (fd x).mx else if how = 5 then within fd x c (fd x).mx
  else if c < (fd x).mn ∨ (fd x).mx < c then cB true else if (fd x).mn = (fd x).mx then cB false else relC 1 x (numN c)
def numbers1 (how : Int) (a b : Nd) : Cd :=
  if how = 0 then (if ((fd a).mn - (fd b).mx = 0 ∧ (fd a).mx - (fd b).mn = 0) ∨ (0 < (fd a).mn - (fd b).mx ∨ (fd a).mx - (fd b).mn < 0) then cB (decide ((fd a).mn - (fd b).mx = 0 ∧ (fd a).mx - (fd b).mn = 0)) else relC how a b)
  else if how = 1 then (if (0 < (fd a).mn - (fd b).mx ∨ (fd a).mx - (fd b).mn < 0) ∨ ((fd a).mn - (fd b).mx = 0 ∧ (fd a).mx - (fd b).mn = 0) then cB (decide (0 < (fd a).mn - (fd b).mx ∨ (fd a).mx - (fd b).mn < 0)) else relC how a b)
  else if how = 2 then (if (fd a).mx - (fd b).mn < 0 ∨ 0 ≤ (fd a).mn - (fd b).mx then cB (decide ((fd a).mx - (fd b).mn < 0)) else relC how a b)
  else if how = 3 then (if (fd a).mx - (fd b).mn ≤ 0 ∨ 0 < (fd a).mn - (fd b).mx then cB (decide ((fd a).mx - (fd b).mn ≤ 0)) else relC how a b)
  else relC how a b
def numbers (how : Int) (a b : Nd) : Cd := if how = 4 ∨ how = 5 then numbers1 fd (mirror how) b a else numbers1 fd how a b
def values1 (how : Int) (a b : Nd) : Cd :=
  if a.k = 10 then cB (cmpI how a.num b.num)
  else if a.k = 11 then cB (decide (a.nm = b.nm) == decide (how = 0))
  else if b.k = 10 then bounded fd how a b.num
  else if b.k = 9 ∧ a.nm = b.nm ∧ a.attr = b.attr then cB (cmpI how 0 0)
  else if (fd a).kind = 0 then numbers fd how a b
  else if (fd a).words.l.length = 1 then cB (decide (how = 0))
  else relC how a b
def values (how : Int) (a b : Nd) : Cd := if a.k ≠ 9 ∧ b.k = 9 then values1 fd (mirror how) b a else values1 fd how a b
def sg (neg : Bool) (how : Int) : Int := if neg then complement how else how
def ofC (neg : Bool) (k : Int) (l : List Cd) : Cd := thr (if neg then (l.length : Int) - k + 1 else k) l
def kidN (ks : List Tr) (i : Nat) : Nd := match ks[i]? with
  | some t => t.n
  | none => numN 0
mutual
def norm (neg : Bool) : Tr → Cd
  | .nd _ n ks =>
    if n.k = 0 then cB (!neg) else if n.k = 1 then cB neg
    else if n.k = 2 then normN neg ks
    else if n.k = 6 then values fd (sg neg n.num) (kidN ks 0) (kidN ks 1)
    else if n.k = 7 then (if neg = false ∧ (kidN ks 0).k = 9 ∧ (kidN ks 1).k = 10 ∧ (kidN ks 2).k = 10 then within fd (kidN ks 0) (kidN ks 1).num (kidN ks 2).num
      else ofC neg 2 [values fd (sg neg 5) (kidN ks 0) (kidN ks 1), values fd (sg neg 3) (kidN ks 0) (kidN ks 2)])
    else if n.k = 8 then ofC neg 1 ((ks.drop 1).map fun t => values fd (sg neg 0) (kidN ks 0) t.n)
    else if n.k = 3 then ofC neg (ks.length : Int) (norms neg ks)
    else if n.k = 4 then ofC neg 1 (norms neg ks)
    else ofC neg n.num (norms neg ks)
def norms (neg : Bool) : List Tr → List Cd
  | [] => []
  | t :: ts => norm neg t :: norms neg ts
def normN (neg : Bool) : List Tr → Cd
  | [] => cB true
  | t :: _ => norm (!neg) t
end
end
/- What conditions say. -/
section
variable (vl : Nd → Vl)
mutual
def truth : Tr → Bool
  | .nd _ n ks =>
    if n.k = 0 then true else if n.k = 1 then false
    else if n.k = 2 then decide (truths ks = 0)
    else if n.k = 3 then decide (truths ks = ks.length)
    else if n.k = 4 then decide (0 < truths ks)
    else if n.k = 5 then decide (n.num ≤ (truths ks : Int))
    else if n.k = 6 then cmpV n.num (vl (kidN ks 0)) (vl (kidN ks 1))
    else if n.k = 7 then cmpV 5 (vl (kidN ks 0)) (vl (kidN ks 1)) && cmpV 3 (vl (kidN ks 0)) (vl (kidN ks 2))
    else (ks.drop 1).any fun t => cmpV 0 (vl (kidN ks 0)) (vl t.n)
/-- How many hold. -/
def truths : List Tr → Nat
  | [] => 0
  | t :: ts => (if truth t then 1 else 0) + truths ts
end
def atC (k num : Int) (vs : List Nd) : Bool := match vs with
  | [a, b] => cmpV num (vl a) (vl b)
  | [a, b, c] => cmpV 5 (vl a) (vl b) && cmpV 3 (vl a) (vl c)
  | _ => false
mutual
def saysC : Cd → Bool
  | .atom k num vs => if k = 0 then true else if k = 1 then false else atC vl k num vs
  | .gate n ks => decide (n ≤ (saysN ks : Int))
def saysN : List Cd → Nat
  | [] => 0
  | c :: cs => (if saysC c then 1 else 0) + saysN cs
end
theorem saysN_cnt : ∀ l : List Cd, saysN vl l = cnt (saysC vl) l
  | [] => rfl
  | c :: l => by rw [saysN, cnt_cons, saysN_cnt l]
theorem says_ok : Says (atC vl) (saysC vl) where
  tru n vs := by simp [saysC]
  fls n vs := by simp [saysC]
  atm k n vs h0 h1 := by simp [saysC, h0, h1]
  gat n ks := by simp [saysC, saysN_cnt]
end
/-- Values of the right types. -/
structure Vals (fd : Nd → Fd) (vl : Nd → Vl) : Prop where
  num : ∀ n, n.k = 10 → vl n = .num n.num
  word : ∀ n, n.k = 11 → vl n = .word n.nm
  same : ∀ a b, a.k = 9 → b.k = 9 → a.nm = b.nm → a.attr = b.attr → vl a = vl b
  fldN : ∀ n, n.k = 9 → (fd n).kind = 0 → ∃ x, vl n = .num x ∧ (fd n).mn ≤ x ∧ x ≤ (fd n).mx
  fldW : ∀ n, n.k = 9 → (fd n).kind ≠ 0 → ∃ w, vl n = .word w ∧ w ∈ (fd n).words.l
/-- Two values that may be compared so. -/
def Fits (fd : Nd → Fd) (how : Int) (a b : Nd) : Prop :=
  How how ∧ (a.k = 9 ∨ a.k = 10 ∨ a.k = 11) ∧ (b.k = 9 ∨ b.k = 10 ∨ b.k = 11) ∧
  ((((a.k = 9 ∧ (fd a).kind = 0) ∨ a.k = 10) ∧ ((b.k = 9 ∧ (fd b).kind = 0) ∨ b.k = 10)) ∨
   ((how = 0 ∨ how = 1) ∧ ((a.k = 9 ∧ (fd a).kind ≠ 0) ∨ a.k = 11) ∧ ((b.k = 9 ∧ (fd b).kind ≠ 0) ∨ b.k = 11) ∧
     (a.k = 9 → b.k = 9 → (fd a).words.l = (fd b).words.l) ∧ (a.k = 9 → b.k = 11 → b.nm ∈ (fd a).words.l) ∧ (a.k = 11 → b.k = 9 → a.nm ∈ (fd b).words.l)))
section
variable {fd : Nd → Fd} {vl : Nd → Vl}
theorem within_says (V : Vals fd vl) {x : Nd} {n : Int} (hx : vl x = .num n) (h1 : (fd x).mn ≤ n) (h2 : n ≤ (fd x).mx) (lo hi : Int) : saysC vl (within fd x lo hi) = decide (lo ≤ n ∧ n ≤ hi) := by
  have s := says_ok vl
  have hn : ∀ m, vl (numN m) = .num m := fun m => V.num _ rfl
  unfold within
  split
  · rw [says_cB s]; symm; simp; omega
  split
  · rw [says_cB s]; symm; simp; omega
  split
  · simp only [relC, saysC, atC, hx, hn, cmpV, cmpI]
    simp
    rw [Bool.eq_iff_iff]
    simp
    omega
  · simp only [saysC, atC, hx, hn, cmpV, cmpI]
    simp
    rw [Bool.eq_iff_iff]
    simp
    omega
theorem bounded_says (V : Vals fd vl) {x : Nd} {n : Int} (hx : vl x = .num n) (h1 : (fd x).mn ≤ n) (h2 : n ≤ (fd x).mx) {how : Int} (hh : How how) (c : Int) : saysC vl (bounded fd how x c) = cmpI how n c := by
  have s := says_ok vl
  have hn : ∀ m, vl (numN m) = .num m := fun m => V.num _ rfl
  have k := within_says V hx h1 h2
  rcases hh with rfl | rfl | rfl | rfl | rfl | rfl
  · simp [bounded, k, cmpI]; rw [Bool.eq_iff_iff]; simp; omega
  · simp only [bounded]
    simp
    split
    · rw [says_cB s]; symm; simp [cmpI]; omega
    split
    · rw [says_cB s]; symm; simp [cmpI]; omega
    · simp [relC, saysC, atC, hx, hn, cmpV]
  · simp [bounded, k, cmpI]; rw [Bool.eq_iff_iff]; simp; omega
  · simp [bounded, k, cmpI]; omega
  · simp [bounded, k, cmpI]; rw [Bool.eq_iff_iff]; simp; omega
  · simp [bounded, k, cmpI]; omega
theorem numbers1_says (V : Vals fd vl) {a b : Nd} {m n : Int} (ha : vl a = .num m) (a1 : (fd a).mn ≤ m) (a2 : m ≤ (fd a).mx) (hb : vl b = .num n) (b1 : (fd b).mn ≤ n) (b2 : n ≤ (fd b).mx) {how : Int} (hh : How how) :
    saysC vl (numbers1 fd how a b) = cmpI how m n := by
  have s := says_ok vl
  have hr : saysC vl (relC how a b) = cmpI how m n := by simp [relC, saysC, atC, ha, hb, cmpV]
  rcases hh with rfl | rfl | rfl | rfl | rfl | rfl
  · simp only [numbers1, if_true]
    split
    · rw [says_cB s]; simp only [cmpI, if_true]; rw [Bool.eq_iff_iff]; simp; omega
    · exact hr
  · simp only [numbers1, if_true]
    simp only [show ¬ (1 : Int) = 0 by decide, if_false]
    split
    · rw [says_cB s]; simp [cmpI]; rw [Bool.eq_iff_iff]; simp; omega
    · exact hr
  · simp only [numbers1, if_true]
    simp only [show ¬ (2 : Int) = 0 by decide, show ¬ (2 : Int) = 1 by decide, if_false]
    split
    · rw [says_cB s]; simp [cmpI]; omega
    · exact hr
  · simp only [numbers1, if_true]
    simp only [show ¬ (3 : Int) = 0 by decide, show ¬ (3 : Int) = 1 by decide, show ¬ (3 : Int) = 2 by decide, if_false]
    split
    · rw [says_cB s]; simp [cmpI]; omega
    · exact hr
  · simpa [numbers1] using hr
  · simpa [numbers1] using hr
theorem numbers_says (V : Vals fd vl) {a b : Nd} {m n : Int} (ha : vl a = .num m) (a1 : (fd a).mn ≤ m) (a2 : m ≤ (fd a).mx) (hb : vl b = .num n) (b1 : (fd b).mn ≤ n) (b2 : n ≤ (fd b).mx) {how : Int} (hh : How how) :
    saysC vl (numbers fd how a b) = cmpI how m n := by
  unfold numbers
  split
  · rw [numbers1_says V hb b1 b2 ha a1 a2 (how_mirror hh), cmpI_mirror hh]
  · exact numbers1_says V ha a1 a2 hb b1 b2 hh
theorem values1_says (V : Vals fd vl) {how : Int} {a b : Nd} (hf : Fits fd how a b) (hsw : ¬ (a.k ≠ 9 ∧ b.k = 9)) : saysC vl (values1 fd how a b) = cmpV how (vl a) (vl b) := by
  have s := says_ok vl
  obtain ⟨hh, ka, kb, hf⟩ := hf
  unfold values1
  rcases hf with ⟨fa, fb⟩ | ⟨hw, fa, fb, w1, w2, w3⟩
  · rcases fa with ⟨fa, fa2⟩ | fa
    · obtain ⟨m, va, a1, a2⟩ := V.fldN a fa fa2
      rw [if_neg (by omega), if_neg (by omega)]
      rcases fb with ⟨fb, fb2⟩ | fb
      · obtain ⟨n, vb, b1, b2⟩ := V.fldN b fb fb2
        rw [if_neg (by omega)]
        split
        · rename_i hs
          rw [says_cB s, V.same a b fa fb hs.2.1 hs.2.2, vb]
          simp only [cmpV, cmpI]
          rcases hh with rfl | rfl | rfl | rfl | rfl | rfl <;> simp
        · try rw [if_pos fa2]
          rw [numbers_says V va a1 a2 vb b1 b2 hh, va, vb]
          rfl
      · rw [if_pos fb, bounded_says V va a1 a2 hh, va, V.num b fb]
        rfl
    · rcases fb with ⟨fb, _⟩ | fb
      · exact absurd ⟨by omega, fb⟩ hsw
      · rw [if_pos fa, says_cB s, V.num a fa, V.num b fb]
        rfl
  · rcases fa with ⟨fa, fa2⟩ | fa
    · obtain ⟨u, va, a1⟩ := V.fldW a fa fa2
      rw [if_neg (by omega), if_neg (by omega)]
      rcases fb with ⟨fb, fb2⟩ | fb
      · obtain ⟨v, vb, b1⟩ := V.fldW b fb fb2
        rw [if_neg (by omega)]
        split
        · rename_i hs
          rw [says_cB s, V.same a b fa fb hs.2.1 hs.2.2, vb]
          simp only [cmpV, cmpI]
          rcases hw with rfl | rfl <;> simp
        · try rw [if_neg fa2]
          split
          · rename_i h1
            rw [says_cB s, va, vb]
            obtain ⟨z, hz⟩ := List.length_eq_one_iff.1 h1
            rw [← w1 fa fb, hz] at b1
            rw [hz] at a1
            simp only [List.mem_singleton] at a1 b1
            subst a1 b1
            simp only [cmpV]
            rcases hw with rfl | rfl <;> simp
          · simp [relC, saysC, atC]
      · rw [if_neg (by omega), if_neg (by omega), if_neg fa2]
        split
        · rename_i h1
          rw [says_cB s, va, V.word b fb]
          obtain ⟨z, hz⟩ := List.length_eq_one_iff.1 h1
          have b1 := w2 fa fb
          rw [hz] at a1 b1
          simp only [List.mem_singleton] at a1 b1
          rw [a1, b1]
          simp only [cmpV]
          rcases hw with rfl | rfl <;> simp
        · simp [relC, saysC, atC]
    · rcases fb with ⟨fb, _⟩ | fb
      · exact absurd ⟨by omega, fb⟩ hsw
      · rw [if_neg (by omega), if_pos fa, says_cB s, V.word a fa, V.word b fb]
        simp only [cmpV]
        rcases hw with rfl | rfl
        · simp
        · by_cases e : a.nm = b.nm <;> simp [e]
theorem cmpV_mirror {how : Int} (hh : How how) (x y : Vl) : cmpV (mirror how) y x = cmpV how x y := by
  cases x <;> cases y <;> simp only [cmpV]
  · exact cmpI_mirror hh _ _
  · rcases hh with rfl | rfl | rfl | rfl | rfl | rfl <;> simp [mirror, eq_comm]
theorem fits_mirror {how : Int} {a b : Nd} (hf : Fits fd how a b) : Fits fd (mirror how) b a := by
  obtain ⟨hh, ka, kb, hf⟩ := hf
  refine ⟨how_mirror hh, kb, ka, ?_⟩
  rcases hf with ⟨fa, fb⟩ | ⟨hw, fa, fb, w1, w2, w3⟩
  · exact .inl ⟨fb, fa⟩
  · refine .inr ⟨?_, fb, fa, fun x y => (w1 y x).symm, fun x y => w3 y x, fun x y => w2 y x⟩
    rcases hw with rfl | rfl <;> simp [mirror]
theorem values_says (V : Vals fd vl) {how : Int} {a b : Nd} (hf : Fits fd how a b) : saysC vl (values fd how a b) = cmpV how (vl a) (vl b) := by
  unfold values
  split
  · rename_i h
    rw [values1_says V (fits_mirror hf) (by omega), cmpV_mirror hf.1]
  · rename_i h
    exact values1_says V hf h
theorem cmpV_compl (V : Vals fd vl) {how : Int} {a b : Nd} (hf : Fits fd how a b) : cmpV (complement how) (vl a) (vl b) = !cmpV how (vl a) (vl b) := by
  obtain ⟨hh, ka, kb, hf⟩ := hf
  rcases hf with ⟨fa, fb⟩ | ⟨hw, fa, fb, w1, w2, w3⟩
  · have va : ∃ m, vl a = .num m := by
      rcases fa with ⟨fa, fa2⟩ | fa
      · obtain ⟨m, va, _⟩ := V.fldN a fa fa2; exact ⟨m, va⟩
      · exact ⟨_, V.num a fa⟩
    have vb : ∃ m, vl b = .num m := by
      rcases fb with ⟨fb, fb2⟩ | fb
      · obtain ⟨m, vb, _⟩ := V.fldN b fb fb2; exact ⟨m, vb⟩
      · exact ⟨_, V.num b fb⟩
    obtain ⟨m, va⟩ := va
    obtain ⟨n, vb⟩ := vb
    rw [va, vb]
    exact cmpI_compl hh m n
  · have va : ∃ m, vl a = .word m := by
      rcases fa with ⟨fa, fa2⟩ | fa
      · obtain ⟨m, va, _⟩ := V.fldW a fa fa2; exact ⟨m, va⟩
      · exact ⟨_, V.word a fa⟩
    have vb : ∃ m, vl b = .word m := by
      rcases fb with ⟨fb, fb2⟩ | fb
      · obtain ⟨m, vb, _⟩ := V.fldW b fb fb2; exact ⟨m, vb⟩
      · exact ⟨_, V.word b fb⟩
    obtain ⟨m, va⟩ := va
    obtain ⟨n, vb⟩ := vb
    rw [va, vb]
    rcases hw with rfl | rfl <;> simp [cmpV, complement]
theorem fits_compl {how : Int} {a b : Nd} (hf : Fits fd how a b) : Fits fd (complement how) a b := by
  obtain ⟨hh, ka, kb, hf⟩ := hf
  refine ⟨how_compl hh, ka, kb, ?_⟩
  rcases hf with h | ⟨hw, r⟩
  · exact .inl h
  · refine .inr ⟨?_, r⟩
    rcases hw with rfl | rfl <;> simp [complement]
theorem values_sg (V : Vals fd vl) {how : Int} {a b : Nd} (hf : Fits fd how a b) (neg : Bool) : saysC vl (values fd (sg neg how) a b) = (cmpV how (vl a) (vl b) != neg) := by
  cases neg
  · simp [sg, values_says V hf]
  · simp [sg, values_says V (fits_compl hf), cmpV_compl V hf]
end
/- Trees of the right types. -/
section
variable (fd : Nd → Fd)
mutual
def Ty : Tr → Prop
  | .nd _ n ks => 0 ≤ n.k ∧ n.k ≤ 8 ∧ (n.k = 2 → ks.length = 1) ∧ (n.k ≤ 5 → Tys ks) ∧
    (n.k = 6 → Fits fd n.num (kidN ks 0) (kidN ks 1)) ∧
    (n.k = 7 → Fits fd 5 (kidN ks 0) (kidN ks 1) ∧ Fits fd 3 (kidN ks 0) (kidN ks 2)) ∧
    (n.k = 8 → ∀ t ∈ ks.drop 1, Fits fd 0 (kidN ks 0) t.n)
def Tys : List Tr → Prop
  | [] => True
  | t :: ts => Ty t ∧ Tys ts
end
theorem norms_len (neg : Bool) : ∀ ts : List Tr, (norms fd neg ts).length = ts.length
  | [] => rfl
  | t :: ts => by simp [norms, norms_len neg ts]
end
section
variable {fd : Nd → Fd} {vl : Nd → Vl}
theorem truths_le (vl : Nd → Vl) : ∀ ts : List Tr, truths vl ts ≤ ts.length
  | [] => Nat.le_refl _
  | t :: ts => by
    have := truths_le vl ts
    simp only [truths, List.length_cons]
    split <;> omega
theorem ofC_says {vl : Nd → Vl} (neg : Bool) (k : Int) {l : List Cd} {tr : Nat} (hc : cnt (saysC vl) l = if neg then l.length - tr else tr) (ht : tr ≤ l.length) : saysC vl (ofC neg k l) = (decide (k ≤ (tr : Int)) != neg) := by
  unfold ofC
  rw [thr_says (says_ok vl), hc]
  cases neg
  · simp
  · simp only [if_true]
    by_cases q : k ≤ (tr : Int)
    · have : ¬ (l.length : Int) - k + 1 ≤ ((l.length - tr : Nat) : Int) := by omega
      simp [q, this]
    · have : (l.length : Int) - k + 1 ≤ ((l.length - tr : Nat) : Int) := by omega
      simp [q, this]
theorem cnt_map {vl : Nd → Vl} {α : Type} (f : α → Cd) (g : α → Bool) (neg : Bool) : ∀ {l : List α}, (∀ x ∈ l, saysC vl (f x) = (g x != neg)) → cnt (saysC vl) (l.map f) = if neg then l.length - (l.filter g).length else (l.filter g).length
  | [], _ => by cases neg <;> rfl
  | x :: l, h => by
    have ih := cnt_map f g neg (l := l) fun y hy => h y (by simp [hy])
    have hx := h x (by simp)
    have hle := List.length_filter_le g l
    rw [List.map_cons, cnt_cons, ih, hx]
    cases neg <;> by_cases hg : g x = true <;> simp [hg] <;> omega
mutual
/-- The normal form of a condition, or of its negation, says what the condition says. -/
theorem norm_says (V : Vals fd vl) : ∀ (t : Tr) (neg : Bool), Ty fd t → saysC vl (norm fd neg t) = (truth vl t != neg)
  | .nd i n ks, neg, ty => by
    obtain ⟨k0, k8, c2, c5, c6, c7, c8⟩ := ty
    have s := says_ok vl
    have hle := truths_le vl ks
    unfold norm truth
    by_cases e0 : n.k = 0
    · simp [e0, says_cB s]
    by_cases e1 : n.k = 1
    · simp [e1, says_cB s]
    by_cases e2 : n.k = 2
    · rw [if_neg e0, if_neg e1, if_pos e2, if_neg e0, if_neg e1, if_pos e2]
      obtain ⟨t, rfl⟩ := List.length_eq_one_iff.1 (c2 e2)
      have ih := norm_says V t (!neg) (c5 (by omega)).1
      simp only [normN, ih, truths]
      by_cases ht : truth vl t = true <;> cases neg <;> simp [ht]
    by_cases e3 : n.k = 3
    · have hc := norms_says V ks neg (c5 (by omega))
      rw [if_neg e0, if_neg e1, if_neg e2, if_neg (by omega), if_neg (by omega), if_neg (by omega), if_pos e3, if_neg e0, if_neg e1, if_neg e2, if_pos e3, ofC_says neg _ (by rw [norms_len]; exact hc) (by rw [norms_len]; exact hle)]
      congr 1
      simp
      omega
    by_cases e4 : n.k = 4
    · have hc := norms_says V ks neg (c5 (by omega))
      rw [if_neg e0, if_neg e1, if_neg e2, if_neg (by omega), if_neg (by omega), if_neg (by omega), if_neg e3, if_pos e4, if_neg e0, if_neg e1, if_neg e2, if_neg e3, if_pos e4, ofC_says neg _ (by rw [norms_len]; exact hc) (by rw [norms_len]; exact hle)]
      congr 1
      simp
      omega
    by_cases e5 : n.k = 5
    · have hc := norms_says V ks neg (c5 (by omega))
      rw [if_neg e0, if_neg e1, if_neg e2, if_neg (by omega), if_neg (by omega), if_neg (by omega), if_neg e3, if_neg e4, if_neg e0, if_neg e1, if_neg e2, if_neg e3, if_neg e4, if_pos e5, ofC_says neg _ (by rw [norms_len]; exact hc) (by rw [norms_len]; exact hle)]
    by_cases e6 : n.k = 6
    · rw [if_neg e0, if_neg e1, if_neg e2, if_pos e6, if_neg e0, if_neg e1, if_neg e2, if_neg e3, if_neg e4, if_neg e5, if_pos e6]
      exact values_sg V (c6 e6) neg
    by_cases e7 : n.k = 7
    · rw [if_neg e0, if_neg e1, if_neg e2, if_neg e6, if_pos e7, if_neg e0, if_neg e1, if_neg e2, if_neg e3, if_neg e4, if_neg e5, if_neg e6, if_pos e7]
      obtain ⟨f1, f2⟩ := c7 e7
      split
      · rename_i q
        obtain ⟨rfl, q1, q2, q3⟩ := q
        have hkd : (fd (kidN ks 0)).kind = 0 := by
          obtain ⟨_, _, _, hf⟩ := f1
          rcases hf with ⟨fa, _⟩ | ⟨hw, _⟩
          · rcases fa with ⟨_, fa⟩ | fa
            · exact fa
            · omega
          · omega
        obtain ⟨x, hx, h1, h2⟩ := V.fldN _ q1 hkd
        rw [within_says V hx h1 h2, hx, V.num _ q2, V.num _ q3]
        simp only [cmpV, cmpI]
        simp
      · have g1 := values_sg V f1 neg
        have g2 := values_sg V f2 neg
        generalize values fd (sg neg 5) (kidN ks 0) (kidN ks 1) = A at *
        generalize values fd (sg neg 3) (kidN ks 0) (kidN ks 2) = B at *
        generalize cmpV 5 (vl (kidN ks 0)) (vl (kidN ks 1)) = x at *
        generalize cmpV 3 (vl (kidN ks 0)) (vl (kidN ks 2)) = y at *
        rw [ofC_says neg 2 (tr := (if x then 1 else 0) + (if y then 1 else 0)) (by
          rw [cnt_cons, cnt_cons, g1, g2]
          cases neg <;> cases x <;> cases y <;> simp [cnt]) (by cases x <;> cases y <;> simp)]
        cases x <;> cases y <;> simp
    · have e8 : n.k = 8 := by omega
      rw [if_neg e0, if_neg e1, if_neg e2, if_neg e6, if_neg e7, if_pos e8, if_neg e0, if_neg e1, if_neg e2, if_neg e3, if_neg e4, if_neg e5, if_neg e6, if_neg e7]
      have hc := cnt_map (vl := vl) (fun t : Tr => values fd (sg neg 0) (kidN ks 0) t.n) (fun t : Tr => cmpV 0 (vl (kidN ks 0)) (vl t.n)) neg (l := ks.drop 1) fun t ht => values_sg V (c8 e8 t ht) neg
      rw [ofC_says neg 1 (by rw [List.length_map]; exact hc) (by rw [List.length_map]; exact List.length_filter_le _ _)]
      congr 1
      rw [Bool.eq_iff_iff, List.any_eq_true]
      simp only [decide_eq_true_eq]
      constructor
      · intro h
        have : 0 < (List.filter (fun t : Tr => cmpV 0 (vl (kidN ks 0)) (vl t.n)) (ks.drop 1)).length := by omega
        obtain ⟨t, ht⟩ := List.exists_mem_of_length_pos this
        exact ⟨t, (List.mem_filter.1 ht).1, (List.mem_filter.1 ht).2⟩
      · rintro ⟨t, h1, h2⟩
        have : 0 < (List.filter (fun t : Tr => cmpV 0 (vl (kidN ks 0)) (vl t.n)) (ks.drop 1)).length := List.length_pos_of_mem (List.mem_filter.2 ⟨h1, h2⟩)
        omega
theorem norms_says (V : Vals fd vl) : ∀ (ts : List Tr) (neg : Bool), Tys fd ts → cnt (saysC vl) (norms fd neg ts) = if neg then ts.length - truths vl ts else truths vl ts
  | [], neg, _ => by cases neg <;> rfl
  | t :: ts, neg, ty => by
    have h1 := norm_says V t neg ty.1
    have h2 := norms_says V ts neg ty.2
    have hle := truths_le vl ts
    simp only [norms, truths, List.length_cons]
    rw [cnt_cons, h1, h2]
    cases neg <;> cases truth vl t <;> simp <;> omega
end
end
end Go.Ab.Pol

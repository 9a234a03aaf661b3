/-
  Normal forms: thresholds, and that they mean what they were made from.
-/
import Derived.Test.YtfpmflgjbpnkjaaAbPol
set_option linter.unusedVariables false
set_option linter.unusedSimpArgs false
namespace Go.Ab.Pol

/-- A condition in normal form: a constant, a comparison or a range with its values; or a threshold. -/
inductive Cd where
  | atom (k num : Int) (vs : List Nd)
  | gate (need : Int) (kids : List Cd)
def Cd.isT : Cd → Bool
  | .atom k _ _ => decide (k = 0)
  | .gate _ _ => false
def Cd.isF : Cd → Bool
  | .atom k _ _ => decide (k = 1)
  | .gate _ _ => false
def cB (b : Bool) : Cd := .atom (if b then 0 else 1) 0 []
def cnt (h : Cd → Bool) (l : List Cd) : Nat := (l.filter h).length
theorem cnt_le (h : Cd → Bool) (l : List Cd) : cnt h l ≤ l.length := List.length_filter_le _ _
theorem cnt_cons (h : Cd → Bool) (c : Cd) (l : List Cd) : cnt h (c :: l) = (if h c then 1 else 0) + cnt h l := by
  unfold cnt
  by_cases hc : h c = true
  · simp [hc]; omega
  · simp [hc]
theorem cnt_append (h : Cd → Bool) (l m : List Cd) : cnt h (l ++ m) = cnt h l + cnt h m := by simp [cnt]
theorem cnt_all {h : Cd → Bool} : ∀ {l : List Cd}, (l.length ≤ cnt h l ↔ l.all h = true)
  | [] => by simp [cnt]
  | c :: l => by
    have := cnt_le h l
    rw [cnt_cons, List.length_cons, List.all_cons, Bool.and_eq_true, ← cnt_all (l := l)]
    by_cases hc : h c = true
    · simp [hc]; omega
    · simp [hc]; omega
theorem cnt_any {h : Cd → Bool} : ∀ {l : List Cd}, (1 ≤ cnt h l ↔ l.any h = true)
  | [] => by simp [cnt]
  | c :: l => by
    rw [cnt_cons, List.any_cons, Bool.or_eq_true, ← cnt_any (l := l)]
    by_cases hc : h c = true
    · simp [hc]
    · simp [hc]
/-- The parts of a threshold that are no constants, how many are still needed, and the parts merged. -/
def rest (l : List Cd) : List Cd := l.filter fun c => !c.isT && !c.isF
def trues (l : List Cd) : Nat := (l.filter Cd.isT).length
def merge1 (whole : Bool) (k : Int) : Cd → List Cd
  | .gate need ks => if (whole && decide (need = (ks.length : Int))) || (!whole && decide (k = 1) && decide (need = 1)) then ks else [.gate need ks]
  | c => [c]
def mergeL (whole : Bool) (k : Int) : List Cd → List Cd
  | [] => []
  | c :: l => merge1 whole k c ++ mergeL whole k l
def thr (k : Int) (l : List Cd) : Cd :=
  if k - trues l ≤ 0 then cB true
  else if ((rest l).length : Int) < k - trues l then cB false
  else match rest l with
    | [c] => c
    | r => if k - trues l = (r.length : Int) then .gate ((mergeL true (k - trues l) r).length : Int) (mergeL true (k - trues l) r)
      else .gate (k - trues l) (mergeL false (k - trues l) r)
/-- What a condition says, given what comparisons and ranges say. -/
structure Says (at_ : Int → Int → List Nd → Bool) (h : Cd → Bool) : Prop where
  tru : ∀ n vs, h (.atom 0 n vs) = true
  fls : ∀ n vs, h (.atom 1 n vs) = false
  atm : ∀ k n vs, k ≠ 0 → k ≠ 1 → h (.atom k n vs) = at_ k n vs
  gat : ∀ n ks, h (.gate n ks) = decide (n ≤ (cnt h ks : Int))
section
variable {at_ : Int → Int → List Nd → Bool} {h : Cd → Bool}
theorem says_cB (s : Says at_ h) (b : Bool) : h (cB b) = b := by
  cases b
  · exact s.fls _ _
  · exact s.tru _ _
theorem cnt_rest (s : Says at_ h) : ∀ l : List Cd, cnt h l = trues l + cnt h (rest l)
  | [] => rfl
  | c :: l => by
    have ih := cnt_rest s l
    unfold trues rest at ih ⊢
    rw [cnt_cons, ih]
    cases c with
    | gate n ks => simp only [Cd.isT, Cd.isF, List.filter_cons]; simp [cnt_cons]; omega
    | atom k n vs =>
      by_cases h0 : k = 0
      · subst h0
        have := s.tru n vs
        simp [Cd.isT, Cd.isF, this]; omega
      · by_cases h1 : k = 1
        · subst h1
          have := s.fls n vs
          simp [Cd.isT, Cd.isF, this]
        · simp [Cd.isT, Cd.isF, h0, h1, cnt_cons]; omega
theorem merge_all (s : Says at_ h) (k : Int) : ∀ l : List Cd, (mergeL true k l).all h = l.all h
  | [] => rfl
  | c :: l => by
    have ih := merge_all s k l
    simp only [mergeL, List.all_append, List.all_cons, ih]
    congr 1
    cases c with
    | atom k n vs => simp [merge1]
    | gate n ks =>
      simp only [merge1]
      by_cases hn : n = (ks.length : Int)
      · simp only [hn, decide_true, Bool.and_self, Bool.true_or, if_true]
        rw [s.gat]
        have := cnt_all (h := h) (l := ks)
        by_cases ha : ks.all h = true
        · rw [ha]; symm; simp; exact this.2 ha
        · have h2 : ¬ ks.length ≤ cnt h ks := fun q => ha (this.1 q)
          have h3 : ks.all h = false := by simpa using ha
          rw [h3]; symm; simp; omega
      · simp [hn]
theorem merge_any (s : Says at_ h) : ∀ l : List Cd, (mergeL false 1 l).any h = l.any h
  | [] => rfl
  | c :: l => by
    have ih := merge_any s l
    simp only [mergeL, List.any_append, List.any_cons, ih]
    congr 1
    cases c with
    | atom k n vs => simp [merge1]
    | gate n ks =>
      simp only [merge1]
      by_cases hn : n = 1
      · subst hn
        simp only [Bool.false_and, Bool.not_false, decide_true, Bool.and_self, Bool.or_true, if_true]
        rw [s.gat]
        have := cnt_any (h := h) (l := ks)
        by_cases ha : ks.any h = true
        · have := this.2 ha
          rw [ha]; symm; simp; omega
        · have h2 : ¬ 1 ≤ cnt h ks := fun q => ha (this.1 q)
          have h3 : ks.any h = false := by simpa using ha
          rw [h3]; symm; simp; omega
      · simp [hn]
theorem merge_none {k : Int} (hk : k ≠ 1) : ∀ l : List Cd, mergeL false k l = l
  | [] => rfl
  | c :: l => by
    rw [mergeL, merge_none hk l]
    cases c <;> simp [merge1, hk]
/-- A threshold holds if so many of its parts hold. -/
theorem thr_says (s : Says at_ h) (k : Int) (l : List Cd) : h (thr k l) = decide (k ≤ (cnt h l : Int)) := by
  have e := cnt_rest s l
  have hle := cnt_le h (rest l)
  unfold thr
  by_cases h1 : k - trues l ≤ 0
  · rw [if_pos h1, says_cB s]; symm; simp; omega
  rw [if_neg h1]
  by_cases h2 : ((rest l).length : Int) < k - trues l
  · rw [if_pos h2, says_cB s]; symm; simp; omega
  rw [if_neg h2]
  split
  · rename_i c hr
    rw [hr] at e h2
    have e2 : cnt h [c] = if h c then 1 else 0 := by rw [cnt_cons]; simp [cnt]
    rw [e2] at e
    simp only [List.length_singleton] at h2
    by_cases hc : h c = true
    · rw [hc] at e ⊢; symm; simp at e ⊢; omega
    · have hc : h c = false := by simpa using hc
      rw [hc] at e ⊢; symm; simp at e ⊢; omega
  · by_cases h3 : k - trues l = ((rest l).length : Int)
    · rw [if_pos h3, s.gat]
      have a1 := cnt_all (h := h) (l := mergeL true (k - trues l) (rest l))
      have a2 := cnt_all (h := h) (l := rest l)
      rw [merge_all s] at a1
      have a3 : ((mergeL true (k - trues l) (rest l)).length ≤ cnt h (mergeL true (k - trues l) (rest l))) ↔ (rest l).length ≤ cnt h (rest l) := a1.trans a2.symm
      by_cases q : (rest l).length ≤ cnt h (rest l)
      · have q2 := a3.2 q
        have : decide (k ≤ (cnt h l : Int)) = true := by simp; omega
        rw [this]; simp; omega
      · have q2 : ¬ (mergeL true (k - trues l) (rest l)).length ≤ cnt h (mergeL true (k - trues l) (rest l)) := fun x => q (a3.1 x)
        have : decide (k ≤ (cnt h l : Int)) = false := by simp; omega
        rw [this]; simp; omega
    · rw [if_neg h3, s.gat]
      by_cases h4 : k - trues l = 1
      · rw [h4]
        have a1 := cnt_any (h := h) (l := mergeL false 1 (rest l))
        have a2 := cnt_any (h := h) (l := rest l)
        rw [merge_any s] at a1
        have a3 := a1.trans a2.symm
        by_cases q : 1 ≤ cnt h (rest l)
        · have q2 := a3.2 q
          have : decide (k ≤ (cnt h l : Int)) = true := by simp; omega
          rw [this]; simp; omega
        · have q2 : ¬ 1 ≤ cnt h (mergeL false 1 (rest l)) := fun x => q (a3.1 x)
          have : decide (k ≤ (cnt h l : Int)) = false := by simp; omega
          rw [this]; simp; omega
      · rw [merge_none h4]
        by_cases q : k ≤ (cnt h l : Int)
        · have : decide (k ≤ (cnt h l : Int)) = true := by simp [q]
          rw [this]; simp; omega
        · have : decide (k ≤ (cnt h l : Int)) = false := by simp [q]
          rw [this]; simp; omega
end
end Go.Ab.Pol

/-
  A node alone, aliases: the reference.
-/
import Derived.Test.YtfpmflgjbpnkjaaAb41P7
set_option linter.unusedVariables false
set_option linter.unusedSimpArgs false
set_option linter.unusedSectionVars false
namespace Go.Ab.Pl
open Go.Ab.Pol
set_option maxRecDepth 100000
set_option maxHeartbeats 2000000
def formR (x : Nd) : Int := if (kidsOk x.k x.kids.l.length && textsOk x) = false then 3 else if x.num < lowN x ∨ highN x < x.num then 2 else 0
theorem kids_lt {k : Int} {n : Nat} (h : ¬ (k = 0 ∨ k = 1 ∨ k = 2 ∨ k = 3 ∨ k = 4 ∨ k = 5 ∨ k = 6 ∨ k = 7 ∨ k = 8 ∨ k = 9 ∨ k = 10 ∨ k = 11)) : kidsOk k n = false := by
  unfold kidsOk
  rw [if_neg (by omega), if_neg (by omega), if_neg (by omega), if_neg (by omega), if_neg (by omega), if_neg (by omega)]
theorem f121 (x : Nd) (hx : okN x) (h : Heap) : (mu K).fn 121 [x.av] h = some (.val (.int .i64 (formR x)) h) := by
  have a1 := fun h => f70 x.nm hx.1 h
  have a2 := fun h => f70 x.attr hx.2 h
  have a3 := fun h => f71 x.nm hx.1 h
  obtain ⟨k, num, nm, attr, kids, pos⟩ := x
  simp only at a1 a2 a3
  rw [fn_go (KX _ _ _) fn121 rfl (by simp [c121])]
  generalize hn : kids.l.length = n
  have n1 : (1 ≤ (n : Int)) = (1 ≤ n) := by simp; omega
  have n2 : (2 ≤ (n : Int)) = (2 ≤ n) := by simp; omega
  have n3 : ((n : Int) = 1) = (n = 1) := by simp; omega
  have n4 : ((n : Int) = 2) = (n = 2) := by simp; omega
  have n5 : ((n : Int) = 3) = (n = 3) := by simp; omega
  by_cases hk : k = 0 ∨ k = 1 ∨ k = 2 ∨ k = 3 ∨ k = 4 ∨ k = 5 ∨ k = 6 ∨ k = 7 ∨ k = 8 ∨ k = 9 ∨ k = 10 ∨ k = 11
  case neg =>
    have hko := kids_lt (n := n) hk
    simp only [not_or] at hk
    obtain ⟨e0, e1, e2, e3, e4, e5, e6, e7, e8, e9, e10, e11⟩ := hk
    simp [c121, KL, lendF, formR, hn, hko, e0, e1, e2, e3, e4, e5, e6, e7, e8, e9, e10, e11]
  have fin : ∀ b : Bool, b = true ∨ b = false := fun b => by cases b <;> simp
  rcases hk with rfl | rfl | rfl | rfl | rfl | rfl | rfl | rfl | rfl | rfl | rfl | rfl
  · by_cases q : n = 0
    case neg =>
      have d : (n = 0) = False := by simp [q]
      simp [c121, KL, lendF, formR, kidsOk, textsOk, lowN, highN, hn, n1, n2, n3, n4, n5, d]
    have d : (n = 0) = True := by simp [q]
    by_cases b1 : nm = []
    case neg => simp [c121, KL, lendF, formR, kidsOk, textsOk, lowN, highN, hn, n1, n2, n3, n4, n5, d, b1]
    have d1 : (nm = []) = True := by simp [b1]
    by_cases b2 : attr = []
    case neg => simp [c121, KL, lendF, formR, kidsOk, textsOk, lowN, highN, hn, n1, n2, n3, n4, n5, d, d1, b2]
    have d2 : (attr = []) = True := by simp [b2]
    by_cases l1 : num < 0
    · simp [c121, KL, lendF, formR, kidsOk, textsOk, lowN, highN, hn, n1, n2, n3, n4, n5, d, d1, d2, l1]
    by_cases l2 : 0 < num
    · simp [c121, KL, lendF, formR, kidsOk, textsOk, lowN, highN, hn, n1, n2, n3, n4, n5, d, d1, d2, l1, l2]
    · simp [c121, KL, lendF, formR, kidsOk, textsOk, lowN, highN, hn, n1, n2, n3, n4, n5, d, d1, d2, l1, l2]
  · by_cases q : n = 0
    case neg =>
      have d : (n = 0) = False := by simp [q]
      simp [c121, KL, lendF, formR, kidsOk, textsOk, lowN, highN, hn, n1, n2, n3, n4, n5, d]
    have d : (n = 0) = True := by simp [q]
    by_cases b1 : nm = []
    case neg => simp [c121, KL, lendF, formR, kidsOk, textsOk, lowN, highN, hn, n1, n2, n3, n4, n5, d, b1]
    have d1 : (nm = []) = True := by simp [b1]
    by_cases b2 : attr = []
    case neg => simp [c121, KL, lendF, formR, kidsOk, textsOk, lowN, highN, hn, n1, n2, n3, n4, n5, d, d1, b2]
    have d2 : (attr = []) = True := by simp [b2]
    by_cases l1 : num < 0
    · simp [c121, KL, lendF, formR, kidsOk, textsOk, lowN, highN, hn, n1, n2, n3, n4, n5, d, d1, d2, l1]
    by_cases l2 : 0 < num
    · simp [c121, KL, lendF, formR, kidsOk, textsOk, lowN, highN, hn, n1, n2, n3, n4, n5, d, d1, d2, l1, l2]
    · simp [c121, KL, lendF, formR, kidsOk, textsOk, lowN, highN, hn, n1, n2, n3, n4, n5, d, d1, d2, l1, l2]
  · by_cases q : n = 1
    case neg =>
      have d : (n = 1) = False := by simp [q]
      simp [c121, KL, lendF, formR, kidsOk, textsOk, lowN, highN, hn, n1, n2, n3, n4, n5, d]
    have d : (n = 1) = True := by simp [q]
    by_cases b1 : nm = []
    case neg => simp [c121, KL, lendF, formR, kidsOk, textsOk, lowN, highN, hn, n1, n2, n3, n4, n5, d, b1]
    have d1 : (nm = []) = True := by simp [b1]
    by_cases b2 : attr = []
    case neg => simp [c121, KL, lendF, formR, kidsOk, textsOk, lowN, highN, hn, n1, n2, n3, n4, n5, d, d1, b2]
    have d2 : (attr = []) = True := by simp [b2]
    by_cases l1 : num < 0
    · simp [c121, KL, lendF, formR, kidsOk, textsOk, lowN, highN, hn, n1, n2, n3, n4, n5, d, d1, d2, l1]
    by_cases l2 : 0 < num
    · simp [c121, KL, lendF, formR, kidsOk, textsOk, lowN, highN, hn, n1, n2, n3, n4, n5, d, d1, d2, l1, l2]
    · simp [c121, KL, lendF, formR, kidsOk, textsOk, lowN, highN, hn, n1, n2, n3, n4, n5, d, d1, d2, l1, l2]
  · by_cases q : 1 ≤ n
    case neg =>
      have d : (1 ≤ n) = False := by simp [q]
      simp [c121, KL, lendF, formR, kidsOk, textsOk, lowN, highN, hn, n1, n2, n3, n4, n5, d]
    have d : (1 ≤ n) = True := by simp [q]
    by_cases b1 : nm = []
    case neg => simp [c121, KL, lendF, formR, kidsOk, textsOk, lowN, highN, hn, n1, n2, n3, n4, n5, d, b1]
    have d1 : (nm = []) = True := by simp [b1]
    by_cases b2 : attr = []
    case neg => simp [c121, KL, lendF, formR, kidsOk, textsOk, lowN, highN, hn, n1, n2, n3, n4, n5, d, d1, b2]
    have d2 : (attr = []) = True := by simp [b2]
    by_cases l1 : num < 0
    · simp [c121, KL, lendF, formR, kidsOk, textsOk, lowN, highN, hn, n1, n2, n3, n4, n5, d, d1, d2, l1]
    by_cases l2 : 0 < num
    · simp [c121, KL, lendF, formR, kidsOk, textsOk, lowN, highN, hn, n1, n2, n3, n4, n5, d, d1, d2, l1, l2]
    · simp [c121, KL, lendF, formR, kidsOk, textsOk, lowN, highN, hn, n1, n2, n3, n4, n5, d, d1, d2, l1, l2]
  · by_cases q : 1 ≤ n
    case neg =>
      have d : (1 ≤ n) = False := by simp [q]
      simp [c121, KL, lendF, formR, kidsOk, textsOk, lowN, highN, hn, n1, n2, n3, n4, n5, d]
    have d : (1 ≤ n) = True := by simp [q]
    by_cases b1 : nm = []
    case neg => simp [c121, KL, lendF, formR, kidsOk, textsOk, lowN, highN, hn, n1, n2, n3, n4, n5, d, b1]
    have d1 : (nm = []) = True := by simp [b1]
    by_cases b2 : attr = []
    case neg => simp [c121, KL, lendF, formR, kidsOk, textsOk, lowN, highN, hn, n1, n2, n3, n4, n5, d, d1, b2]
    have d2 : (attr = []) = True := by simp [b2]
    by_cases l1 : num < 0
    · simp [c121, KL, lendF, formR, kidsOk, textsOk, lowN, highN, hn, n1, n2, n3, n4, n5, d, d1, d2, l1]
    by_cases l2 : 0 < num
    · simp [c121, KL, lendF, formR, kidsOk, textsOk, lowN, highN, hn, n1, n2, n3, n4, n5, d, d1, d2, l1, l2]
    · simp [c121, KL, lendF, formR, kidsOk, textsOk, lowN, highN, hn, n1, n2, n3, n4, n5, d, d1, d2, l1, l2]
  · by_cases q : 1 ≤ n
    case neg =>
      have d : (1 ≤ n) = False := by simp [q]
      simp [c121, KL, lendF, formR, kidsOk, textsOk, lowN, highN, hn, n1, n2, n3, n4, n5, d]
    have d : (1 ≤ n) = True := by simp [q]
    by_cases b1 : nm = []
    case neg => simp [c121, KL, lendF, formR, kidsOk, textsOk, lowN, highN, hn, n1, n2, n3, n4, n5, d, b1]
    have d1 : (nm = []) = True := by simp [b1]
    by_cases b2 : attr = []
    case neg => simp [c121, KL, lendF, formR, kidsOk, textsOk, lowN, highN, hn, n1, n2, n3, n4, n5, d, d1, b2]
    have d2 : (attr = []) = True := by simp [b2]
    by_cases l1 : num < 1
    · simp [c121, KL, lendF, formR, kidsOk, textsOk, lowN, highN, hn, n1, n2, n3, n4, n5, d, d1, d2, l1]
    by_cases l2 : (n : Int) < num
    · simp [c121, KL, lendF, formR, kidsOk, textsOk, lowN, highN, hn, n1, n2, n3, n4, n5, d, d1, d2, l1, l2]
    · simp [c121, KL, lendF, formR, kidsOk, textsOk, lowN, highN, hn, n1, n2, n3, n4, n5, d, d1, d2, l1, l2]
  · by_cases q : n = 2
    case neg =>
      have d : (n = 2) = False := by simp [q]
      simp [c121, KL, lendF, formR, kidsOk, textsOk, lowN, highN, hn, n1, n2, n3, n4, n5, d]
    have d : (n = 2) = True := by simp [q]
    by_cases b1 : nm = []
    case neg => simp [c121, KL, lendF, formR, kidsOk, textsOk, lowN, highN, hn, n1, n2, n3, n4, n5, d, b1]
    have d1 : (nm = []) = True := by simp [b1]
    by_cases b2 : attr = []
    case neg => simp [c121, KL, lendF, formR, kidsOk, textsOk, lowN, highN, hn, n1, n2, n3, n4, n5, d, d1, b2]
    have d2 : (attr = []) = True := by simp [b2]
    by_cases l1 : num < 0
    · simp [c121, KL, lendF, formR, kidsOk, textsOk, lowN, highN, hn, n1, n2, n3, n4, n5, d, d1, d2, l1]
    by_cases l2 : 5 < num
    · simp [c121, KL, lendF, formR, kidsOk, textsOk, lowN, highN, hn, n1, n2, n3, n4, n5, d, d1, d2, l1, l2]
    · simp [c121, KL, lendF, formR, kidsOk, textsOk, lowN, highN, hn, n1, n2, n3, n4, n5, d, d1, d2, l1, l2]
  · by_cases q : n = 3
    case neg =>
      have d : (n = 3) = False := by simp [q]
      simp [c121, KL, lendF, formR, kidsOk, textsOk, lowN, highN, hn, n1, n2, n3, n4, n5, d]
    have d : (n = 3) = True := by simp [q]
    by_cases b1 : nm = []
    case neg => simp [c121, KL, lendF, formR, kidsOk, textsOk, lowN, highN, hn, n1, n2, n3, n4, n5, d, b1]
    have d1 : (nm = []) = True := by simp [b1]
    by_cases b2 : attr = []
    case neg => simp [c121, KL, lendF, formR, kidsOk, textsOk, lowN, highN, hn, n1, n2, n3, n4, n5, d, d1, b2]
    have d2 : (attr = []) = True := by simp [b2]
    by_cases l1 : num < 0
    · simp [c121, KL, lendF, formR, kidsOk, textsOk, lowN, highN, hn, n1, n2, n3, n4, n5, d, d1, d2, l1]
    by_cases l2 : 0 < num
    · simp [c121, KL, lendF, formR, kidsOk, textsOk, lowN, highN, hn, n1, n2, n3, n4, n5, d, d1, d2, l1, l2]
    · simp [c121, KL, lendF, formR, kidsOk, textsOk, lowN, highN, hn, n1, n2, n3, n4, n5, d, d1, d2, l1, l2]
  · by_cases q : 2 ≤ n
    case neg =>
      have d : (2 ≤ n) = False := by simp [q]
      simp [c121, KL, lendF, formR, kidsOk, textsOk, lowN, highN, hn, n1, n2, n3, n4, n5, d]
    have d : (2 ≤ n) = True := by simp [q]
    by_cases b1 : nm = []
    case neg => simp [c121, KL, lendF, formR, kidsOk, textsOk, lowN, highN, hn, n1, n2, n3, n4, n5, d, b1]
    have d1 : (nm = []) = True := by simp [b1]
    by_cases b2 : attr = []
    case neg => simp [c121, KL, lendF, formR, kidsOk, textsOk, lowN, highN, hn, n1, n2, n3, n4, n5, d, d1, b2]
    have d2 : (attr = []) = True := by simp [b2]
    by_cases l1 : num < 0
    · simp [c121, KL, lendF, formR, kidsOk, textsOk, lowN, highN, hn, n1, n2, n3, n4, n5, d, d1, d2, l1]
    by_cases l2 : 0 < num
    · simp [c121, KL, lendF, formR, kidsOk, textsOk, lowN, highN, hn, n1, n2, n3, n4, n5, d, d1, d2, l1, l2]
    · simp [c121, KL, lendF, formR, kidsOk, textsOk, lowN, highN, hn, n1, n2, n3, n4, n5, d, d1, d2, l1, l2]
  · by_cases q : n = 0
    case neg =>
      have d : (n = 0) = False := by simp [q]
      simp [c121, KL, lendF, formR, kidsOk, textsOk, lowN, highN, hn, n1, n2, n3, n4, n5, d]
    have d : (n = 0) = True := by simp [q]
    cases b1 : nameOk nm
    · simp [c121, KL, lendF, formR, kidsOk, textsOk, lowN, highN, hn, n1, n2, n3, n4, n5, d, a1, b1]
    cases b2 : nameOk attr
    · simp [c121, KL, lendF, formR, kidsOk, textsOk, lowN, highN, hn, n1, n2, n3, n4, n5, d, a1, a2, b1, b2]
    by_cases l1 : num < 0
    · simp [c121, KL, lendF, formR, kidsOk, textsOk, lowN, highN, hn, n1, n2, n3, n4, n5, d, a1, a2, b1, b2, l1]
    by_cases l2 : 0 < num
    · simp [c121, KL, lendF, formR, kidsOk, textsOk, lowN, highN, hn, n1, n2, n3, n4, n5, d, a1, a2, b1, b2, l1, l2]
    · simp [c121, KL, lendF, formR, kidsOk, textsOk, lowN, highN, hn, n1, n2, n3, n4, n5, d, a1, a2, b1, b2, l1, l2]
  · by_cases q : n = 0
    case neg =>
      have d : (n = 0) = False := by simp [q]
      simp [c121, KL, lendF, formR, kidsOk, textsOk, lowN, highN, hn, n1, n2, n3, n4, n5, d]
    have d : (n = 0) = True := by simp [q]
    by_cases b1 : nm = []
    case neg => simp [c121, KL, lendF, formR, kidsOk, textsOk, lowN, highN, hn, n1, n2, n3, n4, n5, d, b1]
    have d1 : (nm = []) = True := by simp [b1]
    by_cases b2 : attr = []
    case neg => simp [c121, KL, lendF, formR, kidsOk, textsOk, lowN, highN, hn, n1, n2, n3, n4, n5, d, d1, b2]
    have d2 : (attr = []) = True := by simp [b2]
    by_cases l1 : num < -2147483648
    · simp [c121, KL, lendF, formR, kidsOk, textsOk, lowN, highN, hn, n1, n2, n3, n4, n5, d, d1, d2, l1]
    by_cases l2 : 2147483647 < num
    · simp [c121, KL, lendF, formR, kidsOk, textsOk, lowN, highN, hn, n1, n2, n3, n4, n5, d, d1, d2, l1, l2]
    · simp [c121, KL, lendF, formR, kidsOk, textsOk, lowN, highN, hn, n1, n2, n3, n4, n5, d, d1, d2, l1, l2]
  · by_cases q : n = 0
    case neg =>
      have d : (n = 0) = False := by simp [q]
      simp [c121, KL, lendF, formR, kidsOk, textsOk, lowN, highN, hn, n1, n2, n3, n4, n5, d]
    have d : (n = 0) = True := by simp [q]
    cases b1 : wordOk nm
    · simp [c121, KL, lendF, formR, kidsOk, textsOk, lowN, highN, hn, n1, n2, n3, n4, n5, d, a3, b1]
    by_cases b2 : attr = []
    case neg => simp [c121, KL, lendF, formR, kidsOk, textsOk, lowN, highN, hn, n1, n2, n3, n4, n5, d, a3, b1, b2]
    have d2 : (attr = []) = True := by simp [b2]
    by_cases l1 : num < 0
    · simp [c121, KL, lendF, formR, kidsOk, textsOk, lowN, highN, hn, n1, n2, n3, n4, n5, d, a3, b1, d2, l1]
    by_cases l2 : 0 < num
    · simp [c121, KL, lendF, formR, kidsOk, textsOk, lowN, highN, hn, n1, n2, n3, n4, n5, d, a3, b1, d2, l1, l2]
    · simp [c121, KL, lendF, formR, kidsOk, textsOk, lowN, highN, hn, n1, n2, n3, n4, n5, d, a3, b1, d2, l1, l2]
theorem f73 (p : Po) (hp : Sz p) (s : Bs) (h : Heap) : (mu K).fn 73 [p.av, .str s] h = some (.val (.bool (used p s)) h) := by
  have key := loop_iter (K := K) (n := 1) (live := [1, 2, 5]) (a := l73_0) (fun (_ : Unit) (u : Us) => if (!decide (u.al = s)) = true then (.inl () : Unit ⊕ Unit) else .inr ())
    (fun pre _ => ⟨[(1, .str s), (2, .ptr (h.length, 0) 0), (5, .int .i64 (pre.length : Int))], [.box 26 false p.av] :: h⟩) (fun _ _ => True)
    (fun _ o => ∃ env, o = some (.exit 0, ⟨env, [.box 26 false p.av] :: h⟩)) (fun _ o => ∃ env, o = some (.ret, ⟨env, [.box 26 false p.av] :: h⟩) ∧ get env 4 = .bool true) p.uses.l
    (fun pre x r b hl _ => by
      obtain ⟨h1, h2, w1⟩ := idx_facts hl (by have := hp.uses.1; omega)
      have hix := fun (k : IntKind) => iaF_sl (av := Us.av) (sz := 2) (s := p.uses) (k := k) (j := (pre.length : Int)) (x := x) (by omega) (by simpa using h2) rfl
      rw [loop_go]
      generalize (mu K).code (.loopAt 1 [1, 2, 5] l73_0) = F
      clear hl
      by_cases hx : x.al = s
      · have d : (x.al = s) = True := by simp [hx]
        simp [l73_0, KL, lendF, h1, hix, w1, d]
      · simp [l73_0, KL, lendF, h1, hix, w1, hx])
    (fun b _ => by
      rw [loop_go]
      generalize (mu K).code (.loopAt 1 [1, 2, 5] l73_0) = F
      simp [l73_0]) () trivial
  simp only [List.length_nil, Int.natCast_zero] at key
  have e : p.uses.l.all (fun u => !decide (u.al = s)) = !used p s := by
    unfold used
    induction p.uses.l with
    | nil => rfl
    | cons u l ih => simp [ih]
  rw [fn_go (KX _ _ _) fn73 rfl (by simp [c73])]
  cases hu : used p s
  · rw [hu] at e
    rw [(iter_all (fun u : Us => !decide (u.al = s)) p.uses.l).1 e] at key
    obtain ⟨_, env, k⟩ := key
    simp [c73, KL, lendF, k]
  · rw [hu] at e
    rw [(iter_all (fun u : Us => !decide (u.al = s)) p.uses.l).2 e] at key
    obtain ⟨env, k, g4⟩ := key
    simp [c73, KL, lendF, k, g4]
end Go.Ab.Pl

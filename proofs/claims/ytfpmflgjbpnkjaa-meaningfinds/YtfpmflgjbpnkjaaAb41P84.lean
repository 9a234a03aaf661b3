/-
  The statement MeaningFinds: which searches are small; its last loops.
-/
import Derived.Test.YtfpmflgjbpnkjaaAb41P80
import Derived.Test.YtfpmflgjbpnkjaaAb41P65
set_option linter.unusedVariables false
set_option linter.unusedSimpArgs false
set_option linter.unusedSectionVars false
namespace Go.Ab.Pl
open Go.Ab.Pol
set_option maxRecDepth 100000
set_option maxHeartbeats 4000000
def cnStep {α : Type} (c : Nat) (T : Nat) (_ : α) : Nat ⊕ Unit := if 2000 < T * c then .inr () else .inl (T * c)
theorem l55_0_ok (p : Po) (l : Sl Sc) (xs : Sl (Sl Int)) (most : Int) (F : Sl Pol.Fd) (hF : F.l.length ≤ 1000) (i6 i7 : Int) (T : Nat) (hT : T ≤ 2000) (h : Heap) :
  (∃ env T',T' ≤ 2000 ∧ (mu K).code (.loopAt 1 [1,2,5,6,7,47,48] l55_0) ⟨[(1,iV most),(2,.ptr (h.length,0) 0),(5,iV (T : Int)),(6,iV i6),(7,iV i7),(47,iV (F.l.length : Int)),(48,iV 0)],[.box 83 false (caseAV p l xs)] :: h⟩ =
   some (.exit 4,⟨env,[.box 83 false (caseAV p l xs)] :: h⟩) ∧ get env 1 = iV most ∧ get env 2 = .ptr (h.length,0) 0 ∧ get env 5 = iV ((T' : Nat) : Int) ∧ get env 6 = iV i6 ∧ get env 7 = iV i7) ∨
  (∃ env,(mu K).code (.loopAt 1 [1,2,5,6,7,47,48] l55_0) ⟨[(1,iV most),(2,.ptr (h.length,0) 0),(5,iV (T : Int)),(6,iV i6),(7,iV i7),(47,iV (F.l.length : Int)),(48,iV 0)],[.box 83 false (caseAV p l xs)] :: h⟩ =
   some (.ret,⟨env,[.box 83 false (caseAV p l xs)] :: h⟩) ∧ get env 4 = .bool false) := by
 obtain ⟨c,hc⟩ : ∃ c : Nat,(c : Int) = max 1 (min most 10) := ⟨(max 1 (min most 10)).toNat,by omega⟩
 have m1 : mmList false (iV most) [iV 10] = some (iV (min most 10)) := by
  simp only [mmList]
  congr 2
  split <;> simp_all <;> omega
 have m2 : mmList true (iV 1) [iV (min most 10)] = some (iV (c : Int)) := by
  simp only [mmList,if_true]
  congr 2
  rw [hc]
  split <;> omega
 have c10 : c ≤ 10 := by omega
 have key := loop_iter (K := K) (n := 1) (live := [1,2,5,6,7,47,48]) (a := l55_0) (cnStep (α := Pol.Fd) c)
  (fun pre T => ⟨[(1,iV most),(2,.ptr (h.length,0) 0),(5,iV (T : Int)),(6,iV i6),(7,iV i7),(47,iV (F.l.length : Int)),(48,iV (pre.length : Int))],[.box 83 false (caseAV p l xs)] :: h⟩) (fun _ T => T ≤ 2000)
  (fun T o => ∃ env,o = some (.exit 4,⟨env,[.box 83 false (caseAV p l xs)] :: h⟩) ∧ get env 1 = iV most ∧ get env 2 = .ptr (h.length,0) 0 ∧ get env 5 = iV ((T : Nat) : Int) ∧ get env 6 = iV i6 ∧ get env 7 = iV i7)
  (fun _ o => ∃ env,o = some (.ret,⟨env,[.box 83 false (caseAV p l xs)] :: h⟩) ∧ get env 4 = .bool false) F.l
  (fun pre f r T hl' hb => by
   obtain ⟨h1,h2,w1⟩ := idx_facts hl' (by omega)
   have hmul : T * c ≤ 2000 * 10 := Nat.mul_le_mul hb c10
   have w2 : IntKind.i64.wrap ((T : Int) * (c : Int)) = (T : Int) * (c : Int) := by rw [← Int.natCast_mul]; exact wrap64 (by omega) (by omega)
   rw [loop_go]
   generalize (mu K).code (.loopAt 1 [1,2,5,6,7,47,48] l55_0) = FF
   unfold cnStep
   clear hl'
   by_cases g : 2000 < T * c
   ·have g1 : ((2000 : Int) < (T : Int) * (c : Int)) = True := by rw [← Int.natCast_mul]; simp; omega
    simp [l55_0,h1,w1,w2,m1,m2,g,g1]
   ·have g1 : ((2000 : Int) < (T : Int) * (c : Int)) = False := by rw [← Int.natCast_mul]; simp; omega
    refine ⟨fun b' e => ?_,fun _ e => (by simp [g] at e)⟩
    rw [if_neg g] at e
    injection e with e
    subst e
    refine ⟨by omega,?_⟩
    simp [l55_0,h1,w1,w2,m1,m2,g1])
  (fun T _ => by
   rw [loop_go]
   generalize (mu K).code (.loopAt 1 [1,2,5,6,7,47,48] l55_0) = FF
   simp [l55_0]) T hT
 cases e : iter (cnStep (α := Pol.Fd) c) T F.l with
 | inl T' =>
  rw [e] at key
  obtain ⟨h1,env,k⟩ := key
  exact .inl ⟨env,T',h1,k⟩
 | inr u =>
  rw [e] at key
  exact .inr key
theorem l55_1_ok (p : Po) (l : Sl Sc) (hl : l.l.length ≤ 1000) (hlf : ∀ s ∈ l.l,s.fields.l.length ≤ 1000) (xs : Sl (Sl Int)) (most : Int) (i : Nat) (u : Us) (hu : p.uses.l[i]? = some u) (T : Nat) (hT : T ≤ 2000) (h : Heap) :
  (∃ env T',T' ≤ 2000 ∧ (mu K).code (.loopAt 1 [1,2,5,6,7] l55_1) ⟨[(1,iV most),(2,.ptr (h.length,0) 0),(5,iV (T : Int)),(6,iV (i : Int)),(7,iV 0)],[.box 83 false (caseAV p l xs)] :: h⟩ =
   some (.exit 2,⟨env,[.box 83 false (caseAV p l xs)] :: h⟩) ∧ get env 1 = iV most ∧ get env 2 = .ptr (h.length,0) 0 ∧ get env 5 = iV ((T' : Nat) : Int) ∧ get env 6 = iV (i : Int)) ∨
  (∃ env,(mu K).code (.loopAt 1 [1,2,5,6,7] l55_1) ⟨[(1,iV most),(2,.ptr (h.length,0) 0),(5,iV (T : Int)),(6,iV (i : Int)),(7,iV 0)],[.box 83 false (caseAV p l xs)] :: h⟩ =
   some (.ret,⟨env,[.box 83 false (caseAV p l xs)] :: h⟩) ∧ get env 4 = .bool false) := by
 have q1 := beq_avS _ beq_us p.uses
 have q2 := beq_avS _ beq_sc l
 have hiu := fun (k : IntKind) => iaF_sl (av := Us.av) (sz := 2) (s := p.uses) (k := k) (j := (i : Int)) (x := u) (by omega) (by simpa using hu) rfl
 have main : ∀ (suf pre : List Sc) (T : Nat),l.l = pre ++ suf → T ≤ 2000 →
  (∃ env T',T' ≤ 2000 ∧ (mu K).code (.loopAt 1 [1,2,5,6,7] l55_1) ⟨[(1,iV most),(2,.ptr (h.length,0) 0),(5,iV (T : Int)),(6,iV (i : Int)),(7,iV (pre.length : Int))],[.box 83 false (caseAV p l xs)] :: h⟩ =
   some (.exit 2,⟨env,[.box 83 false (caseAV p l xs)] :: h⟩) ∧ get env 1 = iV most ∧ get env 2 = .ptr (h.length,0) 0 ∧ get env 5 = iV ((T' : Nat) : Int) ∧ get env 6 = iV (i : Int)) ∨
  (∃ env,(mu K).code (.loopAt 1 [1,2,5,6,7] l55_1) ⟨[(1,iV most),(2,.ptr (h.length,0) 0),(5,iV (T : Int)),(6,iV (i : Int)),(7,iV (pre.length : Int))],[.box 83 false (caseAV p l xs)] :: h⟩ =
   some (.ret,⟨env,[.box 83 false (caseAV p l xs)] :: h⟩) ∧ get env 4 = .bool false) := by
  intro suf
  induction suf with
  | nil =>
   intro pre T hl' hT
   simp only [List.append_nil] at hl'
   refine .inl (exists_comm.1 ⟨T,?_⟩)
   rw [loop_go]
   generalize (mu K).code (.loopAt 1 [1,2,5,6,7] l55_1) = FF
   simp [l55_1,← hl',hT]
  | cons s suf ih =>
   intro pre T hl' hT
   obtain ⟨h1,h2,w1⟩ := idx_facts hl' (by omega)
   have his := fun (k : IntKind) => iaF_sl (av := Sc.av) (sz := 2) (s := l) (k := k) (j := (pre.length : Int)) (x := s) (by omega) (by simpa using h2) rfl
   have hsf := hlf s (List.mem_of_getElem? h2)
   have ih := fun T hT => ih (pre ++ [s]) T (by simp [hl']) hT
   have e1 : ((pre ++ [s]).length : Int) = (pre.length : Int) + 1 := by simp
   rw [e1] at ih
   have inner := l55_0_ok p l xs most s.fields hsf (i : Int) (pre.length : Int) T hT h
   rw [loop_go]
   by_cases c : s.name = u.sc
   ·rcases inner with ⟨env,T',t1,k,g1,g2,g5,g6,g7⟩ | ⟨env,k,g4⟩
    ·have := ih T' t1
     generalize (mu K).code (.loopAt 1 [1,2,5,6,7] l55_1) = FF at *
     clear hl'
     simp [l55_1,h1,his,hiu,q1,q2,w1,c,k,g1,g2,g5,g6,g7]
     simpa using this
    ·refine .inr ⟨env,?_,g4⟩
     generalize (mu K).code (.loopAt 1 [1,2,5,6,7] l55_1) = FF at *
     clear hl'
     simp [l55_1,h1,his,hiu,q1,q2,w1,c,k]
   ·have := ih T hT
    generalize (mu K).code (.loopAt 1 [1,2,5,6,7] l55_1) = FF at *
    clear hl'
    simp [l55_1,h1,his,hiu,q1,q2,w1,c]
    simpa using this
 exact main l.l [] T rfl hT
theorem f55 (p : Po) (hp : p.uses.l.length ≤ 1000) (l : Sl Sc) (hl : l.l.length ≤ 1000) (hlf : ∀ s ∈ l.l,s.fields.l.length ≤ 1000) (xs : Sl (Sl Int)) (most : Int) (h : Heap) :
  ∃ b,(mu K).fn 55 [caseAV p l xs,iV most] h = some (.val (.bool b) h) ∧ (b = true → most ≤ 8) := by
 have main : ∀ (suf pre : List Us) (T : Nat),p.uses.l = pre ++ suf → T ≤ 2000 →
  (∃ env,(mu K).code (.loopAt 1 [1,2,5,6] l55_2) ⟨[(1,iV most),(2,.ptr (h.length,0) 0),(5,iV (T : Int)),(6,iV (pre.length : Int))],[.box 83 false (caseAV p l xs)] :: h⟩ =
   some (.exit 0,⟨env,[.box 83 false (caseAV p l xs)] :: h⟩) ∧ get env 1 = iV most) ∨
  (∃ env,(mu K).code (.loopAt 1 [1,2,5,6] l55_2) ⟨[(1,iV most),(2,.ptr (h.length,0) 0),(5,iV (T : Int)),(6,iV (pre.length : Int))],[.box 83 false (caseAV p l xs)] :: h⟩ =
   some (.ret,⟨env,[.box 83 false (caseAV p l xs)] :: h⟩) ∧ get env 4 = .bool false) := by
  intro suf
  induction suf with
  | nil =>
   intro pre T hl' hT
   simp only [List.append_nil] at hl'
   refine .inl ?_
   rw [loop_go]
   generalize (mu K).code (.loopAt 1 [1,2,5,6] l55_2) = FF
   simp [l55_2,← hl']
  | cons u suf ih =>
   intro pre T hl' hT
   obtain ⟨h1,h2,w1⟩ := idx_facts hl' (by omega)
   have ih := fun T hT => ih (pre ++ [u]) T (by simp [hl']) hT
   have e1 : ((pre ++ [u]).length : Int) = (pre.length : Int) + 1 := by simp
   rw [e1] at ih
   have inner := l55_1_ok p l hl hlf xs most pre.length u h2 T hT h
   rw [loop_go]
   by_cases c8 : (pre.length : Int) < 8
   ·rcases inner with ⟨env,T',t1,k,g1,g2,g5,g6⟩ | ⟨env,k,g4⟩
    ·have := ih T' t1
     generalize (mu K).code (.loopAt 1 [1,2,5,6] l55_2) = FF at *
     clear hl'
     simp [l55_2,h1,c8,w1,k,g1,g2,g5,g6]
     simpa using this
    ·refine .inr ⟨env,?_,g4⟩
     generalize (mu K).code (.loopAt 1 [1,2,5,6] l55_2) = FF at *
     clear hl'
     simp [l55_2,h1,c8,w1,k]
   ·refine .inl ?_
    generalize (mu K).code (.loopAt 1 [1,2,5,6] l55_2) = FF at *
    clear hl'
    simp [l55_2,h1,c8,w1]
 rw [fn_go (KX _ _ _) fn55 rfl (by simp [c55])]
 rcases main p.uses.l [] 1 rfl (by omega) with ⟨env,k,g1⟩ | ⟨env,k,g4⟩
 ·refine ⟨decide (most ≤ 8),?_,fun e => by simpa using e⟩
  simp only [caseAV,Po.cs,List.cons_append,List.nil_append,List.length_nil,Int.natCast_zero,Int.natCast_one] at k ⊢
  simp [c55,k,g1]
 ·refine ⟨false,?_,fun e => by cases e⟩
  simp only [caseAV,Po.cs,List.cons_append,List.nil_append,List.length_nil,Int.natCast_zero,Int.natCast_one] at k ⊢
  simp [c55,k,g4]
end Go.Ab.Pl
/-
  The statement MeaningFinds.
-/
namespace Go.Ab.Pl
open Go.Ab.Pol
set_option maxRecDepth 100000
set_option maxHeartbeats 4000000
/-- A field that is too large to be tried. -/
def bigF (most : Int) (q : Pol.Fd × Int) : Bool := (decide (q.1.kind = 0) && decide (most ≤ q.2 - q.1.mn)) || (decide (q.1.kind = 1) && decide (most ≤ q.2))
abbrev fr17 (p : Po) (l : Sl Sc) (xs : Sl (Sl Int)) (u : Us) (s : Sc) (h : Heap) : Heap := [.box 83 false (caseAV p l xs),.box 79 false u.av,.box 67 false s.av] :: h
theorem l17_0_ok (p : Po) (l : Sl Sc) (xs : Sl (Sl Int)) (most : Int) (i : Nat) (u : Us) (s : Sc) (r : Sl Int) (hr : xs.l[i]? = some r) (hrl : r.l.length = s.fields.l.length) (hF : s.fields.l.length ≤ 1000)
  (hb : ∀ q ∈ s.fields.l.zip r.l,(q.1.kind = 0 ∨ q.1.kind = 1) ∧ -2147483648 ≤ q.2 ∧ q.2 ≤ 2147483647 ∧ -2147483648 ≤ q.1.mn ∧ q.1.mn ≤ 2147483647) (aw : ∀ f,(mu K).fn 52 [] [f] = some (.val (.bool true) [f])) (i93 i94 : Int) :
  ((s.fields.l.zip r.l).any (bigF most) = false → ∃ env R,(mu K).code (.loopAt 3 [1,2,12,92,93,94,129,130,131] l17_0) ⟨[(1,iV most),(2,.ptr (0,0) 0),(12,iV (i : Int)),(92,p.uses.avS Us.av),(93,iV i93),(94,iV i94),(129,s.fields.avS Pol.Fd.av),(130,iV (s.fields.l.length : Int)),(131,iV 0)],fr17 p l xs u s []⟩ =
   some (.exit 4,⟨env,[.box 83 false (caseAV p l xs) :: R]⟩) ∧ get env 1 = iV most ∧ get env 2 = .ptr (0,0) 0 ∧ get env 92 = p.uses.avS Us.av ∧ get env 93 = iV i93 ∧ get env 94 = iV i94) ∧
  ((s.fields.l.zip r.l).any (bigF most) = true → ∃ env R,(mu K).code (.loopAt 3 [1,2,12,92,93,94,129,130,131] l17_0) ⟨[(1,iV most),(2,.ptr (0,0) 0),(12,iV (i : Int)),(92,p.uses.avS Us.av),(93,iV i93),(94,iV i94),(129,s.fields.avS Pol.Fd.av),(130,iV (s.fields.l.length : Int)),(131,iV 0)],fr17 p l xs u s []⟩ =
   some (.ret,⟨env,[R]⟩) ∧ get env 4 = .bool true) := by
 have hzl : (s.fields.l.zip r.l).length = s.fields.l.length := by simp [hrl]
 have q5 := beq_avS _ beq_ints xs
 have hix := fun (k : IntKind) => iaF_sl (av := fun s : Sl Int => s.avS iV) (sz := 1) (s := xs) (k := k) (j := (i : Int)) (x := r) (by omega) (by simpa using hr) (by simp)
 have key := loop_iter (K := K) (n := 3) (live := [1,2,12,92,93,94,129,130,131]) (a := l17_0) (fun (_ : Unit) (q : Pol.Fd × Int) => if bigF most q = true then (.inr () : Unit ⊕ Unit) else .inl ())
  (fun pre _ => ⟨[(1,iV most),(2,.ptr (0,0) 0),(12,iV (i : Int)),(92,p.uses.avS Us.av),(93,iV i93),(94,iV i94),(129,s.fields.avS Pol.Fd.av),(130,iV (s.fields.l.length : Int)),(131,iV (pre.length : Int))],fr17 p l xs u s []⟩) (fun _ _ => True)
  (fun _ o => ∃ env R,o = some (.exit 4,⟨env,[.box 83 false (caseAV p l xs) :: R]⟩) ∧ get env 1 = iV most ∧ get env 2 = .ptr (0,0) 0 ∧ get env 92 = p.uses.avS Us.av ∧ get env 93 = iV i93 ∧ get env 94 = iV i94)
  (fun _ o => ∃ env R,o = some (.ret,⟨env,[R]⟩) ∧ get env 4 = .bool true) (s.fields.l.zip r.l)
  (fun pre q rr b hl' _ => by
   obtain ⟨h1,h2,w1⟩ := idx_facts hl' (by omega)
   rw [hzl] at h1
   obtain ⟨i1,i2⟩ := List.getElem?_zip_eq_some.1 h2
   obtain ⟨hk,b1,b2,b3,b4⟩ := hb q (List.mem_of_getElem? h2)
   obtain ⟨f,v⟩ := q
   simp only at i1 i2 hk b1 b2 b3 b4
   have hif := fun (k : IntKind) => iaF_sl (av := Pol.Fd.av) (sz := 5) (s := s.fields) (k := k) (j := (pre.length : Int)) (x := f) (by omega) (by simpa using i1) rfl
   have hiv := fun (k : IntKind) => iaF_sl (av := iV) (sz := 1) (s := r) (k := k) (j := (pre.length : Int)) (x := v) (by omega) (by simpa using i2) rfl
   have w2 : IntKind.i64.wrap (v - f.mn) = v - f.mn := wrap64 (by omega) (by omega)
   have qf := beq_avS _ beq_fd s.fields
   have qw := beq_avS _ beq_strS f.words
   have aw' := fun (F : List Blk) => aw F
   rw [loop_go]
   generalize (mu K).code (.loopAt 3 [1,2,12,92,93,94,129,130,131] l17_0) = FF
   unfold bigF
   clear hl'
   rcases hk with hk | hk
   ·by_cases c : most ≤ v - f.mn
    ·simp [l17_0,KL,lendF,h1,hif,hiv,hix,w1,w2,hk,c,aw',qf,qw,q5]
    ·simp [l17_0,KL,lendF,h1,hif,hiv,hix,w1,w2,hk,c,aw',qf,qw,q5]
   ·by_cases c : most ≤ v
    ·simp [l17_0,KL,lendF,h1,hif,hiv,hix,w1,w2,hk,c,aw',qf,qw,q5]
    ·simp [l17_0,KL,lendF,h1,hif,hiv,hix,w1,w2,hk,c,aw',qf,qw,q5])
  (fun b _ => by
   rw [loop_go]
   generalize (mu K).code (.loopAt 3 [1,2,12,92,93,94,129,130,131] l17_0) = FF
   rw [hzl]
   simp [l17_0]) () trivial
 have hi : ∀ L : List (Pol.Fd × Int),iter (fun (_ : Unit) (q : Pol.Fd × Int) => if bigF most q = true then (.inr () : Unit ⊕ Unit) else .inl ()) () L = if L.any (bigF most) = true then .inr () else .inl () := fun L => by
  induction L with
  | nil => rfl
  | cons q L ih =>
   simp only [iter,List.any_cons]
   by_cases c : bigF most q = true
   ·simp [c]
   ·simp only [c,Bool.false_or]
    exact ih
 rw [hi] at key
 simp only [List.length_nil,Int.natCast_zero] at key
 refine ⟨fun e => ?_,fun e => ?_⟩
 ·rw [e] at key
  simp only [Bool.false_eq_true,if_false] at key
  exact key.2
 ·rw [e] at key
  simp only [if_true] at key
  exact key
theorem l17_1_ok (p : Po) (l : Sl Sc) (hl : l.l.length ≤ 1000) (xs : Sl (Sl Int)) (most : Int) (i : Nat) (u : Us) (s : Sc) (hs : scN l.l u.sc = some s) (hi : i < xs.l.length) (r : Sl Int) (hr : xs.l[i]? = some r) (hrl : r.l.length = s.fields.l.length) (hF : s.fields.l.length ≤ 1000)
  (hb : ∀ q ∈ s.fields.l.zip r.l,(q.1.kind = 0 ∨ q.1.kind = 1) ∧ -2147483648 ≤ q.2 ∧ q.2 ≤ 2147483647 ∧ -2147483648 ≤ q.1.mn ∧ q.1.mn ≤ 2147483647) (aw : ∀ f,(mu K).fn 52 [] [f] = some (.val (.bool true) [f])) (i93 i94 : Int) :
  ((s.fields.l.zip r.l).any (bigF most) = false → ∃ env R,(mu K).code (.loopAt 2 [1,2,12,13,92,93,94,100,101,102] l17_1) ⟨[(1,iV most),(2,.ptr (0,0) 0),(12,iV (i : Int)),(13,.ptr (0,1) 0),(92,p.uses.avS Us.av),(93,iV i93),(94,iV i94),(100,l.avS Sc.av),(101,iV (l.l.length : Int)),(102,iV 0)],[[.box 83 false (caseAV p l xs),.box 79 false u.av]]⟩ =
   some (.exit 2,⟨env,[.box 83 false (caseAV p l xs) :: R]⟩) ∧ get env 1 = iV most ∧ get env 2 = .ptr (0,0) 0 ∧ get env 92 = p.uses.avS Us.av ∧ get env 93 = iV i93 ∧ get env 94 = iV i94) ∧
  ((s.fields.l.zip r.l).any (bigF most) = true → ∃ env R,(mu K).code (.loopAt 2 [1,2,12,13,92,93,94,100,101,102] l17_1) ⟨[(1,iV most),(2,.ptr (0,0) 0),(12,iV (i : Int)),(13,.ptr (0,1) 0),(92,p.uses.avS Us.av),(93,iV i93),(94,iV i94),(100,l.avS Sc.av),(101,iV (l.l.length : Int)),(102,iV 0)],[[.box 83 false (caseAV p l xs),.box 79 false u.av]]⟩ =
   some (.ret,⟨env,[R]⟩) ∧ get env 4 = .bool true) := by
 obtain ⟨k1,k2⟩ := l17_0_ok p l xs most i u s r hr hrl hF hb aw i93 i94
 have q5 := beq_avS _ beq_ints xs
 have q2 := beq_avS _ beq_sc l
 have hix := fun (k : IntKind) => iaF_sl (av := fun s : Sl Int => s.avS iV) (sz := 1) (s := xs) (k := k) (j := (i : Int)) (x := r) (by omega) (by simpa using hr) (by simp)
 have d1 : ((xs.l.length : Int) ≤ (i : Int)) = False := by simp; omega
 have main : ∀ (suf pre : List Sc),l.l = pre ++ suf → suf.find? (fun s => decide (s.name = u.sc)) = some s →
   ∀ o,o = (mu K).code (.loopAt 2 [1,2,12,13,92,93,94,100,101,102] l17_1) ⟨[(1,iV most),(2,.ptr (0,0) 0),(12,iV (i : Int)),(13,.ptr (0,1) 0),(92,p.uses.avS Us.av),(93,iV i93),(94,iV i94),(100,l.avS Sc.av),(101,iV (l.l.length : Int)),(102,iV (pre.length : Int))],[[.box 83 false (caseAV p l xs),.box 79 false u.av]]⟩ →
   ((s.fields.l.zip r.l).any (bigF most) = false → ∃ env R,o = some (.exit 2,⟨env,[.box 83 false (caseAV p l xs) :: R]⟩) ∧ get env 1 = iV most ∧ get env 2 = .ptr (0,0) 0 ∧ get env 92 = p.uses.avS Us.av ∧ get env 93 = iV i93 ∧ get env 94 = iV i94) ∧
   ((s.fields.l.zip r.l).any (bigF most) = true → ∃ env R,o = some (.ret,⟨env,[R]⟩) ∧ get env 4 = .bool true) := by
  intro suf
  induction suf with
  | nil => intro pre _ e; cases e
  | cons s0 suf ih =>
   intro pre hl' hfd o ho
   obtain ⟨h1,h2,w1⟩ := idx_facts hl' (by omega)
   have his := fun (k : IntKind) => iaF_sl (av := Sc.av) (sz := 2) (s := l) (k := k) (j := (pre.length : Int)) (x := s0) (by omega) (by simpa using h2) rfl
   have qf := beq_avS _ beq_fd s0.fields
   by_cases c : s0.name = u.sc
   ·have e0 : s0 = s := by
     rw [List.find?_cons] at hfd
     simpa [c] using hfd
    subst e0
    have d2 : ((r.l.length : Int) < (s0.fields.l.length : Int)) = False := by rw [hrl]; simp
    refine ⟨fun e => ?_,fun e => ?_⟩
    ·obtain ⟨env,R,k,g1,g2,g92,g93,g94⟩ := k1 e
     refine ⟨env,R,?_,g1,g2,g92,g93,g94⟩
     rw [ho,loop_go]
     generalize (mu K).code (.loopAt 2 [1,2,12,13,92,93,94,100,101,102] l17_1) = FF
     clear ih hl'
     simp [l17_1,h1,his,w1,c,qf,q5,q2,hix,d1,d2,k]
    ·obtain ⟨env,R,k,g4⟩ := k2 e
     refine ⟨env,R,?_,g4⟩
     rw [ho,loop_go]
     generalize (mu K).code (.loopAt 2 [1,2,12,13,92,93,94,100,101,102] l17_1) = FF
     clear ih hl'
     simp [l17_1,h1,his,w1,c,qf,q5,q2,hix,d1,d2,k]
   ·have hfd' : suf.find? (fun s => decide (s.name = u.sc)) = some s := by
     rw [List.find?_cons] at hfd
     simpa [c] using hfd
    refine ih (pre ++ [s0]) (by simp [hl']) hfd' o ?_
    rw [ho,loop_go]
    generalize (mu K).code (.loopAt 2 [1,2,12,13,92,93,94,100,101,102] l17_1) = FF
    clear ih hl'
    simp [l17_1,h1,his,w1,c,qf,q5,q2]
 have := main l.l [] rfl hs _ rfl
 exact this
def rowBig (p : Po) (l : List Sc) (xs : List (Sl Int)) (most : Int) (u : Nat) : Bool := match xs[u]? with
 | some r => ((scU p l u).fields.l.zip r.l).any (bigF most)
 | none => false
theorem l17_2_ok (p : Po) (hp : p.uses.l.length ≤ 1000) (l : Sl Sc) (hl : l.l.length ≤ 1000) (xs : Sl (Sl Int)) (most : Int) (hxl : xs.l.length = p.uses.l.length)
  (hsc : ∀ u ∈ p.uses.l,(scN l.l u.sc).isSome = true)
  (hrow : ∀ i,i < p.uses.l.length → ∃ r,xs.l[i]? = some r ∧ r.l.length = (scU p l.l i).fields.l.length ∧ (scU p l.l i).fields.l.length ≤ 1000 ∧ ∀ q ∈ (scU p l.l i).fields.l.zip r.l,(q.1.kind = 0 ∨ q.1.kind = 1) ∧ -2147483648 ≤ q.2 ∧ q.2 ≤ 2147483647 ∧ -2147483648 ≤ q.1.mn ∧ q.1.mn ≤ 2147483647)
  (aw : ∀ f,(mu K).fn 52 [] [f] = some (.val (.bool true) [f])) (hbig : ∃ u,u < p.uses.l.length ∧ rowBig p l.l xs.l most u = true) :
  ∃ env R,(mu K).code (.loopAt 1 [1,2,92,93,94] l17_2) ⟨[(1,iV most),(2,.ptr (0,0) 0),(92,p.uses.avS Us.av),(93,iV (p.uses.l.length : Int)),(94,iV 0)],[[.box 83 false (caseAV p l xs)]]⟩ = some (.ret,⟨env,[R]⟩) ∧ get env 4 = .bool true := by
 have main : ∀ (suf pre : List Us),p.uses.l = pre ++ suf → (∃ u,pre.length ≤ u ∧ u < p.uses.l.length ∧ rowBig p l.l xs.l most u = true) →
   ∃ env R,(mu K).code (.loopAt 1 [1,2,92,93,94] l17_2) ⟨[(1,iV most),(2,.ptr (0,0) 0),(92,p.uses.avS Us.av),(93,iV (p.uses.l.length : Int)),(94,iV (pre.length : Int))],[[.box 83 false (caseAV p l xs)]]⟩ = some (.ret,⟨env,[R]⟩) ∧ get env 4 = .bool true := by
  intro suf
  induction suf with
  | nil =>
   rintro pre e ⟨u,a1,a2,_⟩
   rw [e] at a2
   simp at a2
   omega
  | cons u suf ih =>
   rintro pre hl' ⟨v,a1,a2,a3⟩
   obtain ⟨h1,h2,w1⟩ := idx_facts hl' (by omega)
   have hlt : pre.length < p.uses.l.length := (List.getElem?_eq_some_iff.1 h2).1
   obtain ⟨r,r1,r2,r3,r4⟩ := hrow pre.length hlt
   have hiu := fun (k : IntKind) => iaF_sl (av := Us.av) (sz := 2) (s := p.uses) (k := k) (j := (pre.length : Int)) (x := u) (by omega) (by simpa using h2) rfl
   have hss := hsc u (List.mem_of_getElem? h2)
   obtain ⟨s,hs⟩ := Option.isSome_iff_exists.1 hss
   have esc : scU p l.l pre.length = s := by unfold scU; rw [h2]; simp [hs]
   rw [esc] at r2 r3 r4
   obtain ⟨k1,k2⟩ := l17_1_ok p l hl xs most pre.length u s hs (by omega) r r1 r2 r3 r4 aw (p.uses.l.length : Int) (pre.length : Int)
   have erb : rowBig p l.l xs.l most pre.length = (s.fields.l.zip r.l).any (bigF most) := by unfold rowBig; rw [r1]; simp [esc]
   have q1 := beq_avS _ beq_us p.uses
   cases e : (s.fields.l.zip r.l).any (bigF most) with
   | true =>
    obtain ⟨env,R,k,g4⟩ := k2 e
    refine ⟨env,R,?_,g4⟩
    rw [loop_go]
    generalize (mu K).code (.loopAt 1 [1,2,92,93,94] l17_2) = FF
    clear ih hl'
    simp [l17_2,h1,hiu,w1,q1,k]
   | false =>
    obtain ⟨env,R,k,g1,g2,g92,g93,g94⟩ := k1 e
    have hv : v ≠ pre.length := fun e' => by rw [e',erb,e] at a3; cases a3
    obtain ⟨env',R',k',g4⟩ := ih (pre ++ [u]) (by simp [hl']) ⟨v,by simp; omega,a2,a3⟩
    refine ⟨env',R',?_,g4⟩
    rw [← k',loop_go]
    have e1 : ((pre ++ [u]).length : Int) = (pre.length : Int) + 1 := by simp
    rw [e1]
    generalize (mu K).code (.loopAt 1 [1,2,92,93,94] l17_2) = FF
    clear ih hl' k'
    have c3 : ∀ e : Env,keep [1,2,92,93,94] e = [(1,get e 1),(2,get e 2),(92,get e 92),(93,get e 93),(94,get e 94)] := fun _ => rfl
    cases R with
    | nil => simp [l17_2,h1,hiu,w1,q1,k,g1,g2,g92,g93,g94]
    | cons b0 R0 => simp [l17_2,h1,hiu,w1,q1,k,g1,g2,g92,g93,g94]
 obtain ⟨u,a1,a2⟩ := hbig
 exact main p.uses.l [] rfl ⟨u,by simp,a1,a2⟩
end Go.Ab.Pl
/-
  The statement MeaningFinds on the evaluator.
-/
namespace Go.Ab.Pl
open Go.Ab.Pol
set_option maxRecDepth 100000
set_option maxHeartbeats 4000000
theorem big_iff {most : Int} {f : Pol.Fd} {v : Int} (hk : f.kind = 0 ∨ f.kind = 1) : bigF most (f,v) = decide (most ≤ v - loF f) := by
 unfold bigF loF
 rcases hk with hk | hk
 ·simp [hk]
 ·simp [hk]
theorem zip_get {α β : Type} {l : List α} {m : List β} {k : Nat} {a : α} {b : β} (h1 : l[k]? = some a) (h2 : m[k]? = some b) : (a,b) ∈ l.zip m :=
 List.mem_of_getElem? (List.getElem?_zip_eq_some.2 ⟨h1,h2⟩)
theorem row_facts {p : Po} {l : List Sc} (hf : FdsOk p l) {xs : List (Sl Int)} (ha : admE p l xs = 0) : ∀ i, i < p.uses.l.length → ∃ r, xs[i]? = some r ∧ r.l.length = (scU p l i).fields.l.length ∧ (scU p l i).fields.l.length ≤ 1000 ∧
    ∀ q ∈ (scU p l i).fields.l.zip r.l, (q.1.kind = 0 ∨ q.1.kind = 1) ∧ -2147483648 ≤ q.2 ∧ q.2 ≤ 2147483647 ∧ -2147483648 ≤ q.1.mn ∧ q.1.mn ≤ 2147483647 := fun i hi => by
  obtain ⟨a1, a2, a3⟩ := adm_len ha
  have hx : i < xs.length := by omega
  have hxe : xs[i]? = some xs[i] := List.getElem?_eq_getElem hx
  have h2 := List.all_eq_true.1 a2 (xs[i], i) (List.mem_zipIdx_iff_getElem?.2 hxe)
  have h3 := List.all_eq_true.1 a3 (xs[i], i) (List.mem_zipIdx_iff_getElem?.2 hxe)
  simp only [lenOk, decide_eq_true_eq] at h2
  unfold rowOk at h3
  have hc := hf.cnt i hi
  refine ⟨xs[i], hxe, h2, by omega, fun q hq => ?_⟩
  obtain ⟨k, hk, ek⟩ := List.getElem_of_mem hq
  have hz : ((scU p l i).fields.l.zip (xs[i]).l)[k]? = some q := by rw [List.getElem?_eq_getElem hk, ek]
  obtain ⟨z1, z2⟩ := List.getElem?_zip_eq_some.1 hz
  have h4 := List.all_eq_true.1 h3 (q.2, k) (List.mem_zipIdx_iff_getElem?.2 z2)
  unfold inR at h4
  simp only [z1, Bool.and_eq_true, decide_eq_true_eq] at h4
  obtain ⟨f1, f2, f3, f4⟩ := hf.ok i hi q.1 (List.mem_of_getElem? z1)
  rcases f4 with f4 | ⟨f4, f5, f6⟩
  · have : loF q.1 = q.1.mn := by unfold loF; rw [if_neg (by omega)]
    exact ⟨.inl f4, by omega, by omega, by omega, by have : hiF q.1 = q.1.mx := by unfold hiF; rw [if_neg (by omega)]
                                                     omega⟩
  · exact ⟨.inr f4, by omega, by omega, by omega, by omega⟩
theorem law17 (p : Po) (hp : aPo p) (l : Sl Sc) (hl : okSl aSc l) (xs : Sl (Sl Int)) (most : Int) : (mu K).fn 17 [caseAV p l xs,iV most] [] = some (.val (.bool true) []) := by
 have k51 := fun h => f51 p l (fun s hs => (hl.2 s hs).fields.1) hl.1 xs h
 have b1 := beq_avS _ beq_us p.uses
 have b2 := beq_avS _ beq_rf p.reveal
 have b3 := beq_avS _ beq_nd p.nodes
 have b4 := beq_avS _ beq_sc l
 have b5 := beq_avS _ beq_ints xs
 rw [fn_go (KX _ _ _) fn17 rfl (by simp [c17])]
 cases hf : few45 p l.l xs.l
 ·rw [hf] at k51
  simp only [caseAV,Po.cs,List.cons_append,List.nil_append] at k51 ⊢
  simp [c17,KL,lendF,k51,awake45]
 rw [hf] at k51
 obtain ⟨z,zl⟩ := few45_sz hp hl hf
 have hll : l.l.length ≤ 1000 := by have := zl.len; omega
 have hlf : ∀ s ∈ l.l,s.fields.l.length ≤ 1000 := fun s hs => (zl.sc s hs).len
 obtain ⟨b,k55,hb8⟩ := f55 p z.uses.1 l hll hlf xs most [[.box 83 false (caseAV p l xs)]]
 simp only [caseAV,Po.cs,List.cons_append,List.nil_append] at k51 k55 ⊢
 by_cases hb : b = true
 case neg =>
  have hb : b = false := by simpa using hb
  rw [hb] at k55
  simp [c17,KL,lendF,k51,k55,awake45]
 rw [hb] at k55
 have h8 := hb8 hb
 by_cases h1 : most < 1
 ·simp [c17,KL,lendF,k51,k55,awake45,h1]
 obtain ⟨m,rfl⟩ : ∃ m : Nat,most = (m : Int) := ⟨most.toNat,by omega⟩
 have hm : 1 ≤ m ∧ m ≤ 64 := by omega
 have h1' : ((m : Int) < 1) = False := by simp; omega
 obtain ⟨t,ht⟩ := tree_of45 p
 by_cases h0 : (typT p l.l t).2 = 0
 case neg =>
  have k56 := fun h => f56_0 p z l zl t ht (m : Int) h0 h
  simp [c17,KL,lendF,k51,k55,awake45,h1',k56,h0,b1,b2,b3,b4,b5]
 obtain ⟨hF,_⟩ := fit_of h0
 have g := ht (ready_of hF.ready).chk
 have hr := ready_of hF.ready
 have hfd := fds_ok hr
 have k56 := fun h => f56 p z l zl t g hF m hm h
 cases e : tot 1 (spansP p l.l m) with
 | none =>
  rw [e] at k56
  simp only at k56
  simp [c17,KL,lendF,k51,k55,awake45,h1',k56,b1,b2,b3,b4,b5]
 | some T =>
  rw [e] at k56
  simp only at k56
  have hT := tot_some e
  rw [Nat.one_mul] at hT
  rcases iter_fnN (f := fun n => truth (vlOf p l.l (slN (rowsN p l.l m n))) t) (List.range T) with ⟨n,n1,n2,n3⟩ | ⟨n1,n2⟩
  ·have e3 : found p l.l m t T = .inr n := n3
   rw [e3] at k56
   simp only at k56
   have exs : xsAV ⟨false,slN (rowsN p l.l m n)⟩ = .lst ((rowsN p l.l m n).map rowAV) := by
    simp only [xsAV,Sl.avS,slN,lv_false,List.map_map]
    congr 1
   have k54 := fun h => f54_1 p z l zl t g ⟨false,slN (rowsN p l.l m n)⟩ hF (adm_rows hfd hm.1 n) h
   have n2 : truth (vlOf p l.l (slN (rowsN p l.l m n))) t = true := n2
   rw [exs,n2] at k54
   generalize (rowsN p l.l m n).map rowAV = EX at *
   simp [c17,KL,lendF,k51,k55,awake45,h1',k56,k54,b1,b2,b3,b4,b5]
  ·have e3 : found p l.l m t T = .inl () := n2
   rw [e3] at k56
   simp only at k56
   by_cases hme : meanE p l.l t xs.l = 0
   case neg =>
    have k54 := fun h => f54_0 p z l zl t ht xs hme h
    simp [c17,KL,lendF,k51,k55,awake45,h1',k56,k54,hme,b1,b2,b3,b4,b5]
   have ha : admE p l.l xs.l = 0 := by
    unfold meanE at hme
    rw [if_neg (by simp [h0])] at hme
    exact hme
   have k54 := fun h => f54_1 p z l zl t g xs hF ha h
   cases ht2 : truth (vlOf p l.l xs.l) t with
   | false =>
    rw [ht2] at k54
    simp [c17,KL,lendF,k51,k55,awake45,h1',k56,k54,b1,b2,b3,b4,b5]
   | true =>
    rw [ht2] at k54
    have hrow := row_facts hfd ha
    have hbig : ∃ u,u < p.uses.l.length ∧ rowBig p l.l xs.l (m : Int) u = true := by
     apply Classical.byContradiction
     intro hno
     obtain ⟨n,q1,q2⟩ := tried hfd hm.1 ha (fun u hu r k f v e1 e2 e4 => by
      apply Classical.byContradiction
      intro hge
      refine hno ⟨u,hu,?_⟩
      unfold rowBig
      rw [e1]
      simp only
      rw [List.any_eq_true]
      have hmem := zip_get e2 e4
      obtain ⟨r',f1,_,_,f4⟩ := hrow u hu
      rw [e1] at f1
      injection f1 with f1
      subst f1
      refine ⟨(f,v),hmem,?_⟩
      rw [big_iff (f4 _ hmem).1]
      simp only [decide_eq_true_eq]
      omega)
     have q3 := n1 n (by rw [List.mem_range,hT]; exact q1)
     rw [q2,ht2] at q3
     cases q3
    obtain ⟨env,R,k,g4⟩ := l17_2_ok p z.uses.1 l hll xs (m : Int) (adm_len ha).1 hr.uses hrow (fun f => awake45 f) hbig
    simp only [caseAV,Po.cs,List.cons_append,List.nil_append] at k
    simp [c17,KL,lendF,k51,k55,awake45,h1',k56,k54,k,g4,b1,b2,b3,b4,b5]
theorem law17c (x : Cas) (n : Int) (h : aCas x) : (mu K).fn 17 [x.av,iV n] [] = some (.val (.bool true) []) := law17 x.p h.p x.l h.l x.xs n
end Go.Ab.Pl

/-
  The negation of a policy: its tree, what it says.
-/
import Derived.Test.YtfpmflgjbpnkjaaAb41P65
set_option linter.unusedVariables false
set_option linter.unusedSimpArgs false
set_option linter.unusedSectionVars false
namespace Go.Ab.Pl
open Go.Ab.Pol
set_option maxRecDepth 100000
set_option maxHeartbeats 2000000
/-- A Not of a node. -/
def notN (i : Nat) : Nd := ⟨2,0,[],[],⟨false,[(i : Int)]⟩,0⟩
/-- Nots of trees, numbered from N on. -/
def nots : Nat → List Tr → List Tr
 | _,[] => []
 | N,k :: ks => .nd N (notN k.i) [k] :: nots (N + 1) ks
theorem nots_len : ∀ (N : Nat) (ks : List Tr),(nots N ks).length = ks.length
 | _,[] => rfl
 | N,k :: ks => by simp [nots,nots_len (N + 1) ks]
section
variable (vl : Nd → Vl)
theorem truth_not (N : Nat) (k : Tr) : truth vl (.nd N (notN k.i) [k]) = !truth vl k := by
 have h : truth vl (.nd N (notN k.i) [k]) = decide (truths vl [k] = 0) := by simp [truth,notN]
 rw [h]
 cases e : truth vl k <;> simp [truths,e]
theorem truths_le : ∀ ks : List Tr,truths vl ks ≤ ks.length
 | [] => by simp [truths]
 | k :: ks => by
  have := truths_le ks
  simp only [truths,List.length_cons]
  split <;> omega
theorem truths_nots : ∀ (N : Nat) (ks : List Tr),truths vl (nots N ks) + truths vl ks = ks.length
 | _,[] => by simp [nots,truths]
 | N,k :: ks => by
  have ih := truths_nots (N + 1) ks
  simp only [nots,truths,truth_not,List.length_cons]
  cases truth vl k <;> simp <;> omega
/-- The root's node of the negated policy; its other kids, if they turn. -/
def negNd (N : Nat) (n : Nd) : Nd :=
 if n.k = 0 ∨ n.k = 1 then { n with k := 1 - n.k }
 else if n.k = 3 then { n with k := 4,kids := ⟨false,(List.range n.kids.l.length).map fun j => ((N + j : Nat) : Int)⟩ }
 else if n.k = 4 then { n with k := 3,kids := ⟨false,(List.range n.kids.l.length).map fun j => ((N + j : Nat) : Int)⟩ }
 else if n.k = 5 then { n with num := (n.kids.l.length : Int) - n.num + 1,kids := ⟨false,(List.range n.kids.l.length).map fun j => ((N + j : Nat) : Int)⟩ }
 else { n with num := complement n.num }
/-- The tree of the negated policy, of N nodes before. -/
def negT (N : Nat) : Tr → Tr
 | .nd i n ks => if n.k = 0 ∨ n.k = 1 ∨ n.k = 6 then .nd i (negNd N n) ks
  else if n.k = 3 ∨ n.k = 4 ∨ n.k = 5 then .nd i (negNd N n) (nots N ks)
  else .nd N (notN i) [.nd i n ks]
theorem neg_truth (N : Nat) (i : Nat) (n : Nd) (ks : List Tr) (hlen : n.kids.l.length = ks.length) (h0 : 0 ≤ n.k) (h8 : n.k ≤ 8) (h6 : n.k = 6 → sgB n.num (cmpVl (vl (kidN ks 0)) (vl (kidN ks 1))) = cmpV n.num (vl (kidN ks 0)) (vl (kidN ks 1)) ∧ How n.num ∧
      cmpV (complement n.num) (vl (kidN ks 0)) (vl (kidN ks 1)) = !cmpV n.num (vl (kidN ks 0)) (vl (kidN ks 1))) :
    truth vl (negT N (.nd i n ks)) = !truth vl (.nd i n ks) := by
  have hn := truths_nots vl N ks
  have hl := nots_len N ks
  have hk : n.k = 0 ∨ n.k = 1 ∨ n.k = 2 ∨ n.k = 3 ∨ n.k = 4 ∨ n.k = 5 ∨ n.k = 6 ∨ n.k = 7 ∨ n.k = 8 := by omega
  have other : n.k = 2 ∨ n.k = 7 ∨ n.k = 8 → truth vl (negT N (.nd i n ks)) = !truth vl (.nd i n ks) := fun h => by
    simp only [negT]
    rw [if_neg (by omega), if_neg (by omega)]
    exact truth_not vl N (.nd i n ks)
  rcases hk with h | h | h | h | h | h | h | h | h
  · simp [negT, negNd, truth, h]
  · simp [negT, negNd, truth, h]
  · exact other (.inl h)
  · have a : truth vl (.nd i n ks) = decide (truths vl ks = ks.length) := by simp [truth, h]
    have b : truth vl (negT N (.nd i n ks)) = decide (0 < truths vl (nots N ks)) := by simp [negT, negNd, truth, h]
    rw [a, b, Bool.eq_iff_iff]
    simp
    omega
  · have a : truth vl (.nd i n ks) = decide (0 < truths vl ks) := by simp [truth, h]
    have b : truth vl (negT N (.nd i n ks)) = decide (truths vl (nots N ks) = (nots N ks).length) := by simp [negT, negNd, truth, h]
    rw [a, b, hl, Bool.eq_iff_iff]
    simp
    omega
  · have a : truth vl (.nd i n ks) = decide (n.num ≤ (truths vl ks : Int)) := by simp [truth, h]
    have b : truth vl (negT N (.nd i n ks)) = decide ((n.kids.l.length : Int) - n.num + 1 ≤ (truths vl (nots N ks) : Int)) := by simp [negT, negNd, truth, h]
    rw [a, b, hlen, Bool.eq_iff_iff]
    simp
    omega
  · simp [negT, negNd, truth, h, (h6 h).2.2]
  · exact other (.inr (.inl h))
  · exact other (.inr (.inr h))
end
end Go.Ab.Pl
/-
  The negation of a policy: its nodes.
-/
namespace Go.Ab.Pl
open Go.Ab.Pol
set_option maxRecDepth 100000
mutual
theorem isT_app {ns : List Nd} (X : List Nd) : ∀ t : Tr,Pol.IsT ns t → Pol.IsT (ns ++ X) t
 | .nd i n ks,⟨h1,h2,h3⟩ => ⟨by rw [List.getElem?_append_left (List.getElem?_eq_some_iff.1 h1).1]; exact h1,h2,isTs_app X ks h3⟩
theorem isTs_app {ns : List Nd} (X : List Nd) : ∀ ts : List Tr,Pol.IsTs ns ts → Pol.IsTs (ns ++ X) ts
 | [],_ => trivial
 | t :: ts,h => ⟨isT_app X t h.1,isTs_app X ts h.2⟩
end
mutual
theorem isT_set {ns : List Nd} (j : Nat) (m : Nd) : ∀ t : Tr,j ∉ t.pre → Pol.IsT ns t → Pol.IsT (ns.set j m) t
 | .nd i n ks,hj,⟨h1,h2,h3⟩ => by
  simp only [Tr.pre,List.mem_cons,not_or] at hj
  exact ⟨by rw [List.getElem?_set_ne hj.1]; exact h1,h2,isTs_set j m ks hj.2 h3⟩
theorem isTs_set {ns : List Nd} (j : Nat) (m : Nd) : ∀ ts : List Tr,j ∉ Tr.pres ts → Pol.IsTs ns ts → Pol.IsTs (ns.set j m) ts
 | [],_,_ => trivial
 | t :: ts,hj,h => by
  simp only [Tr.pres,List.mem_append,not_or] at hj
  exact ⟨isT_set j m t hj.1 h.1,isTs_set j m ts hj.2 h.2⟩
end
theorem isTs_nots {L : List Nd} : ∀ (ks : List Tr) (N : Nat),(∀ j k,ks[j]? = some k → L[N + j]? = some (notN k.i)) → Pol.IsTs L ks → Pol.IsTs L (nots N ks)
 | [],N,_,_ => trivial
 | k :: ks,N,h,hT => by
  refine ⟨⟨by simpa using h 0 k rfl,by simp [notN],hT.1,trivial⟩,isTs_nots ks (N + 1) (fun j q hq => ?_) hT.2⟩
  have := h (j + 1) q (by simpa using hq)
  rwa [show N + (j + 1) = N + 1 + j by omega] at this
theorem nots_idx : ∀ (ks : List Tr) (N : Nat),(nots N ks).map (fun t => (t.i : Int)) = (List.range ks.length).map fun j => ((N + j : Nat) : Int)
 | [],N => rfl
 | k :: ks,N => by
  rw [nots,List.map_cons,nots_idx ks (N + 1),List.length_cons,List.range_succ_eq_map,List.map_cons,List.map_map]
  congr 1
  apply List.map_congr_left
  intro j _
  simp only [Function.comp]
  omega
/-- The nodes of the negated policy. -/
def negNs (ns : List Nd) : Tr → List Nd
 | .nd i n ks => if n.k = 0 ∨ n.k = 1 ∨ n.k = 6 then ns.set i (negNd ns.length n)
  else if n.k = 3 ∨ n.k = 4 ∨ n.k = 5 then (ns ++ ks.map fun k => notN k.i).set i (negNd ns.length n)
  else ns ++ [notN i]
theorem neg_isT {ns : List Nd} (i : Nat) (n : Nd) (ks : List Tr) (hT : Pol.IsT ns (.nd i n ks)) (hnd : (Tr.nd i n ks).pre.Nodup) : Pol.IsT (negNs ns (.nd i n ks)) (negT ns.length (.nd i n ks)) := by
 obtain ⟨h1,h2,h3⟩ := hT
 have hi := (List.getElem?_eq_some_iff.1 h1).1
 simp only [Tr.pre,List.nodup_cons] at hnd
 have hl : n.kids.l.length = ks.length := by rw [h2]; simp
 by_cases c : n.k = 0 ∨ n.k = 1 ∨ n.k = 6
 ·simp only [negNs,negT]
  rw [if_pos c,if_pos c]
  refine ⟨List.getElem?_set_self hi,?_,isTs_set i _ ks hnd.1 h3⟩
  rcases c with c | c | c <;> simp [negNd,c,h2]
 by_cases c2 : n.k = 3 ∨ n.k = 4 ∨ n.k = 5
 ·simp only [negNs,negT]
  rw [if_neg c,if_neg c,if_pos c2,if_pos c2]
  refine ⟨List.getElem?_set_self (by simp; omega),?_,?_⟩
  ·rw [nots_idx]
   rcases c2 with c2 | c2 | c2 <;> simp [negNd,c2,hl]
  ·refine isTs_nots ks ns.length (fun j k hk => ?_) (isTs_set i _ ks hnd.1 (isTs_app _ ks h3))
   rw [List.getElem?_set_ne (by omega),List.getElem?_append_right (by omega)]
   simp [hk]
 ·simp only [negNs,negT]
  rw [if_neg c,if_neg c,if_neg c2,if_neg c2]
  refine ⟨by simp,by simp [notN,Tr.i],⟨by rw [List.getElem?_append_left hi]; exact h1,h2,isTs_app _ ks h3⟩,trivial⟩
end Go.Ab.Pl
/-
  The negation of a policy: the form of its nodes.
-/
namespace Go.Ab.Pl
open Go.Ab.Pol
set_option maxRecDepth 100000
theorem form_not (i : Nat) : formE (notN i) true = 0 := by
 simp [formE,shapeOk,notN,kidsOk,textsOk,lowN,highN]
theorem wf_nots : ∀ (ks : List Tr) (N : Nat),WFs ks true → WFs (nots N ks) true
 | [],_,_ => trivial
 | k :: ks,N,h => ⟨⟨form_not _,by simpa [notN] using h.1,trivial⟩,wf_nots ks (N + 1) h.2⟩
theorem form_of {n : Nd} {c : Bool} (h0 : 0 ≤ n.k) (h1 : n.k < 12) (h2 : (decide (n.k ≤ 8) = c)) (h3 : kidsOk n.k n.kids.l.length = true) (h4 : textsOk n = true) (h5 : lowN n ≤ n.num) (h6 : n.num ≤ highN n) : formE n c = 0 := by
 have hs : shapeOk n c = true := by
  unfold shapeOk
  simp [h0,h1,h2,h3,h4]
 unfold formE
 rw [hs]
 simp
 omega
theorem form_neg {N : Nat} {n : Nd} (h : formE n true = 0) (hk : n.k = 0 ∨ n.k = 1 ∨ n.k = 3 ∨ n.k = 4 ∨ n.k = 5 ∨ n.k = 6) : formE (negNd N n) true = 0 := by
 obtain ⟨h0,h1,h2,h3,h4,h5,h6⟩ := form_parts h
 rcases hk with c | c | c | c | c | c
 ·simp [kidsOk,textsOk,lowN,highN,c] at h3 h4 h5 h6
  refine form_of ?_ ?_ ?_ ?_ ?_ ?_ ?_ <;> simp [negNd,kidsOk,textsOk,lowN,highN,c,h3,h4] <;> omega
 ·simp [kidsOk,textsOk,lowN,highN,c] at h3 h4 h5 h6
  refine form_of ?_ ?_ ?_ ?_ ?_ ?_ ?_ <;> simp [negNd,kidsOk,textsOk,lowN,highN,c,h3,h4] <;> omega
 ·simp [kidsOk,textsOk,lowN,highN,c] at h3 h4 h5 h6
  refine form_of ?_ ?_ ?_ ?_ ?_ ?_ ?_ <;> simp [negNd,kidsOk,textsOk,lowN,highN,c,h3,h4] <;> omega
 ·simp [kidsOk,textsOk,lowN,highN,c] at h3 h4 h5 h6
  refine form_of ?_ ?_ ?_ ?_ ?_ ?_ ?_ <;> simp [negNd,kidsOk,textsOk,lowN,highN,c,h3,h4] <;> omega
 ·simp [kidsOk,textsOk,lowN,highN,c] at h3 h4 h5 h6
  refine form_of ?_ ?_ ?_ ?_ ?_ ?_ ?_ <;> simp [negNd,kidsOk,textsOk,lowN,highN,c,h3,h4] <;> omega
 ·simp [kidsOk,textsOk,lowN,highN,c] at h3 h4 h5 h6
  have q : 0 ≤ complement n.num ∧ complement n.num ≤ 5 := by unfold complement; split <;> omega
  refine form_of ?_ ?_ ?_ ?_ ?_ ?_ ?_ <;> simp [negNd,kidsOk,textsOk,lowN,highN,c,h3,h4] <;> omega
theorem neg_wf {N i : Nat} {n : Nd} {ks : List Tr} (h : WF (.nd i n ks) true) : WF (negT N (.nd i n ks)) true := by
 by_cases c : n.k = 0 ∨ n.k = 1 ∨ n.k = 6
 ·simp only [negT]
  rw [if_pos c]
  refine ⟨form_neg h.1 (by omega),?_⟩
  have e : decide ((negNd N n).k ≤ 5) = decide (n.k ≤ 5) := by
   rcases c with c | c | c <;> simp [negNd,c]
  rw [e]
  exact h.2
 by_cases c2 : n.k = 3 ∨ n.k = 4 ∨ n.k = 5
 ·simp only [negT]
  rw [if_neg c,if_pos c2]
  refine ⟨form_neg h.1 (by omega),?_⟩
  have e : decide ((negNd N n).k ≤ 5) = true := by
   rcases c2 with c | c | c <;> simp [negNd,c]
  have e2 : decide (n.k ≤ 5) = true := by simp; omega
  have h2 := h.2
  rw [e2] at h2
  rw [e]
  exact wf_nots ks N h2
 ·simp only [negT]
  rw [if_neg c,if_neg c2]
  exact ⟨form_not _,by simpa [notN] using h,trivial⟩
theorem nots_dep : ∀ (ks : List Tr) (N d : Nat),Tr.deps ks ≤ d → Tr.deps (nots N ks) ≤ d + 1
 | [],_,_,_ => by simp [nots,Tr.deps]
 | k :: ks,N,d,h => by
  simp only [Tr.deps] at h
  have := nots_dep ks (N + 1) d (by omega)
  simp only [nots,Tr.deps,Tr.dep]
  omega
theorem neg_dep {N i : Nat} {n : Nd} {ks : List Tr} {d : Nat} (h : (Tr.nd i n ks).dep ≤ d) : (negT N (.nd i n ks)).dep ≤ d + 1 := by
 simp only [Tr.dep] at h
 simp only [negT]
 split
 ·simp only [Tr.dep]; omega
 split
 ·have := nots_dep ks N (d - 1) (by omega)
  simp only [Tr.dep]; omega
 ·simp only [Tr.dep,Tr.deps]; omega
end Go.Ab.Pl
/-
  The negation of a policy: every node once.
-/
namespace Go.Ab.Pl
open Go.Ab.Pol
set_option maxRecDepth 100000
theorem nots_pre : ∀ (ks : List Tr) (N : Nat),(Tr.pres (nots N ks)).Perm ((List.range ks.length).map (N + ·) ++ Tr.pres ks)
 | [],N => by simp [nots,Tr.pres]
 | k :: ks,N => by
  have ih := nots_pre ks (N + 1)
  have e : (List.range (ks.length + 1)).map (N + ·) = N :: (List.range ks.length).map (N + 1 + ·) := by
   rw [List.range_succ_eq_map,List.map_cons,List.map_map]
   congr 1
   apply List.map_congr_left
   intro j _
   simp only [Function.comp]
   omega
  simp only [nots,Tr.pres,Tr.pre,List.length_cons,e,List.append_nil,List.cons_append]
  refine List.Perm.cons _ ?_
  refine (List.Perm.append_left _ ih).trans ?_
  rw [← List.append_assoc,← List.append_assoc]
  exact List.Perm.append_right _ List.perm_append_comm
theorem neg_pre (N i : Nat) (n : Nd) (ks : List Tr) : ∃ m,(negT N (.nd i n ks)).pre.Perm ((List.range m).map (N + ·) ++ (Tr.nd i n ks).pre) ∧ ∀ ns : List Nd,ns.length = N → (negNs ns (.nd i n ks)).length = N + m := by
 by_cases c : n.k = 0 ∨ n.k = 1 ∨ n.k = 6
 ·refine ⟨0,?_,fun ns h => ?_⟩
  ·simp only [negT]; rw [if_pos c]; simp [Tr.pre]
  ·simp only [negNs]; rw [if_pos c]; simp [h]
 by_cases c2 : n.k = 3 ∨ n.k = 4 ∨ n.k = 5
 ·refine ⟨ks.length,?_,fun ns h => ?_⟩
  ·simp only [negT]; rw [if_neg c,if_pos c2]
   simp only [Tr.pre]
   exact ((nots_pre ks N).cons i).trans (List.perm_middle).symm
  ·simp only [negNs]; rw [if_neg c,if_pos c2]; simp [h]
 ·refine ⟨1,?_,fun ns h => ?_⟩
  ·simp only [negT]; rw [if_neg c,if_neg c2]; simp [Tr.pre,Tr.pres]
  ·simp only [negNs]; rw [if_neg c,if_neg c2]; simp [h]
end Go.Ab.Pl
/-
  The negation of a policy: it is well-formed.
-/
namespace Go.Ab.Pl
open Go.Ab.Pol
set_option maxRecDepth 100000
/-- The negated policy. -/
def negP (p : Po) (t : Tr) : Po := { p with nodes := ⟨false,negNs p.nodes.l t⟩,root := ((negT p.nodes.l.length t).i : Int) }
theorem neg_mem {ns : List Nd} {i : Nat} {n : Nd} {ks : List Tr} {m : Nd} (hm : m ∈ negNs ns (.nd i n ks)) (h9 : m.k = 9) (hn : n.k ≠ 9) : m ∈ ns := by
 have hnot : ∀ j,(notN j).k ≠ 9 := fun j => by simp [notN]
 have hneg : n.k = 0 ∨ n.k = 1 ∨ n.k = 6 ∨ n.k = 3 ∨ n.k = 4 ∨ n.k = 5 → (negNd ns.length n).k ≠ 9 := fun h => by
  rcases h with c | c | c | c | c | c <;> simp [negNd,c]
 simp only [negNs] at hm
 split at hm
 ·rename_i c
  rcases List.mem_or_eq_of_mem_set hm with h | h
  ·exact h
  ·rw [h] at h9; exact absurd h9 (hneg (by omega))
 split at hm
 ·rename_i c
  rcases List.mem_or_eq_of_mem_set hm with h | h
  ·rcases List.mem_append.1 h with h | h
   ·exact h
   ·obtain ⟨k,_,rfl⟩ := List.mem_map.1 h
    exact absurd h9 (hnot _)
  ·rw [h] at h9; exact absurd h9 (hneg (by omega))
 ·rcases List.mem_append.1 hm with h | h
  ·exact h
  ·rw [List.mem_singleton.1 h] at h9; exact absurd h9 (hnot _)
theorem neg_good {p : Po} {t : Tr} (g : Pol.Good p t) (hd : t.dep ≤ 31) (hl : (negNs p.nodes.l t).length ≤ 512) : Pol.Good (negP p t) (negT p.nodes.l.length t) := by
 obtain ⟨i,n,ks⟩ := t
 obtain ⟨m,hp,hm⟩ := neg_pre p.nodes.l.length i n ks
 have hm := hm p.nodes.l rfl
 have hn : n.k ≠ 9 := by
  have := (form_parts g.wf.1).2.2.1
  have : n.k ≤ 8 := by simpa using this
  omega
 have hlt := all_lt g
 refine ⟨⟨hl,g.sizes.2.1,g.sizes.2.2.1,g.sizes.2.2.2⟩,g.names,g.limit,neg_isT i n ks g.isT g.nodup,rfl,neg_wf g.wf,by have := neg_dep (N := p.nodes.l.length) hd; omega,?_,?_,g.aliases,g.reveals,g.revs,fun x hx h9 => g.refs x (neg_mem hx h9 hn) h9⟩
 ·refine hp.nodup_iff.2 (List.nodup_append.2 ⟨?_,g.nodup,fun a ha b hb e => ?_⟩)
  ·exact (List.nodup_range).map _ (fun a b h e => h (by omega))
  ·obtain ⟨j,_,rfl⟩ := List.mem_map.1 ha
   have := hlt b hb
   omega
 ·rw [hp.length_eq,List.length_append,List.length_map,List.length_range,g.all]
  show m + p.nodes.l.length = (negNs p.nodes.l (.nd i n ks)).length
  omega
end Go.Ab.Pl
/-
  The negation of a policy: its types.
-/
namespace Go.Ab.Pl
open Go.Ab.Pol
set_option maxRecDepth 100000
section
variable (f : Nd → Option VT)
theorem visit_not (N : Nat) (k : Tr) : (visitT f (.nd N (notN k.i) [k])).2 = (visitT f k).2 := by
 have hc : condE f (.nd N (notN k.i) [k]) = (0,0) := by simp [condE,notN]
 simp only [visitT,hc,if_true,visitTs]
 by_cases h : (visitT f k).2 = 0
 ·simp [h]
 ·simp [h]
theorem visit_nots : ∀ (ks : List Tr) (N : Nat),(visitTs f (nots N ks)).2 = (visitTs f ks).2
 | [],_ => rfl
 | k :: ks,N => by
  have ih := visit_nots ks (N + 1)
  have hk := visit_not f N k
  simp only [nots,visitTs]
  by_cases h : (visitT f k).2 = 0
  ·rw [if_pos (by rw [hk]; exact h),if_pos h,ih]
  ·rw [if_neg (by rw [hk]; exact h),if_neg h,hk]
theorem compl_01 (h : Int) (hh : 0 ≤ h ∧ h ≤ 5) : (complement h ≠ 0 ∧ complement h ≠ 1) ↔ (h ≠ 0 ∧ h ≠ 1) := by
 have : h = 0 ∨ h = 1 ∨ h = 2 ∨ h = 3 ∨ h = 4 ∨ h = 5 := by omega
 rcases this with rfl | rfl | rfl | rfl | rfl | rfl <;> simp [complement]
theorem neg_visit (N i : Nat) (n : Nd) (ks : List Tr) (hf : formE n true = 0) : (visitT f (negT N (.nd i n ks))).2 = (visitT f (.nd i n ks)).2 := by
 obtain ⟨h0,h1,h2,h3,h4,h5,h6⟩ := form_parts hf
 have h8 : n.k ≤ 8 := by simpa using h2
 by_cases c : n.k = 0 ∨ n.k = 1 ∨ n.k = 6
 ·simp only [negT]
  rw [if_pos c]
  have e : condE f (.nd i (negNd N n) ks) = condE f (.nd i n ks) := by
   rcases c with c | c | c
   ·simp [condE,negNd,c]
   ·simp [condE,negNd,c]
   ·have hh : 0 ≤ n.num ∧ n.num ≤ 5 := by simp [lowN,highN,c] at h5 h6; omega
    have hv : ∀ vs,condV (negNd N n) vs = condV n vs := fun vs => by
     have := compl_01 n.num hh
     simp only [condV,negNd,c]
     simp
     by_cases q : n.num = 0 ∨ n.num = 1
     ·rcases q with q | q <;> simp [q,complement]
     ·have a1 : ¬ n.num = 0 := fun h => q (.inl h)
      have a2 : ¬ n.num = 1 := fun h => q (.inr h)
      have a3 := (this.2 ⟨a1,a2⟩)
      simp [a1,a2,a3.1,a3.2]
    have hk : (negNd N n).k = n.k := by simp [negNd,c]
    simp only [condE,hk,hv]
  simp only [visitT,e]
 by_cases c2 : n.k = 3 ∨ n.k = 4 ∨ n.k = 5
 ·simp only [negT]
  rw [if_neg c,if_pos c2]
  have e1 : condE f (.nd i n ks) = (0,0) := by rcases c2 with q | q | q <;> simp [condE,q]
  have e2 : condE f (.nd i (negNd N n) (nots N ks)) = (0,0) := by rcases c2 with q | q | q <;> simp [condE,negNd,q]
  simp only [visitT,e1,e2,if_true]
  exact visit_nots f ks N
 ·simp only [negT]
  rw [if_neg c,if_neg c2]
  exact visit_not f N (.nd i n ks)
end
end Go.Ab.Pl
/-
  The negation of a policy: the error of Check, what it says.
-/
namespace Go.Ab.Pl
open Go.Ab.Pol
set_option maxRecDepth 100000
theorem neg_typ {p : Po} {t : Tr} (g : Pol.Good p t) (g2 : Pol.Good (negP p t) (negT p.nodes.l.length t)) (l : List Sc) : (typT (negP p t) l (negT p.nodes.l.length t)).2 = (typT p l t).2 := by
 have c1 := good_chk g
 have c2 := good_chk g2
 have hr : readyE (negP p t) l = readyE p l := by
  unfold readyE
  rw [c1,c2]
  rfl
 have hv := fun i n ks (e : t = .nd i n ks) => neg_visit (vtOf p.uses.l l) p.nodes.l.length i n ks (by have := g.wf; rw [e] at this; exact this.1)
 unfold typT
 rw [hr]
 split
 ·rfl
 show (if p.reveal.l.all (fun r => (findF p.uses.l l r).isSome) = false then ((0 : Int),(9 : Int)) else visitT (vtOf p.uses.l l) (negT p.nodes.l.length t)).2 = _
 split
 ·rfl
 ·cases t with
  | nd i n ks => exact hv i n ks rfl
theorem neg_vl (p : Po) (t : Tr) (l : List Sc) (xs : List (Sl Int)) : vlOf (negP p t) l xs = vlOf p l xs := rfl
theorem neg_adm (p : Po) (t : Tr) (l : List Sc) (xs : List (Sl Int)) : admE (negP p t) l xs = admE p l xs := rfl
end Go.Ab.Pl

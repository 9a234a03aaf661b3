/-
  The statement MeaningNegates on the evaluator.
-/
import Derived.Test.YtfpmflgjbpnkjaaAb41P75
import Derived.Test.YtfpmflgjbpnkjaaAbTidy
import Derived.Test.YtfpmflgjbpnkjaaAb41P11
import Derived.Test.YtfpmflgjbpnkjaaAb41P32
import Derived.Test.YtfpmflgjbpnkjaaAb41P65
set_option linter.unusedVariables false
set_option linter.unusedSimpArgs false
set_option linter.unusedSectionVars false
namespace Go.Ab.Pl
open Go.Ab.Pol
set_option maxRecDepth 100000
set_option maxHeartbeats 4000000
theorem negNd_sz (N : Nat) (n : Nd) : (negNd N n).nm = n.nm ∧ (negNd N n).attr = n.attr ∧ (negNd N n).kids.l.length = n.kids.l.length := by
 unfold negNd
 split
 ·exact ⟨rfl,rfl,rfl⟩
 split
 ·exact ⟨rfl,rfl,by simp⟩
 split
 ·exact ⟨rfl,rfl,by simp⟩
 split
 ·exact ⟨rfl,rfl,by simp⟩
 ·exact ⟨rfl,rfl,rfl⟩
theorem neg_sz {p : Po} (z : Sz p) {t : Tr} (g : Pol.Good p t) (hl : p.nodes.l.length ≤ 100) (hk : t.ks.length ≤ 100) : Sz (negP p t) := by
 refine ⟨z.name,z.scope,z.escrow,z.uses,z.reveal,?_,?_⟩
 all_goals obtain ⟨i,n,ks⟩ := t
 ·obtain ⟨m,_,hm⟩ := neg_pre p.nodes.l.length i n ks
  show (negNs p.nodes.l (.nd i n ks)).length ≤ 1000
  simp only [Tr.ks] at hk
  simp only [negNs]
  split
  ·simp; omega
  split
  ·simp; omega
  ·simp; omega
 ·intro x hx
  have hx : x ∈ negNs p.nodes.l (.nd i n ks) := hx
  have hn : n ∈ p.nodes.l := List.mem_of_getElem? g.isT.1
  have a0 := z.nodes.2 n hn
  obtain ⟨e1,e2,e3⟩ := negNd_sz p.nodes.l.length n
  have aN : okN (negNd p.nodes.l.length n) ∧ (negNd p.nodes.l.length n).kids.l.length ≤ 1000 := by
   unfold okN
   rw [e1,e2,e3]
   exact a0
  have aT : ∀ j,okN (notN j) ∧ (notN j).kids.l.length ≤ 1000 := fun j => by simp [okN,okS,notN]
  simp only [negNs] at hx
  split at hx
  ·rcases List.mem_or_eq_of_mem_set hx with h | h
   ·exact z.nodes.2 x h
   ·rw [h]; exact aN
  split at hx
  ·rcases List.mem_or_eq_of_mem_set hx with h | h
   ·rcases List.mem_append.1 h with h | h
    ·exact z.nodes.2 x h
    ·obtain ⟨k,_,rfl⟩ := List.mem_map.1 h
     exact aT _
   ·rw [h]; exact aN
  ·rcases List.mem_append.1 hx with h | h
   ·exact z.nodes.2 x h
   ·rw [List.mem_singleton.1 h]; exact aT _
theorem law18 (p : Po) (hp : aPo p) (l : Sl Sc) (hl : okSl aSc l) (xs : Sl (Sl Int)) : (mu K).fn 18 [caseAV p l xs] [] = some (.val (.bool true) []) := by
 have k51 := fun h => f51 p l (fun s hs => (hl.2 s hs).fields.1) hl.1 xs h
 have b1 := beq_avS _ beq_us p.uses
 have b2 := beq_avS _ beq_rf p.reveal
 have b3 := beq_avS _ beq_nd p.nodes
 have b4 := beq_avS _ beq_sc l
 have b5 := beq_avS _ beq_ints xs
 rw [fn_go (KX _ _ _) fn18 rfl (by simp [c18])]
 simp only [caseAV,Po.cs,List.cons_append,List.nil_append] at k51 ⊢
 cases hf : few45 p l.l xs.l
 ·rw [hf] at k51
  simp [c18,KL,lendF,k51,awake45]
 rw [hf] at k51
 obtain ⟨z,zl⟩ := few45_sz hp hl hf
 have k25 := fun h => f25 p z h
 by_cases hc : chk p = 0
 case neg => simp [c18,KL,lendF,k51,awake45,k25,hc,b1,b2,b3,b4,b5]
 obtain ⟨t,g⟩ := chk_good hc
 have k29 := fun h => f29 p z t g t (by cases t; simp [Tr.subs]) h
 rw [g.root] at k29
 by_cases hd : t.dep ≤ 28
 case neg =>
  have d1 : ((28 : Int) < (t.dep : Int)) = True := by simp; omega
  simp [c18,KL,lendF,k51,awake45,k25,hc,k29,d1,b1,b2,b3,b4,b5]
 have d1 : ((28 : Int) < (t.dep : Int)) = False := by simp; omega
 have hfew := hf
 unfold few45 at hfew
 simp only [Bool.and_eq_true,decide_eq_true_eq] at hfew
 have hf41 := hfew.1.1.2
 unfold few41 at hf41
 simp only [Bool.and_eq_true,decide_eq_true_eq] at hf41
 have hnl : p.nodes.l.length ≤ 60 := hf41.1.1.1.1.1.2
 have hsm := List.all_eq_true.1 hf41.1.1.2
 have hkk : t.ks.length ≤ 40 := by
  obtain ⟨i,n,ks⟩ := t
  have := hsm n (List.mem_of_getElem? g.isT.1)
  unfold smN at this
  simp only [Bool.and_eq_true,decide_eq_true_eq] at this
  have e : n.kids.l.length = ks.length := by rw [g.isT.2.1]; simp
  show ks.length ≤ 40
  omega
 have k57 := fun h => f57 p t g (by omega) (by omega) h
 have z2 := neg_sz z g (by omega) (by omega)
 have g2 := neg_good g (by omega) (by have := z2.nodes.1; obtain ⟨i,n,ks⟩ := t; obtain ⟨m,_,hm⟩ := neg_pre p.nodes.l.length i n ks; simp only [Tr.ks] at hkk; simp only [negNs]; split <;> (try split) <;> simp <;> omega)
 have hty := neg_typ g g2 l.l
 have hadm : admE (negP p t) l.l xs.l = admE p l.l xs.l := neg_adm p t l.l xs.l
 have hmean : meanE (negP p t) l.l (negT p.nodes.l.length t) xs.l = meanE p l.l t xs.l := by
  unfold meanE
  rw [hty,hadm]
 by_cases hm : meanE p l.l t xs.l = 0
 case neg =>
  have k54 := fun h => f54_0 p z l zl t (fun _ => g) xs hm h
  have k54n := fun h => f54_0 (negP p t) z2 l zl (negT p.nodes.l.length t) (fun _ => g2) xs (by rw [hmean]; exact hm) h
  rw [hmean] at k54n
  simp [c18,KL,lendF,k51,awake45,k25,hc,k29,d1,k57,k54,k54n,hm,b1,b2,b3,b4,b5]
 have h0 : (typT p l.l t).2 = 0 := by
  unfold meanE at hm
  split at hm
  ·assumption
  ·rename_i q; simpa using q
 have h1 : admE p l.l xs.l = 0 := by
  unfold meanE at hm
  rw [if_neg (by simp [h0])] at hm
  exact hm
 obtain ⟨hF,_⟩ := fit_of h0
 obtain ⟨hF2,_⟩ := fit_of (by rw [hty]; exact h0)
 have k54 := fun h => f54_1 p z l zl t g xs hF h1 h
 have k54n := fun h => f54_1 (negP p t) z2 l zl (negT p.nodes.l.length t) g2 xs hF2 (by rw [hadm]; exact h1) h
 rw [neg_vl] at k54n
 have hr := ready_of hF.ready
 have V := vals_of (p := p) hr.sch h1
 have hT : truth (vlOf p l.l xs.l) (negT p.nodes.l.length t) = !truth (vlOf p l.l xs.l) t := by
  have ty := ty_of t g.isT g.wf hF.conds
  have hat := atom_ok g zl hF h1 (0,0) 0 t (by cases t; simp [Tr.subs])
  obtain ⟨i,n,ks⟩ := t
  obtain ⟨t0,t8,_,_,t6,_,_⟩ := ty
  have hkl : n.kids.l.length = ks.length := by rw [g.isT.2.1]; simp
  refine neg_truth (vlOf p l.l xs.l) p.nodes.l.length i n ks hkl t0 t8 (fun h6 => ?_)
  have := t6 h6
  have hk := (form_parts g.wf.1).2.2.2.1
  rw [hkl] at hk
  obtain ⟨a,b,rfl⟩ := len2 (l := ks) (by simpa [kidsOk,h6] using hk)
  exact ⟨(hat.cmp h6 a b rfl).2,this.1,cmpV_compl V this⟩
 rw [hT] at k54n
 simp [c18,KL,lendF,k51,awake45,k25,hc,k29,d1,k57,k54,k54n,hm,b1,b2,b3,b4,b5]
end Go.Ab.Pl
/-
  The statement MeaningNegates: its argument.
-/
namespace Go.Ab.Pl
open Go.Ab.Pol
theorem law18c (x : Cas) (h : aCas x) : (mu K).fn 18 [x.av] [] = some (.val (.bool true) []) := law18 x.p h.p x.l h.l x.xs
end Go.Ab.Pl

/-
  Fields that no node mentions: the clone of the fields.
-/
import Derived.Test.YtfpmflgjbpnkjaaAb41P62
import Derived.Test.YtfpmflgjbpnkjaaAb41R6
set_option linter.unusedVariables false
set_option linter.unusedSimpArgs false
set_option linter.unusedSectionVars false
namespace Go.Ab.Pl
open Go.Ab.Pol
set_option maxRecDepth 100000
set_option maxHeartbeats 4000000
theorem f58e (h:Heap):(mu K).fn 58 [.lst []] h=some (.val (.lst []) h):=by
 have hX:K.X 58 [.lst []] h=some (.val (.lst []) h):=rfl
 rw [step_mu_fn]
 simp [step,stepFn,hX]
theorem f58 (r:Sl Int) (hs:r.l.length≤1000) (Fr:List Blk) (h:Heap) :
  (mu K).fn 58 [r.avS iV] (Fr :: h)=if r.l=[] then some (.val (r.avS iV) (Fr :: h)) else some (.val (.own (h.length,Fr.length) r.l.length) ((Fr++[.arr 3 1 false (r.l.map iV)]) :: h)):=by
 obtain ⟨nl,l⟩:=r
 cases l with
 | nil=>
  rw [if_pos rfl]
  cases nl
  ·exact f58e _
  ·show (mu K).fn 58 [.nils] (Fr :: h)=some (.val .nils (Fr :: h))
   rw [fn_go (KXc _ _ _ (by decide) (by simp)) fn58 rfl (by simp [c58])]
   simp [c58,KL,lendF,CRes.keep]
 | cons x l=>
  rw [if_neg (by simp)]
  have e:Sl.avS iV ⟨nl,x :: l⟩=.lst (iV x :: l.map iV):=rfl
  simp only [List.length_cons] at hs
  have r1:(l.length+1) * 8≤room:=by unfold room;omega
  have r2:l.length+1≤room:=by unfold room;omega
  rw [e]
  rw [fn_go (KXc _ _ _ (by decide) (by simp)) fn58 rfl (by simp [c58])]
  simp [c58,KL,lendF,r1,r2,CRes.keep]
def ysOf:Nat→List (Sl Int)→List AV
 | _,[]=>[]
 | b,r :: xs=>if r.l=[] then r.avS iV :: ysOf b xs else .own (0,b) r.l.length :: ysOf (b+1) xs
def bksOf (fz:Bool):List (Sl Int)→List Blk
 | []=>[]
 | r :: xs=>if r.l=[] then bksOf fz xs else .arr 3 1 fz (r.l.map iV) :: bksOf fz xs
theorem ysOf_len:∀ (xs:List (Sl Int)) (b:Nat),(ysOf b xs).length=xs.length
 | [],_=>rfl
 | r :: xs,b=>by
  unfold ysOf
  split<;>simp [ysOf_len xs]
theorem ysOf_snoc:∀ (xs:List (Sl Int)) (b:Nat) (r:Sl Int),ysOf b (xs++[r])=ysOf b xs++[if r.l=[] then r.avS iV else .own (0,b+(bksOf false xs).length) r.l.length]
 | [],b,r=>by
  simp only [List.nil_append,ysOf,bksOf]
  split<;>simp
 | x :: xs,b,r=>by
  simp only [List.cons_append,ysOf,bksOf,ysOf_snoc xs]
  split
  ·simp
  ·simp only [List.cons_append,List.length_cons,Nat.add_assoc,Nat.add_comm 1]
theorem bksOf_snoc (fz:Bool):∀ (xs:List (Sl Int)) (r:Sl Int),bksOf fz (xs++[r])=bksOf fz xs++(if r.l=[] then [] else [.arr 3 1 fz (r.l.map iV)])
 | [],r=>by
  simp only [List.nil_append,bksOf]
 | x :: xs,r=>by
  simp only [List.cons_append,bksOf,bksOf_snoc fz xs]
  split<;>simp
theorem ysOf_ref {P:Loc→Bool}:∀ (xs:List (Sl Int)) (b:Nat) (M:List AV),bksOf false xs≠[]→P (0,b)=false→AV.refOks P (ysOf b xs++M)=false
 | [],_,_,h,_=>absurd rfl h
 | r :: xs,b,M,h,hp=>by
  unfold ysOf
  by_cases c:r.l=[]
  ·rw [if_pos c]
   have h2:bksOf false xs≠[]:=by
    simp only [bksOf,if_pos c] at h
    exact h
   have:=ysOf_ref xs b M h2 hp
   simp [AV.refOks,this]
  ·rw [if_neg c]
   simp [AV.refOks,AV.refOk,hp]
theorem view_rows:∀ (xs:List (Sl Int)) (P:List Blk),viewF (ysOf P.length xs) [P++bksOf false xs]=some (xs.map (fun r=>r.avS iV),[P++bksOf true xs])
 | [],P=>by simp [ysOf,bksOf,viewF]
 | r :: xs,P=>by
  unfold ysOf
  by_cases c:r.l=[]
  ·rw [if_pos c]
   simp only [bksOf,if_pos c]
   have ih:=view_rows xs P
   have hv:∀ h,viewE (r.avS iV) h=some (r.avS iV,h):=fun h=>by
    obtain ⟨nl,l⟩:=r
    simp only at c
    subst c
    cases nl<;>rfl
   simp only [viewF,hv,ih,List.map_cons]
  ·rw [if_neg c]
   simp only [bksOf,if_neg c]
   have ih:=view_rows xs (P++[.arr 3 1 true (r.l.map iV)])
   simp only [List.length_append,List.length_singleton,List.append_assoc,List.singleton_append] at ih
   have hv:viewE (.own (0,P.length) r.l.length) [P++.arr 3 1 false (r.l.map iV) :: bksOf false xs]=some (.lst (r.l.map iV),[P++.arr 3 1 true (r.l.map iV) :: bksOf false xs]):=by
    simp [viewE,viewF1,hget,hset]
   have hr:r.avS iV=.lst (r.l.map iV):=lv_lst _ (by simpa using c)
   simp only [viewF,hv,ih,List.map_cons,hr]
end Go.Ab.Pl

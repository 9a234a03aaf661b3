/-
  Fields that no node mentions: the plain law.
-/
import Derived.Test.YtfpmflgjbpnkjaaAb41P65
set_option linter.unusedVariables false
set_option linter.unusedSimpArgs false
set_option linter.unusedSectionVars false
namespace Go.Ab.Pl
open Go.Ab.Pol
set_option maxRecDepth 100000
set_option maxHeartbeats 2000000
section
variable {vl vl':Nd→Vl} (h0:vl (numN 0)=vl' (numN 0))
include h0
theorem kid_congr {ks:List Tr} (h:∀ k∈ks,vl k.n=vl' k.n) (i:Nat):vl (kidN ks i)=vl' (kidN ks i):=by
 unfold kidN
 cases e:ks[i]? with
 | none=>exact h0
 | some t=>exact h t (List.mem_of_getElem? e)
mutual
theorem truth_congr:∀ (t:Tr),(∀ s∈t.subs,vl s.n=vl' s.n)→truth vl t=truth vl' t
 | .nd i n ks,h=>by
  have hk:∀ k∈ks,vl k.n=vl' k.n:=fun k hk=>h k (by
   simp only [Tr.subs,List.mem_cons]
   exact .inr (subss_mem hk (subs_self k)))
  have hs:=truths_congr ks (fun x hx s hs=>h s (by
   simp only [Tr.subs,List.mem_cons]
   exact .inr (subss_mem hx hs)))
  have k0:=kid_congr h0 hk 0
  have k1:=kid_congr h0 hk 1
  have k2:=kid_congr h0 hk 2
  have ka:((ks.drop 1).any fun t=>cmpV 0 (vl (kidN ks 0)) (vl t.n))=((ks.drop 1).any fun t=>cmpV 0 (vl' (kidN ks 0)) (vl' t.n)):=by
   rw [k0]
   rw [Bool.eq_iff_iff,List.any_eq_true,List.any_eq_true]
   constructor
   ·rintro ⟨x,hx,e⟩
    exact ⟨x,hx,by rw [←hk x (List.mem_of_mem_drop hx)];exact e⟩
   ·rintro ⟨x,hx,e⟩
    exact ⟨x,hx,by rw [hk x (List.mem_of_mem_drop hx)];exact e⟩
  simp only [truth,hs,k0,k1,k2] at ka ⊢
  rw [ka]
theorem truths_congr:∀ (ts:List Tr),(∀ x∈ts,∀ s∈x.subs,vl s.n=vl' s.n)→truths vl ts=truths vl' ts
 | [],_=>rfl
 | t :: ts,h=>by
  simp only [truths]
  rw [truth_congr t (h t (by simp)),truths_congr ts (fun x hx=>h x (by simp [hx]))]
end
end
def setR (xs:List (Sl Int)) (i k:Nat) (n:Int):List (Sl Int):=xs.modify i fun r=>⟨r.nl,r.l.set k n⟩
theorem setR_len (xs:List (Sl Int)) (i k:Nat) (n:Int):(setR xs i k n).length=xs.length:=by simp [setR]
theorem setR_get (xs:List (Sl Int)) (i k:Nat) (n:Int) (u:Nat):(setR xs i k n)[u]?=(xs[u]?).map fun r=>if i=u then ⟨r.nl,r.l.set k n⟩ else r:=by
 unfold setR
 rw [List.getElem?_modify]
 cases xs[u]?<;>rfl
theorem vl_set {p:Po} {l:List Sc} {xs:List (Sl Int)} {i k:Nat} {n:Int} {m:Nd} (h:m.k≠10→m.k≠11→∀ u j,useI p.uses.l m.nm=some u→fdI (scU p l u) m.attr=some j→¬ (i=u∧k=j)) :
  vlOf p l xs m=vlOf p l (setR xs i k n) m:=by
 unfold vlOf
 by_cases c1:m.k=10
 ·simp [c1]
 by_cases c2:m.k=11
 ·simp [c1,c2]
 rw [if_neg c1,if_neg c1,if_neg c2,if_neg c2]
 cases e:useI p.uses.l m.nm with
 | none=>rfl
 | some u=>
  simp only
  unfold valAt
  cases e2:fdI (scU p l u) m.attr with
  | none=>rfl
  | some j=>
   simp only
   have hne:=h c1 c2 u j e e2
   rw [setR_get]
   cases xs[u]? with
   | none=>rfl
   | some r=>
    simp only [Option.map_some]
    by_cases c:i=u
    ·rw [if_pos c]
     simp only
     rw [List.getElem?_set_ne (fun e=>hne ⟨c,e⟩)]
    ·rw [if_neg c]
theorem adm_set {p:Po} {l:List Sc} {xs:List (Sl Int)} {i k:Nat} {n:Int} (h:admE p l xs=0):admE p l (setR xs i k n)=0∨admE p l (setR xs i k n)=2:=by
 obtain ⟨a1,a2,a3⟩:=adm_len h
 have b:(setR xs i k n).zipIdx.all (lenOk p l)=true:=List.all_eq_true.2 fun q hq=>by
  have hq:=List.mem_zipIdx_iff_getElem?.1 hq
  rw [setR_get] at hq
  cases e:xs[q.2]? with
  | none=>rw [e] at hq;cases hq
  | some r=>
   rw [e] at hq
   simp only [Option.map_some,Option.some.injEq] at hq
   have:=List.all_eq_true.1 a2 (r,q.2) (List.mem_zipIdx_iff_getElem?.2 e)
   simp only [lenOk,decide_eq_true_eq] at this ⊢
   rw [←this,←hq]
   split<;>simp
 unfold admE
 rw [setR_len,if_neg (by omega),if_neg (by rw [b];simp)]
 split
 ·exact .inr rfl
 ·exact .inl rfl
end Go.Ab.Pl

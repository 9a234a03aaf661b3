/-
  The normal form of a policy: what the program's function answers, in plain words.
-/
import Derived.Test.YtfpmflgjbpnkjaaGreatAbNf5
import Derived.Test.YtfpmflgjbpnkjaaGreatAb4zP29
import Derived.Test.YtfpmflgjbpnkjaaGreatAbRefs
import Derived.Test.YtfpmflgjbpnkjaaGreatAb4zP18b
set_option linter.unusedVariables false
set_option linter.unusedSimpArgs false
set_option linter.unusedSectionVars false
namespace Go.Ab.Pz
open Go.Ab.Pol
set_option maxRecDepth 100000
set_option maxHeartbeats 2000000
def normC (p:Po) (l:List Sc) (t:Tr):Cd:=norm (fdOf p.uses.l l) false t
def normP (p:Po) (l:List Sc) (t:Tr):Po:=nodP p (normC p l t)
def normR (p:Po) (l:List Sc) (t:Tr):Po×Int:=
 if (typT p l t).2≠0 then (zPo,(typT p l t).2) else if chk (normP p l t)≠0 then (zPo,chk (normP p l t)) else (normP p l t,0)
theorem norm_le {p:Po} {t:Tr} (g:Pol.Good p t) (l:List Sc):(normC p l t).size≤9 * p.nodes.l.length:=by
 have h1:=norm_size (fdOf p.uses.l l) t false
 have h2:t.subs.length=t.pre.length:=by rw [pre_subs];simp
 rw [h2,g.all] at h1
 exact h1
theorem numN_ok (n:Int):okN (numN n):=by simp [numN,okN,okS]
theorem norm_okN {p:Po} (z:Sz p) {t:Tr} (ht:Pol.IsT p.nodes.l t) (fd:Nd→Pol.Fd) (neg:Bool):VsP okN (norm fd neg t):=
 norm_vs numN_ok t neg fun s hs=>(z.nodes.2 s.n (List.mem_of_getElem? (sub_node (subs_isT ht s hs)).1)).1
theorem sz_nod {p:Po} (z:Sz p) {c:Cd} (hc:VsP okN c) (hs:c.size≤1000):Sz (nodP p c):=by
 refine ⟨z.name,z.scope,z.escrow,z.uses,z.reveal,?_,?_⟩
 ·show (flat 0 c).length≤1000
  rw [flat_len];exact hs
 ·intro n hn
  rcases flat_vs c 0 hc n hn with ⟨v,hv,rfl⟩ | ⟨q1,q2,q3,_⟩
  ·exact ⟨hv,by simp [leafN]⟩
  ·exact ⟨⟨by rw [q1];simp [okS],by rw [q2];simp [okS]⟩,by omega⟩
theorem normR_ok {p:Po} {l:List Sc} {t:Tr} (ht:chk p=0→Pol.Good p t) (h:(normR p l t).2=0) :
  Pol.Good p t∧FitP p l t∧(typT p l t).2=0∧chk (normP p l t)=0∧(normR p l t).1=normP p l t:=by
 unfold normR at h ⊢
 by_cases h1:(typT p l t).2=0
 case neg=>rw [if_pos h1] at h;exact absurd h h1
 rw [if_neg (by simp [h1])] at h ⊢
 by_cases h2:chk (normP p l t)=0
 case neg=>rw [if_pos h2] at h;exact absurd h h2
 rw [if_neg (by simp [h2])]
 obtain ⟨hF,_⟩:=fit_of h1
 exact ⟨ht (ready_of hF.ready).chk,hF,h1,h2,rfl⟩
theorem normR_no {p:Po} {l:List Sc} {t:Tr} (h:(normR p l t).2≠0):(normR p l t).1=zPo:=by
 unfold normR at h ⊢
 split
 ·rfl
 split
 ·rfl
 ·rename_i h1 h2
  rw [if_neg h1,if_neg h2] at h
  exact absurd rfl h
end Go.Ab.Pz
/-
  The normal form: the program's small functions.
-/
namespace Go.Ab.Pz
open Go.Ab.Pol
set_option maxRecDepth 100000
set_option maxHeartbeats 2000000
abbrev atAV (k num:Int) (vs:List Nd):AV:=.iface 180 (.agg [iV k,iV num,.str [],.str [],.nils,iV 0,Sl.avS Nd.av ⟨true,vs⟩])
mutual
def cdAV:Cd→AV
 | .atom k num vs=>atAV k num vs
 | .gate need ks=>.iface 182 (.agg [iV need,.lst (cdAVs ks)])
def cdAVs:List Cd→List AV
 | []=>[]
 | c :: cs=>cdAV c :: cdAVs cs
end
theorem cdAVs_map:∀ cs:List Cd,cdAVs cs=cs.map cdAV
 | []=>rfl
 | c :: cs=>by simp [cdAVs,cdAVs_map cs]
@[simp] theorem cd_refOk (q:Loc→Bool) (c:Cd):(cdAV c).refOk q=true:=by cases c<;>simp [cdAV,AV.refOk,AV.refOks]
@[simp] theorem cd_view (q:Loc→Bool) (c:Cd) (h:Heap):(cdAV c).view q h=some (cdAV c,h):=view_pure _ (cd_refOk _ _) _ _
@[simp] theorem cd_cells (c:Cd):(cdAV c).cells=[cdAV c]:=by cases c<;>rfl
@[simp] theorem cd_isAgg (c:Cd):(cdAV c).isAgg=false:=by cases c<;>rfl
@[simp] theorem cd_ren (r:Loc→Loc) (c:Cd):(cdAV c).ren r=cdAV c:=by cases c<;>simp [cdAV,AV.ren,AV.rens]
abbrev mkAV (p:Po) (l:Sl Sc):AV:=.agg (p.cs++[l.avS Sc.av])
theorem f68 (n:Int) (hn:How n) (h:Heap):(mu K).fn 68 [iV n] h=some (.val (iV (complement n)) h):=by
 rw [fn_go (KX _ _ _) fn68 rfl (by simp [c68])]
 rcases hn with rfl | rfl | rfl | rfl | rfl | rfl<;>simp [c68,KL,lendF,complement]
theorem f116 (n:Int) (hn:How n) (h:Heap):(mu K).fn 116 [iV n] h=some (.val (iV (mirror n)) h):=by
 rw [fn_go (KX _ _ _) fn116 rfl (by simp [c116])]
 rcases hn with rfl | rfl | rfl | rfl | rfl | rfl<;>simp [c116,KL,lendF,mirror]
theorem f72 (b:Bool) (h:Heap):(mu K).fn 72 [.bool b] h=some (.val (cdAV (cB b)) h):=by
 rw [fn_go (KX _ _ _) fn72 rfl (by simp [c72])]
 cases b<;>simp [c72,KL,lendF,cB,cdAV,Sl.avS,lv]
theorem f122 (n:Int) (h:Heap):(mu K).fn 122 [iV n] h=some (.val (numN n).av h):=by
 rw [fn_go (KX _ _ _) fn122 rfl (by simp [c122])]
 simp [c122,KL,lendF,numN,Sl.avS,lv]
theorem f121 (how:Int) (a b:Nd) (h:Heap):(mu K).fn 121 [iV how,a.av,b.av] h=some (.val (cdAV (relC how a b)) h):=by
 have qa:=beq_avS _ beq_iV a.kids
 have qb:=beq_avS _ beq_iV b.kids
 have e:∀ n m:Nd,Sl.avS Nd.av ⟨true,[n,m]⟩=.lst [n.av,m.av]:=fun n m=>by simp [Sl.avS,lv]
 rw [fn_go (KX _ _ _) fn121 rfl (by simp [c121])]
 simp [c121,KL,lendF,relC,cdAV,e,qa,qb]
theorem f117 (how a b:Int) (h:Heap):(mu K).fn 117 [iV how,iV a,iV b] h=some (.val (.bool (cmpI how a b)) h):=by
 rw [fn_go (KX _ _ _) fn117 rfl (by simp [c117])]
 unfold cmpI
 by_cases h0:how=0
 ·simp [c117,KL,lendF,h0]
 by_cases h1:how=1
 ·simp [c117,KL,lendF,h1]
 by_cases h2:how=2
 ·simp [c117,KL,lendF,h2]
 by_cases h3:how=3
 ·simp [c117,KL,lendF,h3]
 by_cases h4:how=4
 ·simp [c117,KL,lendF,h4]
 ·simp [c117,KL,lendF,h0,h1,h2,h3,h4]
theorem fdR {p:Po} {l:List Sc} (hr:readyE p l=0) (n:Nd):fdAV (fieldR p l ⟨n.nm,n.attr⟩).1=(fdOf p.uses.l l n).av:=by
 unfold fieldR fdOf
 rw [if_neg (by simp [hr])]
 cases findF p.uses.l l ⟨n.nm,n.attr⟩ with
 | none=>simp [fdAV,zFd,Sl.avS,lv]
 | some q=>obtain ⟨u,k,f⟩:=q;rfl
theorem f119 (p:Po) (hp:Sz p) (l:Sl Sc) (hl:okL l) (hr:readyE p l.l=0) (n:Nd) (h:Heap):(mu K).fn 119 [mkAV p l,n.av] h=some (.val (fdOf p.uses.l l.l n).av h):=by
 have k40:=fun h=>f159 p hp l hl ⟨n.nm,n.attr⟩ h
 have e:=fdR hr n
 obtain ⟨a,b,hab⟩:∃ a b,plAV (fieldR p l.l ⟨n.nm,n.attr⟩).1=.agg [iV a,iV b]:=by
  cases (fieldR p l.l ⟨n.nm,n.attr⟩).1 with
  | none=>exact ⟨0,0,rfl⟩
  | some q=>obtain ⟨u,k,f⟩:=q;exact ⟨_,_,rfl⟩
 simp only [e,hab] at k40
 generalize fdOf p.uses.l l.l n=f at *
 rw [fn_go (KX _ _ _) fn119 rfl (by simp [c119])]
 simp [c119,KL,lendF,k40]
end Go.Ab.Pz
/-
  The normal form: ranges and comparisons of fields.
-/
namespace Go.Ab.Pz
open Go.Ab.Pol
set_option maxRecDepth 100000
set_option maxHeartbeats 2000000
structure FdX (f:Pol.Fd):Prop where
 kind:f.kind=0∨f.kind=1
 lo:-2147483648≤f.mn
 hi:f.mx≤2147483647
 le:f.mn≤f.mx
theorem fdx_of {f:Pol.Fd} (h:fieldE f=0):FdX f:=by
 unfold fieldE at h
 split at h
 ·rename_i k0
  split at h
  ·simp at h
  split at h
  ·simp at h
  ·rename_i c
   exact ⟨.inl k0,by omega,by omega,by omega⟩
 split at h
 ·rename_i k1
  split at h
  ·simp at h
  ·rename_i c
   exact ⟨.inr k1,by omega,by omega,by omega⟩
 ·simp at h
theorem fieldsL_mem:∀ {l:List Pol.Fd} {met:List Bs},fieldsL met l=0→∀ f∈l,fieldE f=0
 | [],_,_,f,hf=>by cases hf
 | x :: l,met,h,f,hf=>by
  simp only [fieldsL] at h
  split at h
  ·simp at h
  split at h
  ·simp at h
  split at h
  ·rename_i a;exact absurd h a
  ·rename_i a
   rcases List.mem_cons.1 hf with rfl | hf
   ·simpa using a
   ·exact fieldsL_mem h f hf
theorem fdx_sch {s:Sc} (h:schE s=0) {f:Pol.Fd} (hf:f∈s.fields.l):FdX f:=by
 unfold schE at h
 split at h
 ·simp at h
 split at h
 ·simp at h
 ·exact fdx_of (fieldsL_mem h f hf)
theorem fdx_fd {p:Po} {l:List Sc} (hs:∀ s∈l,schE s=0) (n:Nd):FdX (fdOf p.uses.l l n):=by
 unfold fdOf
 cases e:findF p.uses.l l ⟨n.nm,n.attr⟩ with
 | none=>exact ⟨.inl rfl,by simp [zFd],by simp [zFd],by simp [zFd]⟩
 | some q=>
  obtain ⟨u,k,f⟩:=q
  obtain ⟨s,h1,h2⟩:=find_mem e
  exact fdx_sch (hs s h1) h2
section
variable (p:Po) (hp:Sz p) (l:Sl Sc) (hl:okL l) (hr:readyE p l.l=0)
include hp hl hr
theorem f74 (x:Nd) (lo hi:Int) (h:Heap):(mu K).fn 74 [mkAV p l,x.av,iV lo,iV hi] h=some (.val (cdAV (within (fdOf p.uses.l l.l) x lo hi)) h):=by
 have k177:=fun h=>f119 p hp l hl hr x h
 unfold within
 generalize fdOf p.uses.l l.l x=f at *
 have m1:mmList true (iV lo) [iV f.mn]=some (iV (max lo f.mn)):=by
  simp only [mmList,if_true]
  congr 2
  split<;>omega
 have m2:mmList false (iV hi) [iV f.mx]=some (iV (min hi f.mx)):=by
  simp only [mmList]
  congr 2
  split<;>simp_all<;>omega
 generalize max lo f.mn=A at *
 generalize min hi f.mx=B at *
 have q1:=beq_avS _ beq_us p.uses
 have q2:=beq_avS _ beq_rf p.reveal
 have q3:=beq_avS _ beq_nd p.nodes
 have q4:=beq_avS _ beq_sc l
 have qx:=beq_avS _ beq_iV x.kids
 have k144:=fun b h=>f72 b h
 have k179:=fun n a b h=>f121 n a b h
 have k180:=fun n h=>f122 n h
 have nav:∀ n:Int,(numN n).av=.agg [iV 10,iV n,.str [],.str [],.nils,iV 0]:=fun n=>by simp [numN,Sl.avS,lv]
 simp only [mkAV,Po.cs,List.cons_append,List.nil_append] at k177 ⊢
 rw [fn_go (KX _ _ _) fn74 rfl (by simp [c74])]
 by_cases c1:B < A
 ·simp [c74,KL,lendF,k177,m1,m2,q1,q2,q3,q4,qx,c1,k144]
 by_cases c2:A=f.mn∧B=f.mx
 ·obtain ⟨c2,c3⟩:=c2
  have d1:(f.mx < f.mn)=False:=by simp;omega
  simp [c74,KL,lendF,k177,m1,m2,q1,q2,q3,q4,qx,c2,c3,d1,k144]
 by_cases c3:A=B
 ·have k179':=k179 0 x (numN B)
  rw [nav] at k179'
  subst c3
  by_cases d:A=f.mn
  ·subst d
   have d2:(f.mn=f.mx)=False:=by simp;intro q;exact c2 ⟨rfl,q⟩
   simp [c74,KL,lendF,k177,m1,m2,q1,q2,q3,q4,qx,d2,k180,nav,k179']
  ·simp [c74,KL,lendF,k177,m1,m2,q1,q2,q3,q4,qx,d,k180,nav,k179']
 ·have e3:Sl.avS Nd.av ⟨true,[x,numN A,numN B]⟩=.lst [x.av,(numN A).av,(numN B).av]:=by simp [Sl.avS,lv]
  rw [if_neg c1,if_neg c2,if_neg c3]
  simp only [cdAV,atAV,e3,nav]
  by_cases d:A=f.mn
  ·subst d
   have d2:(B=f.mx)=False:=by simp;intro q;exact c2 ⟨rfl,q⟩
   simp [c74,KL,lendF,k177,m1,m2,q1,q2,q3,q4,qx,c1,c3,d2,k180,nav]
  ·simp [c74,KL,lendF,k177,m1,m2,q1,q2,q3,q4,qx,c1,c3,d,k180,nav]
theorem f118 (how:Int) (hh:How how) (x:Nd) (c:Int) (hc:-2147483648≤c∧c≤2147483647) (h:Heap):(mu K).fn 118 [mkAV p l,iV how,x.av,iV c] h=some (.val (cdAV (bounded (fdOf p.uses.l l.l) how x c)) h):=by
 have k177:=fun h=>f119 p hp l hl hr x h
 have k146:=fun lo hi h=>f74 p hp l hl hr x lo hi h
 unfold bounded
 generalize hW:within (fdOf p.uses.l l.l) x=W at *
 generalize fdOf p.uses.l l.l x=f at *
 have q1:=beq_avS _ beq_us p.uses
 have q2:=beq_avS _ beq_rf p.reveal
 have q3:=beq_avS _ beq_nd p.nodes
 have q4:=beq_avS _ beq_sc l
 have qx:=beq_avS _ beq_iV x.kids
 have k144:=fun b h=>f72 b h
 have k179:=fun n a b h=>f121 n a b h
 have k180:=fun n h=>f122 n h
 have w1:IntKind.i64.wrap (c - 1)=c - 1:=wrap64 (by omega) (by omega)
 have w2:IntKind.i64.wrap (c+1)=c+1:=wrap64 (by omega) (by omega)
 have nav:∀ n:Int,(numN n).av=.agg [iV 10,iV n,.str [],.str [],.nils,iV 0]:=fun n=>by simp [numN,Sl.avS,lv]
 simp only [mkAV,Po.cs,List.cons_append,List.nil_append] at k177 k146 ⊢
 rw [fn_go (KX _ _ _) fn118 rfl (by simp [c118])]
 rcases hh with rfl | rfl | rfl | rfl | rfl | rfl
 ·simp [c118,KL,lendF,k177,k146,q1,q2,q3,q4,qx,w1,w2]
 ·have k179':=k179 1 x (numN c)
  rw [nav] at k179'
  by_cases c1:c < f.mn
  ·simp [c118,KL,lendF,k177,q1,q2,q3,q4,qx,c1,k144]
  by_cases c2:f.mx < c
  ·simp [c118,KL,lendF,k177,q1,q2,q3,q4,qx,c1,c2,k144]
  by_cases c3:f.mn=f.mx
  ·have c1':(c < f.mx)=False:=by simp;omega
   simp [c118,KL,lendF,k177,q1,q2,q3,q4,qx,c1',c2,c3,k144]
  ·simp [c118,KL,lendF,k177,q1,q2,q3,q4,qx,c1,c2,c3,k180,nav,k179']
 ·simp [c118,KL,lendF,k177,k146,q1,q2,q3,q4,qx,w1,w2]
 ·simp [c118,KL,lendF,k177,k146,q1,q2,q3,q4,qx,w1,w2]
 ·simp [c118,KL,lendF,k177,k146,q1,q2,q3,q4,qx,w1,w2]
 ·simp [c118,KL,lendF,k177,k146,q1,q2,q3,q4,qx,w1,w2]
end
end Go.Ab.Pz

/-
  The examples of chapter 47, by the kernel.
-/
import Derived.Test.YtjnomgdildcbhaaGreatDoorAb4dT2
import Derived.Test.YtjnomgdildcbhaaGreatDoorAbPlanP
import Derived.Test.YtjnomgdildcbhaaGreatDoorAbFlat
import Derived.Test.YtjnomgdildcbhaaGreatDoorAbNf5
set_option linter.unusedVariables false
set_option linter.unusedSimpArgs false
namespace Go.Ab.Pn
open Go.Ab Go.Ab.Pol
set_option maxRecDepth 100000
theorem CP (f:List Blk):(evF K4 100).fn 11 [] [f]=some (.val (.bool true) [f]):=by kernel_rfl
theorem Ml (f:List Blk):(mu K4).fn 11 [] [f]=some (.val (.bool true) [f]):=(pN K4 100).fn _ _ _ _ (CP f)
end Go.Ab.Pn
/-
  The place of a field, the type of a value: the program.
-/
set_option linter.unusedSectionVars false
namespace Go.Ab.Pn
open Go.Ab.Pol
set_option maxRecDepth 100000
set_option maxHeartbeats 1000000
def Hr (l:List Sc) (attr:Bs) (b:Nat) (u:Us):Option (Nat×Nat×Pol.Fd):=match scN l u.sc with
 | none=>none
 | some s=>match fdI s attr with
  | none=>none
  | some k=>match s.fields.l[k]? with
   | none=>none
   | some f=>some (b,k,f)
def MI (l:List Sc) (r:Rf) (b:Nat) (u:Us):Nat ⊕ Option (Nat×Nat×Pol.Fd):=if u.al=r.al then .inr (Hr l r.attr b u) else .inl (b+1)
theorem CQ (l:List Sc) (r:Rf):∀ (us:List Us) (b:Nat),iter (MI l r) b us=match rO us r.al with
  | none=>.inl (b+us.length)
  | some u=>.inr (match us[u]? with
   | none=>none
   | some x=>Hr l r.attr (b+u) x)
 | [],b=>by simp [iter,rO]
 | x :: us,b=>by
  have ih:=CQ l r us (b+1)
  unfold rO at ih ⊢
  simp only [iter,MI,List.findIdx?_cons]
  by_cases e:x.al=r.al
  ·simp [e]
  ·simp only [e,if_false,ih,decide_false,Bool.false_eq_true]
   cases us.findIdx? (fun u=>decide (u.al=r.al)) with
   | none=>simp;omega
   | some k=>
    have e2:b+1+k=b+(k+1):=by omega
    simp [e2]
theorem Fh (us:List Us) (l:List Sc) (r:Rf):findF us l r=match rO us r.al with
  | none=>none
  | some u=>match us[u]? with
   | none=>none
   | some x=>Hr l r.attr u x:=rfl
def iW:Option (Nat×Nat×Pol.Fd)->AV
 | none=>.agg [iV 0,iV 0]
 | some (u,k,_)=>.agg [iV (u:Int),iV ((k:Int)+2)]
def iM:Option (Nat×Nat×Pol.Fd)->AV
 | none=>.agg [.str [],iV 0,iV 0,iV 0,.af]
 | some (_,_,f)=>f.av
theorem f86 (p:Po) (hp:p.uses.l.length<=1000) (l:Sl Sc) (hl:okL l) (r:Rf) (h:Heap):(mu K).fn 86 [dQ p l,r.av] h=some (.val (.tup [iW (findF p.uses.l l.l r),iM (findF p.uses.l l.l r),.bool (findF p.uses.l l.l r).isSome]) h):=by
 have key:=aF (K:=K) (n:=4) (live:=[2,3,4,5,15,16,17]) (a:=qq) (MI l.l r)
  (fun pre b=>⟨[(2,.ptr (h.length,0) 0),(3,.ptr (h.length,1) 0),(4,.ptr (h.length,2) 0),(5,.ptr (h.length,3) 0),(15,p.uses.avS Us.av),(16,.int .i64 (p.uses.l.length:Int)),(17,.int .i64 (pre.length:Int))],
   [.box 170 false (dQ p l),.box 54 false r.av,.box 47 false (.agg [iV 0,iV 0]),.box 50 false (.agg [.str [],iV 0,iV 0,iV 0,.af])] :: h⟩) (fun pre b=>b=pre.length)
  (fun b o=>∃ env R,o=some (.exit 0,⟨env,(.box 170 false (dQ p l) :: .box 54 false r.av :: .box 47 false (.agg [iV 0,iV 0]) :: .box 50 false (.agg [.str [],iV 0,iV 0,iV 0,.af]) :: R) :: h⟩)∧get env 4=.ptr (h.length,2) 0∧get env 5=.ptr (h.length,3) 0)
  (fun q o=>match q with
   | none=>∃ env R,o=some (.exit 0,⟨env,(.box 170 false (dQ p l) :: .box 54 false r.av :: .box 47 false (.agg [iV 0,iV 0]) :: .box 50 false (.agg [.str [],iV 0,iV 0,iV 0,.af]) :: R) :: h⟩)∧get env 4=.ptr (h.length,2) 0∧get env 5=.ptr (h.length,3) 0
   | some (u,k,f)=>∃ env R,o=some (.ret,⟨env,(.box 170 false (dQ p l) :: .box 54 false r.av :: .box 47 false (.agg [iV (u:Int),iV ((k:Int)+2)]) :: .box 50 false f.av :: R) :: h⟩)∧get env 4=.ptr (h.length,2) 0∧get env 5=.ptr (h.length,3) 0∧get env 6=.bool true) p.uses.l
  (fun pre x rr b hl' hb=>by
   obtain ⟨h1,h2,w1⟩:=aG hl' (by omega)
   have hix:=fun (k:IntKind)=>aH (av:=Us.av) (sz:=2) (s:=p.uses) (k:=k) (j:=(pre.length:Int)) (x:=x) (by omega) (by simpa using h2) rfl
   have k:∀ h,(mu K).fn 139 [l.avS Sc.av,.str x.sc] h=_:=fun h=>f139 l.nl l.l hl.len x.sc h
   rw [ay]
   generalize (mu K).code (.aj 4 [2,3,4,5,15,16,17] qq)=F
   clear hl'
   unfold MI
   by_cases e:x.al=r.al
   case neg=>simp [qq,KL,aa,h1,hix,w1,e,hb]
   have d:(x.al=r.al)=True:=by simp [e]
   simp only [d,if_true]
   refine ⟨fun _ q=>(by cases q),fun q hq=>?_⟩
   injection hq with hq
   subst hq
   unfold Hr
   cases es:scN l.l x.sc with
   | none=>
    rw [es] at k
    have z0:uL none=.agg [.str [],.af]:=rfl
    rw [z0] at k
    simp [qq,KL,aa,h1,hix,w1,d,k]
   | some s=>
    rw [es] at k
    have z0:uL (some s)=s.av:=rfl
    rw [z0] at k
    have hs:=hl.sc s (rP es).1
    have k2:=fun h=>f140 s hs.len r.attr h
    cases ef:fdI s r.attr with
    | none=>
     rw [ef] at k2
     simp [qq,KL,aa,h1,hix,w1,d,k,k2,ef]
    | some i=>
     rw [ef] at k2
     have hi:i < s.fields.l.length:=by
      unfold fdI at ef
      exact (List.findIdx?_eq_some_iff_getElem.1 ef).1
     have hg:s.fields.l[i]?=some s.fields.l[i]:=List.getElem?_eq_getElem hi
     generalize s.fields.l[i]=f at *
     have hiy:=fun (k:IntKind)=>aH (av:=Fd.av) (sz:=5) (s:=s.fields) (k:=k) (j:=(i:Int)) (x:=f) (by omega) (by simpa using hg) rfl
     have w2:IntKind.i64.wrap ((i:Int)+2)=(i:Int)+2:=wrap64 (by omega) (by have:=hs.len;omega)
     have q1:=au _ vP s.fields
     have q2:=au _ bX f.words
     simp [qq,KL,aa,h1,hix,w1,w2,d,k,k2,hiy,q1,q2,hb,ef,hg])
  (fun b _=>by
   rw [ay]
   generalize (mu K).code (.aj 4 [2,3,4,5,15,16,17] qq)=F
   simp [qq]) 0 rfl
 simp only [List.length_nil,Int.natCast_zero] at key
 rw [CQ] at key
 rw [Fh]
 rw [aD (KX _ _ _) WW rfl (by simp [c86])]
 cases eu:rO p.uses.l r.al with
 | none=>
  rw [eu] at key
  obtain ⟨_,env,R,k,g4,g5⟩:=key
  simp [c86,KL,aa,k,g4,g5,iW,iM]
 | some u=>
  rw [eu] at key
  simp only [Nat.zero_add] at key ⊢
  generalize (match p.uses.l[u]? with | none=>none | some x=>Hr l.l r.attr u x)=q at *
  cases q with
  | none=>
   obtain ⟨env,R,k,g4,g5⟩:=key
   simp [c86,KL,aa,k,g4,g5,iW,iM]
  | some q=>
   obtain ⟨u',k',f⟩:=q
   obtain ⟨env,R,k,g4,g5,g6⟩:=key
   simp [c86,KL,aa,k,g4,g5,g6,iW,iM]
end Go.Ab.Pn
/-
  Types of values: the program.
-/
namespace Go.Ab.Pn
open Go.Ab.Pol
set_option maxRecDepth 100000
set_option maxHeartbeats 1000000
structure PV where
 number:Bool
 words:Sl Bs
 name:Bs
abbrev PV.av (x:PV):AV:=.agg [.bool x.number,x.words.avS .str,.str x.name]
def PV.vt (x:PV):VT:=if x.number=true then .num else if x.words.l=[] then .wd x.name else .fw x.words.l
structure PV.ok (x:PV):Prop where
 len:x.words.l.length<=1000
 nn:x.number=true∨x.words.l≠[]∨x.words.nl=true
def uP (us:List Us) (l:List Sc) (n:Nd):Option PV:=
 if n.k=10 then some ⟨true,⟨true,[]⟩,[]⟩ else if n.k=11 then some ⟨false,⟨true,[]⟩,n.nm⟩ else match findF us l ⟨n.nm,n.attr⟩ with
  | none=>none
  | some (_,_,f)=>some ⟨decide (f.kind=0),f.words,[]⟩
def Eu:Option PV->AV
 | none=>.agg [.bool true,.af,.str []]
 | some v=>v.av
theorem qL {us:List Us} {l:List Sc} {r:Rf} {u k:Nat} {f:Pol.Fd} (h:findF us l r=some (u,k,f)):∃ s∈l,f∈s.fields.l:=by
 unfold findF at h
 cases e1:rO us r.al with
 | none=>rw [e1] at h;cases h
 | some u'=>
  rw [e1] at h
  simp only at h
  cases e2:us[u']? with
  | none=>rw [e2] at h;cases h
  | some x=>
   rw [e2] at h
   simp only at h
   cases e3:scN l x.sc with
   | none=>rw [e3] at h;cases h
   | some s=>
    rw [e3] at h
    simp only at h
    cases e4:fdI s r.attr with
    | none=>rw [e4] at h;cases h
    | some k'=>
     rw [e4] at h
     simp only at h
     cases e5:s.fields.l[k']? with
     | none=>rw [e5] at h;cases h
     | some g=>
      rw [e5] at h
      simp only [Option.some.injEq,Prod.mk.injEq] at h
      obtain ⟨_,_,rfl⟩:=h
      exact ⟨s,(rP e3).1,List.mem_of_getElem? e5⟩
theorem qM:∀ {l:List Pol.Fd} {met:List Bs},eU met l=0->∀ f∈l,dm f=0
 | [],met,h,f,hf=>by simp at hf
 | x :: l,met,h,f,hf=>by
  simp only [eU] at h
  split at h
  ·simp at h
  split at h
  ·simp at h
  split at h
  ·rename_i a;exact absurd h a
  ·rename_i a
   have a:dm x=0:=by simpa using a
   rcases List.mem_cons.1 hf with rfl | hf
   ·exact a
   ·exact qM h f hf
theorem Ah {s:Sc} (h:iZ s=0):∀ f∈s.fields.l,dm f=0:=by
 unfold iZ at h
 split at h
 ·simp at h
 split at h
 ·simp at h
 ·exact qM h
theorem uh {f:Pol.Fd} (h:dm f=0):f.kind≠0->f.words.l≠[]:=by
 intro hk e
 unfold dm at h
 rw [if_neg hk] at h
 split at h
 ·split at h
  ·simp at h
  ·unfold rW at h
   rw [e] at h
   simp at h
 ·simp at h
theorem UR {us:List Us} {l:List Sc} (hs:∀ s∈l,iZ s=0) (n:Nd):cP us l n=(uP us l n).map PV.vt:=by
 unfold cP uP
 split
 ·simp [PV.vt]
 split
 ·simp [PV.vt]
 ·cases e:findF us l ⟨n.nm,n.attr⟩ with
  | none=>rfl
  | some q=>
   obtain ⟨u,k,f⟩:=q
   obtain ⟨s,h1,h2⟩:=qL e
   have:=uh (Ah (hs s h1) f h2)
   simp only [Option.map_some,PV.vt]
   by_cases hk:f.kind=0
   ·simp [hk]
   ·simp [hk,this hk]
theorem UT {us:List Us} {l:Sl Sc} (hl:okL l) (hs:∀ s∈l.l,iZ s=0) (n:Nd) {v:PV} (h:uP us l.l n=some v):v.ok:=by
 unfold uP at h
 split at h
 ·injection h with h;subst h;exact ⟨by simp,.inl rfl⟩
 split at h
 ·injection h with h;subst h;exact ⟨by simp,.inr (.inr rfl)⟩
 ·cases e:findF us l.l ⟨n.nm,n.attr⟩ with
  | none=>rw [e] at h;cases h
  | some q=>
   obtain ⟨u,k,f⟩:=q
   rw [e] at h
   obtain ⟨s,h1,h2⟩:=qL e
   have:=uh (Ah (hs s h1) f h2)
   injection h with h
   subst h
   refine ⟨((hl.sc s h1).fields f h2).len,?_⟩
   by_cases hk:f.kind=0
   ·exact .inl (by simp [hk])
   ·exact .inr (.inl (this hk))
theorem f213 (p:Po) (hp:p.uses.l.length<=1000) (l:Sl Sc) (hl:okL l) {i:Nat} {n:Nd} (hn:p.nodes.l[i]?=some n) (h:Heap) :
  (mu K).fn 213 [dQ p l,.int .i64 (i:Int)] h=some (.val (.tup [Eu (uP p.uses.l l.l n),.bool (uP p.uses.l l.l n).isSome]) h):=by
 have k:=fun h=>f86 p hp l hl ⟨n.nm,n.attr⟩ h
 have hix:=fun (k:IntKind)=>aH (av:=Nd.av) (sz:=6) (s:=p.nodes) (k:=k) (j:=(i:Int)) (x:=n) (by omega) (by simpa using hn) rfl
 rw [aD (KX _ _ _) TQ rfl (by simp [Hh])]
 unfold uP
 by_cases c1:n.k=10
 ·have d:(n.k=10)=True:=by simp [c1]
  simp [Hh,KL,aa,hix,d,Eu]
  rfl
 by_cases c2:n.k=11
 ·have d:(n.k=11)=True:=by simp [c2]
  have d1:(n.k=10)=False:=by simp [c1]
  simp [Hh,KL,aa,hix,d,d1,Eu]
  rfl
 rw [if_neg c1,if_neg c2]
 cases e:findF p.uses.l l.l ⟨n.nm,n.attr⟩ with
 | none=>
  rw [e] at k
  simp only [iW,iM] at k
  simp [Hh,KL,aa,hix,c1,c2,k,Eu]
 | some q=>
  obtain ⟨u,k',f⟩:=q
  rw [e] at k
  simp only [iW,iM] at k
  simp [Hh,KL,aa,hix,c1,c2,k,Eu]
theorem qN:∀ (a b:List Bs),a.length=b.length->(a.zip b).all (fun q=>decide (q.1=q.2))=decide (a=b)
 | [],[],_=>rfl
 | [],_ :: _,h=>by simp at h
 | _ :: _,[],h=>by simp at h
 | x :: a,y :: b,h=>by
  have ih:=qN a b (by simpa using h)
  simp only [List.zip_cons_cons,List.all_cons,ih]
  rw [Bool.eq_iff_iff]
  simp
theorem f256 (a b:Sl Bs) (ha:a.l.length<=1000) (h:Heap):(mu K).fn 256 [a.avS .str,b.avS .str] h=some (.val (.bool (decide (a.l=b.l))) h):=by
 rw [aD (KX _ _ _) Ub rfl (by simp [I4])]
 by_cases hlen:a.l.length=b.l.length
 case neg=>
  have e:¬ a.l=b.l:=fun q=>hlen (by rw [q])
  have e2:((a.l.length:Int)=(b.l.length:Int))=False:=by simp;omega
  simp [I4,KL,aa,e,e2,hlen]
 have e2:((a.l.length:Int)=(b.l.length:Int))=True:=by simp;omega
 have hz:(a.l.zip b.l).length=a.l.length:=by simp [hlen]
 have key:=aF (K:=K) (n:=0) (live:=[0,1,12,13]) (a:=pE) (fun (_:Unit) (q:Bs×Bs)=>if decide (q.1=q.2)=true then (.inl ():Unit ⊕ Unit) else .inr ())
  (fun pre _=>⟨[(0,a.avS .str),(1,b.avS .str),(12,.int .i64 (a.l.length:Int)),(13,.int .i64 (pre.length:Int))],[] :: h⟩) (fun _ _=>True)
  (fun _ o=>∃ env,o=some (.exit 0,⟨env,[] :: h⟩)) (fun _ o=>∃ env,o=some (.ret,⟨env,[] :: h⟩)∧get env 4=.bool false) (a.l.zip b.l)
  (fun pre q r u hl _=>by
   obtain ⟨x,y⟩:=q
   obtain ⟨h1,h2,w1⟩:=aG hl (by omega)
   rw [hz] at h1
   obtain ⟨g1,g2⟩:=List.getElem?_zip_eq_some.1 h2
   have hix:=fun (k:IntKind)=>aH (av:=AV.str) (sz:=1) (s:=a) (k:=k) (j:=(pre.length:Int)) (x:=x) (by omega) (by simpa using g1) rfl
   have hiy:=fun (k:IntKind)=>aH (av:=AV.str) (sz:=1) (s:=b) (k:=k) (j:=(pre.length:Int)) (x:=y) (by omega) (by simpa using g2) rfl
   have qx:=bX x
   have qy:=bX y
   rw [ay]
   generalize (mu K).code (.aj 0 [0,1,12,13] pE)=F
   clear hl
   by_cases e:x=y
   ·have d:(x=y)=True:=by simp [e]
    simp [pE,KL,aa,h1,hix,hiy,w1,d]
   ·simp [pE,KL,aa,h1,hix,hiy,w1,e])
  (fun u _=>by
   rw [ay]
   generalize (mu K).code (.aj 0 [0,1,12,13] pE)=F
   simp [pE,hz,hlen]) () trivial
 simp only [List.length_nil,Int.natCast_zero] at key
 have ez:=qN a.l b.l hlen
 by_cases e:a.l=b.l
 ·rw [decide_eq_true e] at ez
  rw [(bq (fun q:Bs×Bs=>decide (q.1=q.2)) (a.l.zip b.l)).1 ez] at key
  obtain ⟨_,env,k⟩:=key
  have e3:(a.l=b.l)=True:=by simp [e]
  rw [hlen] at k
  simp [I4,KL,aa,e2,hlen,k,e3]
 ·rw [decide_eq_false e] at ez
  rw [(bq (fun q:Bs×Bs=>decide (q.1=q.2)) (a.l.zip b.l)).2 ez] at key
  obtain ⟨env,k,g⟩:=key
  rw [hlen] at k
  simp [I4,KL,aa,e2,hlen,k,g,e]
theorem f245 (a b:PV) (ha:a.ok) (hb:b.ok) (h:Heap):(mu K).fn 245 [a.av,b.av] h=some (.val (.int .i64 (aT a.vt b.vt)) h):=by
 obtain ⟨a1,⟨anl,al⟩,an⟩:=a
 obtain ⟨b1,⟨bnl,bl⟩,bn⟩:=b
 obtain ⟨la,na⟩:=ha
 obtain ⟨lb,nb⟩:=hb
 simp only at la na lb nb
 have k99:∀ h,(mu K).fn 256 [Sl.avS .str ⟨anl,al⟩,Sl.avS .str ⟨bnl,bl⟩] h=_:=fun h=>f256 ⟨anl,al⟩ ⟨bnl,bl⟩ la h
 have kA:∀ h,(mu K).fn 115 [Sl.avS .str ⟨anl,al⟩,.str bn] h=_:=fun h=>f115 anl al bn (by omega) h
 have kB:∀ h,(mu K).fn 115 [Sl.avS .str ⟨bnl,bl⟩,.str an] h=_:=fun h=>f115 bnl bl an (by omega) h
 rw [aD (KX _ _ _) T7 rfl (by simp [qA])]
 cases a1
 ·cases b1
  ·cases al with
   | nil=>
    have e1:anl=true:=by simpa using na
    subst e1
    have ea:Sl.avS AV.str ⟨true,[]⟩=.af:=rfl
    rw [ea] at k99 kA
    cases bl with
    | nil=>
     have e2:bnl=true:=by simpa using nb
     subst e2
     simp [qA,KL,aa,ea,PV.vt,aT]
    | cons w ws=>
     have eb:Sl.avS AV.str ⟨bnl,w :: ws⟩=.lst ((w :: ws).map .str):=rfl
     rw [eb] at k99 kB
     simp only [List.map_cons] at eb kB
     by_cases hm:an∈w :: ws
     ·have hm2:=hm
      rw [List.mem_cons] at hm2
      simp only [decide_eq_true hm] at kB
      simp [qA,KL,aa,ea,eb,PV.vt,aT,kB,hm2]
     ·have hm2:=hm
      rw [List.mem_cons,not_or] at hm2
      simp only [decide_eq_false hm] at kB
      simp [qA,KL,aa,ea,eb,PV.vt,aT,kB,hm2]
   | cons v vs=>
    have ea:Sl.avS AV.str ⟨anl,v :: vs⟩=.lst ((v :: vs).map .str):=rfl
    rw [ea] at k99 kA
    simp only [List.map_cons] at ea kA k99
    cases bl with
    | nil=>
     have e2:bnl=true:=by simpa using nb
     subst e2
     have eb:Sl.avS AV.str ⟨true,[]⟩=.af:=rfl
     by_cases hm:bn∈v :: vs
     ·have hm2:=hm
      rw [List.mem_cons] at hm2
      simp only [decide_eq_true hm] at kA
      simp [qA,KL,aa,ea,eb,PV.vt,aT,kA,hm2]
     ·have hm2:=hm
      rw [List.mem_cons,not_or] at hm2
      simp only [decide_eq_false hm] at kA
      simp [qA,KL,aa,ea,eb,PV.vt,aT,kA,hm2]
    | cons w ws=>
     have eb:Sl.avS AV.str ⟨bnl,w :: ws⟩=.lst ((w :: ws).map .str):=rfl
     rw [eb] at k99
     simp only [List.map_cons] at eb k99
     by_cases hm:v :: vs=w :: ws
     ·simp only [decide_eq_true hm] at k99
      have hm2:=hm
      rw [List.cons.injEq] at hm2
      obtain ⟨rfl,rfl⟩:=hm2
      simp [qA,KL,aa,ea,eb,PV.vt,aT,k99]
     ·have hm2:=hm
      rw [List.cons.injEq] at hm2
      simp only [decide_eq_false hm] at k99
      simp [qA,KL,aa,ea,eb,PV.vt,aT,k99,hm2]
  ·by_cases q:al=[]
   ·simp [qA,KL,aa,PV.vt,aT,q]
   ·simp [qA,KL,aa,PV.vt,aT,q]
 ·cases b1
  ·by_cases q:bl=[]
   ·simp [qA,KL,aa,PV.vt,aT,q]
   ·simp [qA,KL,aa,PV.vt,aT,q]
  ·simp [qA,KL,aa,PV.vt,aT]
theorem f244 (v:PV) (h:Heap):(mu K).fn 244 [v.av] h=some (.val (.bool (!v.number)) h):=by
 rw [aD (KX _ _ _) T6 rfl (by simp [OW])]
 simp [OW,KL,aa]
theorem f255 (l:List PV) (hl:l.length<=1000000) (h:Heap):∃ i:Int,(mu K).fn 255 [.lst (l.map PV.av),.fn (.func 244) [] []] h=some (.val (.int .i64 i) h)∧decide (0<=i)=!l.all PV.number:=by
 have key:=aF (K:=K) (n:=0) (live:=[0,1,7,8]) (a:=pz) (fun (_:Unit) (x:PV)=>if x.number=true then (.inl ():Unit ⊕ Unit) else .inr ())
  (fun pre _=>⟨[(0,.lst (l.map PV.av)),(1,.fn (.func 244) [] []),(7,.int .i64 (l.length:Int)),(8,.int .i64 (pre.length:Int))],[] :: h⟩) (fun _ _=>True)
  (fun _ o=>∃ env,o=some (.exit 0,⟨env,[] :: h⟩)) (fun _ o=>∃ env i,o=some (.ret,⟨env,[] :: h⟩)∧get env 4=.int .i64 i∧0<=i) l
  (fun pre x r b hl' _=>by
   obtain ⟨h1,h2,w1⟩:=aG hl' (by omega)
   have hix:=fun (k:IntKind)=>eP (sz:=3) (l:=l.map PV.av) (k:=k) (j:=(pre.length:Int)) (v:=x.av) (by omega) (by rw [Int.toNat_natCast,List.getElem?_map,h2];rfl) rfl
   have k:=fun h=>f244 x h
   rw [ay]
   generalize (mu K).code (.aj 0 [0,1,7,8] pz)=F
   have hlen:(l.map PV.av).length=l.length:=by simp
   generalize l.map PV.av=M at *
   clear hl'
   cases e:x.number
   ·rw [e] at k
    simp [pz,KL,aa,h1,hix,w1,k]
   ·rw [e] at k
    simp [pz,KL,aa,h1,hix,w1,k])
  (fun b _=>by
   rw [ay]
   generalize (mu K).code (.aj 0 [0,1,7,8] pz)=F
   simp [pz]) () trivial
 simp only [List.length_nil,Int.natCast_zero] at key
 rw [aD (KX _ _ _) Ua rfl (by simp [Mf])]
 cases hm:l.all PV.number
 ·rw [(bq PV.number l).2 hm] at key
  obtain ⟨env,i,k,g4,hi⟩:=key
  exact ⟨i,by simp [Mf,KL,aa,k,g4],by simp [hi]⟩
 ·rw [(bq PV.number l).1 hm] at key
  obtain ⟨_,env,k⟩:=key
  exact ⟨-1,by simp [Mf,KL,aa,k],by simp⟩
theorem f209 (l:List PV) (hl:l.length<=1000000) (h:Heap):(mu K).fn 209 [.lst (l.map PV.av)] h=some (.val (.bool (l.all PV.number)) h):=by
 have W7:∀ h,(mu K).fn 243 [.lst (l.map PV.av),.fn (.func 244) [] []] h=some (.val (.bool (!l.all PV.number)) h):=fun h=>by
  obtain ⟨i,k,hi⟩:=f255 l hl ([] :: h)
  rw [aD (KX _ _ _) T5 rfl (by simp [OV])]
  simp [-List.all_eq_true,OV,KL,aa,k,hi]
 rw [aD (KX _ _ _) TL rfl (by simp [OO])]
 generalize l.all PV.number=b at *
 simp [OO,KL,aa,W7]
def agF (v:PV) (_:Unit) (x:PV):Unit ⊕ Int:=if aT v.vt x.vt=0 then .inl () else .inr (aT v.vt x.vt)
theorem FE (v:PV):∀ l:List PV,iter (agF v) () l=if jI v.vt (l.map PV.vt)=0 then .inl () else .inr (jI v.vt (l.map PV.vt))
 | []=>rfl
 | x :: l=>by
  have ih:=FE v l
  simp only [iter,agF,List.map_cons,jI]
  by_cases e:aT v.vt x.vt=0
  ·simp [e,ih]
  ·simp [e]
theorem f210 (v:PV) (l:List PV) (hl:l.length<=1000000) (hv:v.ok) (hs:∀ x∈l,x.ok) (h:Heap):(mu K).fn 210 [.lst ((v :: l).map PV.av)] h=some (.val (.int .i64 (pI ((v :: l).map PV.vt))) h):=by
 have key:=aF (K:=K) (n:=0) (live:=[0,7,8,9]) (a:=oX) (agF v)
  (fun pre _=>⟨[(0,.lst ((v :: l).map PV.av)),(7,.lst (l.map PV.av)),(8,.int .i64 (l.length:Int)),(9,.int .i64 (pre.length:Int))],[] :: h⟩) (fun _ _=>True)
  (fun _ o=>∃ env,o=some (.exit 0,⟨env,[] :: h⟩)) (fun e o=>∃ env R,o=some (.ret,⟨env,R :: h⟩)∧get env 2=.int .i64 e) l
  (fun pre x r b hl' _=>by
   obtain ⟨h1,h2,w1⟩:=aG hl' (by omega)
   have hix:=fun (k:IntKind)=>eP (sz:=3) (l:=l.map PV.av) (k:=k) (j:=(pre.length:Int)) (v:=x.av) (by omega) (by rw [Int.toNat_natCast,List.getElem?_map,h2];rfl) rfl
   have hi0:=fun (k:IntKind)=>eP (sz:=3) (l:=(v :: l).map PV.av) (k:=k) (j:=0) (v:=v.av) (by omega) rfl rfl
   have k:=fun h=>f245 v x hv (hs x (by rw [hl'];simp)) h
   simp only [List.map_cons] at hi0 ⊢
   rw [ay]
   generalize (mu K).code (.aj 0 [0,7,8,9] oX)=F
   have hlen:(l.map PV.av).length=l.length:=by simp
   generalize l.map PV.av=M at *
   clear hl'
   unfold agF
   generalize aT v.vt x.vt=e at *
   by_cases e0:e=0
   ·have d:(e=0)=True:=by simp [e0]
    subst e0
    simp [oX,KL,aa,h1,hix,hi0,w1,k]
   ·simp [oX,KL,aa,h1,hix,hi0,w1,k,e0])
  (fun b _=>by
   rw [ay]
   generalize (mu K).code (.aj 0 [0,7,8,9] oX)=F
   simp [oX]) () trivial
 simp only [List.length_nil,Int.natCast_zero] at key
 rw [FE] at key
 rw [aD (KX _ _ _) TM rfl (by simp [Mc])]
 simp only [List.map_cons,pI]
 have t1:((1:Int)<=(l.length:Int)+1)=True:=by simp;omega
 have t2:(v.av :: l.map PV.av).take (l.length+1)=v.av :: l.map PV.av:=List.take_of_length_le (by simp)
 by_cases e:jI v.vt (l.map PV.vt)=0
 ·rw [if_pos e] at key
  obtain ⟨_,env,k⟩:=key
  simp only [List.map_cons] at k
  simp [Mc,KL,aa,k,e,t1,t2]
 ·rw [if_neg e] at key
  obtain ⟨env,R,k,g⟩:=key
  simp only [List.map_cons] at k
  simp [Mc,KL,aa,k,g,t1,t2]
end Go.Ab.Pn
/-
  Pr, the visit of a policy: the program.
-/
namespace Go.Ab.Pn
open Go.Ab.Pol
set_option maxRecDepth 100000
set_option maxHeartbeats 1000000
theorem Bq:∀ l:List PV,(l.map PV.vt).all isNum=l.all PV.number
 | []=>rfl
 | x :: l=>by
  have ih:=Bq l
  have e:isNum x.vt=x.number:=by
   unfold PV.vt
   cases h:x.number
   ·by_cases q:x.words.l=[]<;>simp [q,isNum]
   ·simp [isNum]
  simp only [List.map_cons,List.all_cons,ih,e]
theorem f208 (n:Nd) (hk:n.k=6) (v:PV) (l:List PV) (hl:l.length<=1000) (hv:v.ok) (hs:∀ x∈l,x.ok) (h:Heap):(mu K).fn 208 [n.av,.lst ((v :: l).map PV.av)] h=some (.val (.int .i64 (eY n ((v :: l).map PV.vt))) h):=by
 have k1:=fun h=>f209 (v :: l) (by simp;omega) h
 have k2:=fun h=>f210 v l (by omega) hv hs h
 have e:=Bq (v :: l)
 unfold eY
 rw [if_pos hk,e]
 generalize (v :: l).map PV.av=M at *
 generalize pI ((v :: l).map PV.vt)=r at *
 generalize (v :: l).all PV.number=b at *
 clear e
 rw [aD (KX _ _ _) TK rfl (by simp [c208])]
 by_cases c0:n.num=0
 ·have d0:(n.num=0)=True:=by simp [c0]
  simp [c208,KL,aa,d0,k2]
 by_cases c1:n.num=1
 ·have d1:(n.num=1)=True:=by simp [c1]
  have d0:(n.num=0)=False:=by simp [c0]
  simp [c208,KL,aa,d0,d1,k2]
 cases b
 ·simp [c208,KL,aa,c0,c1,k1,k2]
 ·simp [c208,KL,aa,c0,c1,k1,k2]
theorem f211 (n:Nd) (hk:n.k=7) (l:List PV) (hl:l.length<=1000) (h:Heap):(mu K).fn 211 [n.av,.lst (l.map PV.av)] h=some (.val (.int .i64 (eY n (l.map PV.vt))) h):=by
 have k1:=fun h=>f209 l (by omega) h
 have e:=Bq l
 have hk6:¬ n.k=6:=by omega
 unfold eY
 rw [if_neg hk6,if_pos hk,e]
 generalize l.map PV.av=M at *
 generalize l.all PV.number=b at *
 clear e
 rw [aD (KX _ _ _) TN rfl (by simp [Md])]
 cases b
 ·simp [Md,KL,aa,k1]
 ·simp [Md,KL,aa,k1]
theorem f212 (n:Nd) (hk:n.k=8) (v:PV) (l:List PV) (hl:l.length<=1000) (hv:v.ok) (hs:∀ x∈l,x.ok) (h:Heap):(mu K).fn 212 [n.av,.lst ((v :: l).map PV.av)] h=some (.val (.int .i64 (eY n ((v :: l).map PV.vt))) h):=by
 have k2:=fun h=>f210 v l (by omega) hv hs h
 have hk6:¬ n.k=6:=by omega
 have hk7:¬ n.k=7:=by omega
 unfold eY
 rw [if_neg hk6,if_neg hk7]
 generalize (v :: l).map PV.av=M at *
 generalize pI ((v :: l).map PV.vt)=r at *
 rw [aD (KX _ _ _) TP rfl (by simp [OP])]
 simp [OP,KL,aa,k2]
def kdF (g:Nd->Option PV) (b:List PV) (t:Tr):List PV ⊕ Nat:=match g t.n with
 | none=>.inr t.i
 | some v=>.inl (b++[v])
theorem FH (g:Nd->Option PV):∀ (ks:List Tr) (b:List PV),
  (∃ vs,iter (kdF g) b ks=.inl (b++vs)∧iL (fun n=>(g n).map PV.vt) ks=.inr (vs.map PV.vt)∧vs.length=ks.length∧∀ v∈vs,∃ t∈ks,g t.n=some v) ∨
  (∃ i,iter (kdF g) b ks=.inr i∧iL (fun n=>(g n).map PV.vt) ks=.inl i)
 | [],b=>.inl ⟨[],by simp [iter],rfl,rfl,by simp⟩
 | t :: ks,b=>by
  simp only [iter,kdF,iL]
  cases e:g t.n with
  | none=>exact .inr ⟨t.i,rfl,rfl⟩
  | some v=>
   rcases FH g ks (b++[v]) with ⟨vs,h1,h2,h3,h4⟩ | ⟨i,h1,h2⟩
   ·refine .inl ⟨v :: vs,by simp [h1],by simp [h2],by simp [h3],fun x hx=>?_⟩
    rcases List.mem_cons.1 hx with rfl | hx
    ·exact ⟨t,by simp,e⟩
    ·obtain ⟨u,a,b⟩:=h4 x hx
     exact ⟨u,by simp [a],b⟩
   ·exact .inr ⟨i,by simp [h1],by simp [h2]⟩
abbrev UU:AV:=.agg [.bS,.bS,.bS,.bS,.bS,.bS,.fn (.func 208) [] [],.fn (.func 211) [] [],.fn (.func 212) [] [],.bS,.bS,.bS]
abbrev vtF (p:Po) (l:Sl Sc):Nd->Option VT:=fun n=>(uP p.uses.l l.l n).map PV.vt
theorem f162 (p:Po) (hp:Sz p) (l:Sl Sc) (hl:okL l) (hs:∀ s∈l.l,iZ s=0):∀ (t:Tr) {c:Bool},IsT p.nodes.l t->WF t c->∀ (h:Heap),
  (mu K).fn 162 [dQ p l,.int .i64 (t.i:Int)] h=some (.val (.tup [.int .i64 (cZ (vtF p l) t).1,.int .i64 (cZ (vtF p l) t).2]) h)
 | .nd i n ks,c,⟨hn,hkk,hts⟩,hw,h=>by
  obtain ⟨k0,k12,_,hko,_⟩:=gQ hw.1
  have hmem:n∈p.nodes.l:=List.mem_of_getElem? hn
  have hkl:=(hp.nodes.2 n hmem).2
  have hix:=fun (k:IntKind)=>aH (av:=Nd.av) (sz:=6) (s:=p.nodes) (k:=k) (j:=(i:Int)) (x:=n) (by omega) (by simpa using hn) rfl
  rw [aD (KX _ _ _) Tj rfl (by simp [zz])]
  by_cases hk:n.k=6∨n.k=7∨n.k=8
  case neg=>
   have e0:cZ (vtF p l) (.nd i n ks)=(0,0):=by simp only [cZ];rw [if_neg hk]
   rw [e0]
   have:n.k=0∨n.k=1∨n.k=2∨n.k=3∨n.k=4∨n.k=5∨n.k=9∨n.k=10∨n.k=11:=by omega
   rcases this with q | q | q | q | q | q | q | q | q<;>simp [zz,KL,aa,Tr.i,hix,q]
  have hlk:n.kids.l.length=ks.length:=by rw [hkk];simp
  have hk2:2<=ks.length:=by
   rw [hlk] at hko
   unfold gh at hko
   rcases hk with q | q | q
   ·rw [if_neg (by omega),if_neg (by omega),if_neg (by omega),if_pos q] at hko
    simp at hko;omega
   ·rw [if_neg (by omega),if_neg (by omega),if_neg (by omega),if_neg (by omega),if_pos q] at hko
    simp at hko;omega
   ·rw [if_neg (by omega),if_neg (by omega),if_neg (by omega),if_neg (by omega),if_neg (by omega),if_pos q] at hko
    simpa using hko
  have key:=aF (K:=K) (n:=4) (live:=[1,2,6,7,8,27,28,29]) (a:=lA) (kdF (uP p.uses.l l.l))
   (fun pre b=>⟨[(1,.int .i64 (i:Int)),(2,.ptr (h.length,0) 0),(6,.ptr (h.length,1) 0),(7,.ptr (h.length,2) 0),(8,.own (h.length,3) b.length),(27,n.kids.avS iV),(28,.int .i64 (n.kids.l.length:Int)),(29,.int .i64 (pre.length:Int))],
    [.box 170 false (dQ p l),.box 292 false UU,.box 90 false n.av,.arr (if pre=[] then 0 else 294) (if pre=[] then 0 else 3) false (b.map PV.av)] :: h⟩) (fun pre b=>b.length=pre.length)
   (fun b o=>∃ env,o=some (.exit 0,⟨env,[.box 170 false (dQ p l),.box 292 false UU,.box 90 false n.av,.arr 294 3 false (b.map PV.av)] :: h⟩)∧get env 1=.int .i64 (i:Int)∧get env 6=.ptr (h.length,1) 0∧get env 7=.ptr (h.length,2) 0∧get env 8=.own (h.length,3) b.length)
   (fun j o=>∃ env R,o=some (.ret,⟨env,R :: h⟩)∧get env 4=.int .i64 (j:Int)∧get env 5=.int .i64 9) ks
   (fun pre x r b hl' hb=>by
    obtain ⟨h1,h2,w1⟩:=aG hl' (by omega)
    have hx:=(vZ.1 hts) x (by rw [hl'];simp)
    have hxn:p.nodes.l[x.i]?=some x.n:=by
     cases x with
     | nd a b c=>exact hx.1
    have g2:n.kids.l[pre.length]?=some (x.i:Int):=by rw [hkk,List.getElem?_map,h2];rfl
    have hiy:=fun (k:IntKind)=>aH (av:=iV) (sz:=1) (s:=n.kids) (k:=k) (j:=(pre.length:Int)) (x:=(x.i:Int)) (by omega) (by simpa using g2) rfl
    have k:=fun h=>f213 p hp.uses.1 l hl hxn h
    have hlen:ks.length=pre.length+(r.length+1):=by rw [hl'];simp
    have r1:(pre.length+1) * 48<=room:=by unfold room;omega
    have r2:pre.length+1<=room:=by unfold room;omega
    rw [hlk]
    rw [ay]
    generalize (mu K).code (.aj 4 [1,2,6,7,8,27,28,29] lA)=F
    clear hl'
    unfold kdF
    cases e:uP p.uses.l l.l x.n with
    | none=>
     rw [e] at k
     have z0:Eu none=.agg [.bool true,.af,.str []]:=rfl
     rw [z0] at k
     by_cases hpre:pre=[]
     ·have d:(pre=[])=True:=by simp [hpre]
      simp [lA,KL,aa,h1,hiy,w1,k,d]
     ·simp [lA,KL,aa,h1,hiy,w1,k,hpre]
    | some v=>
     rw [e] at k
     have z0:Eu (some v)=v.av:=rfl
     rw [z0] at k
     by_cases hpre:pre=[]
     ·have d:(pre=[])=True:=by simp [hpre]
      simp [lA,KL,aa,h1,hiy,w1,k,d,r1,r2,hb,List.replicate]
     ·simp [lA,KL,aa,h1,hiy,w1,k,hpre,r1,r2,hb,List.replicate])
   (fun b hb=>by
    have hne:(ks=[])=False:=by simp;intro q;rw [q] at hk2;simp at hk2
    rw [hlk]
    rw [ay]
    generalize (mu K).code (.aj 4 [1,2,6,7,8,27,28,29] lA)=F
    simp [lA,hne]) [] rfl
  simp only [List.length_nil,Int.natCast_zero,List.map_nil,if_true] at key
  have hvt:∀ v (t:Tr),uP p.uses.l l.l t.n=some v->v.ok:=fun v t e=>UT hl hs t.n e
  simp only [cZ]
  rw [if_pos hk]
  rcases FH (uP p.uses.l l.l) ks [] with ⟨vs,i1,i2,i3,i4⟩ | ⟨j,i1,i2⟩
  ·rw [i1] at key
   simp only [List.nil_append] at key
   obtain ⟨_,env,kk,g1,g6,g7,g8⟩:=key
   have i2:iL (vtF p l) ks=.inr (vs.map PV.vt):=i2
   rw [i2]
   simp only
   have hok:∀ v∈vs,v.ok:=fun v hv=>by
    obtain ⟨t,_,e⟩:=i4 v hv
    exact hvt v t e
   obtain ⟨v,vs',rfl⟩:∃ v vs',vs=v :: vs':=by
    cases vs with
    | nil=>simp at i3;omega
    | cons v vs'=>exact ⟨v,vs',rfl⟩
   have hlv:vs'.length<=1000:=by simp at i3;omega
   have hv:=hok v (by simp)
   have hvs:∀ x∈vs',x.ok:=fun x hx=>hok x (by simp [hx])
   rcases hk with q | q | q
   ·have k3:=fun h=>f208 n q v vs' hlv hv hvs h
    generalize eY n ((v :: vs').map PV.vt)=e at *
    simp only [List.map_cons,Nd.av,Nd.cs,q] at k3
    simp only [List.map_cons] at kk
    by_cases e0:e=0
    ·subst e0
     simp [zz,KL,aa,Tr.i,hix,q,kk,g1,g6,g7,g8,k3]
    ·simp [zz,KL,aa,Tr.i,hix,q,kk,g1,g6,g7,g8,k3,e0]
   ·have k3:=fun h=>f211 n q (v :: vs') (by simp at i3 ⊢;omega) h
    generalize eY n ((v :: vs').map PV.vt)=e at *
    simp only [List.map_cons,Nd.av,Nd.cs,q] at k3
    simp only [List.map_cons] at kk
    by_cases e0:e=0
    ·subst e0
     simp [zz,KL,aa,Tr.i,hix,q,kk,g1,g6,g7,g8,k3]
    ·simp [zz,KL,aa,Tr.i,hix,q,kk,g1,g6,g7,g8,k3,e0]
   ·have k3:=fun h=>f212 n q v vs' hlv hv hvs h
    generalize eY n ((v :: vs').map PV.vt)=e at *
    simp only [List.map_cons,Nd.av,Nd.cs,q] at k3
    simp only [List.map_cons] at kk
    by_cases e0:e=0
    ·subst e0
     simp [zz,KL,aa,Tr.i,hix,q,kk,g1,g6,g7,g8,k3]
    ·simp [zz,KL,aa,Tr.i,hix,q,kk,g1,g6,g7,g8,k3,e0]
  ·rw [i1] at key
   obtain ⟨env,R,kk,g4,g5⟩:=key
   have i2:iL (vtF p l) ks=.inl j:=i2
   rw [i2]
   simp only
   rcases hk with q | q | q<;>simp [zz,KL,aa,Tr.i,hix,q,kk,g4,g5]
end Go.Ab.Pn
/-
  Check and Field of W8: the program.
-/
namespace Go.Ab.Pn
open Go.Ab.Pol
set_option maxRecDepth 100000
set_option maxHeartbeats 1000000
def vsF (f:Nd->Option VT) (_:Unit) (t:Tr):Unit ⊕ (Int×Int):=if (gj f t).2=0 then .inl () else .inr (gj f t)
theorem FI (f:Nd->Option VT):∀ ts:List Tr,iter (vsF f) () ts=if (gZ f ts).2=0 then .inl () else .inr (gZ f ts)
 | []=>rfl
 | t :: ts=>by
  have ih:=FI f ts
  simp only [iter,vsF,gZ]
  by_cases e:(gj f t).2=0
  ·simp [e,ih]
  ·simp [e]
theorem MJ (f:Nd->Option VT) (ts:List Tr) (h:(gZ f ts).2=0):gZ f ts=(0,0):=by
 rw [lG] at h ⊢
 exact (mM h).1
mutual
theorem f101 (p:Po) (hp:Sz p) (l:Sl Sc) (hl:okL l) (hs:∀ s∈l.l,iZ s=0):∀ (t:Tr) {c:Bool},IsT p.nodes.l t->WF t c->∀ (h:Heap),
  (mu K).fn 101 [dQ p l,.int .i64 (t.i:Int)] h=some (.val (.tup [.int .i64 (gj (vtF p l) t).1,.int .i64 (gj (vtF p l) t).2]) h)
 | .nd i n ks,c,ht,hw,h=>by
  have k0:=fun h=>f162 p hp l hl hs (.nd i n ks) ht hw h
  obtain ⟨hn,hkk,hts⟩:=ht
  have ih:=N6 p hp l hl hs ks hts hw.2
  have hmem:n∈p.nodes.l:=List.mem_of_getElem? hn
  have hkl:=(hp.nodes.2 n hmem).2
  have hix:=fun (k:IntKind)=>aH (av:=Nd.av) (sz:=6) (s:=p.nodes) (k:=k) (j:=(i:Int)) (x:=n) (by omega) (by simpa using hn) rfl
  have hlk:n.kids.l.length=ks.length:=by rw [hkk];simp
  rw [aD (KX _ _ _) SQ rfl (by simp [IY])]
  simp only [Tr.i,gj] at k0 ⊢
  generalize cZ (vtF p l) (.nd i n ks)=q at *
  obtain ⟨a,e⟩:=q
  simp only at k0 ⊢
  by_cases e0:e=0
  case neg=>
   rw [if_neg e0]
   simp [IY,KL,aa,k0,e0]
  rw [if_pos e0]
  subst e0
  have key:=aF (K:=K) (n:=1) (live:=[2,28,29,30]) (a:=oL) (vsF (vtF p l))
   (fun pre _=>⟨[(2,.ptr (h.length,0) 0),(28,n.kids.avS iV),(29,.int .i64 (n.kids.l.length:Int)),(30,.int .i64 (pre.length:Int))],[.box 170 false (dQ p l)] :: h⟩) (fun _ _=>True)
   (fun _ o=>∃ env,o=some (.exit 0,⟨env,[.box 170 false (dQ p l)] :: h⟩))
   (fun q o=>∃ env R,o=some (.ret,⟨env,R :: h⟩)∧get env 4=.int .i64 q.1∧get env 5=.int .i64 q.2) ks
   (fun pre x r b hl' _=>by
    obtain ⟨h1,h2,w1⟩:=aG hl' (by omega)
    have g2:n.kids.l[pre.length]?=some (x.i:Int):=by rw [hkk,List.getElem?_map,h2];rfl
    have hiy:=fun (k:IntKind)=>aH (av:=iV) (sz:=1) (s:=n.kids) (k:=k) (j:=(pre.length:Int)) (x:=(x.i:Int)) (by omega) (by simpa using g2) rfl
    have k:=fun h=>ih x (by rw [hl'];simp) h
    rw [hlk]
    rw [ay]
    generalize (mu K).code (.aj 1 [2,28,29,30] oL)=F
    clear hl'
    unfold vsF
    generalize gj (vtF p l) x=q at *
    obtain ⟨a,e⟩:=q
    simp only at k ⊢
    by_cases e0:e=0
    ·subst e0
     simp [oL,KL,aa,h1,hiy,w1,k]
    ·simp [oL,KL,aa,h1,hiy,w1,k,e0])
   (fun b _=>by
    rw [hlk]
    rw [ay]
    generalize (mu K).code (.aj 1 [2,28,29,30] oL)=F
    simp [oL]) () trivial
  simp only [List.length_nil,Int.natCast_zero] at key
  rw [FI] at key
  by_cases e1:(gZ (vtF p l) ks).2=0
  ·rw [if_pos e1] at key
   rw [MJ _ _ e1]
   obtain ⟨_,env,k⟩:=key
   simp [IY,KL,aa,k0,hix,k]
  ·rw [if_neg e1] at key
   obtain ⟨env,R,k,g4,g5⟩:=key
   simp [IY,KL,aa,k0,hix,k,g4,g5]
theorem N6 (p:Po) (hp:Sz p) (l:Sl Sc) (hl:okL l) (hs:∀ s∈l.l,iZ s=0):∀ (ts:List Tr) {c:Bool},lC p.nodes.l ts->WFs ts c->∀ t∈ts,∀ (h:Heap),
  (mu K).fn 101 [dQ p l,.int .i64 (t.i:Int)] h=some (.val (.tup [.int .i64 (gj (vtF p l) t).1,.int .i64 (gj (vtF p l) t).2]) h)
 | [],c,_,_,t,ht,h=>by simp at ht
 | x :: ts,c,h1,h2,t,ht,h=>by
  rcases List.mem_cons.1 ht with e | ht
  ·rw [e]
   exact f101 p hp l hl hs x h1.1 h2.1 h
  ·exact N6 p hp l hl hs ts h1.2 h2.2 t ht h
end
theorem f47 (p:Po) (hp:Sz p) (l:Sl Sc) (hl:okL l) (t:Tr) (ht:chk p=0->Pol.Good p t) (h:Heap) :
  (mu K).fn 47 [p.av,l.avS Sc.av] h=some (.val (.tup [.int .i64 (jd p l.l t).1,.int .i64 (jd p l.l t).2]) h):=by
 have k92:=fun h=>f85 p hp l hl h
 have key:=aF (K:=K) (n:=2) (live:=[6,24,25,26]) (a:=vD) (fun (_:Unit) (r:Rf)=>if (findF p.uses.l l.l r).isSome=true then (.inl ():Unit ⊕ Unit) else .inr ())
  (fun pre _=>⟨[(6,.ptr (h.length,1) 0),(24,p.aA.avS Rf.av),(25,.int .i64 (p.aA.l.length:Int)),(26,.int .i64 (pre.length:Int))],[.box 26 false p.av,.box 170 false (dQ p l)] :: h⟩) (fun _ _=>True)
  (fun _ o=>∃ env,o=some (.exit 0,⟨env,[.box 26 false p.av,.box 170 false (dQ p l)] :: h⟩)∧get env 6=.ptr (h.length,1) 0)
  (fun q o=>∃ env R,o=some (.ret,⟨env,R :: h⟩)∧get env 4=.int .i64 0∧get env 5=.int .i64 9) p.aA.l
  (fun pre x r b hl' _=>by
   obtain ⟨h1,h2,w1⟩:=aG hl' (by have:=hp.aA.1;omega)
   have hix:=fun (k:IntKind)=>aH (av:=Rf.av) (sz:=2) (s:=p.aA) (k:=k) (j:=(pre.length:Int)) (x:=x) (by omega) (by simpa using h2) rfl
   have k:=fun h=>f86 p hp.uses.1 l hl x h
   rw [ay]
   generalize (mu K).code (.aj 2 [6,24,25,26] vD)=F
   clear hl'
   cases e:findF p.uses.l l.l x with
   | none=>
    rw [e] at k
    simp only [iW,iM] at k
    simp [vD,KL,aa,h1,hix,w1,k]
   | some q=>
    obtain ⟨u,k',f⟩:=q
    rw [e] at k
    simp only [iW,iM] at k
    simp [vD,KL,aa,h1,hix,w1,k])
  (fun b _=>by
   rw [ay]
   generalize (mu K).code (.aj 2 [6,24,25,26] vD)=F
   simp [vD]) () trivial
 simp only [List.length_nil,Int.natCast_zero] at key
 rw [aD (KX _ _ _) WM rfl (by simp [c47])]
 unfold jd
 by_cases hr:bw p l.l=0
 case neg=>
  rw [if_pos hr]
  simp [c47,KL,aa,k92,hr]
 rw [if_neg (by simp [hr])]
 have rp:=kM hr
 have g:=ht rp.chk
 cases c3:p.aA.l.all (fun r=>(findF p.uses.l l.l r).isSome)
 ·rw [(bq (fun r:Rf=>(findF p.uses.l l.l r).isSome) p.aA.l).2 c3] at key
  obtain ⟨env,R,k,g4,g5⟩:=key
  simp [c47,KL,aa,k92,hr,k,g4,g5]
 ·rw [(bq (fun r:Rf=>(findF p.uses.l l.l r).isSome) p.aA.l).1 c3] at key
  obtain ⟨_,env,k,g6⟩:=key
  have k94:=fun h=>f101 p hp l hl rp.sch t g.isT g.wf h
  rw [g.root] at k94
  have ev:cP p.uses.l l.l=vtF p l:=funext fun n=>UR rp.sch n
  rw [ev]
  simp [c47,KL,aa,k92,hr,k,g6,k94]
end Go.Ab.Pn
/-
  The field of a policy: the program.
-/
namespace Go.Ab.Pn
open Go.Ab.Pol
set_option maxRecDepth 100000
set_option maxHeartbeats 1000000
theorem W9 (h:Heap):(mu K).fn 87 [.lst []] h=some (.val (.lst []) h):=by
 have hX:K.X 87 [.lst []] h=some (.val (.lst []) h):=rfl
 rw [eJ]
 simp [step,gq,hX]
theorem Xa (h:Heap):(mu K).fn 87 [.af] h=some (.val .af h):=by
 rw [aD (KXc _ _ _ (by decide) (by simp)) SM rfl (by simp [c87])]
 simp [c87,KL,aa]
theorem f87 (s:Sl Bs) (hs:s.l.length<=1000) (h:Heap):(mu K).fn 87 [s.avS .str] h=some (.val (s.avS .str) h):=by
 obtain ⟨nl,l⟩:=s
 cases l with
 | nil=>
  cases nl
  ·exact W9 h
  ·exact Xa h
 | cons x l=>
  have e:Sl.avS AV.str ⟨nl,x :: l⟩=.lst (.str x :: l.map .str):=rfl
  simp only [List.length_cons] at hs
  have r1:(l.length+1) * 16<=room:=by unfold room;omega
  have r2:l.length+1<=room:=by unfold room;omega
  rw [e]
  rw [aD (KXc _ _ _ (by decide) (by simp)) SM rfl (by simp [c87])]
  simp [c87,KL,aa,r1,r2]
def jM (p:Po) (l:List Sc) (r:Rf):Option (Nat×Nat×Pol.Fd)×Int:=if bw p l≠0 then (none,bw p l) else match findF p.uses.l l r with
 | none=>(none,9)
 | some q=>(some q,0)
theorem f38 (p:Po) (hp:Sz p) (l:Sl Sc) (hl:okL l) (r:Rf) (h:Heap) :
  (mu K).fn 38 [p.av,l.avS Sc.av,r.av] h=some (.val (.tup [iW (jM p l.l r).1,iM (jM p l.l r).1,.int .i64 (jM p l.l r).2]) h):=by
 have k92:=fun h=>f85 p hp l hl h
 have k93:=fun h=>f86 p hp.uses.1 l hl r h
 rw [aD (KX _ _ _) WL rfl (by simp [c38])]
 unfold jM
 by_cases hr:bw p l.l=0
 case neg=>
  rw [if_pos hr]
  simp [c38,KL,aa,k92,hr,iW,iM]
 rw [if_neg (by simp [hr])]
 cases e:findF p.uses.l l.l r with
 | none=>
  rw [e] at k93
  simp only [iW,iM] at k93
  simp [c38,KL,aa,k92,hr,k93,iW,iM]
 | some q=>
  obtain ⟨u,k',f⟩:=q
  rw [e] at k93
  simp only [iW,iM] at k93
  obtain ⟨s,h1,h2⟩:=qL e
  have k98:=fun h=>f87 f.words ((hl.sc s h1).fields f h2).len h
  have q2:=au _ bX f.words
  simp [c38,KL,aa,k92,hr,k93,k98,iW,iM,q2]
end Go.Ab.Pn
/-
  The normal form: the program's small functions.
-/
namespace Go.Ab.Pn
open Go.Ab.Pol
set_option maxRecDepth 100000
set_option maxHeartbeats 2000000
abbrev HR (k num:Int) (vs:List Nd):AV:=.iface 252 (.agg [iV k,iV num,.str [],.str [],.af,iV 0,Sl.avS Nd.av ⟨true,vs⟩])
mutual
def aN:Cd->AV
 | .atom k num vs=>HR k num vs
 | .gate need ks=>.iface 254 (.agg [iV need,.lst (wO ks)])
def wO:List Cd->List AV
 | []=>[]
 | c :: cs=>aN c :: wO cs
end
theorem dV:∀ cs:List Cd,wO cs=cs.map aN
 | []=>rfl
 | c :: cs=>by simp [wO,dV cs]
@[simp] theorem Jy (q:Loc->Bool) (c:Cd):(aN c).aJ q=true:=by cases c<;>simp [aN,AV.aJ,AV.bH]
@[simp] theorem Wm (q:Loc->Bool) (c:Cd) (h:Heap):(aN c).view q h=some (aN c,h):=sM _ (Jy _ _) _ _
@[simp] theorem UW (c:Cd):(aN c).cells=[aN c]:=by cases c<;>rfl
@[simp] theorem UX (c:Cd):(aN c).isAgg=false:=by cases c<;>rfl
@[simp] theorem Xb (r:Loc->Loc) (c:Cd):(aN c).ren r=aN c:=by cases c<;>simp [aN,AV.ren,AV.qO]
abbrev bZ (p:Po) (l:Sl Sc):AV:=.agg (p.cs++[l.avS Sc.av])
theorem f103 (n:Int) (hn:How n) (h:Heap):(mu K).fn 103 [iV n] h=some (.val (iV (complement n)) h):=by
 rw [aD (KX _ _ _) SS rfl (by simp [Oz])]
 rcases hn with rfl | rfl | rfl | rfl | rfl | rfl<;>simp [Oz,KL,aa,complement]
theorem f163 (n:Int) (hn:How n) (h:Heap):(mu K).fn 163 [iV n] h=some (.val (iV (dY n)) h):=by
 rw [aD (KX _ _ _) Tk rfl (by simp [OI])]
 rcases hn with rfl | rfl | rfl | rfl | rfl | rfl<;>simp [OI,KL,aa,dY]
theorem f107 (b:Bool) (h:Heap):(mu K).fn 107 [.bool b] h=some (.val (aN (cB b)) h):=by
 rw [aD (KX _ _ _) SY rfl (by simp [OA])]
 cases b<;>simp [OA,KL,aa,cB,aN,Sl.avS,lv]
theorem f169 (n:Int) (h:Heap):(mu K).fn 169 [iV n] h=some (.val (bg n).av h):=by
 rw [aD (KX _ _ _) Tu rfl (by simp [OM])]
 simp [OM,KL,aa,bg,Sl.avS,lv]
theorem f168 (how:Int) (a b:Nd) (h:Heap):(mu K).fn 168 [iV how,a.av,b.av] h=some (.val (aN (dO how a b)) h):=by
 have qa:=au _ bW a.kids
 have qb:=au _ bW b.kids
 have e:∀ n m:Nd,Sl.avS Nd.av ⟨true,[n,m]⟩=.lst [n.av,m.av]:=fun n m=>by simp [Sl.avS,lv]
 rw [aD (KX _ _ _) Tt rfl (by simp [OL])]
 simp [OL,KL,aa,dO,aN,e,qa,qb]
theorem f164 (how a b:Int) (h:Heap):(mu K).fn 164 [iV how,iV a,iV b] h=some (.val (.bool (Jk how a b)) h):=by
 rw [aD (KX _ _ _) Tm rfl (by simp [Cu])]
 unfold Jk
 by_cases h0:how=0
 ·simp [Cu,KL,aa,h0]
 by_cases h1:how=1
 ·simp [Cu,KL,aa,h1]
 by_cases h2:how=2
 ·simp [Cu,KL,aa,h2]
 by_cases h3:how=3
 ·simp [Cu,KL,aa,h3]
 by_cases h4:how=4
 ·simp [Cu,KL,aa,h4]
 ·simp [Cu,KL,aa,h0,h1,h2,h3,h4]
theorem fdR {p:Po} {l:List Sc} (hr:bw p l=0) (n:Nd):iM (jM p l ⟨n.nm,n.attr⟩).1=(ak p.uses.l l n).av:=by
 unfold jM ak
 rw [if_neg (by simp [hr])]
 cases findF p.uses.l l ⟨n.nm,n.attr⟩ with
 | none=>simp [iM,zFd,Sl.avS,lv]
 | some q=>obtain ⟨u,k,f⟩:=q;rfl
theorem f166 (p:Po) (hp:Sz p) (l:Sl Sc) (hl:okL l) (hr:bw p l.l=0) (n:Nd) (h:Heap):(mu K).fn 166 [bZ p l,n.av] h=some (.val (ak p.uses.l l.l n).av h):=by
 have k40:=fun h=>f38 p hp l hl ⟨n.nm,n.attr⟩ h
 have e:=fdR hr n
 obtain ⟨a,b,hab⟩:∃ a b,iW (jM p l.l ⟨n.nm,n.attr⟩).1=.agg [iV a,iV b]:=by
  cases (jM p l.l ⟨n.nm,n.attr⟩).1 with
  | none=>exact ⟨0,0,rfl⟩
  | some q=>obtain ⟨u,k,f⟩:=q;exact ⟨_,_,rfl⟩
 simp only [e,hab] at k40
 generalize ak p.uses.l l.l n=f at *
 rw [aD (KX _ _ _) Tp rfl (by simp [OJ])]
 simp [OJ,KL,aa,k40]
end Go.Ab.Pn
/-
  The normal form: ranges and comparisons of fields.
-/
namespace Go.Ab.Pn
open Go.Ab.Pol
set_option maxRecDepth 100000
set_option maxHeartbeats 2000000
structure FdX (f:Pol.Fd):Prop where
 kind:f.kind=0∨f.kind=1
 lo:-2147483648<=f.mn
 hi:f.mx<=2147483647
 le:f.mn<=f.mx
theorem Pv {f:Pol.Fd} (h:dm f=0):FdX f:=by
 unfold dm at h
 split at h
 ·rename_i k0
  split at h
  ·simp at h
  split at h
  ·simp at h
  ·rename_i c
   exact ⟨.inl k0,by omega,by omega,by omega⟩
 split at h
 ·rename_i k1
  split at h
  ·simp at h
  ·rename_i c
   exact ⟨.inr k1,by omega,by omega,by omega⟩
 ·simp at h
theorem uj:∀ {l:List Pol.Fd} {met:List Bs},eU met l=0->∀ f∈l,dm f=0
 | [],_,_,f,hf=>by cases hf
 | x :: l,met,h,f,hf=>by
  simp only [eU] at h
  split at h
  ·simp at h
  split at h
  ·simp at h
  split at h
  ·rename_i a;exact absurd h a
  ·rename_i a
   rcases List.mem_cons.1 hf with rfl | hf
   ·simpa using a
   ·exact uj h f hf
theorem MK {s:Sc} (h:iZ s=0) {f:Pol.Fd} (hf:f∈s.fields.l):FdX f:=by
 unfold iZ at h
 split at h
 ·simp at h
 split at h
 ·simp at h
 ·exact Pv (uj h f hf)
theorem Jz {p:Po} {l:List Sc} (hs:∀ s∈l,iZ s=0) (n:Nd):FdX (ak p.uses.l l n):=by
 unfold ak
 cases e:findF p.uses.l l ⟨n.nm,n.attr⟩ with
 | none=>exact ⟨.inl rfl,by simp [zFd],by simp [zFd],by simp [zFd]⟩
 | some q=>
  obtain ⟨u,k,f⟩:=q
  obtain ⟨s,h1,h2⟩:=qL e
  exact MK (hs s h1) h2
section
variable (p:Po) (hp:Sz p) (l:Sl Sc) (hl:okL l) (hr:bw p l.l=0)
include hp hl hr
theorem f109 (x:Nd) (lo hi:Int) (h:Heap):(mu K).fn 109 [bZ p l,x.av,iV lo,iV hi] h=some (.val (aN (within (ak p.uses.l l.l) x lo hi)) h):=by
 have iA:=fun h=>f166 p hp l hl hr x h
 unfold within
 generalize ak p.uses.l l.l x=f at *
 have m1:jc true (iV lo) [iV f.mn]=some (iV (max lo f.mn)):=by
  simp only [jc,if_true]
  congr 2
  split<;>omega
 have m2:jc false (iV hi) [iV f.mx]=some (iV (min hi f.mx)):=by
  simp only [jc]
  congr 2
  split<;>simp_all<;>omega
 generalize max lo f.mn=A at *
 generalize min hi f.mx=B at *
 have q1:=au _ dI p.uses
 have q2:=au _ dh p.aA
 have q3:=au _ cW p.nodes
 have q4:=au _ fo l
 have qx:=au _ bW x.kids
 have kj:=fun b h=>f107 b h
 have CR:=fun n a b h=>f168 n a b h
 have HT:=fun n h=>f169 n h
 have nav:∀ n:Int,(bg n).av=.agg [iV 10,iV n,.str [],.str [],.af,iV 0]:=fun n=>by simp [bg,Sl.avS,lv]
 simp only [bZ,Po.cs,List.cons_append,List.nil_append] at iA ⊢
 rw [aD (KX _ _ _) S0 rfl (by simp [Cs])]
 by_cases c1:B < A
 ·simp [Cs,KL,aa,iA,m1,m2,q1,q2,q3,q4,qx,c1,kj]
 by_cases c2:A=f.mn∧B=f.mx
 ·obtain ⟨c2,c3⟩:=c2
  have d1:(f.mx < f.mn)=False:=by simp;omega
  simp [Cs,KL,aa,iA,m1,m2,q1,q2,q3,q4,qx,c2,c3,d1,kj]
 by_cases c3:A=B
 ·have Ai:=CR 0 x (bg B)
  rw [nav] at Ai
  subst c3
  by_cases d:A=f.mn
  ·subst d
   have d2:(f.mn=f.mx)=False:=by simp;intro q;exact c2 ⟨rfl,q⟩
   simp [Cs,KL,aa,iA,m1,m2,q1,q2,q3,q4,qx,d2,HT,nav,Ai]
  ·simp [Cs,KL,aa,iA,m1,m2,q1,q2,q3,q4,qx,d,HT,nav,Ai]
 ·have e3:Sl.avS Nd.av ⟨true,[x,bg A,bg B]⟩=.lst [x.av,(bg A).av,(bg B).av]:=by simp [Sl.avS,lv]
  rw [if_neg c1,if_neg c2,if_neg c3]
  simp only [aN,HR,e3,nav]
  by_cases d:A=f.mn
  ·subst d
   have d2:(B=f.mx)=False:=by simp;intro q;exact c2 ⟨rfl,q⟩
   simp [Cs,KL,aa,iA,m1,m2,q1,q2,q3,q4,qx,c1,c3,d2,HT,nav]
  ·simp [Cs,KL,aa,iA,m1,m2,q1,q2,q3,q4,qx,c1,c3,d,HT,nav]
theorem f165 (how:Int) (hh:How how) (x:Nd) (c:Int) (hc:-2147483648<=c∧c<=2147483647) (h:Heap):(mu K).fn 165 [bZ p l,iV how,x.av,iV c] h=some (.val (aN (bounded (ak p.uses.l l.l) how x c)) h):=by
 have iA:=fun h=>f166 p hp l hl hr x h
 have Bj:=fun lo hi h=>f109 p hp l hl hr x lo hi h
 unfold bounded
 generalize hW:within (ak p.uses.l l.l) x=W at *
 generalize ak p.uses.l l.l x=f at *
 have q1:=au _ dI p.uses
 have q2:=au _ dh p.aA
 have q3:=au _ cW p.nodes
 have q4:=au _ fo l
 have qx:=au _ bW x.kids
 have kj:=fun b h=>f107 b h
 have CR:=fun n a b h=>f168 n a b h
 have HT:=fun n h=>f169 n h
 have w1:IntKind.i64.wrap (c - 1)=c - 1:=wrap64 (by omega) (by omega)
 have w2:IntKind.i64.wrap (c+1)=c+1:=wrap64 (by omega) (by omega)
 have nav:∀ n:Int,(bg n).av=.agg [iV 10,iV n,.str [],.str [],.af,iV 0]:=fun n=>by simp [bg,Sl.avS,lv]
 simp only [bZ,Po.cs,List.cons_append,List.nil_append] at iA Bj ⊢
 rw [aD (KX _ _ _) Tn rfl (by simp [vN])]
 rcases hh with rfl | rfl | rfl | rfl | rfl | rfl
 ·simp [vN,KL,aa,iA,Bj,q1,q2,q3,q4,qx,w1,w2]
 ·have Ai:=CR 1 x (bg c)
  rw [nav] at Ai
  by_cases c1:c < f.mn
  ·simp [vN,KL,aa,iA,q1,q2,q3,q4,qx,c1,kj]
  by_cases c2:f.mx < c
  ·simp [vN,KL,aa,iA,q1,q2,q3,q4,qx,c1,c2,kj]
  by_cases c3:f.mn=f.mx
  ·have c1':(c < f.mx)=False:=by simp;omega
   simp [vN,KL,aa,iA,q1,q2,q3,q4,qx,c1',c2,c3,kj]
  ·simp [vN,KL,aa,iA,q1,q2,q3,q4,qx,c1,c2,c3,HT,nav,Ai]
 ·simp [vN,KL,aa,iA,Bj,q1,q2,q3,q4,qx,w1,w2]
 ·simp [vN,KL,aa,iA,Bj,q1,q2,q3,q4,qx,w1,w2]
 ·simp [vN,KL,aa,iA,Bj,q1,q2,q3,q4,qx,w1,w2]
 ·simp [vN,KL,aa,iA,Bj,q1,q2,q3,q4,qx,w1,w2]
end
end Go.Ab.Pn

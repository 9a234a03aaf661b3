/-
  The plan of a policy passes its check.
-/
import Derived.Test.YtjnomgdildcbhaaGreatDoorAbPlanP
import Derived.Test.YtjnomgdildcbhaaGreatDoorAbFlat
set_option linter.unusedVariables false
set_option linter.unusedSimpArgs false
set_option linter.unusedSectionVars false
namespace Go.Ab.Pol
/- EA. -/
theorem MR {us:List Us} {al:Bs} {u:Nat} (h:rO us al=some u):∃ x,us[u]?=some x∧x.al=al:=by
 obtain ⟨hlt,h1,_⟩:=List.findIdx?_eq_some_iff_getElem.1 h
 exact ⟨us[u],List.getElem?_eq_getElem hlt,by simpa using h1⟩
theorem PJ {s:Sc} {nm:Bs} {k:Nat} (h:fdI s nm=some k):∃ f,s.fields.l[k]?=some f∧f.name=nm:=by
 obtain ⟨hlt,h1,_⟩:=List.findIdx?_eq_some_iff_getElem.1 h
 exact ⟨s.fields.l[k],List.getElem?_eq_getElem hlt,by simpa using h1⟩
theorem mO {us:List Us} {l:List Sc} {r:Rf} {u k:Nat} {f:Fd} (h:findF us l r=some (u,k,f)) :
  ∃ x s,us[u]?=some x∧x.al=r.al∧scN l x.sc=some s∧s.fields.l[k]?=some f∧f.name=r.attr:=by
 unfold findF at h
 split at h
 ·cases h
 rename_i u' hu
 split at h
 ·cases h
 rename_i x hx
 split at h
 ·cases h
 rename_i s hs
 split at h
 ·cases h
 rename_i k' hk
 split at h
 ·cases h
 rename_i g hg
 simp only [Option.some.injEq,Prod.mk.injEq] at h
 obtain ⟨rfl,rfl,rfl⟩:=h
 obtain ⟨y,h1,h2⟩:=MR hu
 obtain ⟨g',h3,h4⟩:=PJ hk
 rw [hx] at h1
 rw [hg] at h3
 injection h1 with h1
 injection h3 with h3
 subst h1 h3
 exact ⟨x,s,hx,h2,hs,hg,h4⟩
theorem Ib {us:List Us} {l:List Sc} {r r':Rf} {u k:Nat} {f f':Fd} (h:findF us l r=some (u,k,f)) (h':findF us l r'=some (u,k,f')):r=r':=by
 obtain ⟨x,s,a1,a2,a3,a4,a5⟩:=mO h
 obtain ⟨y,s',b1,b2,b3,b4,b5⟩:=mO h'
 rw [a1] at b1
 injection b1 with b1
 subst b1
 rw [a3] at b3
 injection b3 with b3
 subst b3
 rw [a4] at b4
 injection b4 with b4
 subst b4
 cases r;cases r'
 simp only at a2 a5 b2 b5
 rw [<-a2,<-a5,b2,b5]
theorem MS {us:List Us} {l:List Sc} {r r':Rf} (h:(findF us l r).isSome=true) (h':(findF us l r').isSome=true) (e:pcR us l r=pcR us l r'):r=r':=by
 obtain ⟨⟨u,k,f⟩,h⟩:=Option.isSome_iff_exists.1 h
 obtain ⟨⟨u',k',f'⟩,h'⟩:=Option.isSome_iff_exists.1 h'
 simp only [pcR,h,h',Pc.mk.injEq] at e
 have e1:u=u':=by omega
 have e2:k=k':=by omega
 subst e1 e2
 exact Ib h h'
theorem EB {us:List Us} {l:List Sc}:∀ L:List Rf,L.Nodup->(∀ r∈L,(findF us l r).isSome=true)->twP (L.map (pcR us l))=false
 | [],_,_=>rfl
 | r :: L,hd,hs=>by
  rw [List.nodup_cons] at hd
  simp only [List.map_cons,twP]
  rw [EB L hd.2 fun x hx=>hs x (by simp [hx])]
  simp only [Bool.or_false,decide_eq_false_iff_not,List.mem_map,not_exists,not_and]
  intro x hx e
  have:=MS (hs x (by simp [hx])) (hs r (by simp)) e
  subst this
  exact hd.1 hx
theorem lN:∀ {l:List Sc},iI l=0->∀ s∈l,iZ s=0
 | [],_,s,h=>by cases h
 | x :: l,h,s,hs=>by
  simp only [iI] at h
  split at h
  ·rename_i h0
   rcases List.mem_cons.1 hs with rfl | hs
   ·exact h0
   ·exact lN h s hs
  ·rename_i h0
   exact absurd h h0
theorem wX:∀ {l:List Fd} {met:List Bs},eU met l=0->∀ f∈l,dm f=0
 | [],_,_,f,h=>by cases h
 | x :: l,met,h,f,hf=>by
  simp only [eU] at h
  split at h
  ·exact absurd h (by decide)
  split at h
  ·exact absurd h (by decide)
  split at h
  ·rename_i h0;exact absurd h h0
  ·rename_i h0
   rcases List.mem_cons.1 hf with rfl | hf
   ·simpa using h0
   ·exact wX h f hf
theorem pT {s:Sc} (h:iZ s=0):s.fields.l.length<=16∧∀ f∈s.fields.l,dm f=0:=by
 unfold iZ at h
 split at h
 ·exact absurd h (by decide)
 split at h
 ·exact absurd h (by decide)
 ·exact ⟨by omega,wX h⟩
theorem MT {f:Fd} (h:dm f=0):FdW f:=by
 unfold dm at h
 split at h
 ·rename_i hk
  split at h
  ·exact absurd h (by decide)
  rename_i hw
  split at h
  ·exact absurd h (by decide)
  ·have hw:f.words.l=[]:=by simpa using hw
   refine ⟨.inl hk,by omega,by omega,by omega,?_⟩
   rw [hw];simp
 ·split at h
  ·rename_i hk
   split at h
   ·exact absurd h (by decide)
   ·rename_i hm
    unfold rW at h
    split at h
    ·exact absurd h (by decide)
    ·refine ⟨.inr ⟨hk,by omega,by omega,by omega⟩,by omega,by omega,by omega,by omega⟩
  ·exact absurd h (by decide)
theorem fO {p:Po} {l:List Sc} (h:bw p l=0):chk p=0∧iI l=0∧(l.map Sc.name).Nodup∧∀ u∈p.uses.l,(scN l u.sc).isSome=true:=by
 unfold bw at h
 split at h
 ·rename_i h0;exact absurd h h0
 rename_i h0
 split at h
 ·rename_i h1;exact absurd h h1
 rename_i h1
 split at h
 ·exact absurd h (by decide)
 rename_i h2
 split at h
 ·exact absurd h (by decide)
 ·rename_i h3
  refine ⟨by simpa using h0,by simpa using h1,by simpa using h2,?_⟩
  simpa only [Bool.not_eq_false,List.all_eq_true] using h3
theorem sG {p:Po} {l:List Sc} (h:bw p l=0) (us:List Us) (n:Nd):FdW (ak us l n):=by
 have hz:FdW zFd:=⟨.inl rfl,by decide,by decide,by decide,by decide⟩
 unfold ak
 cases e:findF us l ⟨n.nm,n.attr⟩ with
 | none=>exact hz
 | some q=>
  obtain ⟨u,k,f⟩:=q
  obtain ⟨x,s,_,_,a3,a4,_⟩:=mO e
  exact MT ((pT (lN (fO h).2.1 s (rP a3).1)).2 f (List.mem_of_getElem? a4))
theorem FR {p:Po} {l:List Sc} (h:bw p l=0) {r:Rf} (hr:(findF p.uses.l l r).isSome=true):JP (pcR p.uses.l l r)=false:=by
 obtain ⟨⟨u,k,f⟩,e⟩:=Option.isSome_iff_exists.1 hr
 obtain ⟨x,s,a1,_,a3,a4,_⟩:=mO e
 have h1:u < p.uses.l.length:=(List.getElem?_eq_some_iff.1 a1).1
 have h2:k < s.fields.l.length:=(List.getElem?_eq_some_iff.1 a4).1
 have h3:=(pT (lN (fO h).2.1 s (rP a3).1)).1
 have h4:p.uses.l.length<=4:=by
  have:=(fO h).1
  unfold chk at this
  split at this
  ·exact absurd this (by decide)
  ·omega
 simp only [pcR,e,JP,decide_eq_false_iff_not]
 omega
theorem wH {p:Po} (h:chk p=0):p.aA.l.length<=64∧p.aA.l.Nodup:=by
 unfold chk at h
 split at h
 ·exact absurd h (by decide)
 rename_i h0
 split at h
 ·exact absurd h (by decide)
 split at h
 ·exact absurd h (by decide)
 split at h
 ·rename_i h1;exact absurd h h1
 split at h
 ·exact absurd h (by decide)
 ·rename_i h2
  refine ⟨by omega,?_⟩
  by_cases q:p.aA.l.Nodup
  ·exact q
  ·exact absurd (.inr q) h2
/- JQ. -/
theorem jg {fd:Nd->Fd} {x:Nd} {lo hi:Int} (e:within fd x lo hi=.atom 7 0 [x,bg lo,bg hi]):(fd x).mn<=lo∧lo<=hi∧hi<=(fd x).mx:=by
 unfold within at e
 split at e
 ·simp [cB] at e
 split at e
 ·simp [cB] at e
 split at e
 ·simp [dO] at e
 ·simp only [Cd.atom.injEq,List.cons.injEq,bg,Nd.mk.injEq,and_true,true_and] at e
  omega
theorem nN {a:Pt} {n:Nat} (h0:0<=a.kind) (h6:a.kind < 6) (h:Cy a n=true):ptE a n=0:=by
 unfold ptE
 rw [if_neg (by omega),if_pos h]
theorem okC {kd a lo:Int} {n:Nat} (hk:kd=0∨kd=1) (ha:0<=a∧a < (n:Int)) (hl:0<=lo∧lo<=cJ):ptE ⟨kd,a,0,lo,0⟩ n=0:=by
 refine nN (by simp only;omega) (by simp only;omega) ?_
 unfold Cy
 simp only
 rw [if_pos hk]
 simp [ha.1,ha.2,hl.1,hl.2]
theorem okR {a lo hi:Int} {n:Nat} (ha:0<=a∧a < (n:Int)) (hl:0<=lo∧lo<=hi∧hi<=cJ):ptE ⟨2,a,0,lo,hi⟩ n=0:=by
 refine nN (by simp only;omega) (by simp only;omega) ?_
 unfold Cy
 simp [ha.1,ha.2,hl.1,hl.2.1,hl.2.2]
theorem okS {kd a b:Int} {n:Nat} (hk:kd=3∨kd=4) (ha:0<=a∧a < (n:Int)) (hb:0<=b∧b < (n:Int)) (hab:a≠b):ptE ⟨kd,a,b,0,0⟩ n=0:=by
 refine nN (by simp only;omega) (by simp only;omega) ?_
 unfold Cy
 simp only
 rw [if_neg (by omega),if_neg (by omega),if_pos hk]
 simp [ha.1,ha.2,hb.1,hb.2,hab]
theorem okD {a b lo hi:Int} {n:Nat} (ha:0<=a∧a < (n:Int)) (hb:0<=b∧b < (n:Int)) (hab:a≠b) (h1:-cJ<=lo) (h2:lo<=hi) (h3:hi<=cJ) (h4:hi - lo<=cJ):ptE ⟨5,a,b,lo,hi⟩ n=0:=by
 refine nN (by simp only;omega) (by simp only;omega) ?_
 unfold Cy
 simp [ha.1,ha.2,hb.1,hb.2,hab,h1,h2,h3,h4]
theorem Bw {refs:List Rf} {x:Nd} (h:(⟨x.nm,x.attr⟩:Rf)∈refs):refs[ixR refs x]?=some ⟨x.nm,x.attr⟩:=by
 unfold ixR
 cases e:refs.findIdx? fun r=>decide (r=⟨x.nm,x.attr⟩) with
 | none=>
  rw [List.findIdx?_eq_none_iff] at e
  have:=e _ h
  simp at this
 | some i=>
  obtain ⟨hlt,h1,_⟩:=List.findIdx?_eq_some_iff_getElem.1 e
  simp only [Option.getD_some]
  rw [List.getElem?_eq_getElem hlt]
  simpa using h1
def inR (refs:List Rf) (v:Nd):Prop:=(⟨v.nm,v.attr⟩:Rf)∈refs
theorem JR {refs:List Rf} {x:Nd} (h:inR refs x):ixR refs x < refs.length:=(List.getElem?_eq_some_iff.1 (Bw h)).1
theorem PK {refs:List Rf} {x y:Nd} (hx:inR refs x) (hy:inR refs y) (hne:¬ (x.nm=y.nm∧x.attr=y.attr)):(ixR refs x:Int)≠(ixR refs y:Int):=fun e=>by
 have e':ixR refs x=ixR refs y:=by omega
 have h1:=Bw hx
 rw [e',Bw hy] at h1
 simp only [Option.some.injEq,Rf.mk.injEq] at h1
 exact hne ⟨h1.1.symm,h1.2.symm⟩
section
variable {us:List Us} {l:List Sc} {refs:List Rf}
theorem qT {f:Fd} (h:FdW f):0<=bT f∧bT f<=cJ:=by
 obtain ⟨h0,h1,h2,h3,h4⟩:=h
 unfold bT cJ
 split
 ·rcases h0 with h0 | h0<;>omega
 ·omega
theorem Au (hf:∀ n,FdW (ak us l n)) {x y:Nd} {num:Int} (w:Wt us l num x y) (e:values (ak us l) num x y=dO num x y) (hy:y.k≠9):0<=dx (ak us l x) y∧dx (ak us l x) y<=cJ:=by
 obtain ⟨ha,h3,hc⟩:=qJ w e
 have fx:=hf x
 rcases hc with ⟨kb,h01,hv,a1,a2⟩ | ⟨kb,h01,hkd⟩ | ⟨kb,_⟩ | ⟨kb,_⟩
 ·unfold dx cJ
  rw [if_pos kb]
  obtain ⟨h0,h1,h2,h3,h4⟩:=fx
  omega
 ·unfold dx cJ
  rw [if_neg (by omega)]
  cases q:(ak us l x).words.l.findIdx? fun v=>decide (v=y.nm) with
  | none=>simp
  | some i=>
   obtain ⟨hlt,_,_⟩:=List.findIdx?_eq_some_iff_getElem.1 q
   obtain ⟨h0,h1,h2,h3,h4⟩:=fx
   simp only [Option.getD_some]
   omega
 ·exact absurd kb hy
 ·exact absurd kb hy
theorem PL {x y:Nd} {num:Int} (w:Wt us l num x y) (e:values (ak us l) num x y=dO num x y) (hy:y.k=9):¬ (x.nm=y.nm∧x.attr=y.attr):=by
 obtain ⟨ha,h3,hc⟩:=qJ w e
 rcases hc with ⟨kb,_⟩ | ⟨kb,_⟩ | ⟨kb,hne,_⟩ | ⟨kb,hne,_⟩
 ·omega
 ·omega
 ·exact hne
 ·exact hne
theorem Bz (hf:∀ n,FdW (ak us l n)) {k num:Int} {vs:List Nd} (h:AtN us l (inR refs) k num vs):∀ a∈jL refs (ak us l) k num vs,far a=false->ptE a refs.length=0∧(k=7->a.kind=2):=by
 obtain ⟨x,y,r,rfl,kx,qx,qy,h7,h6,h67,hp⟩:=kK (refs:=refs) hf h
 have hx:=JR qx
 have sx:=qT (hf x)
 have sy:=qT (hf y)
 have fx:=hf x
 have fy:=hf y
 obtain ⟨_,x1,x2,x3,x4⟩:=fx
 obtain ⟨_,y1,y2,y3,y4⟩:=fy
 have two:k=6->y.k=9->ixR refs y < refs.length∧(ixR refs x:Int)≠(ixR refs y:Int):=fun hk hy=>by
  obtain ⟨rfl,w,e⟩:=h6 hk
  exact ⟨JR (qy hy),PK qx (qy hy) (PL w e hy)⟩
 intro a ha U5
 generalize jL refs (ak us l) k num (x :: y :: r)=P at hp ha
 have ff:∀ {kd i j lo hi:Int},a=⟨kd,i,j,lo,hi⟩->hi - lo<=cJ:=fun e=>by
  rw [e] at U5
  simp only [far,decide_eq_false_iff_not] at U5
  omega
 cases hp with
 | range hk=>
  subst hk
  obtain ⟨rfl,lo,hi,rfl,rfl,k0⟩:=h7 rfl
  have e:=ff (List.mem_singleton.1 ha)
  rw [List.mem_singleton.1 ha]
  rcases h.2 with ⟨q,_⟩ | ⟨_,_,x',lo',hi',ev,_,_,ew⟩
  ·exact absurd q (by decide)
  ·simp only [List.cons.injEq,bg,Nd.mk.injEq,and_true,true_and] at ev
   obtain ⟨rfl,rfl,rfl⟩:=ev
   obtain ⟨w1,w2,w3⟩:=jg ew
   refine ⟨okR (by omega) ?_,fun _=>rfl⟩
   simp only [dx,bg,if_true,List.headD_cons] at e ⊢
   unfold cJ
   omega
 | const hk hy hn=>
  obtain ⟨rfl,w,e⟩:=h6 hk
  rw [List.mem_singleton.1 ha]
  exact ⟨okC hn (by omega) (Au hf w e hy),fun q=>by omega⟩
 | less hk hy hn e0 he hle=>
  obtain ⟨t1,t2⟩:=two hk hy
  have e:=ff (List.mem_singleton.1 ha)
  rw [List.mem_singleton.1 ha]
  refine ⟨okD (by omega) (by omega) t2 (by omega) hle ?_ e,fun q=>by omega⟩
  unfold cJ
  rcases hn with rfl | rfl<;>simp at he<;>omega
 | same hk hy hn h0=>
  obtain ⟨t1,t2⟩:=two hk hy
  rw [List.mem_singleton.1 ha]
  exact ⟨okS (by omega) (by omega) (by omega) t2,fun q=>by omega⟩
 | off hk hy hn h0=>
  obtain ⟨t1,t2⟩:=two hk hy
  have e:=ff (List.mem_singleton.1 ha)
  rw [List.mem_singleton.1 ha]
  refine ⟨okD (by omega) (by omega) t2 ?_ (Int.le_refl _) ?_ e,fun q=>by omega⟩<;>unfold cJ<;>omega
 | low hk hy hn h0 h1 h2=>
  obtain ⟨t1,t2⟩:=two hk hy
  have e:=ff (List.mem_singleton.1 ha)
  rw [List.mem_singleton.1 ha]
  refine ⟨okD (by omega) (by omega) t2 (by omega) h1 ?_ e,fun q=>by omega⟩
  unfold cJ;omega
 | high hk hy hn h0 h1 h2=>
  obtain ⟨t1,t2⟩:=two hk hy
  have e:=ff (List.mem_singleton.1 ha)
  rw [List.mem_singleton.1 ha]
  refine ⟨okD (by omega) (by omega) t2 ?_ h2 (by omega) e,fun q=>by omega⟩
  unfold cJ;omega
 | both hk hy hn h0 h1 h2=>
  obtain ⟨t1,t2⟩:=two hk hy
  simp only [List.mem_cons,List.not_mem_nil,or_false] at ha
  rcases ha with ha | ha
  ·have e:=ff ha
   rw [ha]
   refine ⟨okD (by omega) (by omega) t2 (by omega) h1 ?_ e,fun q=>by omega⟩
   unfold cJ;omega
  ·have e:=ff ha
   rw [ha]
   refine ⟨okD (by omega) (by omega) t2 ?_ h2 (by omega) e,fun q=>by omega⟩
   unfold cJ;omega
mutual
theorem JS (hf:∀ n,FdW (ak us l n)):∀ c:Cd,NF us l (inR refs) c->∀ a∈kL refs (ak us l) c,far a=false->ptE a refs.length=0
 | .atom k num vs,h,a,ha,hn=>(Bz hf h a ha hn).1
 | .gate need ks,h,a,ha,hn=>nO hf ks (fun c hc=>(cT.1 h.2.2.2 c hc).1) a ha hn
theorem nO (hf:∀ n,FdW (ak us l n)):∀ cs:List Cd,(∀ c∈cs,NF us l (inR refs) c)->∀ a∈bk refs (ak us l) cs,far a=false->ptE a refs.length=0
 | [],_,a,ha,_=>by simp [bk] at ha
 | c :: cs,h,a,ha,hn=>by
  simp only [bk,List.mem_append] at ha
  rcases ha with ha | ha
  ·exact JS hf c (h c (by simp)) a ha hn
  ·exact nO hf cs (fun d hd=>h d (by simp [hd])) a ha hn
end
theorem C3 (hf:∀ n,FdW (ak us l n)) {c:Cd} (h:NF us l (inR refs) c) {a:Pt} (ha:bI refs (ak us l) c=some a):ptE a refs.length=0∧a.kind=2:=by
 cases c with
 | gate need ks=>simp [bI] at ha
 | atom k num vs=>
  have h':=kK (refs:=refs) hf h
  simp only [bI] at ha
  split at ha
  ·rename_i hk
   subst hk
   split at ha
   ·rename_i b r e
    split at ha
    ·injection ha with ha
     subst ha
     obtain ⟨x,y,r',rfl,kx,qx,qy,h7,h6,h67,hp⟩:=h'
     have hm:b∈jL refs (ak us l) 7 num (x :: y :: r'):=by rw [e];simp
     have fb:far b=false:=by
      generalize jL refs (ak us l) 7 num (x :: y :: r')=P at hp hm e
      cases hp with
      | range hk=>
       obtain ⟨rfl,lo,hi,rfl,rfl,k0⟩:=h7 rfl
       rcases h.2 with ⟨q,_⟩ | ⟨_,_,x',lo',hi',ev,_,_,ew⟩
       ·exact absurd q (by decide)
       ·simp only [List.cons.injEq,bg,Nd.mk.injEq,and_true,true_and] at ev
        obtain ⟨rfl,rfl,rfl⟩:=ev
        obtain ⟨w1,w2,w3⟩:=jg ew
        obtain ⟨_,x1,x2,x3,x4⟩:=hf x
        rw [List.mem_singleton.1 hm]
        simp only [far,dx,bg,if_true,List.headD_cons,decide_eq_false_iff_not]
        unfold cJ
        omega
      | const hk=>exact absurd hk (by decide)
      | less hk=>exact absurd hk (by decide)
      | same hk=>exact absurd hk (by decide)
      | off hk=>exact absurd hk (by decide)
      | low hk=>exact absurd hk (by decide)
      | high hk=>exact absurd hk (by decide)
      | both hk=>exact absurd hk (by decide)
     obtain ⟨q1,q2⟩:=Bz hf h b hm fb
     exact ⟨q1,q2 rfl⟩
    ·cases ha
   ·cases ha
  ·cases ha
theorem nP {n:Nat}:∀ {L:List Pt},(∀ a∈L,ptE a n=0)->zG n L=0
 | [],_=>rfl
 | a :: L,h=>by
  simp only [zG,h a (by simp)]
  exact nP fun b hb=>h b (by simp [hb])
theorem sV {n:Nat}:∀ {L:List Pt},(∀ a∈L,ptE a n=0∧a.kind=2)->zA n L=0
 | [],_=>rfl
 | a :: L,h=>by
  simp only [zA,(h a (by simp)).1,(h a (by simp)).2]
  exact sV fun b hb=>h b (by simp [hb])
theorem wY:fmE [] 0=0:=by decide
theorem MU (hf:∀ n,FdW (ak us l n)) (ks:List Cd) (h:∀ c∈ks,NF us l (inR refs) c) (hs:Cd.sizes ks<=500) (hp:(bk refs (ak us l) ks).length<=256) :
  fmE (jU (BA (cF refs (ak us l) ks))) (bk refs (ak us l) ks).length=0:=by
 match ks,h with
 | [],_=>exact wY
 | [c],h=>
  obtain ⟨a1,a2,a3⟩:=Et (refs:=refs) hf c (h c (by simp))
  simp only [Cd.sizes,bk,List.append_nil] at hs hp ⊢
  simp only [cF,BA,jU]
  rw [<-a2] at hp ⊢
  exact BB a1 (by omega) hp
 | c :: d :: r,h=>
  obtain ⟨a1,a2,a3⟩:=nL (refs:=refs) hf (c :: d :: r) h
  have en:BA (cF refs (ak us l) (c :: d :: r))=some (.gate ((c :: d :: r).length:Int) (cF refs (ak us l) (c :: d :: r))):=by
   simp only [cF,BA,List.length_cons,eI]
  rw [en]
  simp only [jU]
  have e1:(Fm.gate ((c :: d :: r).length:Int) (cF refs (ak us l) (c :: d :: r))).lvs=(bk refs (ak us l) (c :: d :: r)).length:=by simp only [Fm.lvs];exact a2
  rw [<-e1] at hp ⊢
  refine BB ⟨?_,?_,a1⟩ ?_ hp
  ·simp only [List.length_cons];omega
  ·rw [eI];exact Int.le_refl _
  ·simp only [Fm.size];omega
theorem Ic (hf:∀ n,FdW (ak us l n)) (c:Cd) (h:NF us l (inR refs) c) (hs:c.size<=500) (he:qF (eF refs (ak us l) c).1 (eF refs (ak us l) c).2.1=0) :
  zG refs.length (eF refs (ak us l) c).1=0∧zA refs.length (eF refs (ak us l) c).2.1=0∧fmE (jU (eF refs (ak us l) c).2.2) (eF refs (ak us l) c).1.length=0:=by
 have hA:(eF refs (ak us l) c).1.length<=256∧∀ a∈(eF refs (ak us l) c).1,far a=false:=by
  unfold qF at he
  split at he
  ·exact absurd he (by decide)
  rename_i h1
  split at he
  ·exact absurd he (by decide)
  ·rename_i h2
   refine ⟨by omega,fun a ha=>?_⟩
   simp only [Bool.not_eq_true,List.any_eq_false] at h2
   simpa using h2 a ha
 clear he
 unfold eF at hA ⊢
 cases hw:bI refs (ak us l) c with
 | some a=>
  rw [hw] at hA
  simp only
  exact ⟨rfl,sV fun b hb=>by rw [List.mem_singleton.1 hb];exact C3 hf h hw,wY⟩
 | none=>
  rw [hw] at hA
  cases c with
  | atom k num ns=>
   obtain ⟨a1,a2,a3⟩:=Et (refs:=refs) hf _ h
   simp only [fmC,kL] at a1 a2 a3
   simp only at hA ⊢
   refine ⟨nP fun a ha=>(Bz hf h a ha (hA.2 a ha)).1,rfl,?_⟩
   simp only [jU]
   have:=hA.1
   rw [<-a2] at this ⊢
   exact BB a1 (by omega) this
  | gate need ks=>
   have hk:∀ c∈ks,NF us l (inR refs) c:=fun c hc=>(cT.1 h.2.2.2 c hc).1
   simp only at hA ⊢
   by_cases hn:need=(ks.length:Int)
   ·rw [if_pos hn] at hA ⊢
    have hk':∀ c∈narrow refs (ak us l) ks,NF us l (inR refs) c:=fun c hc=>hk c (pM hc)
    have h1:=gm refs (ak us l) ks
    simp only [Cd.size] at hs
    refine ⟨nP fun a ha=>nO hf _ hk' a ha (hA.2 a ha),sV fun a ha=>?_,MU hf _ hk' (by omega) hA.1⟩
    obtain ⟨c,hc,e⟩:=List.mem_filterMap.1 ha
    exact C3 hf (hk c hc) e
   ·rw [if_neg hn] at hA ⊢
    obtain ⟨a1,a2,a3⟩:=nL (refs:=refs) hf ks hk
    refine ⟨nP fun a ha=>nO hf _ hk a ha (hA.2 a ha),rfl,?_⟩
    simp only [jU]
    have e1:(Fm.gate need (cF refs (ak us l) ks)).lvs=(bk refs (ak us l) ks).length:=by simp only [Fm.lvs];exact a2
    have:=hA.1
    simp only at this ⊢
    rw [<-e1] at this ⊢
    refine BB ⟨h.2.1,by rw [eI];exact h.2.2.1,a1⟩ ?_ this
    simp only [Fm.size,Cd.size] at hs ⊢
    omega
end
theorem JT {p:Po} {l:List Sc} (h:bw p l=0) (hv:∀ r∈p.aA.l,(findF p.uses.l l r).isSome=true) {refs:List Rf} (hd:refs.Nodup) (hl:refs.length<=64) (hr:∀ r∈refs,(findF p.uses.l l r).isSome=true)
  {A S:List Pt} {F:Option Fm} {na nc ns nd:Bool} (he:qF A S=0) (h1:zG refs.length A=0) (h2:zA refs.length S=0) (h3:fmE (jU F) A.length=0) :
  Ja ⟨⟨nd,p.aA.l.map (pcR p.uses.l l)⟩,⟨nc,refs.map (pcR p.uses.l l)⟩,⟨na,A⟩,bE F,⟨ns,S⟩⟩=0:=by
 obtain ⟨r1,r2⟩:=wH (fO h).1
 unfold qF at he
 split at he
 ·exact absurd he (by decide)
 rename_i h0
 unfold Ja
 simp only [List.length_map,JU]
 rw [if_neg (by omega),if_neg,if_neg,if_neg (by simp [h3]),if_neg (by simp [h1])]
 ·exact h2
 ·rw [EB _ r2 hv,EB _ hd hr]
  simp
 ·simp only [Bool.not_eq_true,List.any_eq_false,List.mem_append,List.mem_map]
  rintro x (⟨r,hr',rfl⟩ | ⟨r,hr',rfl⟩)
  ·simp [FR h (hv r hr')]
  ·simp [FR h (hr r hr')]
theorem wZ:∀ (l:List Tr) (acc:List Rf),acc.Nodup->(l.foldl (fun acc s=>mj acc s.n) acc).Nodup
 | [],acc,h=>h
 | s :: l,acc,h=>by
  refine wZ l (mj acc s.n) ?_
  unfold mj
  split
  ·split
   ·exact h
   ·rename_i hm
    rw [List.nodup_append]
    exact ⟨h,by simp,fun a ha b hb=>by
     rw [List.mem_singleton.1 hb]
     rintro rfl
     exact hm ha⟩
  ·exact h
theorem C4 {p:Po} {t:Tr} (h:IsT p.nodes.l t):(bL p t).Nodup:=by
 rw [FT h]
 exact wZ _ [] List.nodup_nil
theorem mD {α:Type} [DecidableEq α]:∀ (a b:List α),a.Nodup->(∀ x∈a,x∈b)->a.length<=b.length
 | [],b,_,_=>by simp
 | x :: a,b,h,hs=>by
  rw [List.nodup_cons] at h
  have:=mD a (b.erase x) h.2 fun y hy=>by
   refine (List.mem_erase_of_ne ?_).2 (hs y (by simp [hy]))
   rintro rfl
   exact h.1 hy
  have h2:=List.length_erase_of_mem (hs x (by simp))
  have h3:=List.length_pos_of_mem (hs x (by simp))
  simp only [List.length_cons]
  omega
end Go.Ab.Pol
/-
  The atoms of a condition of a normal form.
-/
namespace Go.Ab.Pn
open Go.Ab.Pol
set_option maxRecDepth 100000
set_option maxHeartbeats 4000000
theorem Xk {K:Cfg} {O:Orc} (a b c d r:CC) (s:St):evC K O (.seq a (.seq b (.seq c (.seq d r)))) s=goS K O r (evC K O (.seq a (.seq b (.seq c d))) s):=by
 simp only [eA]
 cases evC K O a s with
 | none=>rfl
 | some q=>
  obtain ⟨ex,s1⟩:=q
  cases ex<;>simp only [goS,eA]
  cases evC K O b s1 with
  | none=>rfl
  | some q=>
   obtain ⟨ex,s2⟩:=q
   cases ex<;>simp only [goS,eA]
   cases evC K O c s2 with
   | none=>rfl
   | some q=>
    obtain ⟨ex,s3⟩:=q
    cases ex<;>simp only [goS,eA]
theorem Uq {K:Cfg} {O:Orc} (a b r:CC) (s:St):evC K O (.seq a (.seq b r)) s=goS K O r (evC K O (.seq a b) s):=by
 simp only [eA]
 cases evC K O a s with
 | none=>rfl
 | some q=>
  obtain ⟨ex,s1⟩:=q
  cases ex<;>simp only [goS,eA]
section
variable {us:List Us} {l:List Sc} (nodes:Sl Nd) (refs:List Rf) (Q:Nd->Prop) (hQ:∀ v,Q v->Q (aR v)) (h:Heap) (b:Loc) (m:Mk nodes (ak us l) refs Q h b)
include m
theorem PM (n:Nd) (B:Loc):evC K (mu K) JV ⟨cL 0 [.ptr B 0,n.av],[] :: h⟩=some (.norm,⟨[(4,.af),(3,.ptr (h.length,0) 0),(0,.ptr B 0),(1,n.av)],[.box 90 false n.av] :: h⟩):=by
 have qk:=au _ bW n.kids
 simp [JV,KL,aa]
theorem FU (n:Nd) (i j:Nat) (r:List AV) (x y:Nd) (hk:n.kids.avS iV=.lst (iV (i:Int) :: iV (j:Int) :: r)) (hx:nodes.l[i]?=some x) (hy:nodes.l[j]?=some y) (qx:Q x) :
  ∃ (env:Env) (c:Loc) (ws:List (AV×AV)),BC env b h.length∧hget h c=some (.map ws)∧WdM (ak us l x) ws ∧
   (mu K).fn 141 [.ptr b 0,n.av] h=goF og.res (evC K (mu K) (.seq qU (.seq xd (.seq FV (.seq FW (.seq FX (.seq FY (.seq qV (.seq xe pU))))))))
    ⟨env,[.box 90 false n.av,.box 102 false (gp (ixR refs x:Int) (ak us l x) (.mp c)),.box 90 false y.av] :: h⟩):=by
 obtain ⟨c,ws,c1,c2,c3⟩:=m.f183 hx qx
 obtain ⟨env,k1,g1⟩:=U6 nodes (ak us l) refs Q h b m n i j r x y hk hx hy qx c (jy c1) c3 [(4,.af),(3,.ptr (h.length,0) 0),(0,.ptr b 0),(1,n.av)] rfl rfl
 refine ⟨env,c,ws,g1,c1,c2,?_⟩
 rw [aD (KX _ _ _) Tf JW (by simp [og])]
 rw [eA,PM nodes refs Q h b m n b,cE,eA,k1,cE]
include hQ
theorem f141 {k num:Int} {vs:List Nd} (hA:AtN us l Q k num vs) (b0:Nat) (hat:∀ (j:Nat) (v:Nd),vs[j]?=some v->nodes.l[b0+1+j]?=some (aR v)) :
  (mu K).fn 141 [.ptr b 0,(bB b0 k num vs.length).av] h=some (.val (.lst ((jL refs (ak us l) k num vs).map Pt.av)) h):=by
 have hf:=m.hf
 have hl:=BD (us:=us) (l:=l)
 obtain ⟨qv,hA⟩:=hA
 rcases hA with ⟨rfl,a,b',rfl,w,e⟩ | ⟨rfl,rfl,x,lo,hi,rfl,kx,hv,e⟩
 ·obtain ⟨ka,h3,hc⟩:=qJ w e
  have hx:=hat 0 a rfl
  have hy:=hat 1 b' rfl
  have hk:(bB b0 6 num 2).kids.avS iV=.lst [iV ((b0+1+0:Nat):Int),iV ((b0+1+1:Nat):Int)]:=by simp [bB,upI,Sl.avS,List.range_succ]
  obtain ⟨env,c,ws,g1,c1,c2,start⟩:=FU nodes refs Q h b m (bB b0 6 num 2) (b0+1+0) (b0+1+1) [] (aR a) (aR b') hk hx hy (hQ a (qv a (by simp) ka))
  have e3:jL refs (ak us l) 6 num [a,b']=sK refs (ak us l) 6 num (aR a) (aR b') (aR (bg 0)):=by
   rw [Ie refs (ak us l) hl];rfl
  rw [e3]
  have start:(mu K).fn 141 [.ptr b 0,(bB b0 6 num [a,b'].length).av] h=_:=start
  rw [start]
  have ky:b'.k=9∨b'.k≠9:=by omega
  rcases ky with ky | ky
  ·obtain ⟨c',ws',d1,d2,d3⟩:=m.f183 hy (hQ b' (qv b' (by simp) ky))
   obtain ⟨qB,k2,g2⟩:=MV nodes (ak us l) refs Q h b m (bB b0 6 num 2) rfl (aR a) (aR b') ky (gp (ixR refs (aR a):Int) (ak us l (aR a)) (.mp c)) env g1
   obtain ⟨Jc,k3,g3⟩:=MW nodes (ak us l) refs Q h b m (bB b0 6 num 2) (b0+1+0) (b0+1+1) [] (aR a) (aR b') hk hy (hQ b' (qv b' (by simp) ky)) c c' (jy d1) d3 qB g2
   rw [Uq,k2,cE,Xk,k3,cE]
   exact PN nodes (ak us l) refs Q h b m (bB b0 6 num 2) (by simp only [bB];omega) (aR a) (aR b') c c' Jc g3 (aR (bg 0)) rfl ky
  ·have Xl:b'.k=10∨b'.k=11:=by
    rcases hc with ⟨kb,_⟩ | ⟨kb,_⟩ | ⟨kb,_⟩ | ⟨kb,_⟩
    ·exact .inl kb
    ·exact (w.2.2.1.resolve_left ky)
    ·exact absurd kb ky
    ·exact absurd kb ky
   have h01:num=0∨num=1:=by
    rcases hc with ⟨kb,q,_⟩ | ⟨kb,q,_⟩ | ⟨kb,_⟩ | ⟨kb,_⟩
    ·exact q
    ·exact q
    ·exact absurd kb ky
    ·exact absurd kb ky
   have hyn:b'.k=10->-1099511627776<=b'.num∧b'.num<=1099511627776:=fun q=>by
    obtain ⟨_,_,x1,x2,_⟩:=hf a
    rcases hc with ⟨kb,_,_,y1,y2⟩ | ⟨kb,_,hkd⟩ | ⟨kb,_⟩ | ⟨kb,_⟩
    ·omega
    ·exfalso
     obtain ⟨_,_,_,vx,vy,e1,e2,e4,_⟩:=w
     have hyn:cP us l b'=some .num:=by unfold cP;rw [if_pos q]
     rw [hyn] at e2
     injection e2 with e2
     subst e2
     cases vx with
     | num=>exact hkd (mJ ka e1)
     | wd w=>exact absurd e4 (by simp [aT])
     | fw w=>exact absurd e4 (by simp [aT])
    ·exact absurd kb ky
    ·exact absurd kb ky
   rw [PO nodes (ak us l) refs Q h b m (bB b0 6 num 2) (aR a) (aR b') rfl h01 Xl hyn c ws c1 c2 env g1]
   unfold sK
   rw [if_neg (by decide),if_pos (show (aR b').k≠9 from ky)]
   rcases h01 with rfl | rfl<;>rfl
 ·have hx:=hat 0 x rfl
  have hy:=hat 1 (bg lo) rfl
  have hz:=hat 2 (bg hi) rfl
  obtain ⟨w1,w2,w3⟩:=jg e
  obtain ⟨_,_,x1,x2,_⟩:=hf x
  have hk:(bB b0 7 0 3).kids.avS iV=.lst [iV ((b0+1+0:Nat):Int),iV ((b0+1+1:Nat):Int),iV ((b0+1+2:Nat):Int)]:=by simp [bB,upI,Sl.avS,List.range_succ]
  obtain ⟨env,c,ws,g1,c1,c2,start⟩:=FU nodes refs Q h b m (bB b0 7 0 3) (b0+1+0) (b0+1+1) [iV ((b0+1+2:Nat):Int)] (aR x) (aR (bg lo)) hk hx hy (hQ x (qv x (by simp) kx))
  have start:(mu K).fn 141 [.ptr b 0,(bB b0 7 0 [x,bg lo,bg hi].length).av] h=_:=start
  rw [start,PR nodes (ak us l) refs Q h b m (bB b0 7 0 3) (b0+1+0) (b0+1+1) (b0+1+2) (aR x) (aR (bg lo)) (aR (bg hi)) hk rfl hz (.inl rfl) (.inl rfl) (fun _=>by simp only [aR,bg];omega) (fun _=>by simp only [aR,bg];omega) c ws c1 c2 env g1]
  rfl
end
end Go.Ab.Pn
/-
  The FD lists;a range that is proved by Wn.
-/
namespace Go.Ab.Pn
open Go.Ab.Pol
set_option maxRecDepth 100000
set_option maxHeartbeats 4000000
theorem nQ:∀ (h:Heap) (a b:Loc) (B C:Blk),a≠b->aP (aP h a B) b C=aP (aP h b C) a B
 | [],_,_,_,_,_=>rfl
 | f :: o,a,b,B,C,hn=>by
  by_cases e:a.1=o.length
  ·by_cases e':b.1=o.length
   ·have:a.2≠b.2:=fun q=>hn (Prod.ext (by omega) q)
    simp [aP,e,e',List.set_comm _ _ this]
   ·simp [aP,e,e',aW]
  ·by_cases e':b.1=o.length
   ·simp [aP,e,e',aW]
   ·simp [aP,e,e',aW,nQ o a b B C hn]
theorem eK {h:Heap} {a b:Loc} (hn:a≠b) (B:Blk):hget (aP h a B) b=hget h b:=by
 rw [eV,if_neg fun q=>hn q.1.symm]
theorem xh {h:Heap} {a c:Loc} {B:Blk} (d:dom h c):dom (aP h a B) c:=(aY h a c B).2 d
def mkB (nodes:Sl Nd) (am:Loc) (D C:AV) (aL sL:Loc) (an sn:Nat):Blk:=.box 95 false (.agg [nodes.avS Nd.av,.mp am,D,C,.own aL an,.af,.own sL sn])
structure Pls (nodes:Sl Nd) (fd:Nd->Pol.Fd) (refs:List Rf) (Q:Nd->Prop) (h:Heap) (b am aL sL:Loc):Prop where
 hf:∀ n,FdW (fd n)
 len:nodes.l.length<=1000
 db:dom h b
 da:dom h aL
 ds:dom h sL
 ba:b≠aL
 bs:b≠sL
 asn:aL≠sL
 lea:aL.1<=b.1
 les:sL.1<=b.1
 mp:∃ es:List (AV×AV),hget h am=some (.map es)∧am≠b∧am≠aL∧am≠sL ∧
  ∀ x,Q x->∃ (c:Loc) (ws:List (AV×AV)),hget h c=some (.map ws)∧c≠b∧c≠aL∧c≠sL∧WdM (fd x) ws∧eZ (.st [.str,.str]) (.agg [.str x.nm,.str x.attr]) es=some (some (gp (ixR refs x:Int) (fd x) (.mp c)))
section
variable (nodes:Sl Nd) (fd:Nd->Pol.Fd) (refs:List Rf) (Q:Nd->Prop) (h:Heap) (b am aL sL:Loc) (D C:AV)
def aU (A S:List Pt):Heap:=aP (aP (aP h aL (ptB A)) sL (ptB S)) b (mkB nodes am D C aL sL A.length S.length)
theorem dz (A S:List Pt):(aU nodes h b am aL sL D C A S).length=h.length:=by simp [aU,aW]
variable (m:Pls nodes fd refs Q h b am aL sL)
include m
theorem xj {a:Loc} (h1:a≠b) (h2:a≠aL) (h3:a≠sL) (A S:List Pt):hget (aU nodes h b am aL sL D C A S) a=hget h a:=by
 unfold aU
 rw [eK h1.symm,eK h3.symm,eK h2.symm]
theorem mP (A S:List Pt):hget (aU nodes h b am aL sL D C A S) b=some (mkB nodes am D C aL sL A.length S.length):=by
 unfold aU
 rw [iy]
 exact xh (xh m.db)
theorem PS (A S:List Pt):hget (aU nodes h b am aL sL D C A S) aL=some (ptB A):=by
 unfold aU
 rw [eK m.ba,eK m.asn.symm,iy m.da]
theorem PT (A S:List Pt):hget (aU nodes h b am aL sL D C A S) sL=some (ptB S):=by
 unfold aU
 rw [eK m.bs,iy]
 exact xh m.ds
theorem Ig (A A' S:List Pt):aP (aP (aU nodes h b am aL sL D C A S) aL (ptB A')) b (mkB nodes am D C aL sL A'.length S.length)=aU nodes h b am aL sL D C A' S:=by
 unfold aU
 rw [nQ _ b aL _ _ m.ba,dS,nQ _ sL aL _ _ m.asn.symm,dS]
theorem Ih (A S S':List Pt):aP (aP (aU nodes h b am aL sL D C A S) sL (ptB S')) b (mkB nodes am D C aL sL A.length S'.length)=aU nodes h b am aL sL D C A S':=by
 unfold aU
 rw [nQ _ b sL _ _ m.bs,dS,dS]
theorem FZ (A S:List Pt):Mk nodes fd refs Q (aU nodes h b am aL sL D C A S) b:=by
 obtain ⟨es,h1,h2,h3,h4,h5⟩:=m.mp
 refine ⟨m.hf,m.len,am,[D,C,.own aL A.length,.af,.own sL S.length],es,mP nodes fd refs Q h b am aL sL D C m A S,?_,fun x hx=>?_⟩
 ·rw [xj nodes fd refs Q h b am aL sL D C m h2 h3 h4];exact h1
 ·obtain ⟨c,ws,c1,c2,c3,c4,c5,c6⟩:=h5 x hx
  exact ⟨c,ws,by rw [xj nodes fd refs Q h b am aL sL D C m c2 c3 c4];exact c1,c5,c6⟩
end
section
variable {us:List Us} {l:List Sc} (nodes:Sl Nd) (refs:List Rf) (Q:Nd->Prop) (hQ:∀ v,Q v->Q (aR v)) (h:Heap) (b am aL sL:Loc) (D C:AV) (m:Pls nodes (ak us l) refs Q h b am aL sL)
include m
theorem nR (A S:List Pt):(b.1=(aU nodes h b am aL sL D C A S).length)=False∧(aL.1=(aU nodes h b am aL sL D C A S).length)=False∧(sL.1=(aU nodes h b am aL sL D C A S).length)=False ∧
  ((aU nodes h b am aL sL D C A S).length=b.1)=False∧((aU nodes h b am aL sL D C A S).length=aL.1)=False∧((aU nodes h b am aL sL D C A S).length=sL.1)=False:=by
 have h1:=iY m.db
 have h2:=iY m.da
 have h3:=iY m.ds
 rw [dz]
 refine ⟨?_,?_,?_,?_,?_,?_⟩<;>(simp;omega)
theorem EC (n:Nd) (hk:n.k≠7) (A S:List Pt):(mu K).fn 88 [.ptr b 0,n.av] (aU nodes h b am aL sL D C A S)=some (.val (.bool false) (aU nodes h b am aL sL D C A S)):=by
 have qk:=au _ bW n.kids
 rw [aD (KX _ _ _) SN rfl (by simp [c88])]
 simp [c88,KL,aa,hk]
theorem U7 (n:Nd) (hk:n.k=7) (a:Pt) (A S:List Pt) (ha:-4611686018427387904<=a.hi - a.lo∧a.hi - a.lo<=4611686018427387904) (hs:S.length<=100000)
  (sS:∀ F:List Blk,(mu K).fn 141 [.ptr b 0,n.av] (F :: aU nodes h b am aL sL D C A S)=some (.val (.lst [a.av]) (F :: aU nodes h b am aL sL D C A S))) :
  (mu K).fn 88 [.ptr b 0,n.av] (aU nodes h b am aL sL D C A S)=some (.val (.bool (decide (64<=a.hi - a.lo))) (aU nodes h b am aL sL D C A (S++if 64<=a.hi - a.lo then [a] else []))):=by
 obtain ⟨nk,nn,n1',n2',nks,np⟩:=n
 simp only at hk
 subst hk
 have qk:=au _ bW nks
 have w:IntKind.i64.wrap (a.hi - a.lo)=a.hi - a.lo:=wrap64 (by omega) (by omega)
 obtain ⟨n1,n2,n3,n4,n5,n6⟩:=nR nodes refs Q h b am aL sL D C m A S
 have gb:=mP nodes (ak us l) refs Q h b am aL sL D C m A S
 have gs:=PT nodes (ak us l) refs Q h b am aL sL D C m A S
 have st:=Ih nodes (ak us l) refs Q h b am aL sL D C m A S (S++[a])
 have r1:(S.length+1) * 40<=room:=by unfold room;omega
 have r2:S.length+1<=room:=by unfold room;omega
 obtain ⟨ot,oz,ho,hz⟩:=mQ S
 have ho2:=C5 S a
 have q3:=au _ cW nodes
 generalize hH:aU nodes h b am aL sL D C A S=H at *
 have les:=m.les
 have ob:=fun X=>eK (h:=H) (Ne.symm m.bs) X
 simp only [mkB] at gb st
 rw [ho] at gs
 rw [ho2] at st
 rw [aD (KX _ _ _) SN rfl (by simp [c88])]
 by_cases c:64<=a.hi - a.lo
 ·have c':(a.hi - a.lo < 64)=False:=eq_false (by omega)
  simp only [List.length_append,List.length_cons,List.length_nil,Nat.zero_add] at st
  simp [c88,KL,aa,sS,hget,aP,n1,n2,n3,n4,n5,n6,gb,gs,ob,les,st,w,c,c',r1,r2,hz,qk,q3]
 ·have c':(a.hi - a.lo < 64)=True:=eq_true (by omega)
  simp [c88,KL,aa,sS,hget,aP,w,c,c',hH]
end
end Go.Ab.Pn
/-
  Joining formulas: a Xm kids are moved.
-/
namespace Go.Ab.Pn
open Go.Ab.Pol
set_option maxRecDepth 100000
set_option maxHeartbeats 4000000
theorem nS (T R:List Blk) (i:Nat):(T++R)[T.length+i]?=R[i]?:=by rw [List.getElem?_append_right (by omega)];congr 1;omega
theorem mR (T R:List Blk):(T++R)[T.length]?=R[0]?:=nS T R 0
theorem nT (T R:List Blk) (i:Nat) (B:Blk):(T++R).set (T.length+i) B=T++R.set i B:=by
 rw [List.set_append_right _ _ (by omega)];congr 2;omega
theorem mS (T R:List Blk) (B:Blk):(T++R).set T.length B=T++R.set 0 B:=nT T R 0 B
theorem U8 (e:AV) (es:List AV) (hs:es.length<=1000) (he:∀ x∈e :: es,x.cells.length=1) (T:List Blk) (h:Heap) :
  (mu K).fn 187 [.lst (e :: es)] (T :: h)=some (.val (.own (h.length,T.length) (es.length+1)) ((T++[.arr 3 1 false (e :: es)]) :: h)):=by
 have r1:(es.length+1) * 8<=room:=by unfold room;omega
 have r2:es.length+1<=room:=by unfold room;omega
 have h1:=he e (by simp)
 have h2:∀ x∈es,x.cells.length=1:=fun x hx=>he x (by simp [hx])
 rw [aD (KXc _ _ _ (by decide) (by simp)) NZ rfl (by simp [I1])]
 have h3:(∀ x,x∈es->x.cells.length=1)=True:=eq_true h2
 simp [I1,KL,aa,r1,r2,h1,h3]
theorem U9 (T:List Blk) (h:Heap):(mu K).fn 187 [.af] (T :: h)=some (.val .af (T :: h)):=by
 rw [aD (KXc _ _ _ (by decide) (by simp)) NZ rfl (by simp [I1])]
 simp [I1,KL,aa]
theorem Av (a4 a10 a11 a15 a17 a63 a64 a65 a82 a83 a84:AV) (d:Nat) (ks:List Int) (hk:ks.length<=1000) (hd:d<=1000) (hb:∀ k∈ks,0<=k∧k<=1000) (nd lf:AV) (hn1:nd.cells.length=1∧nd.isAgg=false) (B17:Blk) (T:List Blk) (h:Heap) :
  ∀ (s pre:List Int),ks=pre++s->∃ env,
   (mu K).code (.aj (T.length+3) [4,10,11,14,15,17,18,63,64,65,82,83,84,96,97] lu) ⟨[(4,a4),(10,a10),(11,a11),(14,iV (d:Int)),(15,a15),(17,a17),(18,.ptr (h.length,T.length+2) 0),(63,a63),(64,a64),(65,a65),(82,a82),(83,a83),(84,a84),(96,iV (ks.length:Int)),(97,iV (pre.length:Int))],
    (T++[B17,.arr 3 1 false (pre.map (fun k=>iV (k+(d:Int)))++s.map iV),.box 140 false (.agg [nd,.own (h.length,T.length+1) ks.length,lf])]) :: h⟩ =
   some (.exit 6,⟨env,(T++[B17,.arr 3 1 false (ks.map fun k=>iV (k+(d:Int))),.box 140 false (.agg [nd,.own (h.length,T.length+1) ks.length,lf])]) :: h⟩) ∧
   get env 4=a4∧get env 10=a10∧get env 11=a11∧get env 14=iV (d:Int)∧get env 15=a15∧get env 17=a17∧get env 18=.ptr (h.length,T.length+2) 0∧get env 63=a63∧get env 64=a64∧get env 65=a65∧get env 82=a82∧get env 83=a83∧get env 84=a84
 | [],pre,e=>by
  rw [List.append_nil] at e
  subst e
  rw [ay]
  generalize (mu K).code (.aj (T.length+3) [4,10,11,14,15,17,18,63,64,65,82,83,84,96,97] lu)=F
  simp [lu]
 | k :: s,pre,e=>by
  have ih:=Av a4 a10 a11 a15 a17 a63 a64 a65 a82 a83 a84 d ks hk hd hb nd lf hn1 B17 T h s (pre++[k]) (by simp [e])
  have hl:ks.length=pre.length+(s.length+1):=by rw [e];simp
  obtain ⟨k0,k1⟩:=hb k (by rw [e];simp)
  have c1:((pre.length:Int) < (ks.length:Int))=True:=eq_true (by omega)
  have w1:IntKind.i64.wrap (k+(d:Int))=k+(d:Int):=wrap64 (by omega) (by omega)
  have w2:IntKind.i64.wrap ((pre.length:Int)+1)=(pre.length:Int)+1:=wrap64 (by omega) (by omega)
  have e1:(pre.map (fun k=>iV (k+(d:Int)))++iV k :: s.map iV)[pre.length]?=some (iV k):=by
   rw [List.getElem?_append_right (by simp)];simp
  have e2:(pre.map (fun k=>iV (k+(d:Int)))++iV k :: s.map iV).set pre.length (iV (k+(d:Int)))=pre.map (fun k=>iV (k+(d:Int)))++iV (k+(d:Int)) :: s.map iV:=by
   rw [List.set_append_right _ _ (by simp)];simp
  have e3:(pre.map (fun k=>iV (k+(d:Int)))++iV k :: s.map iV).length=ks.length:=by simp;omega
  rw [ay]
  generalize (mu K).code (.aj (T.length+3) [4,10,11,14,15,17,18,63,64,65,82,83,84,96,97] lu)=F at *
  simp only [List.map_append,List.map_cons,List.map_nil,List.append_assoc,List.singleton_append,List.length_append,List.length_cons,List.length_nil,Nat.zero_add] at ih
  simp only [List.map_cons]
  rw [show ((pre.length+1:Nat):Int)=(pre.length:Int)+1 by omega] at ih
  simp [lu,c1,nS,nT,e1,e2,e3,hn1,w1,w2]
  exact ih
end Go.Ab.Pn
/-
  Joining formulas: a RD gJ are moved.
-/
namespace Go.Ab.Pn
open Go.Ab.Pol
set_option maxRecDepth 100000
set_option maxHeartbeats 4000000
theorem ED (N:Nat) (env:Env) (H:Heap) (h1:get env 96=iV 0) (h2:get env 97=iV 0):(mu K).code (.aj N [4,10,11,14,15,17,18,63,64,65,82,83,84,96,97] lu) ⟨env,H⟩=some (.exit 6,⟨(98,.bool false) :: env,H⟩):=by
 rw [ay]
 generalize (mu K).code (.aj N [4,10,11,14,15,17,18,63,64,65,82,83,84,96,97] lu)=F
 simp [lu,h1,h2]
def GtJ (g:Gt):Prop:=g.kids.nl=true∧g.kids.l.length<=1000∧(∀ k∈g.kids.l,0<=k∧k<=1000)∧0<=g.leaf∧g.leaf<=1000
theorem sW (p:Loc->Bool):∀ l:List Gt,AV.bH p (l.map Gt.av)=true
 | []=>rfl
 | g :: l=>by
  have:=sW p l
  simp only [List.map_cons,AV.bH,this,Bool.and_true]
  simp [AV.aJ,AV.bH]
theorem JX (pg:List Gt) (g:Gt):lvG (pg++[g])=lvG pg+if g.kids.l=[] then 1 else 0:=by
 rw [F3]
 congr 1
 unfold lvG
 by_cases c:g.kids.l=[]<;>simp [c]
theorem pV (p:Loc->Bool):∀ a b:List AV,AV.bH p (a++b)=(AV.bH p a && AV.bH p b)
 | [],b=>rfl
 | x :: a,b=>by simp only [List.cons_append,AV.bH,pV p a b,Bool.and_assoc]
section
variable (a4 a63 a64 a65:AV) (p63:a63.pure=true) (p64:a64.pure=true) (p65:a65.pure=true) (d e:Nat) (hd:d<=1000) (he:e<=1000)
 (R:List Blk) (hR:∀ p,R.all (Blk.aJ p)=true) (rt:AV) (h:Heap) (p4:a4.aJ (fun a=>!(a.1 == h.length) || decide (a.2 < R.length+2))=true) (hrt:rt.aJ (fun a=>!(a.1 == h.length) || decide (a.2 < R.length+2))=true) (hrc:rt.cells.length=3)
include p4 p63 p64 p65 hd he hR hrt hrc
theorem EE (gs pg sg:List Gt) (g:Gt) (hgs:gs=pg++g :: sg) (hgl:gs.length<=1000) (hg:GtJ g) (hk:g.kids.l=[]) (G:List Gt) (hG:G.length<=100000) (cnt:Nat) (hc:cnt<=1000) :
  (mu K).code (.aj (R.length+2) [4,10,11,14,15,63,64,65,82,83,84] iG) ⟨[(4,a4),(10,.own (h.length,1) (G.length+1)),(11,iV (e:Int)),(14,iV (d:Int)),(15,iV (cnt:Int)),(63,a63),(64,a64),(65,a65),(82,.lst (gs.map Gt.av)),(83,iV (gs.length:Int)),(84,iV (pg.length:Int))],(.box 34 false (.agg [.af]) :: .arv 140 3 (rt :: G.map Gt.av) :: R) :: h⟩ =
  (mu K).code (.aj (R.length+2) [4,10,11,14,15,63,64,65,82,83,84] iG) ⟨[(4,a4),(10,.own (h.length,1) ((G++[cO d e g]).length+1)),(11,iV (e:Int)),(14,iV (d:Int)),(15,iV ((cnt+1:Nat):Int)),(63,a63),(64,a64),(65,a65),(82,.lst (gs.map Gt.av)),(83,iV (gs.length:Int)),(84,iV ((pg++[g]).length:Int))],(.box 34 false (.agg [.af]) :: .arv 140 3 (rt :: (G++[cO d e g]).map Gt.av) :: R) :: h⟩:=by
 obtain ⟨g1,g2,g3,g4,g5⟩:=hg
 have hl:gs.length=pg.length+(sg.length+1):=by rw [hgs];simp
 have c1:((pg.length:Int) < (gs.length:Int))=True:=eq_true (by omega)
 have e1:=fun (q:IntKind)=>eP (sz:=3) (l:=gs.map Gt.av) (k:=q) (j:=(pg.length:Int)) (v:=g.av) (by omega) (by rw [hgs];simp) rfl
 have ek:g.kids.avS iV=.af:=by simp [Sl.avS,hk,g1,lv]
 have pd:g.av=.agg [iV g.need,.af,iV g.leaf]:=by rw [<-ek]
 have w1:IntKind.i64.wrap (g.leaf+(e:Int))=g.leaf+(e:Int):=wrap64 (by omega) (by omega)
 have w2:IntKind.i64.wrap ((pg.length:Int)+1)=(pg.length:Int)+1:=wrap64 (by omega) (by omega)
 have w3:IntKind.i64.wrap ((cnt:Int)+1)=(cnt:Int)+1:=wrap64 (by omega) (by omega)
 have k1:=fun env H=>ED (R.length+2+2) env H
 have PU:=U9
 have r1:(G.length+1+1) * 40<=room:=by unfold room;omega
 have r2:G.length+1+1<=room:=by unfold room;omega
 have es:(cO d e g).av=.agg [iV g.need,.af,iV (g.leaf+(e:Int))]:=by
  unfold cO
  rw [if_pos hk]
  simp [Gt.av,Sl.avS,hk,g1,lv]
 have q1:=sW (fun a=>!(a.1 == h.length) || decide (a.2 < R.length+2)) G
 have q3:=hR (fun a=>!(a.1 == h.length) || decide (a.2 < R.length+2))
 have q63:=dW a63 p63
 have q64:=dW a64 p64
 have q65:=dW a65 p65
 rw [pd] at e1
 rw [ay]
 generalize (mu K).code (.aj (R.length+2) [4,10,11,14,15,63,64,65,82,83,84] iG)=F at *
 simp only [List.map_append,List.map_cons,List.map_nil,es]
 simp [iG,KL,aa,c1,e1,PU,k1,w1,w2,w3,nS,mR,nT,mS,r1,r2,q1,q3,p4,q63,q64,q65,hrt,hrc,pV]
theorem C6 (gs pg sg:List Gt) (g:Gt) (hgs:gs=pg++g :: sg) (hgl:gs.length<=1000) (hg:GtJ g) (hk:g.kids.l≠[]) (G:List Gt) (hG:G.length<=100000) (cnt:Nat) (hc:cnt<=1000) :
  (mu K).code (.aj (R.length+2) [4,10,11,14,15,63,64,65,82,83,84] iG) ⟨[(4,a4),(10,.own (h.length,1) (G.length+1)),(11,iV (e:Int)),(14,iV (d:Int)),(15,iV (cnt:Int)),(63,a63),(64,a64),(65,a65),(82,.lst (gs.map Gt.av)),(83,iV (gs.length:Int)),(84,iV (pg.length:Int))],(.box 34 false (.agg [.af]) :: .arv 140 3 (rt :: G.map Gt.av) :: R) :: h⟩ =
  (mu K).code (.aj (R.length+2) [4,10,11,14,15,63,64,65,82,83,84] iG) ⟨[(4,a4),(10,.own (h.length,1) ((G++[cO d e g]).length+1)),(11,iV (e:Int)),(14,iV (d:Int)),(15,iV (cnt:Int)),(63,a63),(64,a64),(65,a65),(82,.lst (gs.map Gt.av)),(83,iV (gs.length:Int)),(84,iV ((pg++[g]).length:Int))],(.box 34 false (.agg [.af]) :: .arv 140 3 (rt :: (G++[cO d e g]).map Gt.av) :: R) :: h⟩:=by
 obtain ⟨g1,g2,g3,g4,g5⟩:=hg
 have hl:gs.length=pg.length+(sg.length+1):=by rw [hgs];simp
 have c1:((pg.length:Int) < (gs.length:Int))=True:=eq_true (by omega)
 have e1:=fun (q:IntKind)=>eP (sz:=3) (l:=gs.map Gt.av) (k:=q) (j:=(pg.length:Int)) (v:=g.av) (by omega) (by rw [hgs];simp) rfl
 have ek:g.kids.avS iV=.lst (g.kids.l.map iV):=by rw [Sl.avS,jT];simpa using hk
 have pd:g.av=.agg [iV g.need,.lst (g.kids.l.map iV),iV g.leaf]:=by rw [<-ek]
 have w2:IntKind.i64.wrap ((pg.length:Int)+1)=(pg.length:Int)+1:=wrap64 (by omega) (by omega)
 have PU:∀ (T:List Blk),(mu K).fn 187 [.lst (g.kids.l.map iV)] (T :: h)=some (.val (.own (h.length,T.length) g.kids.l.length) ((T++[.arr 3 1 false (g.kids.l.map iV)]) :: h)):=fun T=>by
  cases hkl:g.kids.l with
  | nil=>exact absurd hkl hk
  | cons x r=>
   rw [hkl] at g2
   simp only [List.length_cons] at g2
   have:=U8 (iV x) (r.map iV) (by simp;omega) (fun y hy=>by
    simp only [List.mem_cons,List.mem_map] at hy
    rcases hy with rfl | ⟨z,_,rfl⟩<;>rfl) T h
   simpa using this
 have qb:AV.dF (g.kids.l.map iV) (g.kids.l.map iV)=true:=by
  have:=au _ bW g.kids
  rw [ek] at this
  simpa [AV.beq] using this
 have r1:(G.length+1+1) * 40<=room:=by unfold room;omega
 have r2:G.length+1+1<=room:=by unfold room;omega
 have hk0:((g.kids.l.length:Int)=0)=False:=by
  refine eq_false fun q=>hk ?_
  exact List.eq_nil_of_length_eq_zero (by omega)
 have es:(cO d e g).av=.agg [iV g.need,.lst (g.kids.l.map fun k=>iV (k+(d:Int))),iV 0]:=by
  unfold cO
  rw [if_neg hk]
  have:(⟨g.kids.nl,g.kids.l.map (·+(d:Int))⟩:Sl Int).avS iV=.lst (g.kids.l.map fun k=>iV (k+(d:Int))):=by
   rw [Sl.avS,jT]
   ·simp [Function.comp_def]
   ·simpa using hk
  simp only [Gt.av,Gt.cs,this]
 have q1:=sW (fun a=>!(a.1 == h.length) || decide (a.2 < R.length+2)) G
 have q3:=hR (fun a=>!(a.1 == h.length) || decide (a.2 < R.length+2))
 have q63:=dW a63 p63
 have q64:=dW a64 p64
 have q65:=dW a65 p65
 obtain ⟨env,k1,x4,x10,x11,x14,x15,x17,x18,x63,x64,x65,x82,x83,x84⟩:=Av a4 (.own (h.length,1) (G.length+1)) (iV (e:Int)) (iV (cnt:Int)) (.ptr (h.length,R.length+2) 0) a63 a64 a65 (.lst (gs.map Gt.av)) (iV (gs.length:Int)) (iV (pg.length:Int))
  d g.kids.l g2 hd g3 (iV g.need) (iV 0) ⟨rfl,rfl⟩ (.box 140 false g.av) (.box 34 false (.agg [.af]) :: .arv 140 3 (rt :: G.map Gt.av) :: R) h g.kids.l [] rfl
 rw [pd] at e1 k1
 rw [ay]
 generalize (mu K).code (.aj (R.length+2) [4,10,11,14,15,63,64,65,82,83,84] iG)=F at *
 simp only [List.map_append,List.map_cons,List.map_nil,es]
 simp at k1
 simp [iG,KL,aa,c1,e1,PU,k1,x4,x10,x11,x14,x15,x17,x18,x63,x64,x65,x82,x83,x84,w2,nS,mR,nT,mS,r1,r2,q1,q3,p4,q63,q64,q65,hrt,hrc,pV,hk0,hk,qb]
theorem sX (gs:List Gt) (hgl:gs.length<=1000) (hg:∀ g∈gs,GtJ g) (G0:List Gt) (hG:G0.length<=90000):∀ (sg pg:List Gt),gs=pg++sg->∃ env,
  (mu K).code (.aj (R.length+2) [4,10,11,14,15,63,64,65,82,83,84] iG) ⟨[(4,a4),(10,.own (h.length,1) ((G0++pg.map (cO d e)).length+1)),(11,iV (e:Int)),(14,iV (d:Int)),(15,iV (lvG pg:Int)),(63,a63),(64,a64),(65,a65),(82,.lst (gs.map Gt.av)),(83,iV (gs.length:Int)),(84,iV (pg.length:Int))],(.box 34 false (.agg [.af]) :: .arv 140 3 (rt :: (G0++pg.map (cO d e)).map Gt.av) :: R) :: h⟩ =
   some (.exit 4,⟨env,(.box 34 false (.agg [.af]) :: .arv 140 3 (rt :: (G0++gs.map (cO d e)).map Gt.av) :: R) :: h⟩) ∧
   get env 4=a4∧get env 10=.own (h.length,1) ((G0++gs.map (cO d e)).length+1)∧get env 11=iV (e:Int)∧get env 15=iV (lvG gs:Int)∧get env 63=a63∧get env 64=a64∧get env 65=a65
 | [],pg,hh=>by
  rw [List.append_nil] at hh
  subst hh
  rw [ay]
  generalize (mu K).code (.aj (R.length+2) [4,10,11,14,15,63,64,65,82,83,84] iG)=F
  simp [iG]
 | g :: sg,pg,hh=>by
  have hlv:lvG pg<=1000:=by
   have:lvG pg<=pg.length:=List.length_filter_le _ _
   have:gs.length=pg.length+(sg.length+1):=by rw [hh];simp
   omega
  have hp:pg.length<=1000:=by
   have:gs.length=pg.length+(sg.length+1):=by rw [hh];simp
   omega
  obtain ⟨env,ih,r⟩:=sX gs hgl hg G0 hG sg (pg++[g]) (by simp [hh])
  refine ⟨env,?_,r⟩
  rw [<-ih]
  have hgm:=hg g (by rw [hh];simp)
  have hGl:(G0++pg.map (cO d e)).length<=100000:=by simp;omega
  rw [JX,show (pg++[g]).map (cO d e)=pg.map (cO d e)++[cO d e g] by simp,<-List.append_assoc]
  by_cases c:g.kids.l=[]
  ·rw [if_pos c]
   exact EE a4 a63 a64 a65 p63 p64 p65 d e hd he R hR rt h p4 hrt hrc gs pg sg g hh hgl hgm c (G0++pg.map (cO d e)) hGl (lvG pg) hlv
  ·rw [if_neg c]
   exact C6 a4 a63 a64 a65 p63 p64 p65 d e hd he R hR rt h p4 hrt hrc gs pg sg g hh hgl hgm c (G0++pg.map (cO d e)) hGl (lvG pg) hlv
end
end Go.Ab.Pn

/-
  The reference's check of a policy, whole.
-/
import Derived.Test.YtjnomgdildcbhaaGreatDoorAb4dP10
import Derived.Test.YtjnomgdildcbhaaGreatDoorAb4dP16
import Derived.Test.YtjnomgdildcbhaaGreatDoorAb4dP22
import Derived.Test.YtjnomgdildcbhaaGreatDoorAb4dP3
set_option linter.all false
set_option maxRecDepth 100000
set_option maxHeartbeats 4000000
namespace Go.Ab.Pn
open Go.Ab.Pol
theorem f94(p:Po)(hp:Sz p)(h:Heap):(mu K).fn 94 [p.av] h=some (.val (.int .i64 (chk p)) h):=by
 have kn:=λh=>f151 p.name hp.name h
 have ke:=λh=>f151 p.bt hp.bt h
 have ks:=λh=>f152 p.scope hp.scope h
 have kv:=f153 p hp.nodes h 32 p.root true (0,[]) [] (by omega) (Pe _);have e1:(33-((32:Nat):Int))=1:=rfl;rw[e1]at kv;simp only[afq,xI,if_true]at kv;have ht:mM p=(if (vis p.nodes.l 32 p.root true []).1=0 then (if (vis p.nodes.l 32 p.root true []).2.length=p.nodes.l.length then 0 else 3) else (vis p.nodes.l 32 p.root true []).1):=rfl;generalize vis p.nodes.l 32 p.root true []=R at *
 obtain⟨e,s⟩:=R;simp only at ht;obtain⟨ot,oz,ho,hz⟩:=FE s;have hn:=hp.nodes.1;have hbn:=Ec p.nodes.l.length;have o0:Ns []=.arr 0 0 false []:=rfl;have r1:p.nodes.l.length<=room:=by unfold room;omega
 simp[RFr,o0,ho]at kv;generalize hRR:[Blk.arr 4 1 false (bools p.nodes.l.length s),Blk.arr ot oz false (List.map iV s),Blk.box 237 false (AV.agg [AV.str p.name,Sl.avS Us.av p.uses,Sl.avS Rf.av p.az,Sl.avS Nd.av p.nodes,iV p.root,AV.str p.scope,iV p.limit,AV.str p.bt,AV.own (List.length h,1) p.nodes.l.length,AV.own (List.length h,2) s.length,iV e])]=RR;have LD:=aea p hp RR h;have LF:=aec p hp RR h;have LG:=aed p hp RR h;have LH:=aee p hp RR h;rw[<-hRR]at LD LF LG LH;simp only[Io,iO]at LD LF LG LH;clear hRR;have b1:=ak _ dI p.uses;have b2:=ak _ dz p.az;have b3:=ak _ bX p.nodes;rw[aC (KX _ _ _) adX rfl (by simp[c94])];unfold chk;by_cases c1:512<p.nodes.l.length
 ·have d1:(512:Int)<(p.nodes.l.length:Int):=by omega
  simp[c94,c1,d1]
 have d1:¬ (512:Int)<(p.nodes.l.length:Int):=by omega
 by_cases c2:p.uses.l.length<1
 ·have d2:(p.uses.l.length:Int)<1:=by omega
  rw[if_pos (.inr (.inl c2))];simp[c94,d1,d2]
 have d2:¬ (p.uses.l.length:Int)<1:=by omega
 by_cases c3:4<p.uses.l.length
 ·have d3:(4:Int)<(p.uses.l.length:Int):=by omega
  rw[if_pos (.inr (.inr (.inl c3)))];simp[c94,d1,d2,d3]
 have d3:¬ (4:Int)<(p.uses.l.length:Int):=by omega
 by_cases c4:64<p.az.l.length
 ·have d4:(64:Int)<(p.az.l.length:Int):=by omega
  rw[if_pos (.inr (.inr (.inr c4)))];simp[c94,d1,d2,d3,d4]
 have d4:¬ (64:Int)<(p.az.l.length:Int):=by omega
 rw[if_neg (by omega)];have LA:=λb=>ad7 p hp b h
 have LB:=λb=>ad8 p hp b h
 have hN:∀b:Bool,b=(aJ p.name&&(decide (p.bt=[]) ||aJ p.bt)&&(decide (p.scope=[]) ||cw p.scope))->pJ p=(b&&(p.uses.l.all λu=>aJ u.al&&aJ u.sc)&&(p.az.l.all λr=>aJ r.al&&aJ r.attr)):=λb hb=>by rw[hb];rfl
 generalize hb:(aJ p.name&&(decide (p.bt=[]) ||aJ p.bt)&&(decide (p.scope=[]) ||cw p.scope))=b at hN;have hN':=hN b rfl;obtain⟨ea,a1,a2,a3⟩:=LA b;generalize (p.uses.l.all λu=>aJ u.al&&aJ u.sc)=u1 at *
 obtain⟨eb,x1,x2,x3⟩:=LB (b&&u1);generalize (p.az.l.all λr=>aJ r.al&&aJ r.attr)=u2 at *
 cases q1:aJ p.name
 ·have:b=false:=by rw[<-hb,q1];rfl
  subst this;simp only[agH]at x1 x3;have:pJ p=false:=hN';simp[c94,KL,aa,d1,d2,d3,d4,kn,q1,a1,a2,a3,x1,x3,this]
 have E:((p.bt=[])=True∧(decide (p.bt=[]) ||aJ p.bt)=true)∨((p.bt=[])=False∧aJ p.bt=true∧(decide (p.bt=[]) ||aJ p.bt)=true)∨((p.bt=[])=False∧aJ p.bt=false∧(decide (p.bt=[]) ||aJ p.bt)=false):=by
  by_cases q:p.bt=[]<;>cases q2:aJ p.bt<;>simp[q]
 have S:((p.scope=[])=True∧(decide (p.scope=[]) ||cw p.scope)=true)∨((p.scope=[])=False∧cw p.scope=true∧(decide (p.scope=[]) ||cw p.scope)=true)∨((p.scope=[])=False∧cw p.scope=false∧(decide (p.scope=[]) ||cw p.scope)=false):=by
  by_cases q:p.scope=[]<;>cases q2:cw p.scope<;>simp[q]
 cases b
 ·simp only[agH]at x1 x3 hN';rw[hN',if_pos rfl];rcases E with⟨e1,e3⟩|⟨e1,e2,e3⟩|⟨e1,e2,e3⟩
  ·rcases S with⟨s1,s3⟩|⟨s1,s2,s3⟩|⟨s1,s2,s3⟩
   ·rw[q1,e3,s3]at hb;simp at hb
   ·rw[q1,e3,s3]at hb;simp at hb
   ·simp[c94,KL,aa,d1,d2,d3,d4,kn,ks,q1,a1,a2,a3,x1,x3,e1,s1,s2]
  ·rcases S with⟨s1,s3⟩|⟨s1,s2,s3⟩|⟨s1,s2,s3⟩
   ·rw[q1,e3,s3]at hb;simp at hb
   ·rw[q1,e3,s3]at hb;simp at hb
   ·simp[c94,KL,aa,d1,d2,d3,d4,kn,ke,ks,q1,a1,a2,a3,x1,x3,e1,e2,s1,s2]
  ·simp[c94,KL,aa,d1,d2,d3,d4,kn,ke,q1,a1,a2,a3,x1,x3,e1,e2]
 simp only[afS]at x1 x3 hN';have E':((p.bt=[])=True∧True)∨((p.bt=[])=False∧aJ p.bt=true):=by
  rcases E with⟨e1,e3⟩|⟨e1,e2,e3⟩|⟨e1,e2,e3⟩
  ·exact .inl ⟨e1,trivial⟩
  ·exact .inr ⟨e1,e2⟩
  ·rw[q1,e3]at hb;simp at hb
 have S':((p.scope=[])=True∧True)∨((p.scope=[])=False∧cw p.scope=true):=by
  rcases S with⟨s1,s3⟩|⟨s1,s2,s3⟩|⟨s1,s2,s3⟩
  ·exact .inl ⟨s1,trivial⟩
  ·exact .inr ⟨s1,s2⟩
  ·rw[s3]at hb;simp at hb
 clear E S;rw[hN'];cases hu:(u1&&u2)
 ·rw[hu]at x3;rw[if_pos rfl];rcases E' with⟨e1,e2⟩|⟨e1,e2⟩<;>rcases S' with⟨s1,s2⟩|⟨s1,s2⟩ <;>
   simp[c94,KL,aa,d1,d2,d3,d4,kn,ke,ks,q1,a1,a2,a3,x1,x3,e1,e2,s1,s2]
 rw[hu]at x3;rw[if_neg (by simp)];by_cases c6:p.limit<0
 ·rw[if_pos (.inl c6)];rcases E' with⟨e1,e2⟩|⟨e1,e2⟩<;>rcases S' with⟨s1,s2⟩|⟨s1,s2⟩ <;>
   simp[c94,KL,aa,d1,d2,d3,d4,kn,ke,ks,q1,a1,a2,a3,x1,x2,x3,e1,e2,s1,s2,c6]
 by_cases c7:65536<p.limit
 ·rw[if_pos (.inr (.inl c7))];rcases E' with⟨e1,e2⟩|⟨e1,e2⟩<;>rcases S' with⟨s1,s2⟩|⟨s1,s2⟩ <;>
   simp[c94,KL,aa,d1,d2,d3,d4,kn,ke,ks,q1,a1,a2,a3,x1,x2,x3,e1,e2,s1,s2,c6,c7]
 by_cases c8:0<p.limit∧p.scope=[]
 ·rw[if_pos (.inr (.inr c8))];have s1:(p.scope=[])=True:=by simp[c8.2]
  have s2:=True.intro;have e9:=c8.1;rcases E' with⟨e1,e2⟩|⟨e1,e2⟩ <;>
   simp[c94,KL,aa,d1,d2,d3,d4,kn,ke,q1,a1,a2,a3,x1,x2,x3,e1,e2,s1,c6,c7,e9]
 rw[if_neg (by rintro (q|q|q);exact c6 q;exact c7 q;exact c8 q)];have C:((p.scope=[])=True∧True∧(0<p.limit)=False)∨((p.scope=[])=False∧cw p.scope=true∧(0<p.limit)=False)∨((p.scope=[])=False∧cw p.scope=true∧(0<p.limit)=True):=by
  by_cases l:0<p.limit
  ·rcases S' with⟨s1,s2⟩|⟨s1,s2⟩
   ·exact absurd ⟨l,of_eq_true s1⟩ c8
   ·exact .inr (.inr ⟨s1,s2,by simp[l]⟩)
  ·rcases S' with⟨s1,s2⟩|⟨s1,s2⟩
   ·exact .inl ⟨s1,s2,by simp;omega⟩
   ·exact .inr (.inl ⟨s1,s2,by simp;omega⟩)
 by_cases he:e=0
 case neg=>
  have ht2:mM p=e:=by rw[ht,if_neg he]
  rw[ht2,if_pos he];rcases E' with⟨e1,e2⟩|⟨e1,e2⟩<;>rcases C with⟨s1,s2,l1⟩|⟨s1,s2,l1⟩|⟨s1,s2,l1⟩ <;>
   simp[c94,KL,aa,d1,d2,d3,d4,kn,ke,ks,q1,a1,a2,a3,x1,x2,x3,e1,e2,s1,s2,c6,c7,l1,hbn,r1,kv,b1,b2,b3,he]
 subst he;by_cases hl:s.length=p.nodes.l.length
 case neg=>
  have ht2:mM p=3:=by rw[ht,if_pos rfl,if_neg hl]
  have hl':((s.length:Int)=(p.nodes.l.length:Int))=False:=by simp;omega
  rw[ht2,if_pos (by decide)];rcases E' with⟨e1,e2⟩|⟨e1,e2⟩<;>rcases C with⟨s1,s2,l1⟩|⟨s1,s2,l1⟩|⟨s1,s2,l1⟩ <;>
   simp[c94,KL,aa,d1,d2,d3,d4,kn,ke,ks,q1,a1,a2,a3,x1,x2,x3,e1,e2,s1,s2,c6,c7,l1,hbn,r1,kv,b1,b2,b3,hl']
 have ht2:mM p=0:=by rw[ht,if_pos rfl,if_pos hl]
 have hl':((s.length:Int)=(p.nodes.l.length:Int))=True:=by simp;omega
 rw[ht2,if_neg (by decide)];by_cases n1:(p.uses.l.map Us.al).Nodup
 case neg=>
  rw[if_pos (.inl n1)];obtain⟨v1,y1,y2⟩:=LD.2 n1;rcases E' with⟨e1,e2⟩|⟨e1,e2⟩<;>rcases C with⟨s1,s2,l1⟩|⟨s1,s2,l1⟩|⟨s1,s2,l1⟩ <;>
   simp[c94,KL,aa,d1,d2,d3,d4,kn,ke,ks,q1,a1,a2,a3,x1,x2,x3,e1,e2,s1,s2,c6,c7,l1,hbn,r1,kv,b1,b2,b3,hl',y1,y2]
 obtain⟨v1,y1,y2⟩:=LD.1 n1;by_cases n2:p.az.l.Nodup
 case neg=>
  rw[if_pos (.inr n2)];obtain⟨v2,y3,y4⟩:=LF.2 n2;rcases E' with⟨e1,e2⟩|⟨e1,e2⟩<;>rcases C with⟨s1,s2,l1⟩|⟨s1,s2,l1⟩|⟨s1,s2,l1⟩ <;>
   simp[c94,KL,aa,d1,d2,d3,d4,kn,ke,ks,q1,a1,a2,a3,x1,x2,x3,e1,e2,s1,s2,c6,c7,l1,hbn,r1,kv,b1,b2,b3,hl',y1,y2,y3,y4]
 obtain⟨v2,y3,y4⟩:=LF.1 n2;rw[if_neg (by rintro (q|q);exact q n1;exact q n2)];cases w1:p.az.l.all (λr=>used p r.al)
 ·obtain⟨v3,y5,y6⟩:=LG.2 w1;rw[if_pos rfl];rcases E' with⟨e1,e2⟩|⟨e1,e2⟩<;>rcases C with⟨s1,s2,l1⟩|⟨s1,s2,l1⟩|⟨s1,s2,l1⟩ <;>
   simp[c94,KL,aa,d1,d2,d3,d4,kn,ke,ks,q1,a1,a2,a3,x1,x2,x3,e1,e2,s1,s2,c6,c7,l1,hbn,r1,kv,b1,b2,b3,hl',y1,y2,y3,y4,y5,y6]
 obtain⟨v3,y5,y6⟩:=LG.1 w1;rw[if_neg (by simp)];cases w2:p.nodes.l.all (λn=>!(decide (n.k=9)) ||used p n.nm)
 ·obtain⟨v4,y7,y8⟩:=LH.2 w2;rw[if_pos rfl];rcases E' with⟨e1,e2⟩|⟨e1,e2⟩<;>rcases C with⟨s1,s2,l1⟩|⟨s1,s2,l1⟩|⟨s1,s2,l1⟩ <;>
   simp[c94,KL,aa,d1,d2,d3,d4,kn,ke,ks,q1,a1,a2,a3,x1,x2,x3,e1,e2,s1,s2,c6,c7,l1,hbn,r1,kv,b1,b2,b3,hl',y1,y2,y3,y4,y5,y6,y7,y8]
 obtain⟨v4,y7⟩:=LH.1 w2;rw[if_neg (by simp)];rcases E' with⟨e1,e2⟩|⟨e1,e2⟩<;>rcases C with⟨s1,s2,l1⟩|⟨s1,s2,l1⟩|⟨s1,s2,l1⟩ <;>
  simp[c94,KL,aa,d1,d2,d3,d4,kn,ke,ks,q1,a1,a2,a3,x1,x2,x3,e1,e2,s1,s2,c6,c7,l1,hbn,r1,kv,b1,b2,b3,hl',y1,y2,y3,y4,y5,y6,y7]
end Go.Ab.Pn
namespace Go.Ab.Pol
def Nd.mv(r:Nat->Nat)(n:Nd):Nd:={ n with kids:=⟨false,n.kids.l.map λk=>((r k.toNat:Nat):Int)⟩ }
mutual
theorem MQ:∀{t:Tr} {c:Bool},WF t c->∀s∈t.subs,WF s (decide (s.n.k<=8))
 |.nd i n ks,c,h,s,hs=>by
  simp only[Tr.subs,afp]at hs;rcases hs with rfl|hs
  ·obtain⟨_,_,h3,_⟩:=fH h.1;show WF _ (decide (n.k<=8));rw[h3];exact h
  ·exact Jg h.2 s hs
theorem Jg:∀{ts:List Tr} {c:Bool},WFs ts c->∀s∈Tr.bL ts,WF s (decide (s.n.k<=8))
 | [],c,h,s,hs=>by simp[Tr.bL]at hs
 |t::ts,c,h,s,hs=>by
  simp only[Tr.bL,afR]at hs;rcases hs with hs|hs
  ·exact MQ h.1 s hs
  ·exact Jg h.2 s hs
end
mutual
theorem Hw:∀{t:Tr},∀s∈t.subs,s.pre.Sublist t.pre
 |.nd i n ks,s,hs=>by
  simp only[Tr.subs,afp]at hs;rcases hs with rfl|hs
  ·exact List.Sublist.refl _
  ·exact (E5 s hs).cons _
theorem E5:∀{ts:List Tr},∀s∈Tr.bL ts,s.pre.Sublist (Tr.iz ts)
 | [],s,hs=>by simp[Tr.bL]at hs
 |t::ts,s,hs=>by
  simp only[Tr.bL,afR]at hs;simp only[Tr.iz];rcases hs with hs|hs
  ·exact (Hw s hs).trans (List.sublist_append_left _ _)
  ·exact (E5 s hs).trans (List.sublist_append_right _ _)
end
theorem Yg{p:Po}{t:Tr}(g:Good p t):∀j∈t.pre,j<p.nodes.l.length:=by
 intro j hj;rw[gw]at hj;obtain⟨s,hs,rfl⟩:=afG.1 hj;have:=jW g.isT s hs;cases s with
 |nd i n ks=>exact (aft.1 this.1).1
theorem zB:∀(n:Nat) (l:List Nat),l.Nodup->(∀j∈l,j<n)->l.length<=n
 | 0,l,_,h=>by
  cases l with
  |nil=>simp
  |cons a l=>exact absurd (h a (by simp)) (by omega)
 |n+1,l,hn,hl=>by
  by_cases hm:n∈l
  ·have:=zB n (l.erase n) (hn.erase n) (λx hx=>by
    have a:=hl x (List.mem_of_mem_erase hx);have b:x≠n:=λe=>by
     rw[e]at hx;exact (hn.not_mem_erase) hx
    omega)
   rw[agX hm]at this;omega
  ·have:=zB n l hn (λx hx=>by
    have a:=hl x hx;have b:x≠n:=λe=>hm (by rw[<-e];exact hx)
    omega)
   omega
theorem Dr:∀(n:Nat) (l:List Nat),l.Nodup->(∀j∈l,j<n)->l.length=n->∀j,j<n->j∈l
 | 0,_,_,_,_,j,hj=>by omega
 |n+1,l,hn,hl,hlen,j,hj=>by
  by_cases hm:n∈l
  ·have h1:=Dr n (l.erase n) (hn.erase n) (λx hx=>by
    have a:=hl x (List.mem_of_mem_erase hx);have b:x≠n:=λe=>by
     rw[e]at hx;exact (hn.not_mem_erase) hx
    omega) (by rw[agX hm];omega)
   by_cases e:j=n
   ·rw[e];exact hm
   ·exact List.mem_of_mem_erase (h1 j (by omega))
  ·exfalso;have h2:∀x∈l,x<n:=λx hx=>by
    have a:=hl x hx;have b:x≠n:=λe=>hm (by rw[<-e];exact hx)
    omega
   have:=zB n l hn h2;omega
theorem PW{p:Po}{t:Tr}(g:Good p t){i:Nat}(hi:i<p.nodes.l.length):∃s∈t.subs,s.i=i:=by
 have:=Dr _ t.pre g.nodup (Yg g) g.all i hi;rw[gw]at this;obtain⟨s,hs,e⟩:=afG.1 this;exact⟨s,hs,e⟩
end Go.Ab.Pol
namespace Go.Ab.Pn
open Go.Ab.Pol
theorem MR(x:Bs):∀l:List Sc,(l.all λy=>!decide (x=y.name))=!decide (x∈l.map Sc.name)
 | []=>rfl
 |y::l=>by
  have ih:=MR x l;simp only[af9,ih,afj];by_cases e:x=y.name
  ·simp[e]
  ·simp[e]
theorem l95(l:Sl Sc)(hlen:l.l.length<=1000)(p:Po)(h:Heap)(j4:List Sc)(x:Sc)(r:List Sc)(hl:l.l=j4++x::r) :
  (x.name∉j4.map Sc.name->∃j3,(mu K).code (.af 1 [1,2,8,9] tI) ⟨[(1,l.avS Sc.av),(2,.ptr (h.length,0) 0),(8,.int .i64 (j4.length:Int)),(9,.int .i64 0)],[.box 26 false p.av]::h⟩=some (.exit 4,⟨j3,[.box 26 false p.av]::h⟩)∧get j3 1=l.avS Sc.av∧get j3 2=.ptr (h.length,0) 0∧get j3 8=.int .i64 (j4.length:Int)) ∧
  (x.name∈j4.map Sc.name->∃j3,(mu K).code (.af 1 [1,2,8,9] tI) ⟨[(1,l.avS Sc.av),(2,.ptr (h.length,0) 0),(8,.int .i64 (j4.length:Int)),(9,.int .i64 0)],[.box 26 false p.av]::h⟩=some (.ret,⟨j3,[.box 26 false p.av]::h⟩)∧get j3 4=.int .i64 8):=by
 obtain⟨h1,h2,w1⟩:=aA hl (by omega);have hix:=iaP Sc.av 2 l j4.length x (by simpa using h2);have key:=aB (K:=K) (n:=1) (live:=[1,2,8,9]) (a:=tI) (λ(_:Unit) (y:Sc)=>if (!decide (x.name=y.name))=true then (.inl ():Unit ⊕ Unit) else .inr ())
  (λpr _=>⟨[(1,l.avS Sc.av),(2,.ptr (h.length,0) 0),(8,.int .i64 (j4.length:Int)),(9,.int .i64 (pr.length:Int))],[.box 26 false p.av]::h⟩) (λ_ _=>True)
  (λb o=>∃j3,o=some (.exit 4,⟨j3,[.box 26 false p.av]::h⟩)∧get j3 1=l.avS Sc.av∧get j3 2=.ptr (h.length,0) 0∧get j3 8=.int .i64 (j4.length:Int))
  (λ_ o=>∃j3,o=some (.ret,⟨j3,[.box 26 false p.av]::h⟩)∧get j3 4=.int .i64 8) j4
  (λpr y rr b hl' _=>by
   have hl2:l.l=pr++y::(rr++x::r):=by rw[hl,hl'];simp
   obtain⟨g1,g2,v1⟩:=aA hl2 (by omega);have hiy:=iaP Sc.av 2 l pr.length y (by simpa using g2);have lt:((pr.length:Int)<(j4.length:Int))=True:=by rw[hl'];simp;omega
   rw[aj];generalize (mu K).code _=F;clear hl hl' hl2;by_cases q:x.name=y.name
   ·have d:(x.name=y.name)=True:=by simp[q]
    simp[tI,hix,hiy,lt,d]
   ·simp[tI,hix,hiy,v1,lt,q])
  (λb _=>by
   rw[aj];generalize (mu K).code _=F;simp[tI]) () trivial
 simp only[iO,afl]at key;have e:=MR x.name j4;refine⟨λq=>?_,λq=>?_⟩
 ·rw[decide_eq_false q]at e;rw[(aT (λy:Sc=>!decide (x.name=y.name)) j4).1 (by simpa using e)]at key;exact key.2
 ·rw[decide_eq_true q]at e;rw[(aT (λy:Sc=>!decide (x.name=y.name)) j4).2 (by simpa using e)]at key;exact key
theorem f96(p:Po)(hp:Sz p)(l:Sl Sc)(hl:okL l)(h:Heap):(mu K).fn 96 [p.av,l.avS Sc.av] h=some (.val (.int .i64 (bz p l.l)) h):=by
 have k25:=λh=>f94 p hp h
 have kL:=aB (K:=K) (n:=1) (live:=[1,2,6]) (a:=BJ) scF
  (λj4 b=>⟨[(1,l.avS Sc.av),(2,.ptr (h.length,0) 0),(6,.int .i64 (j4.length:Int))],[.box 26 false p.av]::h⟩) (λ_ _=>True)
  (λb o=>∃j3,o=some (.exit 0,⟨j3,[.box 26 false p.av]::h⟩)∧get j3 1=l.avS Sc.av∧get j3 2=.ptr (h.length,0) 0)
  (λe o=>∃j3 R,o=some (.ret,⟨j3,R::h⟩)∧get j3 4=.int .i64 e) l.l
  (λj4 x r b hl' hb=>by
   obtain⟨h1,h2,w1⟩:=aA hl' (by have:=hl.len;omega);have hix:=iaP Sc.av 2 l j4.length x (by simpa using h2);have k:=λh=>f155 x (hl.sc x (by rw[hl'];simp)) h
   rw[aj];generalize (mu K).code _=F;clear hl';unfold scF;by_cases e:jV x=0
   ·simp[BJ,KL,aa,h1,hix,w1,k,e]
   ·simp[BJ,KL,aa,h1,hix,k,e])
  (λb _=>by
   rw[aj];generalize (mu K).code _=F;simp[BJ]) () trivial
 have dH:=aB (K:=K) (n:=1) (live:=[1,2,8]) (a:=BK) (λ(met:List Bs) (s:Sc)=>twF met s.name)
  (λj4 b=>⟨[(1,l.avS Sc.av),(2,.ptr (h.length,0) 0),(8,.int .i64 (j4.length:Int))],[.box 26 false p.av]::h⟩) (λj4 met=>met=j4.map Sc.name)
  (λb o=>∃j3,o=some (.exit 2,⟨j3,[.box 26 false p.av]::h⟩)∧get j3 1=l.avS Sc.av∧get j3 2=.ptr (h.length,0) 0)
  (λe o=>∃j3 R,o=some (.ret,⟨j3,R::h⟩)∧get j3 4=.int .i64 8) l.l
  (λj4 x r b hl' hb=>by
   obtain⟨h1,h2,w1⟩:=aA hl' (by have:=hl.len;omega);obtain⟨i1,i2⟩:=l95 l hl.len p h j4 x r hl';rw[<-hb]at i1 i2;rw[aj];generalize (mu K).code _=F;unfold twF;have hb2:b++[x.name]=(j4++[x]).map Sc.name:=by rw[hb];simp
   clear hl' hb;by_cases e:x.name∈b
   ·obtain⟨j3,k,g⟩:=i2 e;simp[BK,h1,k,g,e]
   ·obtain⟨j3,k,g,g3,g4⟩:=i1 e;simp[BK,h1,w1,k,g,g3,g4,e,hb2])
  (λb _=>by
   rw[aj];generalize (mu K).code _=F;simp[BK]) [] rfl
 have lS:=aB (K:=K) (n:=1) (live:=[1,2,10]) (a:=BL) (λ(_:Unit) (u:Us)=>if (scN l.l u.sc).isSome=true then (.inl ():Unit ⊕ Unit) else .inr ())
  (λj4 b=>⟨[(1,l.avS Sc.av),(2,.ptr (h.length,0) 0),(10,.int .i64 (j4.length:Int))],[.box 26 false p.av]::h⟩) (λ_ _=>True)
  (λb o=>∃j3,o=some (.exit 6,⟨j3,[.box 26 false p.av]::h⟩))
  (λe o=>∃j3 R,o=some (.ret,⟨j3,R::h⟩)∧get j3 4=.int .i64 9) p.uses.l
  (λj4 x r b hl' hb=>by
   obtain⟨h1,h2,w1⟩:=aA hl' (by have:=hp.uses.1;omega);have hix:=iaP Us.av 2 p.uses j4.length x (by simpa using h2);have k:=λh=>f55 l hl.len x.sc h
   rw[aj];generalize (mu K).code _=F;have hsc:∃a c,xJ (scN l.l x.sc)=.agg [.str a,c]∧c.cells=[c]∧(∀p,c.aO p=true)∧∀p h,c.view p h=some (c,h):=by
    cases scN l.l x.sc with
    |none=>exact⟨_,_,rfl,by simp,by simp,by simp⟩
    |some s=>exact⟨_,_,rfl,by simp,by simp,by simp⟩
   obtain⟨a,c,e1,e2,e3,e4⟩:=hsc;rw[e1]at k;clear hl';cases e:(scN l.l x.sc).isSome
   ·rw[e]at k;simp[BL,KL,aa,h1,hix,k,e3]
   ·rw[e]at k;simp[BL,KL,aa,h1,hix,w1,k,e3])
  (λb _=>by
   rw[aj];generalize (mu K).code _=F;simp[BL]) () trivial
 simp only[iO,afl]at kL dH lS;rw[FM]at kL;rw[Cb (λmet s=>twF met s) Sc.name]at dH;rw[aC (KX _ _ _) adZ rfl (by simp[c96])];unfold bz;by_cases c0:chk p=0
 case neg=>
  rw[if_pos c0];simp[c96,KL,aa,k25,c0]
 rw[if_neg (by simp[c0])];by_cases c1:jC l.l=0
 case neg=>
  rw[if_neg c1]at kL;rw[if_pos c1];obtain⟨j3,R,k,g4⟩:=kL;simp[c96,KL,aa,k25,c0,k,g4]
 rw[if_neg (by simp[c1])];rw[if_pos c1]at kL;obtain⟨_,JG,a0,a1,a2⟩:=kL;obtain⟨t1,t2⟩:=wq (l.l.map Sc.name) [] (by simp);simp only[afq]at t1 t2;by_cases c2:(l.l.map Sc.name).Nodup
 case neg=>
  rw[t2 c2]at dH;rw[if_pos c2];obtain⟨j3,R,k,g4⟩:=dH;simp[c96,KL,aa,k25,c0,a0,a1,a2,k,g4]
 rw[if_neg (by simp[c2])];rw[t1 c2]at dH;obtain⟨_,iZ,b0,b1,b2⟩:=dH;cases c3:p.uses.l.all (λu=>(scN l.l u.sc).isSome)
 ·rw[(aT (λu:Us=>(scN l.l u.sc).isSome) p.uses.l).2 c3]at lS;obtain⟨j3,R,k,g4⟩:=lS;simp[c96,KL,aa,k25,c0,a0,a1,a2,b0,b1,b2,k,g4]
 ·rw[(aT (λu:Us=>(scN l.l u.sc).isSome) p.uses.l).1 c3]at lS;obtain⟨_,j3,k⟩:=lS;simp[c96,KL,aa,k25,c0,a0,a1,a2,b0,b1,b2,k]
def ceF(f:Nd->Option VT)(_:Unit)(s:Tr):Unit ⊕ (Int×Int):=if (cR f s).2=0 then .inl () else .inr (cR f s)
theorem MS(f:Nd->Option VT):∀l:List Tr,iter (ceF f) () l=if (fu (l.map (cR f))).2=0 then .inl () else .inr (fu (l.map (cR f)))
 | []=>rfl
 |s::l=>by
  have ih:=MS f l;simp only[iter,ceF,afj,fu];by_cases e:(cR f s).2=0
  ·simp[e,ih]
  ·simp[e]
theorem f91(p:Po)(hp:Sz p)(l:Sl Sc)(hl:okL l)(t:Tr)(ht:chk p=0->Pol.Good p t)(h:Heap) :
  (mu K).fn 91 [p.av,l.avS Sc.av] h=some (.val (.tup [.int .i64 (iy p l.l t).1,.int .i64 (iy p l.l t).2]) h):=by
 have k95:=λh=>f96 p hp l hl h
 have k76:=λh=>f95 p hp h
 have q1:=ak _ dI p.uses;have q2:=ak _ dz p.az;have q3:=ak _ bX p.nodes;have q4:=ak _ eo l;have key:=aB (K:=K) (n:=1) (live:=[1,2,7]) (a:=BC) (λ(_:Unit) (r:Rf)=>if (findF p.uses.l l.l r).isSome=true then (.inl ():Unit ⊕ Unit) else .inr ())
  (λj4 _=>⟨[(1,l.avS Sc.av),(2,.ptr (h.length,0) 0),(7,.int .i64 (j4.length:Int))],[.box 26 false p.av]::h⟩) (λ_ _=>True)
  (λ_ o=>∃j3,o=some (.exit 0,⟨j3,[.box 26 false p.av]::h⟩)∧get j3 1=l.avS Sc.av∧get j3 2=.ptr (h.length,0) 0)
  (λq o=>∃j3 R,o=some (.ret,⟨j3,R::h⟩)∧get j3 4=.int .i64 0∧get j3 5=.int .i64 9) p.az.l
  (λj4 x r b hl' _=>by
   obtain⟨h1,h2,w1⟩:=aA hl' (by have:=hp.az.1;omega);have hix:=iaP Rf.av 2 p.az j4.length x (by simpa using h2);have k:=λh=>f17 p hp.uses.1 l hl x h
   rw[aj];generalize (mu K).code _=F;clear hl';cases e:findF p.uses.l l.l x with
   |none=>
    rw[e]at k;simp only[gM,dU]at k;simp[BC,KL,aa,h1,hix,k,q1,q2,q3]
   |some q=>
    obtain⟨u,k',f⟩:=q;rw[e]at k;simp only[gM,dU]at k;simp[BC,KL,aa,h1,hix,w1,k,q1,q2,q3])
  (λb _=>by
   rw[aj];generalize (mu K).code _=F;simp[BC]) () trivial
 simp only[iO,afl]at key;rw[aC (KX _ _ _) adV rfl (by simp[c91])];unfold iy;by_cases hr:bz p l.l=0
 case neg=>
  rw[if_pos hr];simp[c91,KL,aa,k95,hr]
 rw[if_neg (by simp[hr])];have rp:=gU hr;have g:=ht rp.chk;cases c3:p.az.l.all (λr=>(findF p.uses.l l.l r).isSome)
 ·rw[(aT (λr:Rf=>(findF p.uses.l l.l r).isSome) p.az.l).2 c3]at key;obtain⟨j3,R,k,g4,g5⟩:=key;simp[c91,KL,aa,k95,hr,k,g4,g5]
 rw[(aT (λr:Rf=>(findF p.uses.l l.l r).isSome) p.az.l).1 c3]at key;obtain⟨_,j3,k,g1,g2⟩:=key;have hv:=Gg t (ns:=p.nodes.l) (f:=32) (c:=true) (l9:=[]) g.isT g.wf g.dep (by simpa using pR.2 g.nodup);rw[g.root]at hv;have k76:∀h,(mu K).fn 95 [p.av] h=some (.val (.lst (t.subs.map λ(s:Tr)=>iV (s.i:Int))) h):=λh=>by
  rw[k76 h,hv,gw];simp only[afq,af0];rfl
 have hlen:t.subs.length<=1000:=by
  have:=g.all;rw[gw,afv]at this;have:=hp.nodes.1;omega
 have dH:=aB (K:=K) (n:=1) (live:=[1,2,11,12]) (a:=zN) (ceF (bS p.uses.l l.l))
  (λj4 _=>⟨[(1,l.avS Sc.av),(2,.ptr (h.length,0) 0),(11,.lst (t.subs.map λ(s:Tr)=>iV (s.i:Int))),(12,.int .i64 (j4.length:Int))],[.box 26 false p.av]::h⟩) (λ_ _=>True)
  (λ_ o=>∃j3,o=some (.exit 2,⟨j3,[.box 26 false p.av]::h⟩))
  (λq o=>∃j3 R,o=some (.ret,⟨j3,R::h⟩)∧get j3 4=.int .i64 q.1∧get j3 5=.int .i64 q.2) t.subs
  (λj4 x r b hl' _=>by
   obtain⟨h1,h2,w1⟩:=aA hl' (by omega);have hxm:x∈t.subs:=by rw[hl'];simp
   have hxt:=jW g.isT x hxm;have hxw:=MQ g.wf x hxm;have hxn:p.nodes.l[x.i]?=some x.n:=by
    cases x with
    |nd a b c=>exact hxt.1
   have hix:=λ(k:IntKind)=>cG (sz:=1) (l:=t.subs.map λ(s:Tr)=>iV (s.i:Int)) (k:=k) (j:=(j4.length:Int)) (v:=iV (x.i:Int)) (by omega) (by rw[afM,afy,h2];rfl) rfl
   have hiy:=iaP Nd.av 6 p.nodes x.i x.n (by simpa using hxn);have hll:(t.subs.map λ(s:Tr)=>iV (s.i:Int)).length=t.subs.length:=by simp
   have qb:AV.dh (t.subs.map λ(s:Tr)=>iV (s.i:Int)) (t.subs.map λ(s:Tr)=>iV (s.i:Int))=true:=nQ (λ(s:Tr)=>iV (s.i:Int)) (λs=>aP _) _;rw[aj];generalize (mu K).code _=F;generalize (t.subs.map λ(s:Tr)=>iV (s.i:Int))=M at *
   clear hl';unfold ceF;by_cases hk:x.n.k=6∨x.n.k=7∨x.n.k=8
   case neg=>
    have e0:cR (bS p.uses.l l.l) x=(0,0):=by
     cases x with
     |nd a b c=>
      have hk:¬ (b.k=6∨b.k=7∨b.k=8):=hk;simp only[cR];rw[if_neg hk]
    rw[e0];simp only[not_or]at hk;obtain⟨c6,c7,c8⟩:=hk;simp[zN,h1,hix,hiy,hll,w1,c6,c7,c8]
   have k97:=λh=>f144 p hp l hl x hxt hxw hk h
   generalize cR (bS p.uses.l l.l) x=q at *
   obtain⟨a,e⟩:=q;simp only at k97⊢;by_cases e0:e=0
   ·subst e0;rcases hk with c|c|c<;>simp[zN,KL,aa,h1,hix,hiy,hll,w1,c,k97]
   ·rcases hk with c|c|c<;>simp[zN,KL,aa,h1,hix,hiy,hll,c,k97,e0])
  (λb _=>by
   have hll:(t.subs.map λ(s:Tr)=>iV (s.i:Int)).length=t.subs.length:=by simp
   rw[aj];generalize (mu K).code _=F;generalize (t.subs.map λ(s:Tr)=>iV (s.i:Int))=M at *
   simp[zN,hll]) () trivial
 simp only[iO,afl]at dH;rw[MS,<-iG]at dH;rw[if_neg (by simp)];generalize (t.subs.map λ(s:Tr)=>iV (s.i:Int))=M at *
 by_cases e1:(gN (bS p.uses.l l.l) t).2=0
 ·rw[if_pos e1]at dH;obtain⟨_,iZ,kk⟩:=dH;have e2:gN (bS p.uses.l l.l) t=(0,0):=by
   rw[iG]at e1⊢;exact (mL e1).1
  rw[e2];simp[c91,KL,aa,k95,hr,k,g1,g2,k76,kk]
 ·rw[if_neg e1]at dH;obtain⟨iZ,R1,kk,g4,g5⟩:=dH;simp[c91,KL,aa,k95,hr,k,g1,g2,k76,kk,g4,g5]
end Go.Ab.Pn
namespace Go.Ab.Pol
structure Pc where
 use:Int
 attr:Int
 deriving DecidableEq
structure Pt where
 kind:Int
 a:Int
 b:Int
 lo:Int
 hi:Int
 deriving DecidableEq
structure Gt where
 need:Int
 kids:Sl Int
 leaf:Int
structure Pl where
 vU:Sl Pc
 comm:Sl Pc
 atoms:Sl Pt
 gates:Sl Gt
 sq:Sl Pt
abbrev Pc.cs(x:Pc):List AV:=[iV x.use,iV x.attr]
abbrev Pc.av(x:Pc):AV:=.agg x.cs
abbrev Pt.cs(x:Pt):List AV:=[iV x.kind,iV x.a,iV x.b,iV x.lo,iV x.hi]
abbrev Pt.av(x:Pt):AV:=.agg x.cs
abbrev Gt.cs(x:Gt):List AV:=[iV x.need,x.kids.avS iV,iV x.leaf]
abbrev Gt.av(x:Gt):AV:=.agg x.cs
abbrev Pl.cs(x:Pl):List AV:=[x.vU.avS Pc.av,x.comm.avS Pc.av,x.atoms.avS Pt.av,x.gates.avS Gt.av,x.sq.avS Pt.av]
abbrev Pl.av(x:Pl):AV:=.agg x.cs
def qG(v:Nat->Nat->Option (Nat×Nat)):List Int->Nat->Nat->Option (Nat×Nat)
 | [],nx,lv=>some (nx,lv)
 |k::ks,nx,lv=>if k=(nx:Int) then (match v nx lv with
  |some (n,l)=>qG v ks n l
  |none=>none) else none
def shp(gs:List Gt):Nat->Nat->Nat->Option (Nat×Nat)
 | 0,_,_=>none
 |f+1,i,lv=>match gs[i]? with
  |none=>none
  |some g=>if g.kids.l=[] then (if g.need=0∧g.leaf=(lv:Int) then some (i+1,lv+1) else none)
   else if g.need<1∨(g.kids.l.length:Int)<g.need∨g.leaf≠0 then none
   else qG (shp gs f) g.kids.l (i+1) lv
def tD(gs:List Gt):Option Nat:=if gs=[] then some 0 else match shp gs gs.length 0 0 with
 |some (n,l)=>if n=gs.length∧l<=256 then some l else none
 |none=>none
def jr:Int:=4294967295
def Ob(a:Pt)(n:Nat):Bool:=
  decide (0<=a.a∧a.a<(n:Int)) &&
  (if a.kind=0∨a.kind=1 then decide (a.b=0∧0<=a.lo∧a.lo<=jr∧a.hi=0)
   else if a.kind=2 then decide (a.b=0∧0<=a.lo∧a.lo<=a.hi∧a.hi<=jr)
   else if a.kind=3∨a.kind=4 then decide (0<=a.b∧a.b<(n:Int)∧a.a≠a.b∧a.lo=0∧a.hi=0)
   else decide (0<=a.b∧a.b<(n:Int)∧a.a≠a.b∧-jr<=a.lo∧a.lo<=a.hi∧a.hi<=jr∧a.hi-a.lo<=jr))
def ptE(a:Pt)(n:Nat):Int:=if a.kind<0∨6<=a.kind then 1 else if Ob a n=true then 0 else 2
def ac3(d:Nat):Nat:=if d=0 then 0 else Nat.log2 d+1
def Yh(lo hi:Int):Int×Int:=if hi<lo then (0,2) else if 32<ac3 (hi-lo).toNat then (0,2) else ((ac3 (hi-lo).toNat:Int),0)
def Vt(a:Pt):Int×Int:=
 if a.kind<0∨6<=a.kind then (0,1) else if a.kind≠2∧a.kind≠5 then (0,0)
 else if (Yh a.lo a.hi).2≠0 then (0,(Yh a.lo a.hi).2) else (2*(Yh a.lo a.hi).1,0)
def ptC(a:Pt):Int:=if a.kind=1∨a.kind=4 then 2 else if (Vt a).1=0 then 1 else 2+4*(Vt a).1

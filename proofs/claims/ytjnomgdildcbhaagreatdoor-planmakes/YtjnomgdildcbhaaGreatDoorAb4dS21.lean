/-
  The makers' small functions.
-/
import Derived.Test.YtjnomgdildcbhaaGreatDoorAb4dS2
import Derived.Test.YtjnomgdildcbhaaGreatDoorAbFlat
import Derived.Test.YtjnomgdildcbhaaGreatDoorAbPlanC
import Derived.Test.YtjnomgdildcbhaaGreatDoorAb4dP22
import Derived.Test.YtjnomgdildcbhaaGreatDoorAbPlan
import Derived.Test.YtjnomgdildcbhaaGreatDoorAbNf
set_option linter.all false
set_option maxRecDepth 100000
set_option maxHeartbeats 4000000
namespace Go.Ab.Pn
open Go.Ab.Pol
theorem f142(h:Heap):(mu K).fn 142 [] h=some (.val (.agg [.lst [.agg [iV 0,.ay,iV 0]]]) h):=by
 rw[aC (KX _ _ _) Zw rfl (by simp[VK])];simp[VK]
theorem f100(h:Heap):(mu K).fn 100 [] h=some (.val (.agg [.lst [.agg [iV 0,.ay,iV 0]]]) h):=by
 rw[aC (KX _ _ _) Y8 rfl (by simp[VC])];simp[VC]
abbrev je(i:Int)(f:Pol.Fd)(m:AV):AV:=.agg [iV i,.str f.name,iV f.kind,iV f.mn,iV f.mx,f.words.avS .str,m]
theorem f186(i:Int)(f:Pol.Fd)(m:AV)(h:Heap)(hw:(f.words.l.length:Int)<=1000)(hk:-2147483648<=f.mn∧f.mn<=2147483647∧-2147483648<=f.mx∧f.mx<=2147483647) :
  (mu K).fn 186 [je i f m] h=some (.val (iV (bU f)) h):=by
 have w1:IntKind.i64.wrap ((f.words.l.length:Int)-1)=(f.words.l.length:Int)-1:=wrap64 (by omega) (by omega);have w2:IntKind.i64.wrap (f.mx-f.mn)=f.mx-f.mn:=wrap64 (by omega) (by omega);rw[aC (KX _ _ _) aac rfl (by simp[SU])];unfold bU;by_cases c:f.kind=1
 ·simp[SU,c,w1]
 ·simp[SU,c,w2]
theorem f183(nodes:Sl Nd)(am:Loc)(r:List AV)(b:Loc)(es:List (AV×AV))(i:Nat)(x:Nd)(j:Int)(f:Pol.Fd)(m:AV)(h:Heap)(hm:m=.iM∨∃c:Loc,m=.mp c∧c.1<h.length)(hi:i<1000000)
  (hb:hget h b=some (.box 95 false (.agg (nodes.avS Nd.av::.mp am::r)))) (ha:hget h am=some (.map es)) (hx:nodes.l[i]?=some x)
  (hl:gI (.st [.str,.str]) (.agg [.str x.nm,.str x.attr]) es=some (some (je j f m))):(mu K).fn 183 [.ptr b 0,iV (i:Int)] h=some (.val (je j f m) h):=by
 obtain⟨ne,ne2⟩:=jq ha;obtain⟨ne3,ne4⟩:=jq hb;have hia:=iaP Nd.av 6 nodes i x (by simpa using hx);rw[aC (KX _ _ _) Z9 rfl (by simp[SR])];rcases hm with rfl|⟨c,rfl,lc⟩
 ·simp[SR,hget,ha,hb,ne2,ne4,hia,hl,eqK,eqF,dZ]
 ·have lc2:c.1<=h.length:=by omega
  simp[SR,hget,ha,hb,ne2,ne4,hia,hl,eqK,eqF,dZ,lc,lc2]
theorem aev(h:Heap):(mu K).fn 87 [.lst []] h=some (.val (.lst []) h):=by
 have hX:K.X 87 [.lst []] h=some (.val (.lst []) h):=rfl;rw[gp];simp[step,iY,hX]
theorem aew(h:Heap):(mu K).fn 87 [.ay] h=some (.val .ay h):=by
 rw[aC (KXc _ _ _ (by decide) (by simp)) Y3 rfl (by simp[c87])];simp[c87]
theorem f87(s:Sl Bs)(hs:s.l.length<=1000)(h:Heap):(mu K).fn 87 [s.avS .str] h=some (.val (s.avS .str) h):=by
 obtain⟨nl,l⟩:=s;cases l with
 |nil=>
  cases nl
  ·exact aev h
  ·exact aew h
 |cons x l=>
  have e:Sl.avS AV.str ⟨nl,x::l⟩=.lst (.str x::l.map .str):=rfl;simp only[Io]at hs;have r1:(l.length+1)*16<=room:=by unfold room;omega
  have r2:l.length+1<=room:=by unfold room;omega
  rw[e];rw[aC (KXc _ _ _ (by decide) (by simp)) Y3 rfl (by simp[c87])];simp[c87,r1,r2]
def fY(p:Po)(l:List Sc)(r:Rf):Option (Nat×Nat×Pol.Fd)×Int:=if bz p l≠0 then (none,bz p l) else match findF p.uses.l l r with
 |none=>(none,9)
 |some q=>(some q,0)
theorem f38(p:Po)(hp:Sz p)(l:Sl Sc)(hl:okL l)(r:Rf)(h:Heap) :
  (mu K).fn 38 [p.av,l.avS Sc.av,r.av] h=some (.val (.tup [gM (fY p l.l r).1,dU (fY p l.l r).1,.int .i64 (fY p l.l r).2]) h):=by
 have k92:=λh=>f85 p hp l hl h
 have k93:=λh=>f86 p hp.uses.1 l hl r h
 rw[aC (KX _ _ _) adE rfl (by simp[c38])];unfold fY;by_cases hr:bz p l.l=0
 case neg=>
  rw[if_pos hr];simp[c38,KL,aa,k92,hr,gM,dU]
 rw[if_neg (by simp[hr])];cases e:findF p.uses.l l.l r with
 |none=>
  rw[e]at k93;simp only[gM,dU]at k93;simp[c38,KL,aa,k92,hr,k93,gM,dU]
 |some q=>
  obtain⟨u,k',f⟩:=q;rw[e]at k93;simp only[gM,dU]at k93;obtain⟨s,h1,h2⟩:=rq e;have k98:=λh=>f87 f.words ((hl.sc s h1).fields f h2).len h
  have q2:=ak _ bD f.words;simp[c38,KL,aa,k92,hr,k93,k98,gM,dU,q2]
theorem f42(p:Po)(hp:Sz p)(l:Sl Sc)(hl:okL l)(r:Rf)(h:Heap) :
  (mu K).fn 42 [p.av,l.avS Sc.av,r.av] h=some (.val (.tup [gM (fY p l.l r).1,dU (fY p l.l r).1,.int .i64 (fY p l.l r).2]) h):=by
 have k95:=λh=>f96 p hp l hl h
 have k96:=λh=>f17 p hp.uses.1 l hl r h
 have q1:=ak _ dI p.uses;have q2:=ak _ dz p.az;have q3:=ak _ bX p.nodes;have q4:=ak _ eo l;rw[aC (KX _ _ _) adG rfl (by simp[c42])];unfold fY;by_cases hr:bz p l.l=0
 case neg=>
  rw[if_pos hr];simp[c42,KL,aa,k95,hr,gM,dU]
 rw[if_neg (by simp[hr])];cases e:findF p.uses.l l.l r with
 |none=>
  rw[e]at k96;simp only[gM,dU]at k96;simp[c42,KL,aa,k95,hr,k96,gM,dU]
 |some q=>
  obtain⟨u,k',f⟩:=q;rw[e]at k96;simp only[gM,dU]at k96;have q5:=ak _ bD f.words;simp[c42,KL,aa,k95,hr,k96,gM,dU,q5]
theorem f160(a b lo hi:Int)(h:Heap):(mu K).fn 160 [iV a,iV b,iV lo,iV hi] h=some (.val (Pt.av ⟨5,a,b,lo,hi⟩) h):=by
 rw[aC (KX _ _ _) ZP rfl (by simp[VQ])];simp[VQ]
theorem f159(f:Pol.Fd)(h:Heap)(hw:(f.words.l.length:Int)<=1000)(hk:-2147483648<=f.mn∧f.mn<=2147483647∧-2147483648<=f.mx∧f.mx<=2147483647) :
  (mu K).fn 159 [f.av] h=some (.val (iV (bU f)) h):=by
 have w1:IntKind.i64.wrap ((f.words.l.length:Int)-1)=(f.words.l.length:Int)-1:=wrap64 (by omega) (by omega);have w2:IntKind.i64.wrap (f.mx-f.mn)=f.mx-f.mn:=wrap64 (by omega) (by omega);rw[aC (KX _ _ _) ZO rfl (by simp[SM])];unfold bU;by_cases c:f.kind=1
 ·simp[SM,c,w1]
 ·simp[SM,c,w2]
theorem f158(f:Pol.Fd)(y:Nd)(h:Heap)(hw:f.words.l.length<=1000)(hk:y.k=10->-2147483648<=f.mn∧f.mn<=2147483647∧-1099511627776<=y.num∧y.num<=1099511627776) :
  (mu K).fn 158 [f.av,y.av] h=some (.val (iV (dM f y)) h):=by
 rw[aC (KX _ _ _) ZN rfl (by simp[OP])];unfold dM;by_cases hy:y.k=10
 ·obtain⟨h1,h2,h3,h4⟩:=hk hy;have w2:IntKind.i64.wrap (y.num-f.mn)=y.num-f.mn:=wrap64 (by omega) (by omega);simp[OP,hy,w2]
 have key:=aB (K:=K) (n:=2) (live:=[2,3,5]) (a:=uy) (ixF λw:Bs=>decide (w=y.nm))
  (λj4 b=>⟨[(2,.ptr (h.length,0) 0),(3,.ptr (h.length,1) 0),(5,.int .i64 (j4.length:Int))],[.box 50 false f.av,.box 90 false y.av]::h⟩) (λj4 b=>b=j4.length)
  (λb o=>∃j3,o=some (.exit 0,⟨j3,[.box 50 false f.av,.box 90 false y.av]::h⟩)) (λk o=>∃j3,o=some (.ret,⟨j3,[.box 50 false f.av,.box 90 false y.av]::h⟩)∧get j3 4=.int .i64 (k:Int)) f.words.l
  (λj4 x r b hl hb=>by
   obtain⟨h1,h2,w1⟩:=aA hl (by omega);have hix:=iaP AV.str 1 f.words j4.length x (by simpa using h2);rw[aj];generalize (mu K).code _=F;clear hl;unfold ixF;by_cases e:x=y.nm
   ·have d:(x=y.nm)=True:=by simp[e]
    simp[uy,h1,hix,d,hb]
   ·simp[uy,h1,hix,w1,e,hb])
  (λb _=>by
   rw[aj];generalize (mu K).code _=F;simp[uy]) 0 rfl
 simp only[iO,afl]at key;rw[sJ]at key;rw[if_neg hy];cases e:f.words.l.findIdx? (λw=>decide (w=y.nm)) with
 |none=>
  rw[e]at key;obtain⟨_,j3,k⟩:=key;simp[OP,k,hy]
 |some k0=>
  rw[e]at key;obtain⟨j3,k,g⟩:=key;simp only[afu]at g;simp[OP,k,g,hy]
abbrev mkR(q:Po)(l:Sl Sc)(j0:List Rf)(R:List AV):Blk:=.box 108 false (.agg (q.cs++(l.avS Sc.av::.lst (j0.map Rf.av)::R)))
theorem f156(q:Po)(l:Sl Sc)(j0:List Rf)(R:List AV)(b:Loc)(y:Nd)(h:Heap)(hr:j0.length<=1000000)(hb:hget h b=some (mkR q l j0 R)) :
  (mu K).fn 156 [.ptr b 0,y.av] h=some (.val (iV (ixR j0 y:Int)) h):=by
 obtain⟨ne,ne2⟩:=jq hb;have qk:=ak _ aP y.kids;rw[aC (KX _ _ _) ZL rfl (by simp[SL])];have key:=aB (K:=K) (n:=1) (live:=[0,3,5]) (a:=qP) (ixF λr:Rf=>decide (r=⟨y.nm,y.attr⟩))
  (λj4 b'=>⟨[(0,.ptr b 0),(3,.ptr (h.length,0) 0),(5,.int .i64 (j4.length:Int))],[.box 90 false y.av]::h⟩) (λj4 b'=>b'=j4.length)
  (λb' o=>∃j3,o=some (.exit 0,⟨j3,[.box 90 false y.av]::h⟩)) (λk o=>∃j3,o=some (.ret,⟨j3,[.box 90 false y.av]::h⟩)∧get j3 4=.int .i64 (k:Int)) j0
  (λj4 x r b' hl hb'=>by
   obtain⟨h1,h2,w1⟩:=aA hl (by omega);have hix:=λ(k:IntKind)=>cG (sz:=2) (l:=j0.map Rf.av) (k:=k) (j:=(j4.length:Int)) (v:=x.av) (by omega) (by rw[afM,afy,h2];rfl) rfl
   rw[aj];generalize (mu K).code _=F;clear hl;unfold ixF;by_cases e1:x.al=y.nm
   ·by_cases e2:x.attr=y.attr
    ·have d:x=⟨y.nm,y.attr⟩:=by cases x;simp_all
     subst d;simp[qP,h1,hix,hb',hget,hb,ne2]
    ·have d:¬ x=⟨y.nm,y.attr⟩:=λq=>e2 (by rw[q])
     simp[qP,h1,hix,w1,e1,e2,d,hb',hget,hb,ne2]
   ·have d:¬ x=⟨y.nm,y.attr⟩:=λq=>e1 (by rw[q])
    simp[qP,h1,hix,w1,e1,d,hb',hget,hb,ne2])
  (λb' _=>by
   rw[aj];generalize (mu K).code _=F;simp[qP,hget,hb,ne2]) 0 rfl
 simp only[iO,afl]at key;rw[sJ]at key;unfold ixR;cases e:j0.findIdx? (λr=>decide (r=⟨y.nm,y.attr⟩)) with
 |none=>
  rw[e]at key;obtain⟨_,j3,k⟩:=key;simp[SL,k]
 |some k0=>
  rw[e]at key;obtain⟨j3,k,g⟩:=key;simp only[afu]at g;simp[SL,k,g]
theorem TJ(us:List Us)(l:List Sc)(n:Nd):dU (findF us l ⟨n.nm,n.attr⟩)=(au us l n).av:=by
 unfold au;cases findF us l ⟨n.nm,n.attr⟩ with
 |none=>simp[dU,zFd,Sl.avS,lv]
 |some q=>obtain⟨u,k,f⟩:=q;rfl
theorem f157(q:Po)(hq:Sz q)(l:Sl Sc)(hl:okL l)(j0:List Rf)(R:List AV)(b:Loc)(y:Nd)(h:Heap)(hb:hget h b=some (mkR q l j0 R))(hr:bz q l.l=0) :
  (mu K).fn 157 [.ptr b 0,y.av] h=some (.val (au q.uses.l l.l y).av h):=by
 obtain⟨ne,ne2⟩:=jq hb;have k42:=λh=>f42 q hq l hl ⟨y.nm,y.attr⟩ h
 have qk:=ak _ aP y.kids;have q1:=ak _ dI q.uses;have q2:=ak _ dz q.az;have q3:=ak _ bX q.nodes;have q4:=ak _ eo l;have e:(fY q l.l ⟨y.nm,y.attr⟩).1=findF q.uses.l l.l ⟨y.nm,y.attr⟩:=by
  unfold fY;rw[if_neg (by simp[hr])];cases findF q.uses.l l.l ⟨y.nm,y.attr⟩<;>rfl
 obtain⟨a1,a2,hab⟩:∃a b,gM (findF q.uses.l l.l ⟨y.nm,y.attr⟩)=.agg [iV a,iV b]:=by
  cases findF q.uses.l l.l ⟨y.nm,y.attr⟩ with
  |none=>exact⟨0,0,rfl⟩
  |some q=>obtain⟨u,k,f⟩:=q;exact⟨_,_,rfl⟩
 rw[e,hab,TJ]at k42;generalize au q.uses.l l.l y=f at *
 have q5:=ak _ bD f.words;rw[aC (KX _ _ _) ZM rfl (by simp[VP])];simp[VP,KL,aa,hget,hb,ne2,k42,q1,q2,q3,q4]
def ptB:List Pt->Blk
 | []=>.arr 0 0 false []
 |x::r=>.arr 56 5 false ((x::r).map Pt.av)
theorem jD(l:List Pt):∃t z,ptB l=.arr t z false (l.map Pt.av)∧(z=0∨t=56∧z=5):=by
 cases l with
 |nil=>exact⟨0,0,rfl,.inl rfl⟩
 |cons i s=>exact⟨56,5,rfl,.inr ⟨rfl,rfl⟩⟩
theorem wD(l:List Pt)(x:Pt):ptB (l++[x])=.arr 56 5 false (l.map Pt.av++[x.av]):=by
 cases l with
 |nil=>rfl
 |cons j s=>simp[ptB]
abbrev AtF(x:Nd)(p:AV)(y:AV)(q:AV)(l:List Pt)(h:Heap):Heap:=[.box 90 false x.av,.box 102 false p,.box 90 false y,.box 102 false q,ptB l,.box 31 false (.own (h.length,4) l.length)]::h
theorem f185(x:Nd)(y:AV)(i j:Int)(f g:Pol.Fd)(m m':AV)(l:List Pt)(hl:l.length<=10)(lo hi:Int)(h:Heap) :
  (mu K).fn 185 [iV lo,iV hi,.ptr (h.length,5) 0,.ptr (h.length,1) 0,.ptr (h.length,3) 0] (AtF x (je i f m) y (je j g m') l h)=some (.val (.tup []) (AtF x (je i f m) y (je j g m') (l++eY i j lo hi) h)):=by
 obtain⟨ot,oz,ho,hz⟩:=jD l;have ho2:=wD l ⟨5,i,j,lo,hi⟩;have r1:(l.length+1)*40<=room:=by unfold room;omega
 have r2:l.length+1<=room:=by unfold room;omega
 have n1:(h.length=h.length+1)=False:=eq_false (by omega);rw[aC (KX _ _ _) aab rfl (by simp[SS])];unfold eY;by_cases c:lo<=hi
 ·simp[SS,c,ho,ho2,hz,r1,r2,AtF,hget,aQ]
 ·simp[SS,c,AtF]
end Go.Ab.Pn
namespace Go.Ab.Pol
theorem AW{ns:List Nd}{t:Tr}(h:IsT ns t):ns[t.i]?=some t.n∧t.n.kids.l=t.ks.map λk=>(k.i:Int):=by
 cases t with
 |nd i n ks=>exact⟨h.1,h.2.1⟩
def kS(acc:List Rf)(n:Nd):List Rf:=if n.k=9 then (if (⟨n.nm,n.attr⟩:Rf)∈acc then acc else acc++[⟨n.nm,n.attr⟩]) else acc
def mP(ns:List Nd)(acc:List Rf)(x:Int):List Rf:=match ns[x.toNat]? with
 |some n=>kS acc n
 |none=>acc
def kM(ns:List Nd)(xs:List Int):List Rf:=xs.foldl (mP ns) []
def P7(t:Tr):List Rf:=t.subs.foldl (λacc s=>kS acc s.n) []
def cS(p:Po)(t:Tr):List Rf:=kM p.nodes.l (ints t.pre)
theorem HI(acc:List Rf)(n:Nd):(kS acc n).length<=acc.length+1:=by
 unfold kS
 repeat' split
 all_goals simp
theorem NN(ns:List Nd)(acc:List Rf)(x:Int):(mP ns acc x).length<=acc.length+1:=by
 unfold mP;split
 ·exact HI _ _
 ·omega
theorem Et(ns:List Nd):∀(xs:List Int) (acc:List Rf),(xs.foldl (mP ns) acc).length<=acc.length+xs.length
 | [],acc=>by simp
 |x::xs,acc=>by
  have h1:=Et ns xs (mP ns acc x);have h2:=NN ns acc x;simp only[agq,Io];omega
theorem HJ(ns:List Nd)(xs:List Int):(kM ns xs).length<=xs.length:=by simpa[kM]using Et ns xs []
theorem Eu(ns:List Nd)(xs:List Int)(x:Int):kM ns (xs++[x])=mP ns (kM ns xs) x:=by simp[kM]
theorem Ev{ns:List Nd}:∀(l:List Tr) (acc:List Rf),(∀s∈l,IsT ns s)->(ints (l.map Tr.i)).foldl (mP ns) acc=l.foldl (λacc s=>kS acc s.n) acc
 | [],acc,_=>rfl
 |s::l,acc,h=>by
  have h1:=(AW (h s (by simp))).1;simp only[afj,agq];have:mP ns acc (s.i:Int)=kS acc s.n:=by simp[mP,h1]
  rw[this];exact Ev l _ λu hu=>h u (by simp[hu])
theorem FW{p:Po}{t:Tr}(h:IsT p.nodes.l t):cS p t=P7 t:=by
 unfold cS kM P7;rw[gw];exact Ev t.subs [] (jW h)
theorem P8{a b:Bool}{l m:List AV}(h:lv a l=lv b m):l=m:=by
 cases l<;>cases m<;>cases a<;>cases b<;>simp_all[lv]
theorem P9:∀{l m:List Int},l.map iV=m.map iV->l=m
 | [],[],_=>rfl
 |x::l,y::m,h=>by
  simp only[afj,afH,AV.int.injEq,true_and]at h;rw[h.1,P9 h.2]
 | [],_::_,h=>by simp at h
 |_::_,[],h=>by simp at h
def Qa(x y:Nd):Prop:=x.k=y.k∧x.nm=y.nm∧x.attr=y.attr∧x.kids.l=y.kids.l
theorem W4{x y:Nd}(h:x.av=y.av):Qa x y:=by
 simp only[Nd.av,Nd.cs,AV.agg.injEq,afH,AV.int.injEq,AV.str.injEq,true_and,and_true]at h;obtain⟨h1,_,h3,h4,h5,_⟩:=h;exact⟨h1,h3,h4,P9 (P8 h5)⟩
theorem Qb:∀{ns ms:List Nd},ns.map Nd.av=ms.map Nd.av->∀(i:Nat) (x:Nd),ns[i]?=some x->∃y,ms[i]?=some y∧Qa x y
 | [],[],_,i,x,h=>by simp at h
 |a::ns,b::ms,e,i,x,h=>by
  simp only[afj,afH]at e;cases i with
  |zero=>
   simp only[ago,fS]at h;subst h;exact⟨b,rfl,W4 e.1⟩
  |succ i=>
   simp only[agM]at h⊢;exact Qb e.2 i x h
 | [],_::_,e,_,_,_=>by simp at e
 |_::_,[],e,_,_,_=>by simp at e
mutual
theorem LS{ns ms:List Nd}(he:∀(i:Nat) (x:Nd),ns[i]?=some x->∃y,ms[i]?=some y∧Qa x y):∀(t u:Tr),IsT ns t->IsT ms u->t.i=u.i->t.pre=u.pre
 |.nd i n ks,.nd j m js,h1,h2,e=>by
  simp only[Tr.i]at e;subst e;obtain⟨a1,a2,a3⟩:=h1;obtain⟨b1,b2,b3⟩:=h2;obtain⟨y,c1,c2⟩:=he i n a1;rw[b1]at c1;injection c1 with c1
  subst c1;simp only[Tr.pre];rw[HL he ks js a3 b3 (by rw[<-a2,<-b2,c2.2.2.2])]
theorem HL{ns ms:List Nd}(he:∀(i:Nat) (x:Nd),ns[i]?=some x->∃y,ms[i]?=some y∧Qa x y):∀(ts us:List Tr),nR ns ts->nR ms us->ts.map (λt=>(t.i:Int))=us.map (λt=>(t.i:Int))->Tr.iz ts=Tr.iz us
 | [],[],_,_,_=>rfl
 |t::ts,u::us,h1,h2,e=>by
  simp only[afj,afH]at e;simp only[Tr.iz];rw[LS he t u h1.1 h2.1 (by omega),HL he ts us h1.2 h2.2 e.2]
 | [],_::_,_,_,e=>by simp at e
 |_::_,[],_,_,e=>by simp at e
end
theorem Qc{ns ms:List Nd}(hl:ns.length=ms.length)(he:∀(i:Nat) (x:Nd),ns[i]?=some x->∃y,ms[i]?=some y∧Qa x y)(acc:List Rf)(x:Int):mP ns acc x=mP ms acc x:=by
 unfold mP;cases h:ns[x.toNat]? with
 |none=>
  rw[List.getElem?_eq_none_iff]at h;rw[agc (by omega)]
 |some n=>
  obtain⟨y,h1,h2,h3,h4,_⟩:=he _ _ h;rw[h1];simp only[kS,h2,h3,h4]
theorem LL{p q:Po}{t u:Tr}(ht:IsT p.nodes.l t)(hu:IsT q.nodes.l u)(hp:(t.i:Int)=p.root)(hq:(u.i:Int)=q.root)(h:p.av=q.av):cS p t=cS q u:=by
 simp only[Po.av,Po.cs,AV.agg.injEq,afH,AV.int.injEq,AV.str.injEq,true_and,and_true]at h;obtain⟨_,_,_,h4,h5,_⟩:=h;have e:=P8 h4;have he:=Qb e;have hl:p.nodes.l.length=q.nodes.l.length:=by have:=congrArg List.length e;simpa using this
 unfold cS kM;rw[LS he t u ht hu (by omega)]
 congr 1
 funext acc x
 exact Qc hl he acc x
end Go.Ab.Pol
namespace Go.Ab.Pol
theorem Qd{acc:List Rf}{n:Nd}{r:Rf}:r∈kS acc n↔r∈acc∨(n.k=9∧r=⟨n.nm,n.attr⟩):=by
 unfold kS;by_cases h:n.k=9
 ·rw[if_pos h];split
  ·rename_i hm;constructor
   ·exact .inl
   ·rintro (h1|⟨_,rfl⟩)
    ·exact h1
    ·exact hm
  ·simp[h]
 ·rw[if_neg h];simp[h]
theorem Ew{r:Rf}:∀(l:List Tr) (acc:List Rf),r∈l.foldl (λacc s=>kS acc s.n) acc↔r∈acc∨∃s∈l,s.n.k=9∧r=⟨s.n.nm,s.n.attr⟩
 | [],acc=>by simp
 |x::l,acc=>by
  rw[agq,Ew l,Qd];constructor
  ·rintro ((h|h)|⟨s,hs,h⟩)
   ·exact .inl h
   ·exact .inr ⟨x,by simp,h⟩
   ·exact .inr ⟨s,by simp[hs],h⟩
  ·rintro (h|⟨s,hs,h⟩)
   ·exact .inl (.inl h)
   ·rcases afp.1 hs with rfl|hs
    ·exact .inl (.inr h)
    ·exact .inr ⟨s,hs,h⟩
theorem HM{p:Po}{t:Tr}(h:IsT p.nodes.l t){r:Rf}:r∈cS p t↔∃s∈t.subs,s.n.k=9∧r=⟨s.n.nm,s.n.attr⟩:=by
 rw[FW h];unfold P7;rw[Ew];simp
def FX(p:Po)(t:Tr)(v:Nd):Prop:=(⟨v.nm,v.attr⟩:Rf)∈cS p t
theorem FY{p:Po}{t:Tr}(h:IsT p.nodes.l t):∀s∈t.subs,s.n.k=9->FX p t s.n:=λs hs hk=>(HM h).2 ⟨s,hs,hk,rfl⟩
theorem TK{p:Po}{c:Cd}:jF (jF p c) (cE c)=jF p c:=by
 simp[jF,sP]
mutual
theorem G3{us:List Us}{l:List Sc}{Q:Nd->Prop}:∀c:Cd,NF us l Q c->Vb c
 |.atom k num vs,h=>by
  rcases h.2 with⟨rfl,a,b,rfl,_⟩|⟨rfl,_,x,lo,hi,rfl,_⟩
  ·exact .inr (.inr (.inl ⟨rfl,rfl⟩))
  ·exact .inr (.inr (.inr ⟨rfl,rfl⟩))
 |.gate j5 ks,h=>Qe ks h.2.2.2
theorem Qe{us:List Us}{l:List Sc}{Q:Nd->Prop}{j5:Int}{n:Nat}:∀cs:List Cd,NFs us l Q j5 n cs->Qf cs
 | [],_=>trivial
 |c::cs,h=>⟨G3 c h.1,Qe cs h.2.2⟩
end
end Go.Ab.Pol
namespace Go.Ab.Pol
section
variable(P:Nd->Prop)
mutual
def VsP:Cd->Prop
 |.atom _ _ vs=>vs.length<=3∧∀v∈vs,P v
 |.gate _ ks=>NP ks
def NP:List Cd->Prop
 | []=>True
 |c::cs=>VsP c∧NP cs
end
end
section
variable{P:Nd->Prop}
theorem AZ:∀{cs:List Cd},NP P cs↔∀c∈cs,VsP P c
 | []=>by simp[NP]
 |c::cs=>by simp[NP,AZ (cs:=cs)]
theorem tJ(b:Bool):VsP P (cB b):=⟨by simp,λv h=>by cases h⟩
theorem FZ{j6:Int}{a b:Nd}(ha:P a)(hb:P b):VsP P (dV j6 a b):=⟨by simp,λv h=>by
 simp only[afp,afZ,or_false]at h;rcases h with rfl|rfl
 ·exact ha
 ·exact hb⟩
variable{fd:Nd->Fd}(hn:∀n,P (bq n))
include hn
theorem Ey{x:Nd}(hx:P x)(lo hi:Int):VsP P (within fd x lo hi):=by
 unfold within;split
 ·exact tJ _
 split
 ·exact tJ _
 split
 ·exact FZ hx (hn _)
 ·refine⟨by simp,λv h=>?_⟩;simp only[afp,afZ,or_false]at h;rcases h with rfl|rfl|rfl
  ·exact hx
  ·exact hn _
  ·exact hn _
theorem JQ{j6:Int}{x:Nd}(hx:P x)(c:Int):VsP P (bounded fd j6 x c):=by
 unfold bounded
 repeat' split
 all_goals first|exact Ey hn hx _ _|exact tJ _|exact FZ hx (hn _)
omit hn in
theorem LU{j6:Int}{a b:Nd}(ha:P a)(hb:P b):VsP P (cP fd j6 a b):=by
 rcases pM fd j6 a b with⟨c,e⟩|e
 ·rw[e];exact tJ _
 ·rw[e];exact FZ ha hb
theorem Ct{j6:Int}{a b:Nd}(ha:P a)(hb:P b):VsP P (bP fd j6 a b):=by
 unfold bP numbers
 repeat' split
 all_goals first|exact JQ hn ha _|exact LU ha hb|exact LU hb ha|exact tJ _|exact FZ ha hb
theorem sQ{j6:Int}{a b:Nd}(ha:P a)(hb:P b):VsP P (values fd j6 a b):=by
 unfold values;split
 ·exact Ct hn hb ha
 ·exact Ct hn ha hb
omit hn in
theorem HP{w:Bool}{k:Int}{cs:List Cd}(h:∀c∈cs,VsP P c):∀c∈bw w k cs,VsP P c:=λc hc=>by
 obtain⟨d,hd,h1⟩:=sS hc;have h2:=h d hd;cases d with
 |atom a n vs=>
  simp only[cX,afO]at h1;subst h1;exact h2
 |gate n ks=>
  simp only[cX]at h1;split at h1
  ·exact AZ.1 h2 c h1
  ·simp only[afO]at h1;subst h1;exact h2
omit hn in
theorem Cu{k:Int}{cs:List Cd}(h:∀c∈cs,VsP P c):VsP P (thr k cs):=by
 have hr:∀c∈rest cs,VsP P c:=λc hc=>h c (rA hc).1
 unfold thr;split
 ·exact tJ _
 split
 ·exact tJ _
 split
 ·rename_i c e;exact hr c (by rw[e];simp)
 ·split
  ·exact AZ.2 (HP hr)
  ·exact AZ.2 (HP hr)
theorem rG{ks:List Tr}(h:∀t∈ks,P t.n)(i:Nat):P (dY ks i):=by
 unfold dY;cases e:ks[i]? with
 |none=>exact hn 0
 |some t=>exact h t (afB e)
mutual
theorem F3:∀(t:Tr) (neg:Bool),(∀s∈t.subs,P s.n)->VsP P (norm fd neg t)
 |.nd i n ks,neg,h=>by
  have hk:∀t∈ks,P t.n:=λt ht=>h t (by
   simp only[Tr.subs,afp];exact .inr (wJ ht (HQ t)))
  have hs:∀s∈Tr.bL ks,P s.n:=λs hs=>h s (by simp only[Tr.subs,afp];exact .inr hs)
  have ih:=HR ks neg hs;unfold norm;split
  ·exact tJ _
  split
  ·exact tJ _
  split
  ·cases ks with
   |nil=>exact tJ _
   |cons t ts=>exact F3 t (!neg) λs q=>hs s (by simp only[Tr.bL,afR];exact .inl q)
  split
  ·exact sQ hn (rG hn hk 0) (rG hn hk 1)
  split
  ·split
   ·exact Ey hn (rG hn hk 0) _ _
   ·exact Cu λc hc=>by
     simp only[afp,afZ,or_false]at hc;rcases hc with rfl|rfl
     ·exact sQ hn (rG hn hk 0) (rG hn hk 1)
     ·exact sQ hn (rG hn hk 0) (rG hn hk 2)
  split
  ·exact Cu λc hc=>by
    obtain⟨t,ht,rfl⟩:=afG.1 hc;exact sQ hn (rG hn hk 0) (hk t (agD ht))
  split
  ·exact Cu ih
  split
  ·exact Cu ih
  ·exact Cu ih
theorem HR:∀(ts:List Tr) (neg:Bool),(∀s∈Tr.bL ts,P s.n)->∀c∈gq fd neg ts,VsP P c
 | [],_,_,c,hc=>by simp[gq]at hc
 |t::ts,neg,h,c,hc=>by
  simp only[gq,afp]at hc;rcases hc with rfl|hc
  ·exact F3 t neg λs hs=>h s (by simp only[Tr.bL,afR];exact .inl hs)
  ·exact HR ts neg (λs hs=>h s (by simp only[Tr.bL,afR];exact .inr hs)) c hc
end
end
theorem bJ:∀(cs:List Cd) (b:Nat),(starts b cs).length=cs.length
 | [],_=>rfl
 |c::cs,b=>by simp[starts,bJ cs]
theorem cZ:∀cs:List Cd,cs.length<=Cd.sizes cs
 | []=>afm _
 |c::cs=>by
  have:=cZ cs;have h1:1<=c.size:=by cases c<;>simp[Cd.size]
  simp only[Io,Cd.sizes];omega
mutual
theorem LV{P:Nd->Prop}:∀(c:Cd) (b:Nat),VsP P c->∀n∈flat b c,(∃v,P v∧n=aM v)∨(n.nm=[]∧n.attr=[]∧n.kids.l.length<=c.size∧n.pos=0)
 |.atom k num vs,b,h,n,hn=>by
  simp only[flat,afp,afG]at hn;rcases hn with rfl|⟨v,hv,rfl⟩
  ·right;refine⟨rfl,rfl,?_,rfl⟩;simp[br,upI,Cd.size]
  ·exact .inl ⟨v,h.2 v hv,rfl⟩
 |.gate j5 ks,b,h,n,hn=>by
  simp only[flat,afp]at hn;rcases hn with rfl|hn
  ·right;refine⟨rfl,rfl,?_,rfl⟩;have:=cZ ks;simp only[cj,bJ,Cd.size];omega
  ·rcases HT ks (b+1) h n hn with q|⟨q1,q2,q3,q4⟩
   ·exact .inl q
   ·exact .inr ⟨q1,q2,by simp only[Cd.size];omega,q4⟩
theorem HT{P:Nd->Prop}:∀(cs:List Cd) (b:Nat),NP P cs->∀n∈gJ b cs,(∃v,P v∧n=aM v)∨(n.nm=[]∧n.attr=[]∧n.kids.l.length<=Cd.sizes cs∧n.pos=0)
 | [],_,_,n,hn=>by simp[gJ]at hn
 |c::cs,b,h,n,hn=>by
  simp only[gJ,afR]at hn;rcases hn with hn|hn
  ·rcases LV c b h.1 n hn with q|⟨q1,q2,q3,q4⟩
   ·exact .inl q
   ·exact .inr ⟨q1,q2,by simp only[Cd.sizes];omega,q4⟩
  ·rcases HT cs _ h.2 n hn with q|⟨q1,q2,q3,q4⟩
   ·exact .inl q
   ·exact .inr ⟨q1,q2,by simp only[Cd.sizes];omega,q4⟩
end
end Go.Ab.Pol
namespace Go.Ab.Pol
def FdW(f:Fd):Prop:=(f.kind=0∨(f.kind=1∧f.mn=0∧f.mx=0∧1<=f.words.l.length))∧f.mn<=f.mx∧-2147483648<=f.mn∧f.mx<=2147483647∧f.words.l.length<=64
section
variable{us:List Us}{l:List Sc}{Q:Nd->Prop}{j0:List Rf}
theorem jG{a b lo hi:Int}(h:lo<=hi):eY a b lo hi=[⟨5,a,b,lo,hi⟩]:=by unfold eY;rw[if_pos h]
theorem Cv{a b lo hi:Int}(h:¬ lo<=hi):eY a b lo hi=[]:=by unfold eY;rw[if_neg h]
theorem HV{f:Fd}(h:f.kind=0):bU f=f.mx-f.mn:=by unfold bU;rw[if_neg (by omega)]
theorem Qg{fd:Nd->Fd}{j6:Int}{a b:Nd}(h3:j6=0∨j6=1∨j6=2∨j6=3)(h:cP fd j6 a b=dV j6 a b) :
  (j6=2->(fd a).mn<(fd b).mx∧(fd b).mn<=(fd a).mx)∧(j6=3->(fd a).mn<=(fd b).mx∧(fd b).mn<(fd a).mx)∧((j6=0∨j6=1)->(fd a).mn<=(fd b).mx∧(fd b).mn<=(fd a).mx∧¬ ((fd a).mn=(fd b).mx∧(fd a).mx=(fd b).mn)):=by
 unfold cP at h;rcases h3 with rfl|rfl|rfl|rfl
 ·rw[if_pos rfl]at h;split at h
  ·exact (fK h).elim
  ·omega
 ·rw[if_neg (by decide),if_pos rfl]at h;split at h
  ·exact (fK h).elim
  ·omega
 ·rw[if_neg (by decide),if_neg (by decide),if_pos rfl]at h;split at h
  ·exact (fK h).elim
  ·omega
 ·rw[if_neg (by decide),if_neg (by decide),if_neg (by decide),if_pos rfl]at h;split at h
  ·exact (fK h).elim
  ·omega
inductive wK (fd:Nd->Fd)(j0:List Rf)(k num:Int)(x y z:Nd):List Pt->Prop
 |range (h:k=7):wK fd j0 k num x y z [⟨2,(ixR j0 x:Int),0,dM (fd x) y,dM (fd x) z⟩]
 |const (h:k=6) (h1:y.k≠9) (h2:num=0∨num=1):wK fd j0 k num x y z [⟨num,(ixR j0 x:Int),0,dM (fd x) y,0⟩]
 |less (h:k=6) (h1:y.k=9) (h2:num=2∨num=3) (e:Int) (he:e=if num=2 then (fd y).mn-(fd x).mn-1 else (fd y).mn-(fd x).mn) (h3:-(bU (fd y))<=e):wK fd j0 k num x y z [⟨5,(ixR j0 x:Int),(ixR j0 y:Int),-(bU (fd y)),e⟩]
 |same (h:k=6) (h1:y.k=9) (h2:num=0∨num=1) (h3:(fd y).mn-(fd x).mn=0):wK fd j0 k num x y z [⟨num+3,(ixR j0 x:Int),(ixR j0 y:Int),0,0⟩]
 |off (h:k=6) (h1:y.k=9) (h2:num=0) (h3:(fd y).mn-(fd x).mn≠0):wK fd j0 k num x y z [⟨5,(ixR j0 x:Int),(ixR j0 y:Int),(fd y).mn-(fd x).mn,(fd y).mn-(fd x).mn⟩]
 |low (h:k=6) (h1:y.k=9) (h2:num=1) (h3:(fd y).mn-(fd x).mn≠0) (h4:-(bU (fd y))<=(fd y).mn-(fd x).mn-1) (h5:¬ (fd y).mn-(fd x).mn+1<=bU (fd x)) :
   wK fd j0 k num x y z [⟨5,(ixR j0 x:Int),(ixR j0 y:Int),-(bU (fd y)),(fd y).mn-(fd x).mn-1⟩]
 |high (h:k=6) (h1:y.k=9) (h2:num=1) (h3:(fd y).mn-(fd x).mn≠0) (h4:¬ -(bU (fd y))<=(fd y).mn-(fd x).mn-1) (h5:(fd y).mn-(fd x).mn+1<=bU (fd x)) :
   wK fd j0 k num x y z [⟨5,(ixR j0 x:Int),(ixR j0 y:Int),(fd y).mn-(fd x).mn+1,bU (fd x)⟩]
 |both (h:k=6) (h1:y.k=9) (h2:num=1) (h3:(fd y).mn-(fd x).mn≠0) (h4:-(bU (fd y))<=(fd y).mn-(fd x).mn-1) (h5:(fd y).mn-(fd x).mn+1<=bU (fd x)) :
   wK fd j0 k num x y z [⟨5,(ixR j0 x:Int),(ixR j0 y:Int),-(bU (fd y)),(fd y).mn-(fd x).mn-1⟩,⟨5,(ixR j0 x:Int),(ixR j0 y:Int),(fd y).mn-(fd x).mn+1,bU (fd x)⟩]
theorem wK.len{fd:Nd->Fd}{k num:Int}{x y z:Nd}{p:List Pt}(h:wK fd j0 k num x y z p):p.length=1∨p.length=2:=by cases h<;>simp
theorem jT(hf:∀n,FdW (au us l n)){k num:Int}{vs:List Nd}(h:AtN us l Q k num vs) :
  ∃x y r,vs=x::y::r∧x.k=9∧Q x∧(y.k=9->Q y)∧(k=7->num=0∧∃lo hi,y=bq lo∧r=[bq hi]∧(au us l x).kind=0)∧(k=6->r=[]∧Wt us l num x y∧values (au us l) num x y=dV num x y)∧(k=6∨k=7) ∧
   wK (au us l) j0 k num x y (r.headD (bq 0)) (iW j0 (au us l) k num vs):=by
 obtain⟨hQ,h⟩:=h;rcases h with⟨rfl,a,b,rfl,w,e⟩|⟨rfl,rfl,x,lo,hi,rfl,hk,hv,e⟩
 ·obtain⟨ha,h3,hc⟩:=wL w e;refine⟨a,b,[],rfl,ha,hQ a (by simp) ha,hQ b (by simp),λq=>absurd q (by decide),λ_=>⟨rfl,w,e⟩,.inl rfl,?_⟩;simp only[iW,nK];rw[if_neg (by decide)];have fa:=hf a;have fb:=hf b;rcases hc with⟨kb,h01,_,_⟩|⟨kb,h01,_⟩|⟨kb,hne,k1,k2,hr⟩|⟨kb,hne,k1,h01,k2,hw,hl⟩
  ·rw[if_pos (by omega)];have:=wK.const (fd:=au us l) (j0:=j0) (z:=bq 0) (x:=a) (y:=b) (num:=num) rfl (by omega) h01;rcases h01 with rfl|rfl<;>exact this
  ·rw[if_pos (by omega)];have:=wK.const (fd:=au us l) (j0:=j0) (z:=bq 0) (x:=a) (y:=b) (num:=num) rfl (by omega) h01;rcases h01 with rfl|rfl<;>exact this
  ·rw[if_neg (by omega)];obtain⟨r2,r3,r01⟩:=Qg h3 hr;have sa:=HV k1;have sb:=HV k2;rcases h3 with rfl|rfl|rfl|rfl
   ·rw[if_neg (by decide),if_neg (by decide),if_pos rfl];split
    ·exact .same rfl kb (.inl rfl) (by assumption)
    ·rw[jG (Int.le_refl _)];exact .off rfl kb rfl (by assumption)
   ·rw[if_neg (by decide),if_neg (by decide),if_neg (by decide)];split
    ·exact .same rfl kb (.inr rfl) (by assumption)
    ·rename_i hd;have:=r01 (.inr rfl);by_cases c1:-(bU (au us l b))<=(au us l b).mn-(au us l a).mn-1
     ·by_cases c2:(au us l b).mn-(au us l a).mn+1<=bU (au us l a)
      ·rw[jG c1,jG c2];exact .both rfl kb rfl hd c1 c2
      ·rw[jG c1,Cv c2];exact .low rfl kb rfl hd c1 c2
     ·by_cases c2:(au us l b).mn-(au us l a).mn+1<=bU (au us l a)
      ·rw[Cv c1,jG c2];exact .high rfl kb rfl hd c1 c2
      ·exfalso;have:=fa.2.1;have:=fb.2.1;omega
   ·rw[if_pos rfl];have:=r2 rfl;have c:-(bU (au us l b))<=(au us l b).mn-(au us l a).mn-1:=by omega
    rw[jG c];exact .less rfl kb (.inl rfl) _ rfl c
   ·rw[if_neg (by decide),if_pos rfl];have:=r3 rfl;have c:-(bU (au us l b))<=(au us l b).mn-(au us l a).mn:=by omega
    rw[jG c];exact .less rfl kb (.inr rfl) _ rfl c
  ·rw[if_neg (by omega)];have d0:(au us l b).mn-(au us l a).mn=0:=by
    have:=fa.1.resolve_left k1;have:=fb.1.resolve_left k2;omega
   rcases h01 with rfl|rfl
   ·rw[if_neg (by decide),if_neg (by decide),if_pos rfl,if_pos d0];exact .same rfl kb (.inl rfl) d0
   ·rw[if_neg (by decide),if_neg (by decide),if_neg (by decide),if_pos d0];exact .same rfl kb (.inr rfl) d0
 ·refine⟨x,bq lo,[bq hi],rfl,hk,hQ x (by simp) hk,λq=>absurd q (Cw _),λ_=>⟨rfl,lo,hi,rfl,rfl,lU hk hv⟩,λq=>absurd q (by decide),.inr rfl,?_⟩;simp only[iW,nK,if_true];exact .range rfl
theorem Lf{p:List Pt}(h:p.length=1∨p.length=2):(fmA p).lvs=p.length∧(fmA p).ok∧(fmA p).size<=3:=by
 unfold fmA;rcases h with h|h
 ·rw[if_pos h,h];exact⟨rfl,trivial,by decide⟩
 ·rw[if_neg (by omega),h];exact⟨rfl,⟨by decide,by decide,trivial,trivial,trivial⟩,by decide⟩
theorem fR(j0:List Rf)(fd:Nd->Fd):∀cs:List Cd,(bZ j0 fd cs).length=cs.length
 | []=>rfl
 |c::cs=>by simp[bZ,fR j0 fd cs]
theorem lT(j0:List Rf)(fd:Nd->Fd):∀cs:List Cd,bZ j0 fd cs=cs.map (fmC j0 fd)
 | []=>rfl
 |c::cs=>by simp[bZ,lT j0 fd cs]
theorem iA(j0:List Rf)(fd:Nd->Fd):∀cs:List Cd,bF j0 fd cs=cs.flatMap (kQ j0 fd)
 | []=>rfl
 |c::cs=>by simp[bF,iA j0 fd cs]
mutual
theorem O5(hf:∀n,FdW (au us l n)):∀c:Cd,NF us l Q c->(fmC j0 (au us l) c).ok∧(fmC j0 (au us l) c).lvs=(kQ j0 (au us l) c).length∧(fmC j0 (au us l) c).size<=c.size
 |.atom k num vs,h=>by
  obtain⟨x,y,r,hv,_,_,_,_,_,_,hp⟩:=jT (j0:=j0) hf h;obtain⟨h1,h2,h3⟩:=Lf hp.len;refine⟨h2,h1,?_⟩;simp only[fmC,Cd.size];have:vs.length=r.length+2:=by rw[hv];rfl
  omega
 |.gate j5 ks,h=>by
  obtain⟨h1,h2,h3,h4⟩:=h;obtain⟨k1,k2,k3⟩:=kP hf ks λc hc=>(eK.1 h4 c hc).1
  refine⟨⟨h2,by rw[fR];exact h3,k1⟩,k2,?_⟩;simp only[fmC,Fm.size,Cd.size];omega
theorem kP(hf:∀n,FdW (au us l n)):∀cs:List Cd,(∀c∈cs,NF us l Q c)->Fm.oks (bZ j0 (au us l) cs)∧Fm.cU (bZ j0 (au us l) cs)=(bF j0 (au us l) cs).length∧Fm.sizes (bZ j0 (au us l) cs)<=Cd.sizes cs
 | [],_=>⟨trivial,rfl,afm _⟩
 |c::cs,h=>by
  obtain⟨a1,a2,a3⟩:=O5 hf c (h c (by simp));obtain⟨b1,b2,b3⟩:=kP hf cs λx hx=>h x (by simp[hx])
  refine⟨⟨a1,b1⟩,?_,?_⟩
  ·simp only[bZ,Fm.cU,bF,afr];omega
  ·simp only[bZ,Fm.sizes,Cd.sizes];omega
end
theorem dS(j0:List Rf)(fd:Nd->Fd):∀ks:List Cd,Cd.sizes (narrow j0 fd ks)<=Cd.sizes ks
 | []=>afm _
 |c::ks=>by
  have:=dS j0 fd ks;unfold narrow at this⊢;simp only[List.filter_cons];split
  ·simp only[Cd.sizes];omega
  ·simp only[Cd.sizes];omega
theorem Cx{j0:List Rf}{fd:Nd->Fd}{ks:List Cd}{c:Cd}(h:c∈narrow j0 fd ks):c∈ks:=(agC.1 h).1
end
end Go.Ab.Pol
namespace Go.Ab.Pn
open Go.Ab.Pol
def WdM(f:Pol.Fd)(ws:List (AV×AV)):Prop:=∀w:Bs,gI (.one .str) (.str w) ws=some ((f.words.l.findIdx? λx=>decide (x=w)).map λ(i:Nat)=>iV (i:Int))
def FlM(fd:Nd->Pol.Fd)(j0:List Rf)(Q:Nd->Prop)(h:Heap)(es:List (AV×AV)):Prop:=
 ∀x,Q x->∃(c:Loc) (ws:List (AV×AV)),hget h c=some (.map ws)∧WdM (fd x) ws∧gI (.st [.str,.str]) (.agg [.str x.nm,.str x.attr]) es=some (some (je (ixR j0 x:Int) (fd x) (.mp c)))
structure Mk (nodes:Sl Nd)(fd:Nd->Pol.Fd)(j0:List Rf)(Q:Nd->Prop)(h:Heap)(b:Loc):Prop where
 hf:∀n,FdW (fd n)
 len:nodes.l.length<=1000
 box:∃(am:Loc) (r:List AV) (es:List (AV×AV)),hget h b=some (.box 95 false (.agg (nodes.avS Nd.av::.mp am::r)))∧hget h am=some (.map es)∧FlM fd j0 Q h es
theorem dA{h:Heap}{a:Loc}{B:Blk}(F:List Blk)(e:hget h a=some B):hget (F::h) a=some B:=by
 have:=mO e;unfold hget;rw[if_neg (by omega)];exact e
theorem Mk.push{nodes:Sl Nd}{fd:Nd->Pol.Fd}{j0:List Rf}{Q:Nd->Prop}{h:Heap}{b:Loc}(m:Mk nodes fd j0 Q h b)(F:List Blk):Mk nodes fd j0 Q (F::h) b:=by
 obtain⟨hf,hl,am,r,es,h1,h2,h3⟩:=m;refine⟨hf,hl,am,r,es,dA F h1,dA F h2,λx hx=>?_⟩;obtain⟨c,ws,k1,k2,k3⟩:=h3 x hx;exact⟨c,ws,dA F k1,k2,k3⟩
theorem Mk.f183{nodes:Sl Nd}{fd:Nd->Pol.Fd}{j0:List Rf}{Q:Nd->Prop}{h:Heap}{b:Loc}(m:Mk nodes fd j0 Q h b){i:Nat}{x:Nd}(hx:nodes.l[i]?=some x)(hq:Q x) :
  ∃(c:Loc) (ws:List (AV×AV)),hget h c=some (.map ws)∧WdM (fd x) ws∧∀F:List Blk,(mu K).fn 183 [.ptr b 0,iV (i:Int)] (F::h)=some (.val (je (ixR j0 x:Int) (fd x) (.mp c)) (F::h)):=by
 obtain⟨hf,hl,am,r,es,h1,h2,h3⟩:=m;obtain⟨c,ws,k1,k2,k3⟩:=h3 x hq;have hi:i<nodes.l.length:=(aft.1 hx).1;refine⟨c,ws,k1,k2,λF=>Pn.f183 nodes am r b es i x (ixR j0 x:Int) (fd x) (.mp c) (F::h) (.inr ⟨c,rfl,?_⟩) (by omega) (dA F h1) (dA F h2) hx k3⟩;have:=mO k1;simp only[Io];omega
theorem f184(i:Int)(f:Pol.Fd)(hf:FdW f)(c:Loc)(ws:List (AV×AV))(y:Nd)(hy:y.k=10∨y.k=11)(hn:y.k=10->-1099511627776<=y.num∧y.num<=1099511627776)(h:Heap)(hc:hget h c=some (.map ws))(hw:WdM f ws) :
  (mu K).fn 184 [je i f (.mp c),y.av] h=some (.val (iV (dM f y)) h):=by
 obtain⟨_,_,h1,h2,_⟩:=hf;obtain⟨ne,ne2⟩:=jq hc;have hl:=hw y.nm;rw[aC (KX _ _ _) aaa rfl (by simp[OQ])];unfold dM;rcases hy with hy|hy
 ·have w2:IntKind.i64.wrap (y.num-f.mn)=y.num-f.mn:=wrap64 (by have:=hn hy;omega) (by have:=hn hy;omega);simp[OQ,hy,w2]
 ·cases e:f.words.l.findIdx? λx=>decide (x=y.nm) with
  |none=>
   rw[e]at hl;replace hl:gI (.one .str) (.str y.nm) ws=some none:=hl;simp[OQ,hget,hc,ne2,hy,hl,eqK,eqF]
  |some j=>
   rw[e]at hl;replace hl:gI (.one .str) (.str y.nm) ws=some (some (iV (j:Int))):=hl;simp[OQ,hget,hc,ne2,hy,hl,eqK,eqF]

/-
  What a plan says is what the normal form says.
-/
import Derived.Test.YtjnomgdildcbhaaGreatDoorAb4dS21
import Derived.Test.YtjnomgdildcbhaaGreatDoorAb4dP16
import Derived.Test.YtjnomgdildcbhaaGreatDoorAb4dS23
set_option linter.all false
set_option maxRecDepth 100000
set_option maxHeartbeats 4000000
namespace Go.Ab.Pol
def atV(f:Fd):Vl->Int
 |.num n=>n-f.mn
 |.word w=>(((f.words.l.findIdx? λx=>decide (x=w)).getD 0:Nat):Int)
section
variable{us:List Us}{l:List Sc}{Q:Nd->Prop}{j0:List Rf}{vl:Nd->Vl}{vs:List Int}
structure aeH (us:List Us)(l:List Sc)(Q:Nd->Prop)(j0:List Rf)(vl:Nd->Vl)(vs:List Int):Prop where
 ix:∀x,Q x->ixR j0 x<vs.length
 val:∀x,x.k=9->Q x->vs.getD (ixR j0 x) 0=atV (au us l x) (vl x)
end
section
variable{us:List Us}{l:List Sc}{Q:Nd->Prop}{j0:List Rf}{vl:Nd->Vl}{vs:List Int}
end
def pcR(us:List Us)(l:List Sc)(r:Rf):Pc:=match findF us l r with
 |none=>⟨0,0⟩
 |some (u,k,_)=>⟨(u:Int),(k:Int)+2⟩
def zPl:Pl:=⟨⟨true,[]⟩,⟨true,[]⟩,⟨true,[]⟩,⟨true,[]⟩,⟨true,[]⟩⟩
def bf:Option Fm->Sl Gt
 |none=>⟨true,[]⟩
 |some f=>⟨true,flF 0 0 f⟩
def zP(j0:List Rf)(fd:Nd->Fd)(c:Cd):List Pt×List Pt×Option Fm:=if c.isT=true then ([],[],none) else fO j0 fd c
def far(a:Pt):Bool:=decide (jr<a.hi-a.lo)
def L8(A S:List Pt):Int:=if 256<A.length∨64<S.length then 6 else if A.any far=true then 2 else 0
section
variable(j0:List Rf)(fd:Nd->Fd)
theorem zg(hf:∀x,fd (aM x)=fd x)(k num:Int)(x y z:Nd):nK j0 fd k num (aM x) (aM y) (aM z)=nK j0 fd k num x y z:=by
 unfold nK dM ixR;simp only[hf];rfl
theorem Rc(k num:Int)(x y z:Nd):(nK j0 fd k num x y z).length<=2:=by
 unfold nK eY
 repeat' split
 all_goals simp
theorem IL(k num:Int)(vs:List Nd):3*(iW j0 fd k num vs).length<=2*(vs.length+1):=by
 unfold iW;split
 ·rename_i x y r;have:=Rc j0 fd k num x y (r.headD (bq 0));simp only[Io];omega
 ·simp
mutual
theorem Re:∀c:Cd,3*(kQ j0 fd c).length<=2*c.size
 |.atom k num vs=>by
  have:=IL j0 fd k num vs;simp only[kQ,Cd.size];omega
 |.gate j5 ks=>by
  have:=eI ks;simp only[kQ,Cd.size];omega
theorem eI:∀cs:List Cd,3*(bF j0 fd cs).length<=2*Cd.sizes cs
 | []=>by simp[bF]
 |c::cs=>by
  have:=Re c;have:=eI cs;simp only[bF,afr,Cd.sizes];omega
end
end
end Go.Ab.Pol
namespace Go.Ab.Pol
theorem Uj{us:List Us}{al:Bs}{u:Nat}(h:xK us al=some u):∃x,us[u]?=some x∧x.al=al:=by
 obtain⟨hlt,h1,_⟩:=agx.1 h;exact⟨us[u],afD hlt,by simpa using h1⟩
theorem XG{s:Sc}{nm:Bs}{k:Nat}(h:fdI s nm=some k):∃f,s.fields.l[k]?=some f∧f.name=nm:=by
 obtain⟨hlt,h1,_⟩:=agx.1 h;exact⟨s.fields.l[k],afD hlt,by simpa using h1⟩
theorem Ih{us:List Us}{l:List Sc}{r:Rf}{u k:Nat}{f:Fd}(h:findF us l r=some (u,k,f)) :
  ∃x s,us[u]?=some x∧x.al=r.al∧scN l x.sc=some s∧s.fields.l[k]?=some f∧f.name=r.attr:=by
 unfold findF at h;split at h
 ·cases h
 rename_i u' hu;split at h
 ·cases h
 rename_i x hx;split at h
 ·cases h
 rename_i s hs;split at h
 ·cases h
 rename_i k' hk;split at h
 ·cases h
 rename_i g hg;simp only[fS,afn]at h;obtain⟨rfl,rfl,rfl⟩:=h;obtain⟨y,h1,h2⟩:=Uj hu;obtain⟨g',h3,h4⟩:=XG hk;rw[hx]at h1;rw[hg]at h3;injection h1 with h1
 injection h3 with h3
 subst h1 h3;exact⟨x,s,hx,h2,hs,hg,h4⟩
theorem ve:∀{l:List Sc},jC l=0->∀s∈l,jV s=0
 | [],_,s,h=>by cases h
 |x::l,h,s,hs=>by
  simp only[jC]at h;split at h
  ·rename_i h0;rcases afp.1 hs with rfl|hs
   ·exact h0
   ·exact ve h s hs
  ·rename_i h0;exact absurd h h0
theorem CT:∀{l:List Fd} {met:List Bs},gj met l=0->∀f∈l,bN f=0
 | [],_,_,f,h=>by cases h
 |x::l,met,h,f,hf=>by
  simp only[gj]at h;split at h
  ·exact absurd h (by decide)
  split at h
  ·exact absurd h (by decide)
  split at h
  ·rename_i h0;exact absurd h h0
  ·rename_i h0;rcases afp.1 hf with rfl|hf
   ·simpa using h0
   ·exact CT h f hf
theorem CF{s:Sc}(h:jV s=0):s.fields.l.length<=16∧∀f∈s.fields.l,bN f=0:=by
 unfold jV at h;split at h
 ·exact absurd h (by decide)
 split at h
 ·exact absurd h (by decide)
 ·exact⟨by omega,CT h⟩
theorem Uk{f:Fd}(h:bN f=0):FdW f:=by
 unfold bN at h;split at h
 ·rename_i hk;split at h
  ·exact absurd h (by decide)
  rename_i hw;split at h
  ·exact absurd h (by decide)
  ·have hw:f.words.l=[]:=by simpa using hw
   refine⟨.inl hk,by omega,by omega,by omega,?_⟩;rw[hw];simp
 ·split at h
  ·rename_i hk;split at h
   ·exact absurd h (by decide)
   ·rename_i hm;unfold nG at h;split at h
    ·exact absurd h (by decide)
    ·refine⟨.inr ⟨hk,by omega,by omega,by omega⟩,by omega,by omega,by omega,by omega⟩
  ·exact absurd h (by decide)
theorem rI{p:Po}{l:List Sc}(h:bz p l=0):chk p=0∧jC l=0∧(l.map Sc.name).Nodup∧∀u∈p.uses.l,(scN l u.sc).isSome=true:=by
 unfold bz at h;split at h
 ·rename_i h0;exact absurd h h0
 rename_i h0;split at h
 ·rename_i h1;exact absurd h h1
 rename_i h1;split at h
 ·exact absurd h (by decide)
 rename_i h2;split at h
 ·exact absurd h (by decide)
 ·rename_i h3;refine⟨by simpa using h0,by simpa using h1,by simpa using h2,?_⟩;simpa only[Bool.not_eq_false,afL]using h3
theorem sF{p:Po}{l:List Sc}(h:bz p l=0)(us:List Us)(n:Nd):FdW (au us l n):=by
 have hz:FdW zFd:=⟨.inl rfl,by decide,by decide,by decide,by decide⟩
 unfold au;cases e:findF us l ⟨n.nm,n.attr⟩ with
 |none=>exact hz
 |some q=>
  obtain⟨u,k,f⟩:=q;obtain⟨x,s,_,_,a3,a4,_⟩:=Ih e;exact Uk ((CF (ve (rI h).2.1 s (Cf a3).1)).2 f (afB a4))
theorem Ke{p:Po}(h:chk p=0):p.az.l.length<=64∧p.az.l.Nodup:=by
 unfold chk at h;split at h
 ·exact absurd h (by decide)
 rename_i h0;split at h
 ·exact absurd h (by decide)
 split at h
 ·exact absurd h (by decide)
 split at h
 ·rename_i h1;exact absurd h h1
 split at h
 ·exact absurd h (by decide)
 ·rename_i h2;refine⟨by omega,?_⟩;by_cases q:p.az.l.Nodup
  ·exact q
  ·exact absurd (.inr q) h2
theorem mo{fd:Nd->Fd}{x:Nd}{lo hi:Int}(e:within fd x lo hi=.atom 7 0 [x,bq lo,bq hi]):(fd x).mn<=lo∧lo<=hi∧hi<=(fd x).mx:=by
 unfold within at e;split at e
 ·simp[cB]at e
 split at e
 ·simp[cB]at e
 split at e
 ·simp[dV]at e
 ·simp only[Cd.atom.injEq,afH,bq,Nd.mk.injEq,and_true,true_and]at e;omega
theorem sZ{a:Pt}{n:Nat}(h0:0<=a.kind)(h6:a.kind<6)(h:Ob a n=true):ptE a n=0:=by
 unfold ptE;rw[if_neg (by omega),if_pos h]
theorem okC{kd a lo:Int}{n:Nat}(hk:kd=0∨kd=1)(ha:0<=a∧a<(n:Int))(hl:0<=lo∧lo<=jr):ptE ⟨kd,a,0,lo,0⟩ n=0:=by
 refine sZ (by simp only;omega) (by simp only;omega) ?_;unfold Ob;simp only;rw[if_pos hk];simp[ha.1,ha.2,hl.1,hl.2]
theorem okR{a lo hi:Int}{n:Nat}(ha:0<=a∧a<(n:Int))(hl:0<=lo∧lo<=hi∧hi<=jr):ptE ⟨2,a,0,lo,hi⟩ n=0:=by
 refine sZ (by simp only;omega) (by simp only;omega) ?_;unfold Ob;simp[ha.1,ha.2,hl.1,hl.2.1,hl.2.2]
theorem okS{kd a b:Int}{n:Nat}(hk:kd=3∨kd=4)(ha:0<=a∧a<(n:Int))(hb:0<=b∧b<(n:Int))(hab:a≠b):ptE ⟨kd,a,b,0,0⟩ n=0:=by
 refine sZ (by simp only;omega) (by simp only;omega) ?_;unfold Ob;simp only;rw[if_neg (by omega),if_neg (by omega),if_pos hk];simp[ha.1,ha.2,hb.1,hb.2,hab]
theorem okD{a b lo hi:Int}{n:Nat}(ha:0<=a∧a<(n:Int))(hb:0<=b∧b<(n:Int))(hab:a≠b)(h1:-jr<=lo)(h2:lo<=hi)(h3:hi<=jr)(h4:hi-lo<=jr):ptE ⟨5,a,b,lo,hi⟩ n=0:=by
 refine sZ (by simp only;omega) (by simp only;omega) ?_;unfold Ob;simp[ha.1,ha.2,hb.1,hb.2,hab,h1,h2,h3,h4]
theorem Xp{j0:List Rf}{x:Nd}(h:(⟨x.nm,x.attr⟩:Rf)∈j0):j0[ixR j0 x]?=some ⟨x.nm,x.attr⟩:=by
 unfold ixR;cases e:j0.findIdx? λr=>decide (r=⟨x.nm,x.attr⟩) with
 |none=>
  rw[List.findIdx?_eq_none_iff]at e;have:=e _ h;simp at this
 |some i=>
  obtain⟨hlt,h1,_⟩:=agx.1 e;simp only[agj];rw[afD hlt];simpa using h1
def inR(j0:List Rf)(v:Nd):Prop:=(⟨v.nm,v.attr⟩:Rf)∈j0
section
variable{us:List Us}{l:List Sc}{j0:List Rf}
theorem IK{f:Fd}(h:FdW f):0<=bU f∧bU f<=jr:=by
 obtain⟨h0,h1,h2,h3,h4⟩:=h;unfold bU jr;split
 ·rcases h0 with h0|h0<;>omega
 ·omega
theorem Oa(hf:∀n,FdW (au us l n)){x y:Nd}{num:Int}(w:Wt us l num x y)(e:values (au us l) num x y=dV num x y)(hy:y.k≠9):0<=dM (au us l x) y∧dM (au us l x) y<=jr:=by
 obtain⟨ha,h3,hc⟩:=wL w e;have fx:=hf x;rcases hc with⟨kb,h01,hv,a1,a2⟩|⟨kb,h01,hkd⟩|⟨kb,_⟩|⟨kb,_⟩
 ·unfold dM jr;rw[if_pos kb];obtain⟨h0,h1,h2,h3,h4⟩:=fx;omega
 ·unfold dM jr;rw[if_neg (by omega)];cases q:(au us l x).words.l.findIdx? λv=>decide (v=y.nm) with
  |none=>simp
  |some i=>
   obtain⟨hlt,_,_⟩:=agx.1 q;obtain⟨h0,h1,h2,h3,h4⟩:=fx;simp only[agj];omega
 ·exact absurd kb hy
 ·exact absurd kb hy
end
theorem CU:∀(l:List Tr) (acc:List Rf),acc.Nodup->(l.foldl (λacc s=>kS acc s.n) acc).Nodup
 | [],acc,h=>h
 |s::l,acc,h=>by
  refine CU l (kS acc s.n) ?_;unfold kS;split
  ·split
   ·exact h
   ·rename_i hm;rw[aga];exact⟨h,by simp,λa ha b hb=>by
     rw[afO.1 hb];rintro rfl;exact hm ha⟩
  ·exact h
theorem Il{p:Po}{t:Tr}(h:IsT p.nodes.l t):(cS p t).Nodup:=by
 rw[FW h];exact CU _ [] List.nodup_nil
theorem vX{α:Type}[DecidableEq α]:∀(a b:List α),a.Nodup->(∀x∈a,x∈b)->a.length<=b.length
 | [],b,_,_=>by simp
 |x::a,b,h,hs=>by
  rw[List.nodup_cons]at h;have:=vX a (b.erase x) h.2 λy hy=>by
   refine (List.mem_erase_of_ne ?_).2 (hs y (by simp[hy]));rintro rfl;exact h.1 hy
  have h2:=agX (hs x (by simp));have h3:=List.length_pos_of_mem (hs x (by simp));simp only[Io];omega
end Go.Ab.Pol
namespace Go.Ab.Pn
open Go.Ab.Pol
theorem aci{K:Cfg}{O:Orc}(a b c d r:CC)(s:St):evC K O (.seq a (.seq b (.seq c (.seq d r)))) s=goS K O r (evC K O (.seq a (.seq b (.seq c d))) s):=by
 simp only[dm];cases evC K O a s with
 |none=>rfl
 |some q=>
  obtain⟨ex,s1⟩:=q;cases ex<;>simp only[goS,dm]
  cases evC K O b s1 with
  |none=>rfl
  |some q=>
   obtain⟨ex,s2⟩:=q;cases ex<;>simp only[]
   cases evC K O c s2 with
   |none=>rfl
   |some q=>
    obtain⟨ex,s3⟩:=q;cases ex<;>simp only[]
theorem QA{K:Cfg}{O:Orc}(a b r:CC)(s:St):evC K O (.seq a (.seq b r)) s=goS K O r (evC K O (.seq a b) s):=by
 simp only[dm];cases evC K O a s with
 |none=>rfl
 |some q=>
  obtain⟨ex,s1⟩:=q;cases ex<;>simp only[goS,dm]
section
variable{us:List Us}{l:List Sc}(nodes:Sl Nd)(j0:List Rf)(Q:Nd->Prop)(hQ:∀v,Q v->Q (aM v))(h:Heap)(b:Loc)(m:Mk nodes (au us l) j0 Q h b)
include m
theorem XH(n:Nd)(B:Loc):evC K (mu K) Fq ⟨cI 0 [.ptr B 0,n.av],[]::h⟩=some (.norm,⟨[(4,.ay),(3,.ptr (h.length,0) 0),(0,.ptr B 0),(1,n.av)],[.box 90 false n.av]::h⟩):=by
 simp[Fq]
theorem Mu(n:Nd)(i j:Nat)(r:List AV)(x y:Nd)(hk:n.kids.avS iV=.lst (iV (i:Int)::iV (j:Int)::r))(hx:nodes.l[i]?=some x)(hy:nodes.l[j]?=some y)(qx:Q x) :
  ∃(j3:Env) (c:Loc) (ws:List (AV×AV)),F4 j3 b h.length∧hget h c=some (.map ws)∧WdM (au us l x) ws ∧
   (mu K).fn 141 [.ptr b 0,n.av] h=goF tB.res (evC K (mu K) (.seq mY (.seq qN (.seq BO (.seq BP (.seq BQ (.seq BR (.seq mZ (.seq qO mK))))))))
    ⟨j3,[.box 90 false n.av,.box 102 false (je (ixR j0 x:Int) (au us l x) (.mp c)),.box 90 false y.av]::h⟩):=by
 obtain⟨c,ws,c1,c2,c3⟩:=m.f183 hx qx;obtain⟨j3,k1,g1⟩:=W9 nodes (au us l) j0 Q h b m n i j r x y hk hx hy qx c (mO c1) c3 [(4,.ay),(3,.ptr (h.length,0) 0),(0,.ptr b 0),(1,n.av)] rfl rfl;refine⟨j3,c,ws,g1,c1,c2,?_⟩;rw[aC (KX _ _ _) Zv NR (by simp[tB])];rw[dm,XH nodes j0 Q h b m n b,bk,dm,k1,bk]
include hQ
theorem f141{k num:Int}{vs:List Nd}(hA:AtN us l Q k num vs)(b0:Nat)(hat:∀(j:Nat) (v:Nd),vs[j]?=some v->nodes.l[b0+1+j]?=some (aM v)) :
  (mu K).fn 141 [.ptr b 0,(br b0 k num vs.length).av] h=some (.val (.lst ((iW j0 (au us l) k num vs).map Pt.av)) h):=by
 have hf:=m.hf;have hl:=A6 (us:=us) (l:=l);obtain⟨qv,hA⟩:=hA;rcases hA with⟨rfl,a,b',rfl,w,e⟩|⟨rfl,rfl,x,lo,hi,rfl,kx,hv,e⟩
 ·obtain⟨ka,h3,hc⟩:=wL w e;have hx:=hat 0 a rfl;have hy:=hat 1 b' rfl;have hk:(br b0 6 num 2).kids.avS iV=.lst [iV ((b0+1+0:Nat):Int),iV ((b0+1+1:Nat):Int)]:=by simp[br,upI,Sl.avS,agK]
  obtain⟨j3,c,ws,g1,c1,c2,start⟩:=Mu nodes j0 Q h b m (br b0 6 num 2) (b0+1+0) (b0+1+1) [] (aM a) (aM b') hk hx hy (hQ a (qv a (by simp) ka));have e3:iW j0 (au us l) 6 num [a,b']=nK j0 (au us l) 6 num (aM a) (aM b') (aM (bq 0)):=by
   rw[zg j0 (au us l) hl];rfl
  rw[e3];have start:(mu K).fn 141 [.ptr b 0,(br b0 6 num [a,b'].length).av] h=_:=start;rw[start];have ky:b'.k=9∨b'.k≠9:=by omega
  rcases ky with ky|ky
  ·obtain⟨c',ws',d1,d2,d3⟩:=m.f183 hy (hQ b' (qv b' (by simp) ky));obtain⟨jA,k2,g2⟩:=TL nodes (au us l) j0 Q h b m (br b0 6 num 2) rfl (aM a) (aM b') ky (je (ixR j0 (aM a):Int) (au us l (aM a)) (.mp c)) j3 g1;obtain⟨FR,k3,g3⟩:=TM nodes (au us l) j0 Q h b m (br b0 6 num 2) (b0+1+0) (b0+1+1) [] (aM a) (aM b') hk hy (hQ b' (qv b' (by simp) ky)) c c' (mO d1) d3 jA g2;rw[QA,k2,bk,aci,k3,bk];exact Xe nodes (au us l) j0 Q h b m (br b0 6 num 2) (by simp only[br];omega) (aM a) (aM b') c c' FR g3 (aM (bq 0)) rfl ky
  ·have aeI:b'.k=10∨b'.k=11:=by
    rcases hc with⟨kb,_⟩|⟨kb,_⟩|⟨kb,_⟩|⟨kb,_⟩
    ·exact .inl kb
    ·exact (w.2.2.1.resolve_left ky)
    ·exact absurd kb ky
    ·exact absurd kb ky
   have h01:num=0∨num=1:=by
    rcases hc with⟨kb,q,_⟩|⟨kb,q,_⟩|⟨kb,_⟩|⟨kb,_⟩
    ·exact q
    ·exact q
    ·exact absurd kb ky
    ·exact absurd kb ky
   have hyn:b'.k=10->-1099511627776<=b'.num∧b'.num<=1099511627776:=λq=>by
    obtain⟨_,_,x1,x2,_⟩:=hf a;rcases hc with⟨kb,_,_,y1,y2⟩|⟨kb,_,hkd⟩|⟨kb,_⟩|⟨kb,_⟩
    ·omega
    ·exfalso;obtain⟨_,_,_,vx,vy,e1,e2,e4,_⟩:=w;have hyn:bS us l b'=some .num:=by unfold bS;rw[if_pos q]
     rw[hyn]at e2;injection e2 with e2
     subst e2;cases vx with
     |num=>exact hkd (lU ka e1)
     |wd w=>exact absurd e4 (by simp[aV])
     |fw w=>exact absurd e4 (by simp[aV])
    ·exact absurd kb ky
    ·exact absurd kb ky
   rw[Xc nodes (au us l) j0 Q h b m (br b0 6 num 2) (aM a) (aM b') rfl h01 aeI hyn c ws c1 c2 j3 g1];unfold nK;rw[if_neg (by decide),if_pos (show (aM b').k≠9 from ky)];rcases h01 with rfl|rfl<;>rfl
 ·have hx:=hat 0 x rfl;have hy:=hat 1 (bq lo) rfl;have hz:=hat 2 (bq hi) rfl;obtain⟨w1,w2,w3⟩:=mo e;obtain⟨_,_,x1,x2,_⟩:=hf x;have hk:(br b0 7 0 3).kids.avS iV=.lst [iV ((b0+1+0:Nat):Int),iV ((b0+1+1:Nat):Int),iV ((b0+1+2:Nat):Int)]:=by simp[br,upI,Sl.avS,agK]
  obtain⟨j3,c,ws,g1,c1,c2,start⟩:=Mu nodes j0 Q h b m (br b0 7 0 3) (b0+1+0) (b0+1+1) [iV ((b0+1+2:Nat):Int)] (aM x) (aM (bq lo)) hk hx hy (hQ x (qv x (by simp) kx));have start:(mu K).fn 141 [.ptr b 0,(br b0 7 0 [x,bq lo,bq hi].length).av] h=_:=start;rw[start,Xb nodes (au us l) j0 Q h b m (br b0 7 0 3) (b0+1+0) (b0+1+1) (b0+1+2) (aM x) (aM (bq lo)) (aM (bq hi)) hk rfl hz (.inl rfl) (.inl rfl) (λ_=>by simp only[aM,bq];omega) (λ_=>by simp only[aM,bq];omega) c ws c1 c2 j3 g1];rfl
end
theorem XI{K:Cfg}{O:Orc}(a b c d e r:CC)(s:St):evC K O (.seq a (.seq b (.seq c (.seq d (.seq e r))))) s=goS K O r (evC K O (.seq a (.seq b (.seq c (.seq d e)))) s):=by
 rw[dm,dm (a:=a)];cases evC K O a s with
 |none=>rfl
 |some q=>
  obtain⟨ex,s1⟩:=q;cases ex<;>simp only[goS]
  exact aci b c d e r s1
theorem Ul{fd:Nd->Pol.Fd}{j0:List Rf}{k num:Int}{x y z:Nd}{L:List Pt}(P:wK fd j0 k num x y z L):L≠[]:=by
 cases P<;>simp
theorem Mv{fd:Nd->Pol.Fd}{j0:List Rf}{num:Int}{x y z:Nd}(P:nK j0 fd 6 num x y z≠[])(hy:y.k=9) :
  NQ num (ixR j0 x:Int) (ixR j0 y:Int) ((fd y).mn-(fd x).mn) (-(bU (fd y))) (bU (fd x))=nK j0 fd 6 num x y z:=by
 unfold nK at P⊢;rw[if_neg (by decide),if_neg (by simp[hy])]at P⊢;unfold NQ;by_cases n2:num=2
 ·subst n2;rw[if_neg (by decide),if_pos rfl,if_pos rfl];rw[if_pos rfl]at P;unfold eY at P⊢;split
  ·rfl
  ·rename_i c;rw[if_neg c]at P;exact absurd rfl P
 by_cases n3:num=3
 ·subst n3;rw[if_neg (by decide),if_neg (by decide),if_pos rfl,if_neg (by decide),if_pos rfl];rw[if_neg (by decide),if_pos rfl]at P;unfold eY at P⊢;split
  ·rfl
  ·rename_i c;rw[if_neg c]at P;exact absurd rfl P
 rw[if_neg n2,if_neg n3,if_neg n2,if_neg n3];by_cases n0:num=0
 ·rw[if_pos n0,if_pos n0];unfold eY;rw[if_pos (Int.le_refl _)]
 ·rw[if_neg n0,if_neg n0]
section
variable(q:Po)(l:Sl Sc)(j0:List Rf)(R:List AV)(Q:Nd->Prop)(hQ:∀v,Q v->Q (aM v))(h:Heap)(b:Loc)(m:RM q l j0 R h b)
include m hQ
theorem f98{k num:Int}{vs:List Nd}(hA:AtN q.uses.l l.l Q k num vs)(b0:Nat)(h0:q.nodes.l[b0]?=some (br b0 k num vs.length))(hat:∀(j:Nat) (v:Nd),vs[j]?=some v->q.nodes.l[b0+1+j]?=some (aM v)) :
  (mu K).fn 98 [.ptr b 0,iV (b0:Int)] h=some (.val (.lst ((iW j0 (au q.uses.l l.l) k num vs).map Pt.av)) h):=by
 have hf:=m.hf;have hl:=A6 (us:=q.uses.l) (l:=l.l);obtain⟨x,y,r,e1,kx,_,_,c7,c6,k67,P⟩:=jT (j0:=j0) hf hA;subst e1;have hx:=hat 0 x rfl;have hy:=hat 1 y rfl;have hne:=Ul P;rw[aC (KX _ _ _) ad1 Qh (by simp[c98])];rcases k67 with rfl|rfl
 ·obtain⟨rfl,w,e⟩:=c6 rfl;have e3:iW j0 (au q.uses.l l.l) 6 num [x,y]=nK j0 (au q.uses.l l.l) 6 num (aM x) (aM y) (aM (bq 0)):=by
   rw[zg j0 (au q.uses.l l.l) hl];rfl
  rw[e3]at hne⊢;have hk:(br b0 6 num 2).kids.avS iV=.lst [iV ((b0+1+0:Nat):Int),iV ((b0+1+1:Nat):Int)]:=by simp[br,upI,Sl.avS,agK]
  obtain⟨j3,ka,ga⟩:=Vc q l j0 R h b m b0 (b0+1+0) (b0+1+1) [] (br b0 6 num 2) (aM x) (aM y) hk h0 hx hy;rw[XI,ka,bk];by_cases ky:y.k=9
  ·obtain⟨jA,kr,gr⟩:=abv q l j0 R h b m (br b0 6 num 2) (aM x) (aM y) (by simp[br]) ky j3 ga;rw[XI,kr,bk];have fx:=hf (aM x);have fy:=hf (aM y);have:=abw (br b0 6 num 2) (.box 90 false (aM x).av) (.box 90 false (aM y).av) (.box 50 false (au q.uses.l l.l (aM x)).av) (.box 50 false (au q.uses.l l.l (aM y)).av) h _ _ _ _ _
    (by obtain⟨_,a1,a2,a3,a4⟩:=fx;obtain⟨_,b1,b2,b3,b4⟩:=fy;omega) jA gr
    (by rw[show (br b0 6 num 2).num=num from rfl,Mv hne ky];exact hne)
   rw[this];rw[show (br b0 6 num 2).num=num from rfl,Mv hne ky]
  ·obtain⟨_,h3,hc⟩:=wL w e;have hyn:y.k=10->-1099511627776<=y.num∧y.num<=1099511627776:=λq'=>by
    obtain⟨_,_,x1,x2,_⟩:=hf x;rcases hc with⟨kb,_,_,y1,y2⟩|⟨kb,_,hkd⟩|⟨kb,_⟩|⟨kb,_⟩
    ·omega
    ·exfalso;obtain⟨_,_,_,vx,vy,e1,e2,e4,_⟩:=w;have hyn:bS q.uses.l l.l y=some .num:=by unfold bS;rw[if_pos q']
     rw[hyn]at e2;injection e2 with e2
     subst e2;cases vx with
     |num=>exact hkd (lU kx e1)
     |wd w=>exact absurd e4 (by simp[aV])
     |fw w=>exact absurd e4 (by simp[aV])
    ·exact absurd kb ky
    ·exact absurd kb ky
   rw[W8 q l j0 R h b m (br b0 6 num 2) (aM x) (aM y) (by simp[br]) ky hyn j3 ga];unfold nK;rw[if_neg (show ¬ ((6:Int)=7) by decide),if_pos (show (aM y).k≠9 from ky)];rfl
 ·obtain⟨rfl,lo,hi,rfl,rfl,_⟩:=c7 rfl;have hz:=hat 2 (bq hi) rfl;have hk:(br b0 7 0 3).kids.avS iV=.lst [iV ((b0+1+0:Nat):Int),iV ((b0+1+1:Nat):Int),iV ((b0+1+2:Nat):Int)]:=by simp[br,upI,Sl.avS,agK]
  obtain⟨j3,ka,ga⟩:=Vc q l j0 R h b m b0 (b0+1+0) (b0+1+1) [iV ((b0+1+2:Nat):Int)] (br b0 7 0 3) (aM x) (aM (bq lo)) hk h0 hx hy;rw[XI,ka,bk];have e3:iW j0 (au q.uses.l l.l) 7 0 [x,bq lo,bq hi]=nK j0 (au q.uses.l l.l) 7 0 (aM x) (aM (bq lo)) (aM (bq hi)):=by
   rw[zg j0 (au q.uses.l l.l) hl];rfl
  have w1:AtN q.uses.l l.l Q 7 0 [x,bq lo,bq hi]:=hA;obtain⟨_,w1⟩:=w1;rcases w1 with⟨h6,_⟩|⟨_,_,x',lo',hi',e5,_,_,e6⟩
  ·exact absurd h6 (by decide)
  simp only[afH,bq,Nd.mk.injEq,and_true,true_and]at e5;obtain⟨rfl,rfl,rfl⟩:=e5;obtain⟨w1,w2,w3⟩:=mo e6;obtain⟨_,_,x1,x2,_⟩:=hf x;rw[W7 q l j0 R h b m (b0+1+0) (b0+1+1) (b0+1+2) (br b0 7 0 3) (aM x) (aM (bq lo)) (aM (bq hi)) hk rfl hz (λ_=>by simp only[aM,bq];omega) (λ_=>by simp only[aM,bq];omega) j3 ga];rw[e3];rfl
end

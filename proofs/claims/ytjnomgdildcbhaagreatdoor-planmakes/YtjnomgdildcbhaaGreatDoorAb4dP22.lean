/-
  Schemas and fields: the reference.
-/
import Derived.Test.YtjnomgdildcbhaaGreatDoorAb4dP10
import Derived.Test.YtjnomgdildcbhaaGreatDoorAb4dP16
set_option linter.all false
set_option maxRecDepth 100000
set_option maxHeartbeats 1000000
namespace Go.Ab.Pn
open Go.Ab.Pol
theorem Ls{α:Type}(g:α->Bool)(x:α)(r:List α)(hx:g x=true):∀j4:List α,∃k,(j4++x::r).findIdx? g=some k∧(k<j4.length↔j4.any g=true)
 | []=>⟨0,by simp[agn,hx],by simp⟩
 |y::j4=>by
  obtain⟨k,h1,h2⟩:=Ls g x r hx j4;cases e:g y
  ·refine⟨k+1,by simp[agn,e,h1],?_⟩;simp only[Io,List.any_cons,e,agy];rw[<-h2];omega
  ·exact⟨0,by simp[agn,e],by simp[e]⟩
theorem f56(s:Sc)(hs:s.fields.l.length<=1000)(nm:Bs)(h:Heap):(mu K).fn 56 [s.av,.str nm] h=some (.val (.tup [.int .i64 (match fdI s nm with|none=>0|some k=>(k:Int)),.bool (fdI s nm).isSome]) h):=by
 have key:=aB (K:=K) (n:=1) (live:=[1,2,6]) (a:=Bv) (ixF λf:Pol.Fd=>decide (f.name=nm))
  (λj4 b=>⟨[(1,.str nm),(2,.ptr (h.length,0) 0),(6,.int .i64 (j4.length:Int))],[.box 84 false s.av]::h⟩) (λj4 b=>b=j4.length)
  (λb o=>∃j3,o=some (.exit 0,⟨j3,[.box 84 false s.av]::h⟩)) (λk o=>∃j3,o=some (.ret,⟨j3,[.box 84 false s.av]::h⟩)∧get j3 4=.int .i64 (k:Int)∧get j3 5=.bool true) s.fields.l
  (λj4 x r b hl hb=>by
   obtain⟨h1,h2,w1⟩:=aA hl (by omega);have hix:=iaP Fd.av 5 s.fields j4.length x (by simpa using h2);rw[aj];generalize (mu K).code _=F;clear hl;unfold ixF;by_cases e:x.name=nm
   ·have d:(x.name=nm)=True:=by simp[e]
    simp[Bv,h1,hix,d,hb]
   ·simp[Bv,h1,hix,w1,e,hb])
  (λb _=>by
   rw[aj];generalize (mu K).code _=F;simp[Bv]) 0 rfl
 simp only[iO,afl]at key;rw[sJ]at key;rw[aC (KX _ _ _) adR rfl (by simp[c56])];unfold fdI;cases e:s.fields.l.findIdx? (λf=>decide (f.name=nm)) with
 |none=>
  rw[e]at key;obtain⟨_,j3,k⟩:=key;simp[c56,k]
 |some k0=>
  rw[e]at key;obtain⟨j3,k,g,g5⟩:=key;simp only[afu]at g;simp[c56,k,g,g5]
theorem f155(s:Sc)(hs:WC s)(h:Heap):(mu K).fn 155 [s.av] h=some (.val (.int .i64 (jV s)) h):=by
 have key:=aB (K:=K) (n:=1) (live:=[1,3]) (a:=gm) fdF
  (λj4 met=>⟨[(1,.ptr (h.length,0) 0),(3,.int .i64 (j4.length:Int))],[.box 84 false s.av]::h⟩) (λj4 met=>met=j4.map Fd.name)
  (λmet o=>∃j3,o=some (.exit 0,⟨j3,[.box 84 false s.av]::h⟩)) (λe o=>∃j3 Fr,o=some (.ret,⟨j3,Fr::h⟩)∧get j3 2=.int .i64 e) s.fields.l
  (λj4 x r met hl' hm=>by
   obtain⟨g1,g2,w1⟩:=aA hl' (by have:=hs.len;omega);have hx:=hs.fields x (by rw[hl'];simp);have hix:=iaP Fd.av 5 s.fields j4.length x (by simpa using g2);have k1:=λh=>f206 x.name hx.name h
   have k2:=λh=>f207 x.words hx.len hx.words h
   have k3:=λh=>f56 s hs.len x.name h
   obtain⟨k,e1,e2⟩:=Ls (λf:Pol.Fd=>decide (f.name=x.name)) x r (by simp) j4;rw[<-hl']at e1;have e1:fdI s x.name=some k:=e1;rw[e1]at k3;have e3:(k<j4.length)=(x.name∈met):=by
    rw[hm,eq_iff_iff,e2];simp
   have e4:((k:Int)<(j4.length:Int))=(x.name∈met):=by rw[<-e3];simp
   rw[aj];generalize (mu K).code _=F;have hm2:met++[x.name]=(j4++[x]).map Fd.name:=by rw[hm];simp
   clear hl' e1 e2 e3;unfold fdF;cases a:aJ x.name
   ·simp[gm,KL,aa,g1,hix,k1,a]
   by_cases hmm:x.name∈met
   ·simp[gm,KL,aa,g1,hix,k1,k3,a,e4,hmm]
   by_cases c0:x.kind=0
   ·have d0:(x.kind=0)=True:=by simp[c0]
    by_cases c1:x.words.l=[]
    case neg=>
     have q1:0<(x.words.l.length:Int):=by
      have:0<x.words.l.length:=agz.2 c1;omega
     have q2:0<x.words.l.length:=by omega
     have hE:bN x=3:=by simp[bN,d0,c1]
     simp[gm,KL,aa,g1,hix,k1,k3,a,e4,hmm,d0,q2,hE]
    have q1:x.words.l.length=0:=by simp[c1]
    have dd:(x.words.l=[])=True:=by simp[c1]
    by_cases c2:x.mn < -2147483648
    ·have hE:bN x=2:=by simp[bN,d0,dd,c2]
     simp[gm,KL,aa,g1,hix,k1,k3,a,e4,hmm,d0,q1,c2,hE]
    by_cases c3:2147483647<x.mx
    ·have hE:bN x=2:=by simp[bN,d0,dd,c2,c3]
     simp[gm,KL,aa,g1,hix,k1,k3,a,e4,hmm,d0,q1,c2,c3,hE]
    by_cases c4:x.mx<x.mn
    ·have hE:bN x=2:=by simp[bN,d0,dd,c2,c3,c4]
     simp[gm,KL,aa,g1,hix,k1,k3,a,e4,hmm,d0,q1,c2,c3,c4,hE]
    ·have hE:bN x=0:=by simp[bN,d0,dd,c2,c3,c4]
     simp[gm,KL,aa,g1,hix,w1,k1,k3,a,e4,hmm,d0,q1,c2,c3,c4,hE,hm2]
   by_cases c1:x.kind=1
   ·have d1:(x.kind=1)=True:=by simp[c1]
    have d0:(x.kind=0)=False:=by simp[c0]
    by_cases c2:x.mn=0
    case neg=>
     have hE:bN x=3:=by simp[bN,d0,d1,c2]
     simp[gm,KL,aa,g1,hix,k1,k3,a,e4,hmm,d0,d1,c2,hE]
    have d2:(x.mn=0)=True:=by simp[c2]
    by_cases c3:x.mx=0
    case neg=>
     have hE:bN x=3:=by simp[bN,d0,d1,d2,c3]
     simp[gm,KL,aa,g1,hix,k1,k3,a,e4,hmm,d0,d1,d2,c3,hE]
    have d3:(x.mx=0)=True:=by simp[c3]
    have hE:bN x=nG x.words.l:=by simp[bN,d0,d1,d2,d3]
    rw[hE];by_cases c4:nG x.words.l=0
    ·simp[gm,KL,aa,g1,hix,w1,k1,k2,k3,a,e4,hmm,d0,d1,d2,d3,c4,hm2]
    ·simp[gm,KL,aa,g1,hix,k1,k2,k3,a,e4,hmm,d0,d1,d2,d3,c4]
   ·have hE:bN x=3:=by simp[bN,c0,c1]
    simp[gm,KL,aa,g1,hix,k1,k3,a,e4,hmm,c0,c1,hE])
  (λmet _=>by
   rw[aj];generalize (mu K).code _=F;simp[gm]) [] rfl
 simp only[iO,afl]at key;rw[FN]at key;have k0:=λh=>f206 s.name hs.name h
 rw[aC (KX _ _ _) ZK rfl (by simp[Jy])];unfold jV;cases a:aJ s.name
 ·simp[Jy,KL,aa,k0,a]
 by_cases c1:s.fields.l.length<1
 ·have d1:(s.fields.l.length:Int)<1:=by omega
  simp[Jy,KL,aa,k0,a,d1,c1]
 have d1:¬ (s.fields.l.length:Int)<1:=by omega
 by_cases c2:16<s.fields.l.length
 ·have d2:(16:Int)<(s.fields.l.length:Int):=by omega
  simp[Jy,KL,aa,k0,a,d1,d2,c2]
 have d2:¬ (16:Int)<(s.fields.l.length:Int):=by omega
 rw[if_neg (by simp),if_neg (by omega)];by_cases hn:gj [] s.fields.l=0
 ·rw[if_pos hn]at key;obtain⟨_,j3,k⟩:=key;simp[Jy,KL,aa,k0,a,d1,d2,k,hn]
 ·rw[if_neg hn]at key;obtain⟨j3,Fr,k,g2⟩:=key;simp[Jy,KL,aa,k0,a,d1,d2,k,g2]
theorem f237(a b:Sl Bs)(ha:a.l.length<=1000)(h:Heap):(mu K).fn 237 [a.avS .str,b.avS .str] h=some (.val (.bool (decide (a.l=b.l))) h):=by
 rw[aC (KX _ _ _) aaN rfl (by simp[OU])];by_cases hlen:a.l.length=b.l.length
 case neg=>
  have e:¬ a.l=b.l:=λq=>hlen (by rw[q])
  have e2:((a.l.length:Int)=(b.l.length:Int))=False:=by simp;omega
  simp[OU,e,e2]
 have e2:((a.l.length:Int)=(b.l.length:Int))=True:=by simp;omega
 have hz:(a.l.zip b.l).length=a.l.length:=by simp[hlen]
 have key:=aB (K:=K) (n:=0) (live:=[0,1,5]) (a:=uL) (λ(_:Unit) (q:Bs×Bs)=>if decide (q.1=q.2)=true then (.inl ():Unit ⊕ Unit) else .inr ())
  (λj4 _=>⟨[(0,a.avS .str),(1,b.avS .str),(5,.int .i64 (j4.length:Int))],[]::h⟩) (λ_ _=>True)
  (λ_ o=>∃j3,o=some (.exit 0,⟨j3,[]::h⟩)) (λ_ o=>∃j3,o=some (.ret,⟨j3,[]::h⟩)∧get j3 4=.bool false) (a.l.zip b.l)
  (λj4 q r u hl _=>by
   obtain⟨x,y⟩:=q;obtain⟨h1,h2,w1⟩:=aA hl (by omega);rw[hz]at h1;obtain⟨g1,g2⟩:=List.getElem?_zip_eq_some.1 h2;have hix:=iaP AV.str 1 a j4.length x (by simpa using g1);have hiy:=iaP AV.str 1 b j4.length y (by simpa using g2);rw[aj];generalize (mu K).code _=F;clear hl;by_cases e:x=y
   ·have d:(x=y)=True:=by simp[e]
    simp[uL,h1,hix,hiy,w1,d]
   ·simp[uL,h1,hix,hiy,e])
  (λu _=>by
   rw[aj];generalize (mu K).code _=F;simp[uL,hz,hlen]) () trivial
 simp only[iO,afl]at key;have ez:=sK a.l b.l hlen;by_cases e:a.l=b.l
 ·rw[decide_eq_true e]at ez;rw[(aT (λq:Bs×Bs=>decide (q.1=q.2)) (a.l.zip b.l)).1 ez]at key;obtain⟨_,j3,k⟩:=key;have e3:(a.l=b.l)=True:=by simp[e]
  simp[OU,hlen,k,e3]
 ·rw[decide_eq_false e]at ez;rw[(aT (λq:Bs×Bs=>decide (q.1=q.2)) (a.l.zip b.l)).2 ez]at key;obtain⟨j3,k,g⟩:=key;simp[OU,hlen,k,g,e]
theorem f238(l:Sl Bs)(hl:l.l.length<=1000)(w:Bs)(h:Heap):(mu K).fn 238 [l.avS .str,.str w] h=some (.val (.bool (decide (w∈l.l))) h):=by
 have key:=aB (K:=K) (n:=0) (live:=[0,1,5]) (a:=uM) (BZ w)
  (λj4 _=>⟨[(0,l.avS .str),(1,.str w),(5,.int .i64 (j4.length:Int))],[]::h⟩) (λ_ _=>True)
  (λ_ o=>∃j3,o=some (.exit 0,⟨j3,[]::h⟩)) (λ_ o=>∃j3,o=some (.ret,⟨j3,[]::h⟩)∧get j3 4=.bool true) l.l
  (λj4 x r b hl' _=>by
   obtain⟨h1,h2,w1⟩:=aA hl' (by omega);have hix:=iaP AV.str 1 l j4.length x (by simpa using h2);rw[aj];generalize (mu K).code _=F;clear hl';unfold BZ;by_cases hx:w=x
   ·have d:(w=x)=True:=by simp[hx]
    have d2:(x=w)=True:=by simp[hx]
    simp[uM,h1,hix,d,d2]
   ·have d2:(x=w)=False:=by simp;exact λq=>hx q.symm
    simp[uM,h1,hix,w1,hx,d2])
  (λb _=>by
   rw[aj];generalize (mu K).code _=F;simp[uM]) () trivial
 simp only[iO,afl]at key;rw[aC (KX _ _ _) aaO rfl (by simp[S4])];by_cases hm:w∈l.l
 ·rw[(iX w l.l).1 hm]at key;obtain⟨j3,k,g4⟩:=key;simp[S4,k,g4,hm]
 ·rw[(iX w l.l).2 hm]at key;obtain⟨_,j3,k⟩:=key;simp[S4,k,hm]
theorem f55(l:Sl Sc)(hl:l.l.length<=1000)(nm:Bs)(h:Heap):(mu K).fn 55 [l.avS Sc.av,.str nm] h=some (.val (.tup [xJ (scN l.l nm),.bool (scN l.l nm).isSome]) h):=by
 have key:=aB (K:=K) (n:=1) (live:=[0,1,4,6]) (a:=Bu) (fnF λs:Sc=>decide (s.name=nm))
  (λj4 b=>⟨[(0,l.avS Sc.av),(1,.str nm),(4,.ptr (h.length,0) 0),(6,.int .i64 (j4.length:Int))],[.box 84 false (.agg [.str [],.ay])]::h⟩) (λ_ _=>True)
  (λb o=>∃j3,o=some (.exit 0,⟨j3,[.box 84 false (.agg [.str [],.ay])]::h⟩)∧get j3 4=.ptr (h.length,0) 0) (λs o=>∃j3 R,o=some (.ret,⟨j3,(.box 84 false s.av::R)::h⟩)∧get j3 4=.ptr (h.length,0) 0∧get j3 5=.bool true) l.l
  (λj4 x r b hl' hb=>by
   obtain⟨h1,h2,w1⟩:=aA hl' (by omega);have hix:=iaP Sc.av 2 l j4.length x (by simpa using h2);rw[aj];generalize (mu K).code _=F;clear hl';unfold fnF;by_cases e:x.name=nm
   ·have d:(x.name=nm)=True:=by simp[e]
    simp[Bu,h1,hix,d]
   ·simp[Bu,h1,hix,w1,e])
  (λb _=>by
   rw[aj];generalize (mu K).code _=F;simp[Bu]) () trivial
 simp only[iO,afl]at key;rw[FL]at key;rw[aC (KX _ _ _) adQ rfl (by simp[c55])];unfold scN;cases e:l.l.find? (λs=>decide (s.name=nm)) with
 |none=>
  rw[e]at key;obtain⟨_,j3,k,g4⟩:=key;have z0:zSc.av=.agg [.str [],.ay]:=rfl;simp[c55,k,g4,xJ,z0]
 |some s=>
  rw[e]at key;obtain⟨j3,R,k,g4,g5⟩:=key;simp[c55,k,g4,g5,xJ]
theorem f54(p:Po)(hp:p.uses.l.length<=1000)(al:Bs)(h:Heap):(mu K).fn 54 [p.av,.str al] h=some (.val (.tup [.int .i64 (match xK p.uses.l al with|none=>0|some k=>(k:Int)),.bool (xK p.uses.l al).isSome]) h):=by
 have key:=aB (K:=K) (n:=1) (live:=[1,2,6]) (a:=Bt) (ixF λu:Us=>decide (u.al=al))
  (λj4 b=>⟨[(1,.str al),(2,.ptr (h.length,0) 0),(6,.int .i64 (j4.length:Int))],[.box 26 false p.av]::h⟩) (λj4 b=>b=j4.length)
  (λb o=>∃j3,o=some (.exit 0,⟨j3,[.box 26 false p.av]::h⟩)) (λk o=>∃j3,o=some (.ret,⟨j3,[.box 26 false p.av]::h⟩)∧get j3 4=.int .i64 (k:Int)∧get j3 5=.bool true) p.uses.l
  (λj4 x r b hl hb=>by
   obtain⟨h1,h2,w1⟩:=aA hl (by omega);have hix:=iaP Us.av 2 p.uses j4.length x (by simpa using h2);rw[aj];generalize (mu K).code _=F;clear hl;unfold ixF;by_cases e:x.al=al
   ·have d:(x.al=al)=True:=by simp[e]
    simp[Bt,h1,hix,d,hb]
   ·simp[Bt,h1,hix,w1,e,hb])
  (λb _=>by
   rw[aj];generalize (mu K).code _=F;simp[Bt]) 0 rfl
 simp only[iO,afl]at key;rw[sJ]at key;rw[aC (KX _ _ _) adP rfl (by simp[c54])];unfold xK;cases e:p.uses.l.findIdx? (λu=>decide (u.al=al)) with
 |none=>
  rw[e]at key;obtain⟨_,j3,k⟩:=key;simp[c54,k]
 |some k0=>
  rw[e]at key;obtain⟨j3,k,g,g5⟩:=key;simp only[afu]at g;simp[c54,k,g,g5]
theorem FO:∀l:List PV,(l.map PV.vt).all isNum=l.all PV.number
 | []=>rfl
 |x::l=>by
  have ih:=FO l;have e:isNum x.vt=x.number:=by
   unfold PV.vt;cases h:x.number
   ·by_cases q:x.words.l=[]<;>simp[q,isNum]
   ·simp[isNum]
  simp only[afj,af9,ih,e]
theorem f208(n:Nd)(hk:n.k=6)(v:PV)(l:List PV)(hl:l.length<=1000)(hv:v.ok)(hs:∀x∈l,x.ok)(h:Heap):(mu K).fn 208 [n.av,.lst ((v::l).map PV.av)] h=some (.val (.int .i64 (eA n ((v::l).map PV.vt))) h):=by
 have k1:=λh=>f209 (v::l) (by simp;omega) h
 have k2:=λh=>f210 v l (by omega) hv hs h
 have e:=FO (v::l);unfold eA;rw[if_pos hk,e];generalize (v::l).map PV.av=M at *
 generalize nJ ((v::l).map PV.vt)=r at *
 generalize (v::l).all PV.number=b at *
 clear e;rw[aC (KX _ _ _) aax rfl (by simp[c208])];by_cases c0:n.num=0
 ·have d0:(n.num=0)=True:=by simp[c0]
  simp[c208,KL,aa,d0,k2]
 by_cases c1:n.num=1
 ·have d1:(n.num=1)=True:=by simp[c1]
  have d0:(n.num=0)=False:=by simp[c0]
  simp[c208,KL,aa,d0,d1,k2]
 cases b
 ·simp[c208,KL,aa,c0,c1,k1]
 ·simp[c208,KL,aa,c0,c1,k1,k2]
theorem f211(n:Nd)(hk:n.k=7)(l:List PV)(hl:l.length<=1000)(h:Heap):(mu K).fn 211 [n.av,.lst (l.map PV.av)] h=some (.val (.int .i64 (eA n (l.map PV.vt))) h):=by
 have k1:=λh=>f209 l (by omega) h
 have e:=FO l;have hk6:¬ n.k=6:=by omega
 unfold eA;rw[if_neg hk6,if_pos hk,e];generalize l.map PV.av=M at *
 generalize l.all PV.number=b at *
 clear e;rw[aC (KX _ _ _) aaA rfl (by simp[S0])];cases b
 ·simp[S0,KL,aa,k1]
 ·simp[S0,KL,aa,k1]
theorem f212(n:Nd)(hk:n.k=8)(v:PV)(l:List PV)(hl:l.length<=1000)(hv:v.ok)(hs:∀x∈l,x.ok)(h:Heap):(mu K).fn 212 [n.av,.lst ((v::l).map PV.av)] h=some (.val (.int .i64 (eA n ((v::l).map PV.vt))) h):=by
 have k2:=λh=>f210 v l (by omega) hv hs h
 have hk6:¬ n.k=6:=by omega
 have hk7:¬ n.k=7:=by omega
 unfold eA;rw[if_neg hk6,if_neg hk7];generalize (v::l).map PV.av=M at *
 generalize nJ ((v::l).map PV.vt)=r at *
 rw[aC (KX _ _ _) aaB rfl (by simp[V7])];simp[V7,KL,aa,k2]
def kdF(g:Nd->Option PV)(b:List PV)(t:Tr):List PV ⊕ Nat:=match g t.n with
 |none=>.inr t.i
 |some v=>.inl (b++[v])
theorem Lt(g:Nd->Option PV):∀(ks:List Tr) (b:List PV),
  (∃vs,iter (kdF g) b ks=.inl (b++vs)∧eT (λn=>(g n).map PV.vt) ks=.inr (vs.map PV.vt)∧vs.length=ks.length∧∀v∈vs,∃t∈ks,g t.n=some v) ∨
  (∃i,iter (kdF g) b ks=.inr i∧eT (λn=>(g n).map PV.vt) ks=.inl i)
 | [],b=>.inl ⟨[],by simp[iter],rfl,rfl,by simp⟩
 |t::ks,b=>by
  simp only[iter,kdF,eT];cases e:g t.n with
  |none=>exact .inr ⟨t.i,rfl,rfl⟩
  |some v=>
   rcases Lt g ks (b++[v]) with⟨vs,h1,h2,h3,h4⟩|⟨i,h1,h2⟩
   ·refine .inl ⟨v::vs,by simp[h1],by simp[h2],by simp[h3],λx hx=>?_⟩;rcases afp.1 hx with rfl|hx
    ·exact⟨t,by simp,e⟩
    ·obtain⟨u,a,b⟩:=h4 x hx;exact⟨u,by simp[a],b⟩
   ·exact .inr ⟨i,by simp[h1],by simp[h2]⟩
abbrev abh:AV:=.agg [.iP,.iP,.iP,.iP,.iP,.iP,.fn (.func 208) [] [],.fn (.func 211) [] [],.fn (.func 212) [] [],.iP,.iP,.iP]
abbrev vtF(p:Po)(l:Sl Sc):Nd->Option VT:=λn=>(Aw p.uses.l l.l n).map PV.vt
theorem f162(p:Po)(hp:Sz p)(l:Sl Sc)(hl:okL l)(hs:∀s∈l.l,jV s=0):∀(t:Tr) {c:Bool},IsT p.nodes.l t->WF t c->∀(h:Heap),
  (mu K).fn 162 [fP p l,.int .i64 (t.i:Int)] h=some (.val (.tup [.int .i64 (cR (vtF p l) t).1,.int .i64 (cR (vtF p l) t).2]) h)
 |.nd i n ks,c,⟨hn,hkk,hts⟩,hw,h=>by
  obtain⟨k0,k12,_,hko,_⟩:=fH hw.1;have hmem:n∈p.nodes.l:=afB hn;have hkl:=(hp.nodes.2 n hmem).2;have hix:=iaP Nd.av 6 p.nodes i n (by simpa using hn);rw[aC (KX _ _ _) ZR rfl (by simp[Dw])];by_cases hk:n.k=6∨n.k=7∨n.k=8
  case neg=>
   have e0:cR (vtF p l) (.nd i n ks)=(0,0):=by simp only[cR];rw[if_neg hk]
   rw[e0];have:n.k=0∨n.k=1∨n.k=2∨n.k=3∨n.k=4∨n.k=5∨n.k=9∨n.k=10∨n.k=11:=by omega
   rcases this with q|q|q|q|q|q|q|q|q<;>simp[Dw,Tr.i,hix,q]
  have hlk:n.kids.l.length=ks.length:=by rw[hkk];simp
  have hk2:2<=ks.length:=by
   rw[hlk]at hko;unfold aI at hko;rcases hk with q|q|q
   ·rw[if_neg (by omega),if_neg (by omega),if_neg (by omega),if_pos q]at hko;simp at hko;omega
   ·rw[if_neg (by omega),if_neg (by omega),if_neg (by omega),if_neg (by omega),if_pos q]at hko;simp at hko;omega
   ·rw[if_neg (by omega),if_neg (by omega),if_neg (by omega),if_neg (by omega),if_neg (by omega),if_pos q]at hko;simpa using hko
  have key:=aB (K:=K) (n:=4) (live:=[1,2,6,7,8,27,28,29]) (a:=oY) (kdF (Aw p.uses.l l.l))
   (λj4 b=>⟨[(1,.int .i64 (i:Int)),(2,.ptr (h.length,0) 0),(6,.ptr (h.length,1) 0),(7,.ptr (h.length,2) 0),(8,.own (h.length,3) b.length),(27,n.kids.avS iV),(28,.int .i64 (n.kids.l.length:Int)),(29,.int .i64 (j4.length:Int))],
    [.box 170 false (fP p l),.box 292 false abh,.box 90 false n.av,.arr (if j4=[] then 0 else 294) (if j4=[] then 0 else 3) false (b.map PV.av)]::h⟩) (λj4 b=>b.length=j4.length)
   (λb o=>∃j3,o=some (.exit 0,⟨j3,[.box 170 false (fP p l),.box 292 false abh,.box 90 false n.av,.arr 294 3 false (b.map PV.av)]::h⟩)∧get j3 1=.int .i64 (i:Int)∧get j3 6=.ptr (h.length,1) 0∧get j3 7=.ptr (h.length,2) 0∧get j3 8=.own (h.length,3) b.length)
   (λj o=>∃j3 R,o=some (.ret,⟨j3,R::h⟩)∧get j3 4=.int .i64 (j:Int)∧get j3 5=.int .i64 9) ks
   (λj4 x r b hl' hb=>by
    obtain⟨h1,h2,w1⟩:=aA hl' (by omega);have hx:=(qZ.1 hts) x (by rw[hl'];simp);have hxn:p.nodes.l[x.i]?=some x.n:=by
     cases x with
     |nd a b c=>exact hx.1
    have g2:n.kids.l[j4.length]?=some (x.i:Int):=by rw[hkk,afy,h2];rfl
    have hiy:=iaP iV 1 n.kids j4.length (x.i:Int) (by simpa using g2);have k:=λh=>f213 p hp.uses.1 l hl hxn h
    have hlen:ks.length=j4.length+(r.length+1):=by rw[hl'];simp
    have r1:(j4.length+1)*48<=room:=by unfold room;omega
    have r2:j4.length+1<=room:=by unfold room;omega
    rw[hlk];rw[aj];generalize (mu K).code _=F;clear hl';unfold kdF;cases e:Aw p.uses.l l.l x.n with
    |none=>
     rw[e]at k;have z0:JH none=.agg [.bool true,.ay,.str []]:=rfl;rw[z0]at k;by_cases hpre:j4=[]
     ·have d:(j4=[])=True:=by simp[hpre]
      simp[oY,KL,aa,h1,hiy,k,d]
     ·simp[oY,KL,aa,h1,hiy,k,hpre]
    |some v=>
     rw[e]at k;have z0:JH (some v)=v.av:=rfl;rw[z0]at k;by_cases hpre:j4=[]
     ·have d:(j4=[])=True:=by simp[hpre]
      simp[oY,KL,aa,h1,hiy,w1,k,d,r1,r2,hb,List.replicate]
     ·simp[oY,KL,aa,h1,hiy,w1,k,hpre,r1,r2,hb,List.replicate])
   (λb hb=>by
    have hne:(ks=[])=False:=by simp;intro q;rw[q]at hk2;simp at hk2
    rw[hlk];rw[aj];generalize (mu K).code _=F;simp[oY,hne]) [] rfl
  simp only[iO,afl,afw,if_true]at key;have hvt:∀v (t:Tr),Aw p.uses.l l.l t.n=some v->v.ok:=λv t e=>abg hl hs t.n e
  simp only[cR];rw[if_pos hk];rcases Lt (Aw p.uses.l l.l) ks []with⟨vs,i1,i2,i3,i4⟩|⟨j,i1,i2⟩
  ·rw[i1]at key;simp only[afq]at key;obtain⟨_,j3,kk,g1,g6,g7,g8⟩:=key;have i2:eT (vtF p l) ks=.inr (vs.map PV.vt):=i2;rw[i2];simp only;have hok:∀v∈vs,v.ok:=λv hv=>by
    obtain⟨t,_,e⟩:=i4 v hv;exact hvt v t e
   obtain⟨v,vs',rfl⟩:∃v vs',vs=v::vs':=by
    cases vs with
    |nil=>simp at i3;omega
    |cons v vs'=>exact⟨v,vs',rfl⟩
   have hlv:vs'.length<=1000:=by simp at i3;omega
   have hv:=hok v (by simp);have hvs:∀x∈vs',x.ok:=λx hx=>hok x (by simp[hx])
   rcases hk with q|q|q
   ·have k3:=λh=>f208 n q v vs' hlv hv hvs h
    generalize eA n ((v::vs').map PV.vt)=e at *
    simp only[afj,Nd.av,Nd.cs,q]at k3;simp only[afj]at kk;by_cases e0:e=0
    ·subst e0;simp[Dw,KL,aa,Tr.i,hix,q,kk,g6,g7,g8,k3]
    ·simp[Dw,KL,aa,Tr.i,hix,q,kk,g1,g6,g7,g8,k3,e0]
   ·have k3:=λh=>f211 n q (v::vs') (by simp at i3⊢;omega) h
    generalize eA n ((v::vs').map PV.vt)=e at *
    simp only[afj,Nd.av,Nd.cs,q]at k3;simp only[afj]at kk;by_cases e0:e=0
    ·subst e0;simp[Dw,KL,aa,Tr.i,hix,q,kk,g6,g7,g8,k3]
    ·simp[Dw,KL,aa,Tr.i,hix,q,kk,g1,g6,g7,g8,k3,e0]
   ·have k3:=λh=>f212 n q v vs' hlv hv hvs h
    generalize eA n ((v::vs').map PV.vt)=e at *
    simp only[afj,Nd.av,Nd.cs,q]at k3;simp only[afj]at kk;by_cases e0:e=0
    ·subst e0;simp[Dw,KL,aa,Tr.i,hix,q,kk,g6,g7,g8,k3]
    ·simp[Dw,KL,aa,Tr.i,hix,q,kk,g1,g6,g7,g8,k3,e0]
  ·rw[i1]at key;obtain⟨j3,R,kk,g4,g5⟩:=key;have i2:eT (vtF p l) ks=.inl j:=i2;rw[i2];simp only;rcases hk with q|q|q<;>simp[Dw,Tr.i,hix,q,kk,g4,g5]
theorem f17(p:Po)(hp:p.uses.l.length<=1000)(l:Sl Sc)(hl:okL l)(r:Rf)(h:Heap):(mu K).fn 17 [p.av,l.avS Sc.av,r.av] h=some (.val (.tup [gM (findF p.uses.l l.l r),dU (findF p.uses.l l.l r),.bool (findF p.uses.l l.l r).isSome]) h):=by
 have k1:=λh=>f54 p hp r.al h
 rw[Lq];rw[aC (KX _ _ _) adB rfl (by simp[c17])];cases eu:xK p.uses.l r.al with
 |none=>
  rw[eu]at k1;simp[c17,KL,aa,k1,gM,dU]
 |some u=>
  rw[eu]at k1;have hu:u<p.uses.l.length:=by
   unfold xK at eu;exact (agx.1 eu).1
  have hg:p.uses.l[u]?=some p.uses.l[u]:=afD hu;simp only[hg];generalize p.uses.l[u]=x at *
  have hix:=iaP Us.av 2 p.uses u x (by simpa using hg);have k2:=λh=>f55 l hl.len x.sc h
  unfold Nu;cases es:scN l.l x.sc with
  |none=>
   rw[es]at k2;have z0:xJ none=.agg [.str [],.ay]:=rfl;rw[z0]at k2;simp[c17,KL,aa,k1,hix,k2,gM,dU]
  |some s=>
   rw[es]at k2;have z0:xJ (some s)=s.av:=rfl;rw[z0]at k2;have hs:=hl.sc s (Cf es).1;have k3:=λh=>f56 s hs.len r.attr h
   cases ef:fdI s r.attr with
   |none=>
    rw[ef]at k3;simp[c17,KL,aa,k1,hix,k2,k3,ef,gM,dU]
   |some i=>
    rw[ef]at k3;have hi:i<s.fields.l.length:=by
     unfold fdI at ef;exact (agx.1 ef).1
    have hg2:s.fields.l[i]?=some s.fields.l[i]:=afD hi;generalize s.fields.l[i]=f at *
    have hiy:=iaP Fd.av 5 s.fields i f (by simpa using hg2);have w2:IntKind.i64.wrap ((i:Int)+2)=(i:Int)+2:=wrap64 (by omega) (by have:=hs.len;omega);have q1:=ak _ Cc s.fields;have q2:=ak _ bD f.words;simp[c17,KL,aa,k1,hix,k2,k3,hiy,w2,q1,q2,ef,hg2,gM,dU]
def rfd(us:List Us)(l:List Sc)(n:Nd):Option (Nat×Nat×Pol.Fd):=if n.k=9 then findF us l ⟨n.nm,n.attr⟩ else none
theorem f188(p:Po)(hp:p.uses.l.length<=1000)(l:Sl Sc)(hl:okL l){i:Nat}{n:Nd}(hn:p.nodes.l[i]?=some n)(h:Heap) :
  (mu K).fn 188 [p.av,l.avS Sc.av,.int .i64 (i:Int)] h=some (.val (.tup [dU (rfd p.uses.l l.l n),.bool (rfd p.uses.l l.l n).isSome]) h):=by
 have k:=λh=>f17 p hp l hl ⟨n.nm,n.attr⟩ h
 have hix:=iaP Nd.av 6 p.nodes i n (by simpa using hn);rw[aC (KX _ _ _) aad rfl (by simp[OT])];unfold rfd;by_cases c1:n.k=9
 case neg=>simp[OT,hix,c1,dU]
 have d:(n.k=9)=True:=by simp[c1]
 rw[if_pos c1];cases e:findF p.uses.l l.l ⟨n.nm,n.attr⟩ with
 |none=>
  rw[e]at k;simp only[gM,dU]at k;simp[OT,KL,aa,hix,d,k,dU]
 |some q=>
  obtain⟨u,k',f⟩:=q;rw[e]at k;simp only[gM,dU]at k;simp[OT,KL,aa,hix,d,k,dU]
def zS(us:List Us)(l:List Sc)(n:Nd):Bool:=decide (n.k=10) ||match rfd us l n with
 |none=>false
 |some q=>decide (q.2.2.kind=0)
theorem f189(p:Po)(hp:p.uses.l.length<=1000)(l:Sl Sc)(hl:okL l){i:Nat}{n:Nd}(hn:p.nodes.l[i]?=some n)(h:Heap) :
  (mu K).fn 189 [p.av,l.avS Sc.av,.int .i64 (i:Int)] h=some (.val (.bool (zS p.uses.l l.l n)) h):=by
 have k:=λh=>f188 p hp l hl hn h
 have hix:=iaP Nd.av 6 p.nodes i n (by simpa using hn);rw[aC (KX _ _ _) aae rfl (by simp[JA])];unfold zS;cases e:rfd p.uses.l l.l n with
 |none=>
  rw[e]at k;simp only[dU]at k;by_cases c1:n.k=10
  ·have d:(n.k=10)=True:=by simp[c1]
   simp[JA,KL,aa,hix,d,k]
  ·simp[JA,KL,aa,hix,c1,k]
 |some q=>
  obtain⟨u,k',f⟩:=q;rw[e]at k;simp only[dU]at k;by_cases c1:n.k=10
  ·have d:(n.k=10)=True:=by simp[c1]
   simp[JA,KL,aa,hix,d,k]
  ·by_cases c2:f.kind=0
   ·have d:(f.kind=0)=True:=by simp[c2]
    simp[JA,KL,aa,hix,c1,k,d]
   ·simp[JA,KL,aa,hix,c1,k,c2]
theorem JJ{us:List Us}{l:List Sc}{n:Nd}{v:VT}(hk:n.k=9∨n.k=10∨n.k=11)(hv:bS us l n=some v) :
  (zS us l n=true∧rfd us l n=none∧v=.num)∨(zS us l n=false∧rfd us l n=none∧v=.wd n.nm)∨(∃q,zS us l n=true∧rfd us l n=some q∧v=.num)∨(∃q,zS us l n=false∧rfd us l n=some q∧v=.fw q.2.2.words.l):=by
 unfold bS at hv;unfold zS rfd;rcases hk with hk|hk|hk
 ·rw[if_neg (by omega),if_neg (by omega)]at hv;rw[if_pos hk];cases e:findF us l ⟨n.nm,n.attr⟩ with
  |none=>rw[e]at hv;cases hv
  |some q=>
   obtain⟨u,k',f⟩:=q;rw[e]at hv;simp only[fS]at hv;by_cases c:f.kind=0
   ·exact .inr (.inr (.inl ⟨_,by simp[hk,c],rfl,by rw[<-hv,if_pos c]⟩))
   ·exact .inr (.inr (.inr ⟨_,by simp[hk,c],rfl,by rw[<-hv,if_neg c]⟩))
 ·rw[if_pos hk]at hv;injection hv with hv
  exact .inl ⟨by simp[hk],by rw[if_neg (by omega)],hv.symm⟩
 ·rw[if_neg (by omega),if_pos hk]at hv;injection hv with hv
  exact .inr (.inl ⟨by rw[if_neg (by omega)];simp[hk],by rw[if_neg (by omega)],hv.symm⟩)
theorem f190(p:Po)(hp:p.uses.l.length<=1000)(l:Sl Sc)(hl:okL l){i j:Nat}{a b:Nd}(ha:p.nodes.l[i]?=some a)(hb:p.nodes.l[j]?=some b)(ka:a.k=9∨a.k=10∨a.k=11)(kb:b.k=9∨b.k=10∨b.k=11)
  {va vb:VT} (hva:bS p.uses.l l.l a=some va) (hvb:bS p.uses.l l.l b=some vb) (h:Heap) :
  (mu K).fn 190 [p.av,l.avS Sc.av,.int .i64 (i:Int),.int .i64 (j:Int)] h=some (.val (.int .i64 (aV va vb)) h):=by
 have n1:=λh=>f189 p hp l hl ha h
 have n2:=λh=>f189 p hp l hl hb h
 have r1:=λh=>f188 p hp l hl ha h
 have r2:=λh=>f188 p hp l hl hb h
 have hix:=iaP Nd.av 6 p.nodes i a (by simpa using ha);have hiy:=iaP Nd.av 6 p.nodes j b (by simpa using hb);have ta:=JJ ka hva;have tb:=JJ kb hvb;have q1:=ak _ dI p.uses;have q2:=ak _ dz p.az;have q3:=ak _ bX p.nodes;have q4:=ak _ eo l;have fl:∀{n:Nd} {q},rfd p.uses.l l.l n=some q->q.2.2.words.l.length<=1000:=λ{n q} e=>by
  unfold rfd at e;split at e
  ·obtain⟨s,h1,h2⟩:=rq e;exact ((hl.sc s h1).fields _ h2).len
  ·cases e
 rw[aC (KX _ _ _) aaf rfl (by simp[uG])];rcases ta with⟨a1,a2,rfl⟩|⟨a1,a2,rfl⟩|⟨⟨ua,wa,fa⟩,a1,a2,rfl⟩|⟨⟨ua,wa,fa⟩,a1,a2,rfl⟩
 ·rcases tb with⟨b1,b2,rfl⟩|⟨b1,b2,rfl⟩|⟨⟨ub,wb,fb⟩,b1,b2,rfl⟩|⟨⟨ub,wb,fb⟩,b1,b2,rfl⟩<;>simp[uG,KL,aa,n1,n2,a1,b1,aV]
 ·rcases tb with⟨b1,b2,rfl⟩|⟨b1,b2,rfl⟩|⟨⟨ub,wb,fb⟩,b1,b2,rfl⟩|⟨⟨ub,wb,fb⟩,b1,b2,rfl⟩
  ·simp[uG,KL,aa,n1,n2,a1,b1,aV]
  ·rw[a2]at r1;rw[b2]at r2;simp only[dU]at r1 r2;simp[uG,KL,aa,n1,n2,a1,b1,r1,r2,aV]
  ·simp[uG,KL,aa,n1,n2,a1,b1,aV]
  ·rw[a2]at r1;rw[b2]at r2;simp only[dU]at r1 r2;have k:=λh=>f238 fb.words (fl b2) a.nm h
   by_cases m:a.nm∈fb.words.l
   ·simp only[decide_eq_true m]at k;simp[uG,KL,aa,n1,n2,a1,b1,r1,r2,aV,hix,k,m]
   ·simp only[decide_eq_false m]at k;simp[uG,KL,aa,n1,n2,a1,b1,r1,r2,aV,hix,k,m]
 ·rcases tb with⟨b1,b2,rfl⟩|⟨b1,b2,rfl⟩|⟨⟨ub,wb,fb⟩,b1,b2,rfl⟩|⟨⟨ub,wb,fb⟩,b1,b2,rfl⟩<;>simp[uG,KL,aa,n1,n2,a1,b1,aV]
 ·rcases tb with⟨b1,b2,rfl⟩|⟨b1,b2,rfl⟩|⟨⟨ub,wb,fb⟩,b1,b2,rfl⟩|⟨⟨ub,wb,fb⟩,b1,b2,rfl⟩
  ·simp[uG,KL,aa,n1,n2,a1,b1,aV]
  ·rw[a2]at r1;rw[b2]at r2;simp only[dU]at r1 r2;have k:=λh=>f238 fa.words (fl a2) b.nm h
   by_cases m:b.nm∈fa.words.l
   ·simp only[decide_eq_true m]at k;simp[uG,KL,aa,n1,n2,a1,b1,r1,r2,aV,hiy,k,m]
   ·simp only[decide_eq_false m]at k;simp[uG,KL,aa,n1,n2,a1,b1,r1,r2,aV,hiy,k,m]
  ·simp[uG,KL,aa,n1,n2,a1,b1,aV]
  ·rw[a2]at r1;rw[b2]at r2;simp only[dU]at r1 r2;have k:=λh=>f237 fa.words fb.words (fl a2) h
   by_cases m:fa.words.l=fb.words.l
   ·simp only[decide_eq_true m]at k;simp[uG,KL,aa,n1,n2,a1,b1,r1,r2,aV,k,m]
   ·simp only[decide_eq_false m]at k;simp[uG,KL,aa,n1,n2,a1,b1,r1,r2,aV,k,m]
def vsF(f:Nd->Option VT)(_:Unit)(t:Tr):Unit ⊕ (Int×Int):=if (gN f t).2=0 then .inl () else .inr (gN f t)
theorem Lu(f:Nd->Option VT):∀ts:List Tr,iter (vsF f) () ts=if (jQ f ts).2=0 then .inl () else .inr (jQ f ts)
 | []=>rfl
 |t::ts=>by
  have ih:=Lu f ts;simp only[iter,vsF,jQ];by_cases e:(gN f t).2=0
  ·simp[e,ih]
  ·simp[e]
theorem Tk(f:Nd->Option VT)(ts:List Tr)(h:(jQ f ts).2=0):jQ f ts=(0,0):=by
 rw[pH]at h⊢;exact (mL h).1
mutual
theorem f101(p:Po)(hp:Sz p)(l:Sl Sc)(hl:okL l)(hs:∀s∈l.l,jV s=0):∀(t:Tr) {c:Bool},IsT p.nodes.l t->WF t c->∀(h:Heap),
  (mu K).fn 101 [fP p l,.int .i64 (t.i:Int)] h=some (.val (.tup [.int .i64 (gN (vtF p l) t).1,.int .i64 (gN (vtF p l) t).2]) h)
 |.nd i n ks,c,ht,hw,h=>by
  have k0:=λh=>f162 p hp l hl hs (.nd i n ks) ht hw h
  obtain⟨hn,hkk,hts⟩:=ht;have ih:=U8 p hp l hl hs ks hts hw.2;have hmem:n∈p.nodes.l:=afB hn;have hkl:=(hp.nodes.2 n hmem).2;have hix:=iaP Nd.av 6 p.nodes i n (by simpa using hn);have hlk:n.kids.l.length=ks.length:=by rw[hkk];simp
  rw[aC (KX _ _ _) Y9 rfl (by simp[OM])];simp only[Tr.i,gN]at k0⊢;generalize cR (vtF p l) (.nd i n ks)=q at *
  obtain⟨a,e⟩:=q;simp only at k0⊢;by_cases e0:e=0
  case neg=>
   rw[if_neg e0];simp[OM,KL,aa,k0,e0]
  rw[if_pos e0];subst e0;have key:=aB (K:=K) (n:=1) (live:=[2,28,29,30]) (a:=tW) (vsF (vtF p l))
   (λj4 _=>⟨[(2,.ptr (h.length,0) 0),(28,n.kids.avS iV),(29,.int .i64 (n.kids.l.length:Int)),(30,.int .i64 (j4.length:Int))],[.box 170 false (fP p l)]::h⟩) (λ_ _=>True)
   (λ_ o=>∃j3,o=some (.exit 0,⟨j3,[.box 170 false (fP p l)]::h⟩))
   (λq o=>∃j3 R,o=some (.ret,⟨j3,R::h⟩)∧get j3 4=.int .i64 q.1∧get j3 5=.int .i64 q.2) ks
   (λj4 x r b hl' _=>by
    obtain⟨h1,h2,w1⟩:=aA hl' (by omega);have g2:n.kids.l[j4.length]?=some (x.i:Int):=by rw[hkk,afy,h2];rfl
    have hiy:=iaP iV 1 n.kids j4.length (x.i:Int) (by simpa using g2);have k:=λh=>ih x (by rw[hl'];simp) h
    rw[hlk];rw[aj];generalize (mu K).code _=F;clear hl';unfold vsF;generalize gN (vtF p l) x=q at *
    obtain⟨a,e⟩:=q;simp only at k⊢;by_cases e0:e=0
    ·subst e0;simp[tW,KL,aa,h1,hiy,w1,k]
    ·simp[tW,KL,aa,h1,hiy,k,e0])
   (λb _=>by
    rw[hlk];rw[aj];generalize (mu K).code _=F;simp[tW]) () trivial
  simp only[iO,afl]at key;rw[Lu]at key;by_cases e1:(jQ (vtF p l) ks).2=0
  ·rw[if_pos e1]at key;rw[Tk _ _ e1];obtain⟨_,j3,k⟩:=key;simp[OM,KL,aa,k0,hix,k]
  ·rw[if_neg e1]at key;obtain⟨j3,R,k,g4,g5⟩:=key;simp[OM,KL,aa,k0,hix,k,g4,g5]
theorem U8(p:Po)(hp:Sz p)(l:Sl Sc)(hl:okL l)(hs:∀s∈l.l,jV s=0):∀(ts:List Tr) {c:Bool},nR p.nodes.l ts->WFs ts c->∀t∈ts,∀(h:Heap),
  (mu K).fn 101 [fP p l,.int .i64 (t.i:Int)] h=some (.val (.tup [.int .i64 (gN (vtF p l) t).1,.int .i64 (gN (vtF p l) t).2]) h)
 | [],c,_,_,t,ht,h=>by simp at ht
 |x::ts,c,h1,h2,t,ht,h=>by
  rcases afp.1 ht with e|ht
  ·rw[e];exact f101 p hp l hl hs x h1.1 h2.1 h
  ·exact U8 p hp l hl hs ts h1.2 h2.2 t ht h
end
theorem f47(p:Po)(hp:Sz p)(l:Sl Sc)(hl:okL l)(t:Tr)(ht:chk p=0->Pol.Good p t)(h:Heap) :
  (mu K).fn 47 [p.av,l.avS Sc.av] h=some (.val (.tup [.int .i64 (iy p l.l t).1,.int .i64 (iy p l.l t).2]) h):=by
 have k92:=λh=>f85 p hp l hl h
 have key:=aB (K:=K) (n:=2) (live:=[6,24,25,26]) (a:=Bj) (λ(_:Unit) (r:Rf)=>if (findF p.uses.l l.l r).isSome=true then (.inl ():Unit ⊕ Unit) else .inr ())
  (λj4 _=>⟨[(6,.ptr (h.length,1) 0),(24,p.az.avS Rf.av),(25,.int .i64 (p.az.l.length:Int)),(26,.int .i64 (j4.length:Int))],[.box 26 false p.av,.box 170 false (fP p l)]::h⟩) (λ_ _=>True)
  (λ_ o=>∃j3,o=some (.exit 0,⟨j3,[.box 26 false p.av,.box 170 false (fP p l)]::h⟩)∧get j3 6=.ptr (h.length,1) 0)
  (λq o=>∃j3 R,o=some (.ret,⟨j3,R::h⟩)∧get j3 4=.int .i64 0∧get j3 5=.int .i64 9) p.az.l
  (λj4 x r b hl' _=>by
   obtain⟨h1,h2,w1⟩:=aA hl' (by have:=hp.az.1;omega);have hix:=iaP Rf.av 2 p.az j4.length x (by simpa using h2);have k:=λh=>f86 p hp.uses.1 l hl x h
   rw[aj];generalize (mu K).code _=F;clear hl';cases e:findF p.uses.l l.l x with
   |none=>
    rw[e]at k;simp only[gM,dU]at k;simp[Bj,KL,aa,h1,hix,k]
   |some q=>
    obtain⟨u,k',f⟩:=q;rw[e]at k;simp only[gM,dU]at k;simp[Bj,KL,aa,h1,hix,w1,k])
  (λb _=>by
   rw[aj];generalize (mu K).code _=F;simp[Bj]) () trivial
 simp only[iO,afl]at key;rw[aC (KX _ _ _) adK rfl (by simp[c47])];unfold iy;by_cases hr:bz p l.l=0
 case neg=>
  rw[if_pos hr];simp[c47,KL,aa,k92,hr]
 rw[if_neg (by simp[hr])];have rp:=gU hr;have g:=ht rp.chk;cases c3:p.az.l.all (λr=>(findF p.uses.l l.l r).isSome)
 ·rw[(aT (λr:Rf=>(findF p.uses.l l.l r).isSome) p.az.l).2 c3]at key;obtain⟨j3,R,k,g4,g5⟩:=key;simp[c47,KL,aa,k92,hr,k,g4,g5]
 ·rw[(aT (λr:Rf=>(findF p.uses.l l.l r).isSome) p.az.l).1 c3]at key;obtain⟨_,j3,k,g6⟩:=key;have k94:=λh=>f101 p hp l hl rp.sch t g.isT g.wf h
  rw[g.root]at k94;have ev:bS p.uses.l l.l=vtF p l:=funext λn=>abf rp.sch n
  rw[ev];simp[c47,KL,aa,k92,hr,k,g6,k94]
end Go.Ab.Pn
namespace Go.Ab.Pn
open Go.Ab.Pol
def cdF(f:Nd->Option VT)(b:Bool)(t:Tr):Bool ⊕ Nat:=match f t.n with
 |none=>.inr t.i
 |some v=>.inl (b&&isNum v)
theorem Lv(f:Nd->Option VT):∀(ks:List Tr) (b:Bool),iter (cdF f) b ks=match eT f ks with
  |.inl i=>.inr i
  |.inr vs=>.inl (b&&vs.all isNum)
 | [],b=>by simp[iter,eT]
 |t::ks,b=>by
  simp only[iter,cdF,eT];cases e:f t.n with
  |none=>rfl
  |some v=>
   simp only[Lv f ks (b&&isNum v)];cases eT f ks with
   |inl i=>rfl
   |inr vs=>simp[Bool.and_assoc]
def Tm(f:Nd->Option VT)(v0:VT)(_:Unit)(t:Tr):Unit ⊕ Int:=match f t.n with
 |none=>.inl ()
 |some v=>if aV v0 v=0 then .inl () else .inr (aV v0 v)
theorem Hf(f:Nd->Option VT)(v0:VT):∀(ks:List Tr) {vs:List VT},eT f ks=.inr vs->iter (Tm f v0) () ks=if fW v0 vs=0 then .inl () else .inr (fW v0 vs)
 | [],vs,h=>by
  simp only[eT,Sum.inr.injEq]at h;subst h;rfl
 |t::ks,vs,h=>by
  simp only[eT]at h;simp only[iter,Tm];cases e:f t.n with
  |none=>rw[e]at h;cases h
  |some v=>
   rw[e]at h;simp only at h⊢;cases e2:eT f ks with
   |inl i=>rw[e2]at h;cases h
   |inr ws=>
    rw[e2]at h;simp only[Sum.inr.injEq]at h;subst h;have ih:=Hf f v0 ks e2;simp only[fW];by_cases z:aV v0 v=0
    ·simp[z,ih]
    ·simp[z]
theorem Tn{us:List Us}{l:List Sc}{n:Nd}{v:VT}(hk:n.k=9∨n.k=10∨n.k=11)(hv:bS us l n=some v):zS us l n=isNum v:=by
 rcases JJ hk hv with⟨a,_,rfl⟩|⟨a,_,rfl⟩|⟨q,a,_,rfl⟩|⟨q,a,_,rfl⟩<;>simp[a,isNum]
theorem Px{us:List Us}{l:List Sc}{n:Nd}(hk:n.k=9∨n.k=10∨n.k=11):bS us l n=none↔(n.k=9∧rfd us l n=none):=by
 unfold bS rfd;rcases hk with hk|hk|hk
 ·rw[if_neg (by omega),if_neg (by omega),if_pos hk];cases findF us l ⟨n.nm,n.attr⟩ with
  |none=>simp[hk]
  |some q=>obtain⟨u,k,f⟩:=q;simp
 ·rw[if_pos hk];simp;omega
 ·rw[if_neg (by omega),if_pos hk];simp;omega
theorem Cg{n:Nd}{vs:List VT}(hk:n.k=6)(h:n.num=0∨n.num=1∨vs.all isNum=true):eA n vs=nJ vs:=by
 unfold eA;rw[if_pos hk,if_neg];rintro⟨a,b,c⟩;rcases h with h|h|h
 ·exact a h
 ·exact b h
 ·rw[h]at c;cases c
theorem Py{n:Nd}{vs:List VT}(hk:n.k=6)(h0:¬ n.num=0)(h1:¬ n.num=1)(ha:vs.all isNum=false):eA n vs=10:=by
 unfold eA;rw[if_pos hk,if_pos ⟨h0,h1,ha⟩]
theorem Tp{n:Nd}{vs:List VT}(hk:n.k=7):eA n vs=if vs.all isNum=false then 10 else 0:=by
 unfold eA;rw[if_neg (by omega),if_pos hk]
theorem Tq{n:Nd}{vs:List VT}(hk:n.k=8):eA n vs=nJ vs:=by
 unfold eA;rw[if_neg (by omega),if_neg (by omega)]
theorem f144(p:Po)(hp:Sz p)(l:Sl Sc)(hl:okL l):∀(t:Tr) {c:Bool},IsT p.nodes.l t->WF t c->(t.n.k=6∨t.n.k=7∨t.n.k=8)->∀(h:Heap),
  (mu K).fn 144 [p.av,l.avS Sc.av,.int .i64 (t.i:Int)] h=some (.val (.tup [.int .i64 (cR (bS p.uses.l l.l) t).1,.int .i64 (cR (bS p.uses.l l.l) t).2]) h)
 |.nd i n ks,c,⟨hn,hkk,hts⟩,hw,hkT,h=>by
  obtain⟨k0,k12,_,hko,_⟩:=fH hw.1;have hmem:n∈p.nodes.l:=afB hn;have hkl:=(hp.nodes.2 n hmem).2;have hk:n.k=6∨n.k=7∨n.k=8:=hkT;clear hkT;have hix:=iaP Nd.av 6 p.nodes i n (by simpa using hn);have hlk:n.kids.l.length=ks.length:=by rw[hkk];simp
  have hvl:∀x∈ks,x.n.k=9∨x.n.k=10∨x.n.k=11:=λx hx=>by
   have w:=(Lp.1 hw.2) x hx;rw[decide_eq_false (by omega)]at w;exact Pz w
  have hxn:∀x∈ks,p.nodes.l[x.i]?=some x.n:=λx hx=>by
   have q:=(qZ.1 hts) x hx;cases x with
   |nd a b c=>exact q.1
  have hk2:2<=ks.length:=by
   rw[hlk]at hko;unfold aI at hko;rcases hk with q|q|q
   ·rw[if_neg (by omega),if_neg (by omega),if_neg (by omega),if_pos q]at hko;simp at hko;omega
   ·rw[if_neg (by omega),if_neg (by omega),if_neg (by omega),if_neg (by omega),if_pos q]at hko;simp at hko;omega
   ·rw[if_neg (by omega),if_neg (by omega),if_neg (by omega),if_neg (by omega),if_neg (by omega),if_pos q]at hko;simpa using hko
  have key:=aB (K:=K) (n:=2) (live:=[1,2,3,8,9,10]) (a:=ni) (cdF (bS p.uses.l l.l))
   (λj4 b=>⟨[(1,l.avS Sc.av),(2,.int .i64 (i:Int)),(3,.ptr (h.length,0) 0),(8,.ptr (h.length,1) 0),(9,.bool b),(10,.int .i64 (j4.length:Int))],[.box 26 false p.av,.box 90 false n.av]::h⟩) (λ_ _=>True)
   (λb o=>∃j3,o=some (.exit 0,⟨j3,[.box 26 false p.av,.box 90 false n.av]::h⟩)∧get j3 1=l.avS Sc.av∧get j3 2=.int .i64 (i:Int)∧get j3 3=.ptr (h.length,0) 0∧get j3 8=.ptr (h.length,1) 0∧get j3 9=.bool b)
   (λj o=>∃j3 R,o=some (.ret,⟨j3,R::h⟩)∧get j3 6=.int .i64 (j:Int)∧get j3 7=.int .i64 9) ks
   (λj4 x r b hl' _=>by
    obtain⟨h1,h2,w1⟩:=aA hl' (by omega);have hxm:x∈ks:=by rw[hl'];simp
    have g2:n.kids.l[j4.length]?=some (x.i:Int):=by rw[hkk,afy,h2];rfl
    have hiy:=iaP iV 1 n.kids j4.length (x.i:Int) (by simpa using g2);have hiz:=λ(k:IntKind)=>cK (av:=Nd.av) (sz:=6) (s:=p.nodes) (k:=k) (j:=(x.i:Int)) (x:=x.n) (by omega) (by simpa using hxn x hxm) rfl
    have k1:=λh=>f188 p hp.uses.1 l hl (hxn x hxm) h
    have k2:=λh=>f189 p hp.uses.1 l hl (hxn x hxm) h
    have e1:=Px (us:=p.uses.l) (l:=l.l) (hvl x hxm);have e2:=λv=>Tn (us:=p.uses.l) (l:=l.l) (v:=v) (hvl x hxm)
    have h1':((j4.length:Int)<(n.kids.l.length:Int)):=by rw[hlk];exact h1
    rw[aj];generalize (mu K).code _=F;clear hl';unfold cdF;cases e:bS p.uses.l l.l x.n with
    |none=>
     obtain⟨e3,e4⟩:=e1.1 e;rw[e4]at k1;simp only[dU]at k1;have d3:(x.n.k=9)=True:=by simp[e3]
     simp[ni,KL,aa,h1',hiy,hiz,k1,d3]
    |some v=>
     rw[e2 v e]at k2;by_cases c9:x.n.k=9
     ·cases e5:rfd p.uses.l l.l x.n with
      |none=>exact absurd (e1.2 ⟨c9,e5⟩) (by rw[e];simp)
      |some q=>
       obtain⟨u,k',f⟩:=q;rw[e5]at k1;simp only[dU]at k1;cases b
       ·simp[ni,KL,aa,h1',hiy,w1,k1]
       ·simp[ni,KL,aa,h1',hiy,w1,k1,k2]
     ·have e5:rfd p.uses.l l.l x.n=none:=by unfold rfd;rw[if_neg c9]
      rw[e5]at k1;simp only[dU]at k1;cases b
      ·simp[ni,KL,aa,h1',hiy,hiz,w1,k1,c9]
      ·simp[ni,KL,aa,h1',hiy,hiz,w1,k1,k2,c9])
   (λb _=>by
    rw[aj];generalize (mu K).code _=F;simp[ni,hlk]) true trivial
  simp only[iO,afl]at key;rw[Lv]at key;rw[aC (KX _ _ _) Zy rfl (by simp[vS])];simp only[cR,Tr.i];rw[if_pos hk];cases ev:eT (bS p.uses.l l.l) ks with
  |inl j=>
   rw[ev]at key;obtain⟨j3,R,k,g6,g7⟩:=key;simp[vS,hix,k,g6,g7]
  |inr vs=>
   rw[ev]at key;simp only[afS]at key;obtain⟨_,j3,k,g1,g2,g3,g8,g9⟩:=key;simp only;obtain⟨t0,ks',rfl⟩:∃t0 ks',ks=t0::ks':=by
    cases ks with
    |nil=>simp at hk2
    |cons a b=>exact⟨a,b,rfl⟩
   have hvs:=nT ev;obtain⟨v0,vs',rfl⟩:∃v0 vs',vs=v0::vs':=by
    cases vs with
    |nil=>simp at hvs
    |cons a b=>exact⟨a,b,rfl⟩
   simp only[afj,afH]at hvs;have ev':eT (bS p.uses.l l.l) ks'=.inr vs':=by
    simp only[eT,hvs.1]at ev;cases e2:eT (bS p.uses.l l.l) ks' with
    |inl i=>rw[e2]at ev;cases ev
    |inr ws=>
     rw[e2]at ev;simp only[Sum.inr.injEq,afH]at ev;rw[ev.2]
   have h0m:t0∈t0::ks':=by simp
   have gk0:n.kids.l[0]?=some (t0.i:Int):=by rw[hkk];rfl
   have hi0:=λ(k:IntKind)=>cK (av:=iV) (sz:=1) (s:=n.kids) (k:=k) (j:=0) (x:=(t0.i:Int)) (by omega) (by simpa using gk0) rfl
   have q1:=ak _ dI p.uses;have q2:=ak _ dz p.az;have q3:=ak _ bX p.nodes;have q4:=ak _ eo l;have q5:=ak _ aP n.kids;have abj:n.kids.l.length=ks'.length+1:=by rw[hlk];simp
   have dH:=aB (K:=K) (n:=2) (live:=[1,2,3,8,14]) (a:=uh) (Tm (bS p.uses.l l.l) v0)
    (λj4 b=>⟨[(1,l.avS Sc.av),(2,.int .i64 (i:Int)),(3,.ptr (h.length,0) 0),(8,.ptr (h.length,1) 0),(14,.int .i64 ((j4.length:Int)+1))],[.box 26 false p.av,.box 90 false n.av]::h⟩) (λ_ _=>True)
    (λb o=>∃j3,o=some (.exit 2,⟨j3,[.box 26 false p.av,.box 90 false n.av]::h⟩))
    (λe o=>∃j3 R,o=some (.ret,⟨j3,R::h⟩)∧get j3 6=.int .i64 (i:Int)∧get j3 7=.int .i64 e) ks'
    (λj4 x r b hl' _=>by
     obtain⟨h1,h2,w1⟩:=aA hl' (by omega);have hxm:x∈t0::ks':=by rw[hl'];simp
     have g2:n.kids.l[j4.length+1]?=some (x.i:Int):=by rw[hkk];simp[h2]
     have hiy:=λ(k:IntKind)=>cK (av:=iV) (sz:=1) (s:=n.kids) (k:=k) (j:=(j4.length:Int)+1) (x:=(x.i:Int)) (by omega) (by
      have e:((j4.length:Int)+1).toNat=j4.length+1:=by omega
      rw[e];exact g2) rfl
     have hlen:ks'.length=j4.length+(r.length+1):=by rw[hl'];simp
     have h1':(((j4.length:Int)+1)<(n.kids.l.length:Int))=True:=by rw[abj];simp;omega
     have w2:IntKind.i64.wrap ((j4.length:Int)+1+1)=(j4.length:Int)+1+1:=wrap64 (by omega) (by omega);rw[aj];generalize (mu K).code _=F;unfold Tm;cases e:bS p.uses.l l.l x.n with
     |none=>
      exfalso;have hh:∀(ks:List Tr) (vs:List VT),eT (bS p.uses.l l.l) ks=.inr vs->∀y∈ks,bS p.uses.l l.l y.n≠none:=λks vs hv y hy q=>by
       have:=nT hv;have m:bS p.uses.l l.l y.n∈vs.map some:=by rw[<-this];exact afG.2 ⟨y,hy,rfl⟩
       rw[q]at m;simp at m
      exact hh ks' vs' ev' x (by rw[hl'];simp) e
     |some v=>
      have k3:=λh=>f190 p hp.uses.1 l hl (hxn t0 h0m) (hxn x hxm) (hvl t0 h0m) (hvl x hxm) hvs.1 e h
      clear hl';simp only;generalize aV v0 v=ee at *
      by_cases z:ee=0
      ·subst z;simp[uh,KL,aa,h1',hi0,hiy,w2,k3]
      ·simp[uh,KL,aa,h1',hi0,hiy,k3,z])
    (λb _=>by
     rw[aj];generalize (mu K).code _=F;simp[uh,abj]) () trivial
   simp only[iO,afl,agE]at dH;rw[Hf _ _ _ ev']at dH;have hF:nJ (v0::vs')=fW v0 vs':=rfl;rcases hk with q|q|q
   ·by_cases c0:n.num=0
    ·have d0:(n.num=0)=True:=by simp[c0]
     rw[Cg q (.inl c0),hF];generalize (v0::vs').all isNum=al at *
     by_cases z:fW v0 vs'=0
     ·rw[if_pos z]at dH;obtain⟨_,iZ,kk⟩:=dH;cases al<;>simp[vS,hix,k,g1,g2,g3,g8,g9,q,d0,kk,z]
     ·rw[if_neg z]at dH;obtain⟨iZ,R1,kk,e6,e7⟩:=dH;cases al<;>simp[vS,hix,k,g1,g2,g3,g8,g9,q,d0,kk,e6,e7,z]
    by_cases c1:n.num=1
    ·have d1:(n.num=1)=True:=by simp[c1]
     have d0:(n.num=0)=False:=by simp[c0]
     rw[Cg q (.inr (.inl c1)),hF];generalize (v0::vs').all isNum=al at *
     by_cases z:fW v0 vs'=0
     ·rw[if_pos z]at dH;obtain⟨_,iZ,kk⟩:=dH;cases al<;>simp[vS,hix,k,g1,g2,g3,g8,g9,q,d0,d1,kk,z]
     ·rw[if_neg z]at dH;obtain⟨iZ,R1,kk,e6,e7⟩:=dH;cases al<;>simp[vS,hix,k,g1,g2,g3,g8,g9,q,d0,d1,kk,e6,e7,z]
    cases ha:(v0::vs').all isNum
    ·rw[ha]at g9;rw[Py q c0 c1 ha];simp[vS,hix,k,g2,g8,g9,q,c0,c1]
    ·rw[ha]at g9;rw[Cg q (.inr (.inr ha)),hF];by_cases z:fW v0 vs'=0
     ·rw[if_pos z]at dH;obtain⟨_,iZ,kk⟩:=dH;simp[vS,hix,k,g1,g2,g3,g8,g9,q,kk,z]
     ·rw[if_neg z]at dH;obtain⟨iZ,R1,kk,e6,e7⟩:=dH;simp[vS,hix,k,g1,g2,g3,g8,g9,q,kk,e6,e7,z]
   ·rw[Tp q];generalize (v0::vs').all isNum=al at *
    cases al
    ·simp[vS,hix,k,g2,g8,g9,q]
    ·simp[vS,hix,k,g8,g9,q]
   ·rw[Tq q,hF];generalize (v0::vs').all isNum=al at *
    by_cases z:fW v0 vs'=0
    ·rw[if_pos z]at dH;obtain⟨_,iZ,kk⟩:=dH;cases al<;>simp[vS,hix,k,g1,g2,g3,g8,g9,q,kk,z]
    ·rw[if_neg z]at dH;obtain⟨iZ,R1,kk,e6,e7⟩:=dH;cases al<;>simp[vS,hix,k,g1,g2,g3,g8,g9,q,kk,e6,e7,z]

/-
  Schemas: the reference.
-/
import Derived.Test.YtjnomgdildcbhaaGreatDoorAb4dP7
import Derived.Test.YtjnomgdildcbhaaGreatDoorAb4dP3
set_option linter.all false
set_option maxRecDepth 100000
set_option maxHeartbeats 2000000
namespace Go.Ab.Pn
open Go.Ab.Pol
theorem f239(n:Int)(h:Heap):(mu K).fn 239 [.int .u8 n] h=some (.val (.bool (dG n)) h):=by
 rw[aC (KX _ _ _) aaP rfl (by simp[Wc])];unfold dG;by_cases a:97<=n<;>by_cases b:n<=122<;>by_cases c:65<=n<;>by_cases d:n<=90<;>simp[Wc,a,b,c,d]
theorem f240(n:Int)(h:Heap):(mu K).fn 240 [.int .u8 n] h=some (.val (.bool (fc n)) h):=by
 rw[aC (KX _ _ _) aaQ rfl (by simp[Wd])];unfold fc;by_cases a:48<=n<;>by_cases b:n<=57<;>simp[Wd,a,b]
theorem f241(s:Bs)(h:Heap):(mu K).fn 241 [.str s] h=some (.val (.bool (kw s)) h):=by
 have key:=aB (K:=K) (n:=0) (live:=[0,3,4]) (a:=uN) (BZ s)
  (λj4 _=>⟨[(0,.str s),(3,.lst (eX.map AV.str)),(4,.int .i64 (j4.length:Int))],[]::h⟩) (λ_ _=>True)
  (λ_ o=>∃j3,o=some (.exit 0,⟨j3,[]::h⟩)∧get j3 0=.str s) (λ_ o=>∃j3,o=some (.ret,⟨j3,[]::h⟩)∧get j3 2=.bool true) eX
  (λj4 x r b hl' _=>by
   obtain⟨h1,h2,w1⟩:=aA hl' (by decide);have hix:=λ(k:IntKind)=>cG (sz:=1) (l:=eX.map AV.str) (k:=k) (j:=(j4.length:Int)) (v:=.str x) (by omega) (by rw[afM,afy,h2];rfl) rfl
   rw[aj];generalize (mu K).code _=F;have hlen:(eX.map AV.str).length=eX.length:=by simp
   generalize eX=Q at *
   generalize hM:Q.map AV.str=M at *
   clear hl';unfold BZ;by_cases hx:s=x
   ·have d:(x=s)=True:=by simp[hx]
    have d2:(s=x)=True:=by simp[hx]
    simp[uN,h1,hlen,hix,d,d2]
   ·have d:(x=s)=False:=by simp;exact λe=>hx e.symm
    simp[uN,h1,hlen,hix,w1,d,hx])
  (λb _=>by
   rw[aj];generalize (mu K).code _=F;have hlen:(eX.map AV.str).length=eX.length:=by simp
   generalize eX=Q at *
   generalize hM:Q.map AV.str=M at *
   simp[uN,hlen]) () trivial
 simp only[iO,afl]at key;have e16:eX.map AV.str=[.str [112,111,108,105,99,121],.str [117,115,101,115],.str [114,101,118,101,97,108],.str [112,114,111,118,101],.str [115,99,111,112,101],.str [108,105,109,105,116],.str [101,115,99,114,111,119],.str [101,110,100],.str [97,108,108],.str [97,110,121],.str [97,116,108,101,97,115,116],.str [110,111,116],.str [116,114,117,101],.str [102,97,108,115,101],.str [98,101,116,119,101,101,110],.str [97,110,100]]:=rfl;rw[aC (KX _ _ _) aaR rfl (by simp[S5])];rw[aa6];by_cases hm:s∈eX
 ·rw[(iX s eX).1 hm,e16]at key;obtain⟨j3,k,g2⟩:=key;simp[S5,List.replicate,k,g2,hm]
 ·rw[(iX s eX).2 hm,e16]at key;obtain⟨_,j3,k,g0⟩:=key;simp[S5,List.replicate,k,g0,hm]
theorem f206(s:Bs)(hs:okS s)(h:Heap):(mu K).fn 206 [.str s] h=some (.val (.bool (aJ s)) h):=by
 have O9:=λh=>f241 s h
 have key:=aB (K:=K) (n:=0) (live:=[0,3]) (a:=nD) vV
  (λj4 b=>⟨[(0,.str s),(3,.int .i64 (j4.length:Int))],[]::h⟩) (λj4 b=>b=j4.isEmpty)
  (λb o=>∃j3,o=some (.exit 0,⟨j3,[]::h⟩)∧get j3 0=.str s) (λ_ o=>∃j3,o=some (.ret,⟨j3,[]::h⟩)∧get j3 2=.bool false) s
  (λj4 x r b hl hb=>by
   obtain⟨h1,h2,w1⟩:=aA hl hs;have gS:=λh=>f239 (x.toNat:Int) h
   have pq:=λh=>f240 (x.toNat:Int) h
   rw[aj];generalize (mu K).code _=F;have hb':((j4.length:Int)=0)=(b=true):=by rw[hb];cases j4<;>simp;omega
   have hb2:(j4=[])=(b=true):=by rw[hb];cases j4<;>simp
   clear hb hl;unfold vV pz;by_cases c1:dG (x.toNat:Int)=true
   ·simp[nD,KL,aa,h1,h2,gS,w1,c1]
   ·cases b
    ·by_cases c4:fc (x.toNat:Int)=true
     ·simp[nD,KL,aa,h1,h2,gS,pq,w1,c1,hb2,c4]
     ·by_cases c3:(x.toNat:Int)=95
      ·have d3:((x.toNat:Int)=95)=True:=by simp;omega
       simp[nD,KL,aa,h1,h2,gS,pq,w1,c1,hb2,d3,c4]
      ·have d3:((x.toNat:Int)=95)=False:=by simp;omega
       simp[nD,KL,aa,h1,h2,gS,pq,c1,hb2,d3,c4]
    ·simp[nD,KL,aa,h1,h2,gS,c1,hb2])
  (λb _=>by
   rw[aj];generalize (mu K).code _=F;simp[nD]) true rfl
 rw[aC (KX _ _ _) aav rfl (by simp[c206])];cases hn:qD true s
 ·rw[(jy s true).2 hn]at key;obtain⟨j3,k,g2⟩:=key;simp only[iO,afl]at k;simp[c206,k,g2,aJ,hn]
 ·obtain⟨b',e⟩:=(jy s true).1 hn;rw[e]at key;obtain⟨_,j3,k,g0⟩:=key;simp only[iO,afl]at k;unfold aJ;by_cases e1:s=[]
  ·have d1:(s=[])=True:=by simp[e1]
   simp[c206,k,g0,d1]
  ·by_cases e2:(s.length:Int)<=32
   ·have e3:s.length<=32:=by omega
    simp[c206,KL,aa,k,g0,e1,e2,e3,O9,hn]
   ·have e3:¬ s.length<=32:=by omega
    simp[c206,k,g0,e1,e2,e3,hn]
theorem f254(n:Int)(h:Heap):(mu K).fn 254 [.int .u8 n] h=some (.val (.bool (pE n)) h):=by
 have k1:=λh=>f239 n h
 have k2:=λh=>f240 n h
 rw[aC (KX _ _ _) aaY rfl (by simp[JB])];unfold pE;cases a:dG n
 ·cases b:fc n
  ·by_cases c:n=45
   ·have d:(n=45)=True:=by simp[c]
    simp[JB,KL,aa,k1,k2,a,b,d]
   ·by_cases c2:n=95
    ·have d:(n=95)=True:=by simp[c2]
     have d2:(n=45)=False:=by simp[c]
     simp[JB,KL,aa,k1,k2,a,b,d,d2]
    ·simp[JB,KL,aa,k1,k2,a,b,c,c2]
  ·simp[JB,KL,aa,k1,k2,a,b]
 ·simp[JB,KL,aa,k1,a]
theorem f242(s:Bs)(hs:okS s)(h:Heap):(mu K).fn 242 [.str s] h=some (.val (.bool (cw s)) h):=by
 have key:=aB (K:=K) (n:=0) (live:=[0,3]) (a:=uO) vW
  (λj4 b=>⟨[(0,.str s),(3,.int .i64 (j4.length:Int))],[]::h⟩) (λj4 b=>True)
  (λb o=>∃j3,o=some (.exit 0,⟨j3,[]::h⟩)∧get j3 0=.str s) (λ_ o=>∃j3,o=some (.ret,⟨j3,[]::h⟩)∧get j3 2=.bool false) s
  (λj4 x r b hl hb=>by
   obtain⟨h1,h2,w1⟩:=aA hl hs;have gS:=λh=>f254 (x.toNat:Int) h
   rw[aj];generalize (mu K).code _=F;clear hb hl;unfold vW;cases c1:pE (x.toNat:Int)
   ·simp[uO,KL,aa,h1,h2,gS,c1]
   ·simp[uO,KL,aa,h1,h2,gS,w1,c1])
  (λb _=>by
   rw[aj];generalize (mu K).code _=F;simp[uO]) () trivial
 rw[aC (KX _ _ _) aaS rfl (by simp[Ng])];cases hn:qW s
 ·rw[(jz s).2 hn]at key;obtain⟨j3,k,g2⟩:=key;simp only[iO,afl]at k;simp[Ng,k,g2,cw,hn]
 ·rw[(jz s).1 hn]at key;obtain⟨_,j3,k,g0⟩:=key;simp only[iO,afl]at k;unfold cw;by_cases e1:s=[]
  ·have d1:(s=[])=True:=by simp[e1]
   simp[Ng,k,g0,d1]
  ·by_cases e2:(s.length:Int)<=32
   ·have e3:s.length<=32:=by omega
    simp[Ng,k,g0,e1,e2,e3,hn]
   ·have e3:¬ s.length<=32:=by omega
    simp[Ng,k,g0,e1,e2,e3,hn]
theorem Pb(x:Bs):∀l:List Bs,(l.all λy=>!decide (y=x))=!decide (x∈l)
 | []=>rfl
 |y::l=>by
  have ih:=Pb x l;simp only[af9,ih];by_cases e:y=x
  ·simp[e]
  ·have e2:¬ x=y:=λq=>e q.symm
   simp[e,e2]
theorem ad6(s:Sl Bs)(hlen:s.l.length<=1000)(h:Heap)(j4:List Bs)(x:Bs)(r:List Bs)(hl:s.l=j4++x::r) :
  (x∉j4->∃j3,(mu K).code (.af 0 [0,3,4] nE) ⟨[(0,s.avS .str),(3,.int .i64 (j4.length:Int)),(4,.int .i64 0)],[]::h⟩=some (.exit 2,⟨j3,[]::h⟩)∧get j3 0=s.avS .str∧get j3 3=.int .i64 (j4.length:Int)) ∧
  (x∈j4->∃j3,(mu K).code (.af 0 [0,3,4] nE) ⟨[(0,s.avS .str),(3,.int .i64 (j4.length:Int)),(4,.int .i64 0)],[]::h⟩=some (.ret,⟨j3,[]::h⟩)∧get j3 2=.int .i64 8):=by
 obtain⟨h1,h2,w1⟩:=aA hl (by omega);have hix:=iaP AV.str 1 s j4.length x (by simpa using h2);have key:=aB (K:=K) (n:=0) (live:=[0,3,4]) (a:=nE) (λ(_:Unit) (y:Bs)=>if (!decide (y=x))=true then (.inl ():Unit ⊕ Unit) else .inr ())
  (λpr _=>⟨[(0,s.avS .str),(3,.int .i64 (j4.length:Int)),(4,.int .i64 (pr.length:Int))],[]::h⟩) (λ_ _=>True)
  (λb o=>∃j3,o=some (.exit 2,⟨j3,[]::h⟩)∧get j3 0=s.avS .str∧get j3 3=.int .i64 (j4.length:Int))
  (λ_ o=>∃j3,o=some (.ret,⟨j3,[]::h⟩)∧get j3 2=.int .i64 8) j4
  (λpr y rr b hl' _=>by
   have hl2:s.l=pr++y::(rr++x::r):=by rw[hl,hl'];simp
   obtain⟨g1,g2,v1⟩:=aA hl2 (by omega);have hiy:=iaP AV.str 1 s pr.length y (by simpa using g2);have lt:((pr.length:Int)<(j4.length:Int))=True:=by rw[hl'];simp;omega
   rw[aj];generalize (mu K).code _=F;clear hl hl' hl2;by_cases q:y=x
   ·have d:(y=x)=True:=by simp[q]
    simp[nE,hix,hiy,lt,d]
   ·simp[nE,hix,hiy,v1,lt,q])
  (λb _=>by
   rw[aj];generalize (mu K).code _=F;simp[nE]) () trivial
 simp only[iO,afl]at key;have e:=Pb x j4;refine⟨λq=>?_,λq=>?_⟩
 ·rw[decide_eq_false q]at e;rw[(aT (λy:Bs=>!decide (y=x)) j4).1 (by simpa using e)]at key;exact key.2
 ·rw[decide_eq_true q]at e;rw[(aT (λy:Bs=>!decide (y=x)) j4).2 (by simpa using e)]at key;exact key
theorem f207(s:Sl Bs)(g1:s.l.length<=1000)(g2:∀w∈s.l,okS w)(h:Heap):(mu K).fn 207 [s.avS .str] h=some (.val (.int .i64 (nG s.l)) h):=by
 have key:=aB (K:=K) (n:=0) (live:=[0,3]) (a:=qQ) wdF
  (λj4 met=>⟨[(0,s.avS .str),(3,.int .i64 (j4.length:Int))],[]::h⟩) (λj4 met=>met=j4)
  (λmet o=>∃j3,o=some (.exit 0,⟨j3,[]::h⟩)) (λe o=>∃j3 Fr,o=some (.ret,⟨j3,Fr::h⟩)∧get j3 2=.int .i64 e) s.l
  (λj4 x r met hl' hm=>by
   obtain⟨h1,h2,w1⟩:=aA hl' (by omega);have hix:=iaP AV.str 1 s j4.length x (by simpa using h2);have kw:=λh=>f242 x (g2 x (by rw[hl'];simp)) h
   obtain⟨i1,i2⟩:=ad6 s g1 h j4 x r hl';rw[hm];rw[aj];generalize (mu K).code _=F;clear hl';unfold wdF;cases a:cw x
   ·simp[qQ,KL,aa,h1,hix,kw,a]
   by_cases hx:x∈j4
   ·obtain⟨j3,k,g⟩:=i2 hx;simp[qQ,KL,aa,h1,hix,kw,a,k,g,hx]
   ·obtain⟨j3,k,g,g3⟩:=i1 hx;simp[qQ,KL,aa,h1,hix,w1,kw,a,k,g,g3,hx])
  (λmet _=>by
   rw[aj];generalize (mu K).code _=F;simp[qQ]) [] rfl
 simp only[iO,afl]at key;rw[FD]at key;rw[aC (KX _ _ _) aaw rfl (by simp[M9])];unfold nG;by_cases c1:s.l.length<1
 ·have d1:(s.l.length:Int)<1:=by omega
  rw[if_pos (.inl c1)];simp[M9,d1]
 have d1:¬ (s.l.length:Int)<1:=by omega
 by_cases c2:64<s.l.length
 ·have d2:(64:Int)<(s.l.length:Int):=by omega
  rw[if_pos (.inr c2)];simp[M9,d1,d2]
 have d2:¬ (64:Int)<(s.l.length:Int):=by omega
 rw[if_neg (by omega)];by_cases hn:nH [] s.l=0
 ·rw[if_pos hn]at key;obtain⟨_,j3,k⟩:=key;simp[M9,d1,d2,k,hn]
 ·rw[if_neg hn]at key;obtain⟨j3,Fr,k,g2⟩:=key;simp[M9,d1,d2,k,g2]
def aY(x:Nd):Int:=if (aI x.k x.kids.l.length&&aH x)=false then 3 else if x.num<eP x∨cH x<x.num then 2 else 0
theorem Ta{k:Int}{n:Nat}(h:¬ (k=0∨k=1∨k=2∨k=3∨k=4∨k=5∨k=6∨k=7∨k=8∨k=9∨k=10∨k=11)):aI k n=false:=by
 unfold aI;rw[if_neg (by omega),if_neg (by omega),if_neg (by omega),if_neg (by omega),if_neg (by omega),if_neg (by omega)]
theorem f205(x:Nd)(hx:okN x)(h:Heap):(mu K).fn 205 [x.av] h=some (.val (.int .i64 (aY x)) h):=by
 have a1:=λh=>f151 x.nm hx.1 h
 have a2:=λh=>f151 x.attr hx.2 h
 have a3:=λh=>f152 x.nm hx.1 h
 obtain⟨k,num,nm,attr,kids,pos⟩:=x;simp only at a1 a2 a3;rw[aC (KX _ _ _) aau rfl (by simp[bT])];generalize hn:kids.l.length=n;have n1:(1<=(n:Int))=(1<=n):=by simp;omega
 have n2:(2<=(n:Int))=(2<=n):=by simp;omega
 have n3:((n:Int)=1)=(n=1):=by simp;omega
 have n4:((n:Int)=2)=(n=2):=by simp;omega
 have n5:((n:Int)=3)=(n=3):=by simp;omega
 by_cases hk:k=0∨k=1∨k=2∨k=3∨k=4∨k=5∨k=6∨k=7∨k=8∨k=9∨k=10∨k=11
 case neg=>
  have hko:=Ta (n:=n) hk;simp only[not_or]at hk;obtain⟨e0,e1,e2,e3,e4,e5,e6,e7,e8,e9,e10,e11⟩:=hk;simp[bT,aY,hn,hko,e0,e1,e2,e3,e4,e5,e6,e7,e8,e9,e10,e11]
 rcases hk with rfl|rfl|rfl|rfl|rfl|rfl|rfl|rfl|rfl|rfl|rfl|rfl
 ·by_cases q:n=0
  case neg=>
   have d:(n=0)=False:=by simp[q]
   simp[bT,aY,aI,aH,hn,d]
  have d:(n=0)=True:=by simp[q]
  by_cases b1:nm=[]
  case neg=>simp[bT,aY,aI,aH,hn,d,b1]
  have d1:(nm=[])=True:=by simp[b1]
  by_cases b2:attr=[]
  case neg=>simp[bT,aY,aI,aH,hn,d,d1,b2]
  have d2:(attr=[])=True:=by simp[b2]
  by_cases l1:num<0
  ·simp[bT,aY,aI,aH,eP,cH,hn,d,d1,d2,l1]
  by_cases l2:0<num
  ·simp[bT,aY,aI,aH,eP,cH,hn,d,d1,d2,l1,l2]
  ·simp[bT,aY,aI,aH,eP,cH,hn,d,d1,d2,l1,l2]
 ·by_cases q:n=0
  case neg=>
   have d:(n=0)=False:=by simp[q]
   simp[bT,aY,aI,aH,hn,d]
  have d:(n=0)=True:=by simp[q]
  by_cases b1:nm=[]
  case neg=>simp[bT,aY,aI,aH,hn,d,b1]
  have d1:(nm=[])=True:=by simp[b1]
  by_cases b2:attr=[]
  case neg=>simp[bT,aY,aI,aH,hn,d,d1,b2]
  have d2:(attr=[])=True:=by simp[b2]
  by_cases l1:num<0
  ·simp[bT,aY,aI,aH,eP,cH,hn,d,d1,d2,l1]
  by_cases l2:0<num
  ·simp[bT,aY,aI,aH,eP,cH,hn,d,d1,d2,l1,l2]
  ·simp[bT,aY,aI,aH,eP,cH,hn,d,d1,d2,l1,l2]
 ·by_cases q:n=1
  case neg=>
   have d:(n=1)=False:=by simp[q]
   simp[bT,aY,aI,aH,hn,n3,d]
  have d:(n=1)=True:=by simp[q]
  by_cases b1:nm=[]
  case neg=>simp[bT,aY,aI,aH,hn,n3,d,b1]
  have d1:(nm=[])=True:=by simp[b1]
  by_cases b2:attr=[]
  case neg=>simp[bT,aY,aI,aH,hn,n3,d,d1,b2]
  have d2:(attr=[])=True:=by simp[b2]
  by_cases l1:num<0
  ·simp[bT,aY,aI,aH,eP,cH,hn,n3,d,d1,d2,l1]
  by_cases l2:0<num
  ·simp[bT,aY,aI,aH,eP,cH,hn,n3,d,d1,d2,l1,l2]
  ·simp[bT,aY,aI,aH,eP,cH,hn,n3,d,d1,d2,l1,l2]
 ·by_cases q:1<=n
  case neg=>
   have d:(1<=n)=False:=by simp[q]
   simp[bT,aY,aI,aH,hn,n1,d]
  have d:(1<=n)=True:=by simp[q]
  by_cases b1:nm=[]
  case neg=>simp[bT,aY,aI,aH,hn,n1,d,b1]
  have d1:(nm=[])=True:=by simp[b1]
  by_cases b2:attr=[]
  case neg=>simp[bT,aY,aI,aH,hn,n1,d,d1,b2]
  have d2:(attr=[])=True:=by simp[b2]
  by_cases l1:num<0
  ·simp[bT,aY,aI,aH,eP,cH,hn,n1,d,d1,d2,l1]
  by_cases l2:0<num
  ·simp[bT,aY,aI,aH,eP,cH,hn,n1,d,d1,d2,l1,l2]
  ·simp[bT,aY,aI,aH,eP,cH,hn,n1,d,d1,d2,l1,l2]
 ·by_cases q:1<=n
  case neg=>
   have d:(1<=n)=False:=by simp[q]
   simp[bT,aY,aI,aH,hn,n1,d]
  have d:(1<=n)=True:=by simp[q]
  by_cases b1:nm=[]
  case neg=>simp[bT,aY,aI,aH,hn,n1,d,b1]
  have d1:(nm=[])=True:=by simp[b1]
  by_cases b2:attr=[]
  case neg=>simp[bT,aY,aI,aH,hn,n1,d,d1,b2]
  have d2:(attr=[])=True:=by simp[b2]
  by_cases l1:num<0
  ·simp[bT,aY,aI,aH,eP,cH,hn,n1,d,d1,d2,l1]
  by_cases l2:0<num
  ·simp[bT,aY,aI,aH,eP,cH,hn,n1,d,d1,d2,l1,l2]
  ·simp[bT,aY,aI,aH,eP,cH,hn,n1,d,d1,d2,l1,l2]
 ·by_cases q:1<=n
  case neg=>
   have d:(1<=n)=False:=by simp[q]
   simp[bT,aY,aI,aH,hn,n1,d]
  have d:(1<=n)=True:=by simp[q]
  by_cases b1:nm=[]
  case neg=>simp[bT,aY,aI,aH,hn,n1,d,b1]
  have d1:(nm=[])=True:=by simp[b1]
  by_cases b2:attr=[]
  case neg=>simp[bT,aY,aI,aH,hn,n1,d,d1,b2]
  have d2:(attr=[])=True:=by simp[b2]
  by_cases l1:num<1
  ·simp[bT,aY,aI,aH,eP,cH,hn,n1,d,d1,d2,l1]
  by_cases l2:(n:Int)<num
  ·simp[bT,aY,aI,aH,eP,cH,hn,n1,d,d1,d2,l1,l2]
  ·simp[bT,aY,aI,aH,eP,cH,hn,n1,d,d1,d2,l1,l2]
 ·by_cases q:n=2
  case neg=>
   have d:(n=2)=False:=by simp[q]
   simp[bT,aY,aI,aH,hn,n4,d]
  have d:(n=2)=True:=by simp[q]
  by_cases b1:nm=[]
  case neg=>simp[bT,aY,aI,aH,hn,n4,d,b1]
  have d1:(nm=[])=True:=by simp[b1]
  by_cases b2:attr=[]
  case neg=>simp[bT,aY,aI,aH,hn,n4,d,d1,b2]
  have d2:(attr=[])=True:=by simp[b2]
  by_cases l1:num<0
  ·simp[bT,aY,aI,aH,eP,cH,hn,n4,d,d1,d2,l1]
  by_cases l2:5<num
  ·simp[bT,aY,aI,aH,eP,cH,hn,n4,d,d1,d2,l1,l2]
  ·simp[bT,aY,aI,aH,eP,cH,hn,n4,d,d1,d2,l1,l2]
 ·by_cases q:n=3
  case neg=>
   have d:(n=3)=False:=by simp[q]
   simp[bT,aY,aI,aH,hn,n5,d]
  have d:(n=3)=True:=by simp[q]
  by_cases b1:nm=[]
  case neg=>simp[bT,aY,aI,aH,hn,n5,d,b1]
  have d1:(nm=[])=True:=by simp[b1]
  by_cases b2:attr=[]
  case neg=>simp[bT,aY,aI,aH,hn,n5,d,d1,b2]
  have d2:(attr=[])=True:=by simp[b2]
  by_cases l1:num<0
  ·simp[bT,aY,aI,aH,eP,cH,hn,n5,d,d1,d2,l1]
  by_cases l2:0<num
  ·simp[bT,aY,aI,aH,eP,cH,hn,n5,d,d1,d2,l1,l2]
  ·simp[bT,aY,aI,aH,eP,cH,hn,n5,d,d1,d2,l1,l2]
 ·by_cases q:2<=n
  case neg=>
   have d:(2<=n)=False:=by simp[q]
   simp[bT,aY,aI,aH,hn,n2,d]
  have d:(2<=n)=True:=by simp[q]
  by_cases b1:nm=[]
  case neg=>simp[bT,aY,aI,aH,hn,n2,d,b1]
  have d1:(nm=[])=True:=by simp[b1]
  by_cases b2:attr=[]
  case neg=>simp[bT,aY,aI,aH,hn,n2,d,d1,b2]
  have d2:(attr=[])=True:=by simp[b2]
  by_cases l1:num<0
  ·simp[bT,aY,aI,aH,eP,cH,hn,n2,d,d1,d2,l1]
  by_cases l2:0<num
  ·simp[bT,aY,aI,aH,eP,cH,hn,n2,d,d1,d2,l1,l2]
  ·simp[bT,aY,aI,aH,eP,cH,hn,n2,d,d1,d2,l1,l2]
 ·by_cases q:n=0
  case neg=>
   have d:(n=0)=False:=by simp[q]
   simp[bT,aY,aI,aH,hn,d]
  have d:(n=0)=True:=by simp[q]
  cases b1:aJ nm
  ·simp[bT,KL,aa,aY,aI,aH,hn,d,a1,b1]
  cases b2:aJ attr
  ·simp[bT,KL,aa,aY,aI,aH,hn,d,a1,a2,b1,b2]
  by_cases l1:num<0
  ·simp[bT,KL,aa,aY,aI,aH,eP,cH,hn,d,a1,a2,b1,b2,l1]
  by_cases l2:0<num
  ·simp[bT,KL,aa,aY,aI,aH,eP,cH,hn,d,a1,a2,b1,b2,l1,l2]
  ·simp[bT,KL,aa,aY,aI,aH,eP,cH,hn,d,a1,a2,b1,b2,l1,l2]
 ·by_cases q:n=0
  case neg=>
   have d:(n=0)=False:=by simp[q]
   simp[bT,aY,aI,aH,hn,d]
  have d:(n=0)=True:=by simp[q]
  by_cases b1:nm=[]
  case neg=>simp[bT,aY,aI,aH,hn,d,b1]
  have d1:(nm=[])=True:=by simp[b1]
  by_cases b2:attr=[]
  case neg=>simp[bT,aY,aI,aH,hn,d,d1,b2]
  have d2:(attr=[])=True:=by simp[b2]
  by_cases l1:num < -2147483648
  ·simp[bT,aY,aI,aH,eP,cH,hn,d,d1,d2,l1]
  by_cases l2:2147483647<num
  ·simp[bT,aY,aI,aH,eP,cH,hn,d,d1,d2,l1,l2]
  ·simp[bT,aY,aI,aH,eP,cH,hn,d,d1,d2,l1,l2]
 ·by_cases q:n=0
  case neg=>
   have d:(n=0)=False:=by simp[q]
   simp[bT,aY,aI,aH,hn,d]
  have d:(n=0)=True:=by simp[q]
  cases b1:cw nm
  ·simp[bT,KL,aa,aY,aI,aH,hn,d,a3,b1]
  by_cases b2:attr=[]
  case neg=>simp[bT,KL,aa,aY,aI,aH,hn,d,a3,b1,b2]
  have d2:(attr=[])=True:=by simp[b2]
  by_cases l1:num<0
  ·simp[bT,KL,aa,aY,aI,aH,eP,cH,hn,d,a3,b1,d2,l1]
  by_cases l2:0<num
  ·simp[bT,KL,aa,aY,aI,aH,eP,cH,hn,d,a3,b1,d2,l1,l2]
  ·simp[bT,KL,aa,aY,aI,aH,eP,cH,hn,d,a3,b1,d2,l1,l2]
theorem f154(p:Po)(hp:Sz p)(s:Bs)(h:Heap):(mu K).fn 154 [p.av,.str s] h=some (.val (.bool (used p s)) h):=by
 have key:=aB (K:=K) (n:=1) (live:=[1,2,5]) (a:=uw) (λ(_:Unit) (u:Us)=>if (!decide (u.al=s))=true then (.inl ():Unit ⊕ Unit) else .inr ())
  (λj4 _=>⟨[(1,.str s),(2,.ptr (h.length,0) 0),(5,.int .i64 (j4.length:Int))],[.box 26 false p.av]::h⟩) (λ_ _=>True)
  (λ_ o=>∃j3,o=some (.exit 0,⟨j3,[.box 26 false p.av]::h⟩)) (λ_ o=>∃j3,o=some (.ret,⟨j3,[.box 26 false p.av]::h⟩)∧get j3 4=.bool true) p.uses.l
  (λj4 x r b hl _=>by
   obtain⟨h1,h2,w1⟩:=aA hl (by have:=hp.uses.1;omega);have hix:=iaP Us.av 2 p.uses j4.length x (by simpa using h2);rw[aj];generalize (mu K).code _=F;clear hl;by_cases hx:x.al=s
   ·have d:(x.al=s)=True:=by simp[hx]
    simp[uw,h1,hix,d]
   ·simp[uw,h1,hix,w1,hx])
  (λb _=>by
   rw[aj];generalize (mu K).code _=F;simp[uw]) () trivial
 simp only[iO,afl]at key;have e:p.uses.l.all (λu=>!decide (u.al=s))=!used p s:=by
  unfold used
  induction p.uses.l with
  |nil=>rfl
  |cons u l ih=>simp[ih]
 rw[aC (KX _ _ _) ZJ rfl (by simp[SK])];cases hu:used p s
 ·rw[hu]at e;rw[(aT (λu:Us=>!decide (u.al=s)) p.uses.l).1 e]at key;obtain⟨_,j3,k⟩:=key;simp[SK,k]
 ·rw[hu]at e;rw[(aT (λu:Us=>!decide (u.al=s)) p.uses.l).2 e]at key;obtain⟨j3,k,g4⟩:=key;simp[SK,k,g4]
theorem vX{α:Type}[DecidableEq α]:∀(s l:List α),s.Nodup->(∀x∈s,x∈l)->s.length<=l.length
 | [],l,_,_=>Nat.zero_le _
 |a::s,l,hn,hs=>by
  have h1:=hs a (by simp);have hn':=List.nodup_cons.1 hn;have:=vX s (l.erase a) hn'.2 (λx hx=>(List.mem_erase_of_ne (λe=>hn'.1 (by rw[<-e];exact hx))).2 (hs x (by simp[hx])));rw[agX h1]at this;have:0<l.length:=List.length_pos_of_mem h1;simp only[Io];omega
def In(n:Nat)(l9:List Int):Prop:=l9.Nodup∧∀x∈l9,0<=x∧x<(n:Int)
theorem In.len{n:Nat}{l9:List Int}(h:In n l9):l9.length<=n:=by
 have:=vX l9 ((List.range n).map λ(j:Nat)=>(j:Int)) h.1 (λx hx=>by
  obtain⟨h0,h1⟩:=h.2 x hx;simp only[afG,List.mem_range];exact⟨x.toNat,by omega,by omega⟩)
 simpa using this
theorem In.snoc{n:Nat}{l9:List Int}{i:Int}(h:In n l9)(h0:0<=i)(h1:i<(n:Int))(h2:i∉l9):In n (l9++[i]):=by
 refine⟨?_,?_⟩
 ·rw[aga];refine⟨h.1,by simp,?_⟩;intro a ha b hb e;simp only[afO]at hb;subst hb;subst e;exact h2 ha
 ·intro x hx;rcases afR.1 hx with hx|hx
  ·exact h.2 x hx
  ·simp only[afO]at hx;subst hx;exact⟨h0,h1⟩
theorem Lg{n:Nat}{v:Int->List Int->Int×List Int}(hv:∀k s,In n s->In n (v k s).2):∀(ks:List Int) (s:List Int),In n s->In n (mG v ks s).2
 | [],s,h=>h
 |k::ks,s,h=>by
  simp only[mG];split
  ·exact Lg hv ks _ (hv k s h)
  ·exact hv k s h
theorem Pd(ns:List Nd):∀(f:Nat) (i:Int) (c:Bool) (s:List Int),In ns.length s->In ns.length (vis ns f i c s).2
 | 0,i,c,s,h=>by
  simp only[vis];split<;>exact h
 |f+1,i,c,s,h=>by
  rw[vis];cases hb:gT ns i s
  case true=>simpa using h
  obtain⟨b1,b2,b3⟩:=nP.1 hb;have h':=h.snoc b1 b2 b3;simp only[afA,if_false];cases ns[i.toNat]? with
  |none=>first|exact h|exact h'
  |some n=>
   simp only;split
   ·exact Lg (λk s hs=>Pd ns f k _ s hs) _ _ h'
   ·exact h'
def xI(ns:List Nd)(f:Nat)(i:Int)(c:Bool)(st:Int×List Int):Int×List Int:=if st.1=0 then vis ns f i c st.2 else st
theorem Tb(ns:List Nd)(f:Nat)(i:Int)(c:Bool)(st:Int×List Int)(h:In ns.length st.2):In ns.length (xI ns f i c st).2:=by
 unfold xI;split
 ·exact Pd ns f i c _ h
 ·exact h
theorem Ea(ns:List Nd)(f:Nat)(c:Bool):∀(ks:List Int) (st:Int×List Int),ks.foldl (λst k=>xI ns f k c st) st=if st.1=0 then mG (λk s=>vis ns f k c s) ks st.2 else st
 | [],(e,s)=>by
  by_cases h:e=0
  ·subst h;simp[mG]
  ·simp[h]
 |k::ks,(e,s)=>by
  rw[agq,Ea ns f c ks];by_cases h:e=0
  ·subst h;simp only[xI,mG,if_true]
  ·simp[xI,h]
theorem Eb{α β ρ:Type}(g:β->α->β):∀(l:List α) (b:β),iter (λb x=>(.inl (g b x):β ⊕ ρ)) b l=.inl (l.foldl g b)
 | [],b=>rfl
 |x::l,b=>by rw[iter,agq];exact Eb g l (g b x)
theorem AO(x:Nd)(c:Bool):jo x c=if x.k<0∨11<x.k∨(decide (0<=x.k)&&decide (x.k<=8))≠c then 3 else aY x:=by
 unfold jo aY vY;by_cases h:x.k<0∨11<x.k∨(decide (0<=x.k)&&decide (x.k<=8))≠c
 ·rw[if_pos h,if_pos];by_cases h1:x.k<0
  ·have:¬ 0<=x.k:=by omega
   simp[this]
  by_cases h2:11<x.k
  ·have:¬ x.k<12:=by omega
   simp[this]
  have h3:0<=x.k:=by omega
  simp only[h1,h2,h3,decide_true,afS,false_or]at h;have:(decide (x.k<=8)==c)=false:=by
   cases hd:decide (x.k<=8)<;>cases c<;>simp_all
  simp[this]
 ·rw[if_neg h];simp only[not_or]at h;obtain⟨h1,h2,h3⟩:=h;have h4:0<=x.k:=by omega
  have h5:x.k<12:=by omega
  simp only[h4,decide_true,afS,ne_eq,Decidable.not_not]at h3;simp[h4,h5,h3]
def bools(n:Nat)(l9:List Int):List AV:=(List.range n).map λ(j:Nat)=>.bool (decide ((j:Int)∈l9))
theorem Nq{n:Nat}{l9:List Int}{i:Int}(h0:0<=i)(h1:i<(n:Int)):(bools n l9)[i.toNat]?=some (.bool (decide (i∈l9))):=by
 have:i.toNat<n:=by omega
 have e:((i.toNat:Nat):Int)=i:=by omega
 simp[bools,this,e]
theorem Nr{n:Nat}{l9:List Int}{i:Int}(h0:0<=i)(h1:i<(n:Int)):(bools n l9).set i.toNat (.bool true)=bools n (l9++[i]):=by
 apply List.ext_getElem?;intro j;unfold bools;by_cases hj:j<n
 ·by_cases e:i.toNat=j
  ·subst e;have:((i.toNat:Nat):Int)=i:=by omega
   simp[hj,this]
  ·have e2:¬ (j:Int)=i:=by omega
   simp[e,hj,e2]
 ·have:i.toNat≠j:=by omega
  simp[hj]
@[simp] theorem YN (n:Nat) (l9:List Int):(bools n l9).length=n:=by simp [bools]
def Ns:List Int->Blk
 | []=>.arr 0 0 false []
 |i::s=>.arr 3 1 false ((i::s).map iV)
theorem FE(l9:List Int):∃t z,Ns l9=.arr t z false (l9.map iV)∧(z=0∨t=3∧z=1):=by
 cases l9 with
 |nil=>exact⟨0,0,rfl,.inl rfl⟩
 |cons i s=>exact⟨3,1,rfl,.inr ⟨rfl,rfl⟩⟩
theorem Nt(l9:List Int)(i:Int):Ns (l9++[i])=.arr 3 1 false (l9.map iV++[iV i]):=by
 cases l9 with
 |nil=>rfl
 |cons j s=>simp[Ns]
abbrev RFr(p:Po)(st:Int×List Int)(o:Heap):Heap:=
  [.box 26 false p.av, .arr 4 1 false (bools p.nodes.l.length st.2), Ns st.2,
   .box 237 false (.agg (p.cs++[.own (o.length, 1) p.nodes.l.length, .own (o.length, 2) st.2.length, iV st.1]))]::o
theorem f153(p:Po)(hp:okP p)(o:Heap):∀(f:Nat) (i:Int) (c:Bool) (st:Int×List Int) (T:List (List Blk)),f<=32->In p.nodes.l.length st.2 ->
  (mu K).fn 153 [.ptr (o.length,3) 0,.int .i64 i,.int .i64 (33-(f:Int)),.bool c] (T++RFr p st o) =
   some (.val (.tup []) (T++RFr p (xI p.nodes.l f i c st) o))
 |f,i,c,(e,l9),T,hf,hin=>by
  have ne:(o.length=T.length+(o.length+1))=False:=by simp;omega
  rw[aC (KX _ _ _) ZI rfl (by simp[Au])];by_cases b0:e=0
  case neg=>
   simp[Au,xI,b0,ne,bu]
  subst b0;have e1:xI p.nodes.l f i c (0,l9)=vis p.nodes.l f i c l9:=by simp[xI]
  rw[e1];by_cases b1:i<0
  ·have e:vis p.nodes.l f i c l9=(3,l9):=by
    have:gT p.nodes.l i l9=true:=by simp[gT,b1]
    cases f<;>simp[vis,this]
   rw[e];simp[Au,b1,ne,bu,cx]
  by_cases b2:(p.nodes.l.length:Int)<=i
  ·have e:vis p.nodes.l f i c l9=(3,l9):=by
    have:gT p.nodes.l i l9=true:=by simp[gT,b2]
    cases f<;>simp[vis,this]
   rw[e];simp[Au,b1,b2,ne,bu,cx]
  have bg:=Nq (l9:=l9) (n:=p.nodes.l.length) (i:=i) (by omega) (by omega);have hr:(0<=i∧i<(p.nodes.l.length:Int))=True:=by simp;omega
  by_cases b3:i∈l9
  ·have e:vis p.nodes.l f i c l9=(3,l9):=by
    have:gT p.nodes.l i l9=true:=by simp[gT,b3]
    cases f<;>simp[vis,this]
   rw[e];simp[Au,b1,b2,b3,bg,hr,ne,bu,cx]
  have hb:gT p.nodes.l i l9=false:=nP.2 ⟨by omega,by omega,b3⟩;cases f with
  |zero=>
   have e:vis p.nodes.l 0 i c l9=(7,l9):=by simp[vis,hb]
   rw[e];simp[Au,b1,b2,b3,bg,hr,ne,bu,cx]
  |succ f=>
   obtain⟨n,hnd⟩:∃n,p.nodes.l[i.toNat]?=some n:=⟨_,afD (by omega)⟩
   have hmem:n∈p.nodes.l:=afB hnd;obtain⟨hok,hkl⟩:=hp.2 n hmem;have i0:0<=i:=by omega
   have Wo:=λh=>f204 n.k h
   have aa7:=λh=>f205 n hok h
   have bs:=Nr (l9:=l9) (n:=p.nodes.l.length) (i:=i) (by omega) (by omega);have hia:=λ(k:IntKind)=>cK (av:=Nd.av) (sz:=6) (s:=p.nodes) (k:=k) (j:=i) (x:=n) i0 hnd rfl
   have hd:¬ (32:Int)<33-((f:Int)+1):=by omega
   have hs:l9.length<=p.nodes.l.length:=hin.len;have e0:vis p.nodes.l (f+1) i c l9=if jo n c=0 then mG (λk s=>vis p.nodes.l f k (decide (n.k<=5)) s) n.kids.l (l9++[i]) else (jo n c,l9++[i]):=by
    rw[vis,hb];simp[hnd]
   rw[e0];obtain⟨ot,oz,ho,hz⟩:=FE l9;have ho2:=Nt l9 i;have r1:(l9.length+1)*8<=room:=by unfold room;omega
   have r2:l9.length+1<=room:=by unfold room;omega
   by_cases q1:n.k<0
   ·have hfe:jo n c=3:=by rw[AO,if_pos (by omega)]
    simp[Au,b1,b2,b3,bg,bs,hr,ne,bu,cx,hd,hia,hfe,q1,ho,ho2,hz,r1,r2]
   by_cases q2:11<n.k
   ·have hfe:jo n c=3:=by rw[AO,if_pos (by omega)]
    simp[Au,b1,b2,b3,bg,bs,hr,ne,bu,cx,hd,hia,hfe,q1,q2,ho,ho2,hz,r1,r2]
   by_cases q3:(decide (0<=n.k)&&decide (n.k<=8))=c
   case neg=>
    have hfe:jo n c=3:=by rw[AO,if_pos (.inr (.inr q3))]
    have q3':((decide (0<=n.k)&&decide (n.k<=8))==c)=false:=by simpa using q3
    generalize hq:(decide (0<=n.k)&&decide (n.k<=8))=cc at *
    simp[Au,KL,aa,b1,b2,b3,bg,bs,hr,ne,bu,cx,hd,hia,hfe,q1,q2,q3',Wo,ho,ho2,hz,r1,r2]
   have hfe:jo n c=aY n:=by
    rw[AO,if_neg];rintro (h|h|h)
    ·exact q1 h
    ·exact q2 h
    ·exact h q3
   have q3':((decide (0<=n.k)&&decide (n.k<=8))==c)=true:=by simp[q3]
   rw[hfe];generalize hq:(decide (0<=n.k)&&decide (n.k<=8))=cc at *
   by_cases hfr:aY n=0
   case neg=>
    rw[if_neg hfr];simp[Au,KL,aa,b1,b2,b3,bg,bs,hr,ne,bu,cx,hd,hia,q1,q2,q3,Wo,aa7,ho,ho2,hz,r1,r2,hfr]
   rw[if_pos hfr];have key:=aB (K:=K) (n:=1) (live:=[0,2,8,10]) (a:=xB) (ρ:=Unit) (λ(st:Int×List Int) k=>.inl (xI p.nodes.l f k (decide (n.k<=5)) st))
    (λj4 st=>⟨[(0,.ptr (o.length,3) 0),(2,.int .i64 (33-((f:Int)+1))),(8,.ptr (T.length+(o.length+1),0) 0),(10,.int .i64 (j4.length:Int))],[.box 90 false n.av]::(T++RFr p st o)⟩)
    (λ_ st=>In p.nodes.l.length st.2)
    (λst r=>∃j3,r=some (.exit 0,⟨j3,[.box 90 false n.av]::(T++RFr p st o)⟩))
    (λ_ _=>False) n.kids.l
    (λj4 x r st hl hi=>by
     obtain⟨h1,h2,w1⟩:=aA hl (by omega);have ih:=f153 p hp o f x (decide (n.k<=5)) st ([.box 90 false n.av]::T) (by omega) hi;have hix:=iaP iV 1 n.kids j4.length x (by simpa using h2);have wd:IntKind.i64.wrap (33-((f:Int)+1)+1)=33-(f:Int):=by rw[wrap64 (by omega) (by omega)];omega
     simp only[afo]at ih;have hi2:=Tb p.nodes.l f x (decide (n.k<=5)) st hi;rw[aj];generalize (mu K).code _=F;clear hl;generalize xI p.nodes.l f x (decide (n.k<=5)) st=R at *
     simp[xB,KL,aa,h1,hix,w1,wd,ih,hi2])
    (λst _=>by
     rw[aj];generalize (mu K).code _=F;simp[xB]) (0,l9++[i]) (hin.snoc i0 (by omega) b3)
   rw[Eb]at key;obtain⟨_,j3,k⟩:=key;have fr:=Ea p.nodes.l f (decide (n.k<=5)) n.kids.l (0,l9++[i]);simp only[if_true]at fr;rw[fr]at k;generalize mG (λk s=>vis p.nodes.l f k (decide (n.k<=5)) s) n.kids.l (l9++[i])=R at *
   have eR:RFr p (0,l9++[i]) o=[Blk.box 26 false p.av,Blk.arr 4 1 false (bools p.nodes.l.length (l9++[i])),Blk.arr 3 1 false (List.map iV l9++[AV.int IntKind.i64 i]),
     Blk.box 237 false (AV.agg [AV.str p.name,Sl.avS Us.av p.uses,Sl.avS Rf.av p.az,Sl.avS Nd.av p.nodes,iV p.root,
      AV.str p.scope,iV p.limit,AV.str p.bt,AV.own (List.length o,1) p.nodes.l.length,AV.own (List.length o,2) (l9.length+1),iV 0])]::o:=by
    simp[ho2]
   rw[eR]at k;simp only[iO,afl]at k;simp[Au,KL,aa,b1,b2,b3,bg,bs,hr,ne,bu,cx,hd,hia,q1,q2,q3,Wo,aa7,ho,hz,r1,r2,hfr,k]
theorem Pe(n:Nat):In n []:=⟨List.nodup_nil,λx h=>by simp at h⟩
theorem Ec(n:Nat):List.replicate n (AV.bool false)=bools n []:=by
 apply List.ext_getElem?;intro j;unfold bools;by_cases hj:j<n<;>simp[hj]
theorem nQ{α:Type}(av:α->AV)(h:∀x,(av x).beq (av x)=true):∀l:List α,AV.dh (l.map av) (l.map av)=true
 | []=>by simp[AV.dh]
 |x::l=>by simp[AV.dh,h x,nQ av h l]
theorem ak{α:Type}(av:α->AV)(h:∀x,(av x).beq (av x)=true)(s:Sl α):(s.avS av).beq (s.avS av)=true:=by
 obtain⟨nl,l⟩:=s;cases l with
 |nil=>cases nl<;>rfl
 |cons x l=>
  have:=nQ av h (x::l);simpa[Sl.avS,AV.beq]using this
theorem aP(n:Int):(iV n).beq (iV n)=true:=by simp[AV.beq]
theorem dI:∀u:Us,u.av.beq u.av=true:=λu=>by simp[AV.beq,AV.dh]
theorem dz:∀u:Rf,u.av.beq u.av=true:=λu=>by simp[AV.beq,AV.dh]
theorem bX:∀u:Nd,u.av.beq u.av=true:=λu=>by simp[AV.beq,AV.dh,ak _ aP]
theorem f95(p:Po)(hp:Sz p)(h:Heap):(mu K).fn 95 [p.av] h=some (.val (.lst ((vis p.nodes.l 32 p.root true []).2.map iV)) h):=by
 have k:=f153 p hp.nodes h 32 p.root true (0,[]) [] (by omega) (Pe _);have e1:(33-((32:Nat):Int))=1:=rfl;rw[e1]at k;simp only[afq,xI,if_true]at k;generalize vis p.nodes.l 32 p.root true []=R at *
 obtain⟨e,s⟩:=R;obtain⟨ot,oz,ho,hz⟩:=FE s;have hn:=hp.nodes.1;have r1:p.nodes.l.length*1<=room:=by unfold room;omega
 have r2:p.nodes.l.length<=room:=by unfold room;omega
 have hbn:=Ec p.nodes.l.length;have o0:Ns []=.arr 0 0 false []:=rfl;rw[aC (KX _ _ _) adY rfl (by simp[c95])];simp[RFr,o0,ho]at k;simp[c95,KL,aa,hbn,r2,k,ak _ dI,ak _ dz,ak _ bX]
theorem ad7(p:Po)(hp:Sz p)(b:Bool)(h:Heap):∃j3,(mu K).code (.af 1 [1,3,4] BH) ⟨[(1,.ptr (h.length,0) 0),(3,.bool b),(4,.int .i64 0)],[.box 26 false p.av]::h⟩=some (.exit 0,⟨j3,[.box 26 false p.av]::h⟩) ∧
  get j3 1=.ptr (h.length,0) 0∧get j3 3=.bool (b&&p.uses.l.all λu=>aJ u.al&&aJ u.sc):=by
 have key:=aB (K:=K) (n:=1) (live:=[1,3,4]) (a:=BH) (λ(b:Bool) (u:Us)=>(.inl (b&&(aJ u.al&&aJ u.sc)):Bool ⊕ Unit))
  (λj4 b=>⟨[(1,.ptr (h.length,0) 0),(3,.bool b),(4,.int .i64 (j4.length:Int))],[.box 26 false p.av]::h⟩) (λ_ _=>True)
  (λb o=>∃j3,o=some (.exit 0,⟨j3,[.box 26 false p.av]::h⟩)∧get j3 1=.ptr (h.length,0) 0∧get j3 3=.bool b) (λ_ _=>False) p.uses.l
  (λj4 x r b hl _=>by
   obtain⟨h1,h2,w1⟩:=aA hl (by have:=hp.uses.1;omega);have hu:=hp.uses.2 x (by rw[hl];simp);have k1:=λh=>f151 x.al hu.1 h
   have k2:=λh=>f151 x.sc hu.2 h
   have hix:=iaP Us.av 2 p.uses j4.length x (by simpa using h2);rw[aj];generalize (mu K).code _=F;clear hl;cases b<;>cases q:aJ x.al<;>simp[BH,KL,aa,h1,hix,w1,k1,k2,q])
  (λb _=>by
   rw[aj];generalize (mu K).code _=F;simp[BH]) b trivial
 rw[vZ]at key;exact key.2
theorem ad8(p:Po)(hp:Sz p)(b:Bool)(h:Heap):∃j3,(mu K).code (.af 1 [1,3,5] BI) ⟨[(1,.ptr (h.length,0) 0),(3,.bool b),(5,.int .i64 0)],[.box 26 false p.av]::h⟩=some (.exit 2,⟨j3,[.box 26 false p.av]::h⟩) ∧
  get j3 1=.ptr (h.length,0) 0∧get j3 3=.bool (b&&p.az.l.all λu=>aJ u.al&&aJ u.attr):=by
 have key:=aB (K:=K) (n:=1) (live:=[1,3,5]) (a:=BI) (λ(b:Bool) (u:Rf)=>(.inl (b&&(aJ u.al&&aJ u.attr)):Bool ⊕ Unit))
  (λj4 b=>⟨[(1,.ptr (h.length,0) 0),(3,.bool b),(5,.int .i64 (j4.length:Int))],[.box 26 false p.av]::h⟩) (λ_ _=>True)
  (λb o=>∃j3,o=some (.exit 2,⟨j3,[.box 26 false p.av]::h⟩)∧get j3 1=.ptr (h.length,0) 0∧get j3 3=.bool b) (λ_ _=>False) p.az.l
  (λj4 x r b hl _=>by
   obtain⟨h1,h2,w1⟩:=aA hl (by have:=hp.az.1;omega);have hu:=hp.az.2 x (by rw[hl];simp);have k1:=λh=>f151 x.al hu.1 h
   have k2:=λh=>f151 x.attr hu.2 h
   have hix:=iaP Rf.av 2 p.az j4.length x (by simpa using h2);rw[aj];generalize (mu K).code _=F;clear hl;cases b<;>cases q:aJ x.al<;>simp[BI,KL,aa,h1,hix,w1,k1,k2,q])
  (λb _=>by
   rw[aj];generalize (mu K).code _=F;simp[BI]) b trivial
 rw[vZ]at key;exact key.2
theorem B6{α γ:Type}[DecidableEq γ](g:α->γ):∀(l b:List α),(b.map g).Nodup->((((b++l).map g).Nodup->iter (λ(b:List α) (x:α)=>if (b.all λy=>!decide (g x=g y))=true then (.inl (b++[x]):List α ⊕ Unit) else .inr ()) b l=.inl (b++l)) ∧
  (¬ ((b++l).map g).Nodup->iter (λ(b:List α) (x:α)=>if (b.all λy=>!decide (g x=g y))=true then (.inl (b++[x]):List α ⊕ Unit) else .inr ()) b l=.inr ()))
 | [],b,h=>by simp[iter,h]
 |x::l,b,h=>by
  by_cases q:g x∈b.map g
  ·have e:(b.all λy=>!decide (g x=g y))=false:=by
    obtain⟨y,hy,e⟩:=afG.1 q;rw[List.all_eq_false];exact⟨y,hy,by simp[e]⟩
   refine⟨λhn=>?_,λ_=>by simp[iter,e]⟩;rw[afE,afj,aga]at hn;exact absurd rfl (hn.2.2 _ q (g x) (by simp))
  ·have e:(b.all λy=>!decide (g x=g y))=true:=by
    rw[afL];intro y hy;have:g x≠g y:=λe=>q (e▸afG.2 ⟨y,hy,rfl⟩)
    simp[this]
   have hn:((b++[x]).map g).Nodup:=by
    rw[afE,aga];refine⟨h,by simp,?_⟩;intro a ha c hc e;simp only[afj,afw,afO]at hc;rw[e,hc]at ha;exact q ha
   have ih:=B6 g l (b++[x]) hn;simp only[afX,List.singleton_append]at ih;simp only[iter,e,if_true];exact ih
theorem ad9(p:Po)(hp:Sz p)(R:List Blk)(h:Heap)(j4:List Us)(x:Us)(r:List Us)(hl:p.uses.l=j4++x::r) :
  (j4.all (λy=>!decide (x.al=y.al))=true->∃j3,(mu K).code (.af (R.length+1) [1,7,8] tG) ⟨[(1,.ptr (h.length,0) 0),(7,.int .i64 (j4.length:Int)),(8,.int .i64 0)],(.box 26 false p.av::R)::h⟩=some (.exit 6,⟨j3,(.box 26 false p.av::R)::h⟩) ∧
   get j3 1=.ptr (h.length,0) 0∧get j3 7=.int .i64 (j4.length:Int)) ∧
  (j4.all (λy=>!decide (x.al=y.al))=false->∃j3,(mu K).code (.af (R.length+1) [1,7,8] tG) ⟨[(1,.ptr (h.length,0) 0),(7,.int .i64 (j4.length:Int)),(8,.int .i64 0)],(.box 26 false p.av::R)::h⟩=some (.ret,⟨j3,(.box 26 false p.av::R)::h⟩) ∧
   get j3 2=.int .i64 8):=by
 obtain⟨h1,h2,w1⟩:=aA hl (by have:=hp.uses.1;omega);have hix:=iaP Us.av 2 p.uses j4.length x (by simpa using h2);have key:=aB (K:=K) (n:=R.length+1) (live:=[1,7,8]) (a:=tG) (λ(_:Unit) (y:Us)=>if (!decide (x.al=y.al))=true then (.inl ():Unit ⊕ Unit) else .inr ())
  (λpr _=>⟨[(1,.ptr (h.length,0) 0),(7,.int .i64 (j4.length:Int)),(8,.int .i64 (pr.length:Int))],(.box 26 false p.av::R)::h⟩) (λ_ _=>True)
  (λb o=>∃j3,o=some (.exit 6,⟨j3,(.box 26 false p.av::R)::h⟩)∧get j3 1=.ptr (h.length,0) 0∧get j3 7=.int .i64 (j4.length:Int))
  (λ_ o=>∃j3,o=some (.ret,⟨j3,(.box 26 false p.av::R)::h⟩)∧get j3 2=.int .i64 8) j4
  (λpr y rr b hl' _=>by
   have hl2:p.uses.l=pr++y::(rr++x::r):=by rw[hl,hl'];simp
   obtain⟨g1,g2,v1⟩:=aA hl2 (by have:=hp.uses.1;omega);have hiy:=iaP Us.av 2 p.uses pr.length y (by simpa using g2);have lt:((pr.length:Int)<(j4.length:Int))=True:=by rw[hl'];simp;omega
   rw[aj];generalize (mu K).code (.af (R.length+1) [1,7,8] tG)=F;clear hl hl' hl2;by_cases q:x.al=y.al
   ·have d:(x.al=y.al)=True:=by simp[q]
    simp[tG,hix,hiy,lt,d]
   ·simp[tG,hix,hiy,v1,lt,q])
  (λb _=>by
   rw[aj];generalize (mu K).code (.af (R.length+1) [1,7,8] tG)=F;simp[tG]) () trivial
 simp only[iO,afl]at key;refine⟨λq=>?_,λq=>?_⟩
 ·rw[(aT (λy:Us=>!decide (x.al=y.al)) j4).1 q]at key;exact key.2
 ·rw[(aT (λy:Us=>!decide (x.al=y.al)) j4).2 q]at key;exact key
theorem aea(p:Po)(hp:Sz p)(R:List Blk)(h:Heap) :
  ((p.uses.l.map Us.al).Nodup->∃j3,(mu K).code (.af (R.length+1) [1,7] vM) ⟨[(1,.ptr (h.length,0) 0),(7,.int .i64 0)],(.box 26 false p.av::R)::h⟩=some (.exit 4,⟨j3,(.box 26 false p.av::R)::h⟩)∧get j3 1=.ptr (h.length,0) 0) ∧
  (¬ (p.uses.l.map Us.al).Nodup->∃j3,(mu K).code (.af (R.length+1) [1,7] vM) ⟨[(1,.ptr (h.length,0) 0),(7,.int .i64 0)],(.box 26 false p.av::R)::h⟩=some (.ret,⟨j3,(.box 26 false p.av::R)::h⟩)∧get j3 2=.int .i64 8):=by
 have key:=aB (K:=K) (n:=R.length+1) (live:=[1,7]) (a:=vM) (λ(b:List Us) (x:Us)=>if (b.all λy=>!decide (Us.al x=Us.al y))=true then (.inl (b++[x]):List Us ⊕ Unit) else .inr ())
  (λj4 _=>⟨[(1,.ptr (h.length,0) 0),(7,.int .i64 (j4.length:Int))],(.box 26 false p.av::R)::h⟩) (λj4 b=>b=j4)
  (λb o=>∃j3,o=some (.exit 4,⟨j3,(.box 26 false p.av::R)::h⟩)∧get j3 1=.ptr (h.length,0) 0)
  (λ_ o=>∃j3,o=some (.ret,⟨j3,(.box 26 false p.av::R)::h⟩)∧get j3 2=.int .i64 8) p.uses.l
  (λj4 x r b hl hb=>by
   subst hb;obtain⟨h1,h2,w1⟩:=aA hl (by have:=hp.uses.1;omega);have kc:=ad9 p hp R h b x r hl;rw[aj];generalize (mu K).code (.af (R.length+1) [1,7] vM)=F;clear hl;cases q:b.all (λy=>!decide (x.al=y.al))
   ·rw[q]at kc;obtain⟨j3,e1,e2⟩:=kc.2 rfl;simp[vM,h1,e1,e2]
   ·rw[q]at kc;obtain⟨j3,e1,e2,e3⟩:=kc.1 rfl;simp[vM,h1,w1,e1,e2,e3])
  (λb _=>by
   rw[aj];generalize (mu K).code (.af (R.length+1) [1,7] vM)=F;simp[vM]) [] rfl
 simp only[iO,afl]at key;obtain⟨d1,d2⟩:=B6 Us.al p.uses.l [] (by simp);simp only[afq]at d1 d2;refine⟨λq=>?_,λq=>?_⟩
 ·rw[d1 q]at key;exact key.2
 ·rw[d2 q]at key;exact key
theorem aeb(p:Po)(hp:Sz p)(R:List Blk)(h:Heap)(j4:List Rf)(x:Rf)(r:List Rf)(hl:p.az.l=j4++x::r) :
  (j4.all (λy=>!decide (x=y))=true->∃j3,(mu K).code (.af (R.length+1) [1,9,10] tH) ⟨[(1,.ptr (h.length,0) 0),(9,.int .i64 (j4.length:Int)),(10,.int .i64 0)],(.box 26 false p.av::R)::h⟩=some (.exit 10,⟨j3,(.box 26 false p.av::R)::h⟩) ∧
   get j3 1=.ptr (h.length,0) 0∧get j3 9=.int .i64 (j4.length:Int)) ∧
  (j4.all (λy=>!decide (x=y))=false->∃j3,(mu K).code (.af (R.length+1) [1,9,10] tH) ⟨[(1,.ptr (h.length,0) 0),(9,.int .i64 (j4.length:Int)),(10,.int .i64 0)],(.box 26 false p.av::R)::h⟩=some (.ret,⟨j3,(.box 26 false p.av::R)::h⟩) ∧
   get j3 2=.int .i64 8):=by
 obtain⟨h1,h2,w1⟩:=aA hl (by have:=hp.az.1;omega);have hix:=iaP Rf.av 2 p.az j4.length x (by simpa using h2);have key:=aB (K:=K) (n:=R.length+1) (live:=[1,9,10]) (a:=tH) (λ(_:Unit) (y:Rf)=>if (!decide (x=y))=true then (.inl ():Unit ⊕ Unit) else .inr ())
  (λpr _=>⟨[(1,.ptr (h.length,0) 0),(9,.int .i64 (j4.length:Int)),(10,.int .i64 (pr.length:Int))],(.box 26 false p.av::R)::h⟩) (λ_ _=>True)
  (λb o=>∃j3,o=some (.exit 10,⟨j3,(.box 26 false p.av::R)::h⟩)∧get j3 1=.ptr (h.length,0) 0∧get j3 9=.int .i64 (j4.length:Int))
  (λ_ o=>∃j3,o=some (.ret,⟨j3,(.box 26 false p.av::R)::h⟩)∧get j3 2=.int .i64 8) j4
  (λpr y rr b hl' _=>by
   have hl2:p.az.l=pr++y::(rr++x::r):=by rw[hl,hl'];simp
   obtain⟨g1,g2,v1⟩:=aA hl2 (by have:=hp.az.1;omega);have hiy:=iaP Rf.av 2 p.az pr.length y (by simpa using g2);have lt:((pr.length:Int)<(j4.length:Int))=True:=by rw[hl'];simp;omega
   rw[aj];generalize (mu K).code (.af (R.length+1) [1,9,10] tH)=F;clear hl hl' hl2;have ex:dZ [FK.str,FK.str] x.cs y.cs=some (decide (x=y)):=by
    obtain⟨a,b⟩:=x;obtain⟨a',b'⟩:=y;by_cases e1:a=a'<;>by_cases e2:b=b'<;>simp[dZ,eqF,e1,e2]
   by_cases q:x=y
   ·have d:(x=y)=True:=by simp[q]
    simp[tH,hix,hiy,lt,ex,d]
   ·simp[tH,hix,hiy,v1,lt,ex,q])
  (λb _=>by
   rw[aj];generalize (mu K).code (.af (R.length+1) [1,9,10] tH)=F;simp[tH]) () trivial
 simp only[iO,afl]at key;refine⟨λq=>?_,λq=>?_⟩
 ·rw[(aT (λy:Rf=>!decide (x=y)) j4).1 q]at key;exact key.2
 ·rw[(aT (λy:Rf=>!decide (x=y)) j4).2 q]at key;exact key
theorem aec(p:Po)(hp:Sz p)(R:List Blk)(h:Heap) :
  (p.az.l.Nodup->∃j3,(mu K).code (.af (R.length+1) [1,9] vN) ⟨[(1,.ptr (h.length,0) 0),(9,.int .i64 0)],(.box 26 false p.av::R)::h⟩=some (.exit 8,⟨j3,(.box 26 false p.av::R)::h⟩)∧get j3 1=.ptr (h.length,0) 0) ∧
  (¬ p.az.l.Nodup->∃j3,(mu K).code (.af (R.length+1) [1,9] vN) ⟨[(1,.ptr (h.length,0) 0),(9,.int .i64 0)],(.box 26 false p.av::R)::h⟩=some (.ret,⟨j3,(.box 26 false p.av::R)::h⟩)∧get j3 2=.int .i64 8):=by
 have key:=aB (K:=K) (n:=R.length+1) (live:=[1,9]) (a:=vN) (λ(b:List Rf) (x:Rf)=>if (b.all λy=>!decide (id x=id y))=true then (.inl (b++[x]):List Rf ⊕ Unit) else .inr ())
  (λj4 _=>⟨[(1,.ptr (h.length,0) 0),(9,.int .i64 (j4.length:Int))],(.box 26 false p.av::R)::h⟩) (λj4 b=>b=j4)
  (λb o=>∃j3,o=some (.exit 8,⟨j3,(.box 26 false p.av::R)::h⟩)∧get j3 1=.ptr (h.length,0) 0)
  (λ_ o=>∃j3,o=some (.ret,⟨j3,(.box 26 false p.av::R)::h⟩)∧get j3 2=.int .i64 8) p.az.l
  (λj4 x r b hl hb=>by
   subst hb;obtain⟨h1,h2,w1⟩:=aA hl (by have:=hp.az.1;omega);have kc:=aeb p hp R h b x r hl;rw[aj];generalize (mu K).code (.af (R.length+1) [1,9] vN)=F;clear hl;cases q:b.all (λy=>!decide (x=y))
   ·have q':(b.all λy=>!decide (id x=id y))=false:=q;simp only[q'];rw[q]at kc;obtain⟨j3,e1,e2⟩:=kc.2 rfl;simp[vN,h1,e1,e2]
   ·have q':(b.all λy=>!decide (id x=id y))=true:=q;simp only[q'];rw[q]at kc;obtain⟨j3,e1,e2,e3⟩:=kc.1 rfl;simp[vN,h1,w1,e1,e2,e3])
  (λb _=>by
   rw[aj];generalize (mu K).code (.af (R.length+1) [1,9] vN)=F;simp[vN]) [] rfl
 simp only[iO,afl]at key;obtain⟨d1,d2⟩:=B6 id p.az.l [] (by simp);simp only[afq,List.map_id]at d1 d2;refine⟨λq=>?_,λq=>?_⟩
 ·rw[d1 q]at key;exact key.2
 ·rw[d2 q]at key;exact key
theorem aed(p:Po)(hp:Sz p)(R:List Blk)(h:Heap) :
  (p.az.l.all (λr=>used p r.al)=true->∃j3,(mu K).code (.af (R.length+1) [1,11] zO) ⟨[(1,.ptr (h.length,0) 0),(11,.int .i64 0)],(.box 26 false p.av::R)::h⟩=some (.exit 12,⟨j3,(.box 26 false p.av::R)::h⟩)∧get j3 1=.ptr (h.length,0) 0) ∧
  (p.az.l.all (λr=>used p r.al)=false->∃j3,(mu K).code (.af (R.length+1) [1,11] zO) ⟨[(1,.ptr (h.length,0) 0),(11,.int .i64 0)],(.box 26 false p.av::R)::h⟩=some (.ret,⟨j3,(.box 26 false p.av::R)::h⟩)∧get j3 2=.int .i64 9):=by
 have key:=aB (K:=K) (n:=R.length+1) (live:=[1,11]) (a:=zO) (λ(_:Unit) (x:Rf)=>if used p x.al=true then (.inl ():Unit ⊕ Unit) else .inr ())
  (λj4 _=>⟨[(1,.ptr (h.length,0) 0),(11,.int .i64 (j4.length:Int))],(.box 26 false p.av::R)::h⟩) (λ_ _=>True)
  (λb o=>∃j3,o=some (.exit 12,⟨j3,(.box 26 false p.av::R)::h⟩)∧get j3 1=.ptr (h.length,0) 0)
  (λ_ o=>∃j3,o=some (.ret,⟨j3,(.box 26 false p.av::R)::h⟩)∧get j3 2=.int .i64 9) p.az.l
  (λj4 x r b hl _=>by
   obtain⟨h1,h2,w1⟩:=aA hl (by have:=hp.az.1;omega);have hix:=iaP Rf.av 2 p.az j4.length x (by simpa using h2);have k1:=λh=>f154 p hp x.al h
   rw[aj];generalize (mu K).code (.af (R.length+1) [1,11] zO)=F;clear hl;cases q:used p x.al<;>simp[zO,KL,aa,h1,hix,w1,k1,q])
  (λb _=>by
   rw[aj];generalize (mu K).code (.af (R.length+1) [1,11] zO)=F;simp[zO]) () trivial
 simp only[iO,afl]at key;refine⟨λq=>?_,λq=>?_⟩
 ·rw[(aT (λx:Rf=>used p x.al) p.az.l).1 q]at key;exact key.2
 ·rw[(aT (λx:Rf=>used p x.al) p.az.l).2 q]at key;exact key
theorem aee(p:Po)(hp:Sz p)(R:List Blk)(h:Heap) :
  (p.nodes.l.all (λn=>!(decide (n.k=9)) ||used p n.nm)=true->∃j3,(mu K).code (.af (R.length+1) [1,12] vO) ⟨[(1,.ptr (h.length,0) 0),(12,.int .i64 0)],(.box 26 false p.av::R)::h⟩=some (.exit 14,⟨j3,(.box 26 false p.av::R)::h⟩)) ∧
  (p.nodes.l.all (λn=>!(decide (n.k=9)) ||used p n.nm)=false->∃j3,(mu K).code (.af (R.length+1) [1,12] vO) ⟨[(1,.ptr (h.length,0) 0),(12,.int .i64 0)],(.box 26 false p.av::R)::h⟩=some (.ret,⟨j3,(.box 26 false p.av::R)::h⟩)∧get j3 2=.int .i64 9):=by
 have key:=aB (K:=K) (n:=R.length+1) (live:=[1,12]) (a:=vO) (λ(_:Unit) (x:Nd)=>if (!(decide (x.k=9)) ||used p x.nm)=true then (.inl ():Unit ⊕ Unit) else .inr ())
  (λj4 _=>⟨[(1,.ptr (h.length,0) 0),(12,.int .i64 (j4.length:Int))],(.box 26 false p.av::R)::h⟩) (λ_ _=>True)
  (λb o=>∃j3,o=some (.exit 14,⟨j3,(.box 26 false p.av::R)::h⟩))
  (λ_ o=>∃j3,o=some (.ret,⟨j3,(.box 26 false p.av::R)::h⟩)∧get j3 2=.int .i64 9) p.nodes.l
  (λj4 x r b hl _=>by
   obtain⟨h1,h2,w1⟩:=aA hl (by have:=hp.nodes.1;omega);have hix:=iaP Nd.av 6 p.nodes j4.length x (by simpa using h2);have k1:=λh=>f154 p hp x.nm h
   rw[aj];generalize (mu K).code (.af (R.length+1) [1,12] vO)=F;clear hl;by_cases hk:x.k=9
   ·have d:(x.k=9)=True:=by simp[hk]
    cases q:used p x.nm<;>simp[vO,KL,aa,h1,hix,w1,k1,d,q]
   ·simp[vO,h1,hix,w1,hk])
  (λb _=>by
   rw[aj];generalize (mu K).code (.af (R.length+1) [1,12] vO)=F;simp[vO]) () trivial
 simp only[iO,afl]at key;refine⟨λq=>?_,λq=>?_⟩
 ·rw[(aT (λn:Nd=>!(decide (n.k=9)) ||used p n.nm) p.nodes.l).1 q]at key;exact key.2
 ·rw[(aT (λn:Nd=>!(decide (n.k=9)) ||used p n.nm) p.nodes.l).2 q]at key;exact key

/-
  Names of a policy, and what occurs twice: the program.
-/
import Derived.Test.YtjnomgdildcbhaaGreatDoorAb4dP3
set_option linter.all false
set_option maxRecDepth 100000
set_option maxHeartbeats 1000000
namespace Go.Ab.Pn
open Go.Ab.Pol
def jc{α:Type}(kv:α->AV)(l:List α):List (AV×AV):=l.map λx=>(kv x,.bool true)
theorem nU{α:Type}[DecidableEq α]{kk:KK}{kv:α->AV}(H:∀x y,eqK kk (kv x) (kv y)=some (decide (x=y)))(x:α):∀l:List α,gI kk (kv x) (jc kv l)=some (if x∈l then some (.bool true) else none)
 | []=>rfl
 |y::l=>by
  have ih:=nU H x l;unfold jc at ih⊢;simp only[afj,gI,H];by_cases e:x=y
  ·subst e;simp
  ·simp[e,ih]
theorem rz{α:Type}[DecidableEq α]{kk:KK}{kv:α->AV}(H:∀x y,eqK kk (kv x) (kv y)=some (decide (x=y)))(x:α):∀l:List α,x∉l->uS kk (kv x) (.bool true) (jc kv l)=some (jc kv (l++[x]))
 | [],_=>rfl
 |y::l,h=>by
  simp only[afp,not_or]at h;have ih:=rz H x l h.2;unfold jc at ih⊢;simp only[afj,afo,uS,H];simp[h.1,ih]
theorem pI{α:Type}{kv:α->AV}(p:Loc->Bool)(l:List α):(jc kv l).all (λx=>x.2.aO p)=true:=by
 unfold jc;simp
theorem xM(x y:Bs):eqK (.one .str) (.str x) (.str y)=some (decide (x=y)):=rfl
theorem PB(x y:Rf):eqK (.st [.str,.str]) x.av y.av=some (decide (x=y)):=by
 obtain⟨a,b⟩:=x;obtain⟨c,d⟩:=y;simp only[eqK,dZ,eqF]
 congr 1
 rw[agt];simp
def twF{α:Type}[DecidableEq α](met:List α)(x:α):List α ⊕ Unit:=if x∈met then .inr () else .inl (met++[x])
theorem wq{α:Type}[DecidableEq α]:∀(l met:List α),met.Nodup->((met++l).Nodup->iter twF met l=.inl (met++l))∧(¬ (met++l).Nodup->iter twF met l=.inr ())
 | [],met,h=>⟨λ_=>by simp[iter],λq=>absurd h (by simpa using q)⟩
 |x::l,met,h=>by
  simp only[iter,twF];by_cases hx:x∈met
  ·rw[if_pos hx];refine⟨λq=>?_,λ_=>rfl⟩;have:=(aga.1 q).2.2 x hx x (by simp);exact absurd rfl this
  ·rw[if_neg hx];have hn:(met++[x]).Nodup:=by
    rw[aga];exact⟨h,by simp,λa ha b hb e=>by
     simp only[afO]at hb;rw[e,hb]at ha;exact hx ha⟩
   have ih:=wq l (met++[x]) hn;simpa using ih
theorem f112(nl:Bool)(l:List Bs)(hl:l.length<=1000000)(h:Heap):(mu K).fn 112 [lv nl (l.map AV.str)] h=some (.val (.bool (decide (¬ l.Nodup))) h):=by
 have key:=aB (K:=K) (n:=1) (live:=[3,7,8,9]) (a:=tX) twF
  (λj4 met=>⟨[(3,.mp (h.length,0)),(7,lv nl (l.map AV.str)),(8,.int .i64 (l.length:Int)),(9,.int .i64 (j4.length:Int))],[.map (jc AV.str met)]::h⟩) (λ_ _=>True)
  (λmet o=>∃j3,o=some (.exit 0,⟨j3,[.map (jc AV.str met)]::h⟩)) (λ_ o=>∃j3 Fr,o=some (.ret,⟨j3,Fr::h⟩)∧get j3 2=.bool true) l
  (λj4 x r met hl' _=>by
   obtain⟨h1,h2,w1⟩:=aA hl' (by omega);have hix:=λ(k:IntKind)=>nI (sz:=1) (nl:=nl) (l:=l.map AV.str) (k:=k) (j:=(j4.length:Int)) (v:=.str x) (by omega) (by simpa using h2) rfl
   have lk:=nU xM x met;have uk:=rz xM x met;rw[aj];generalize (mu K).code _=F;clear hl';unfold twF;by_cases hx:x∈met
   ·simp[tX,h1,hix,eqK,eqF,lk,hx]
   ·have uk:=uk hx;simp[tX,h1,hix,w1,eqK,eqF,lk,uk,hx])
  (λmet _=>by
   rw[aj];generalize (mu K).code _=F;simp[tX]) [] trivial
 simp only[iO,afl]at key;have e0:jc AV.str []=[]:=rfl;rw[aC (KX _ _ _) Zk rfl (by simp[SF])];obtain⟨t1,t2⟩:=wq l [] (by simp);simp only[afq]at t1 t2;by_cases hn:l.Nodup
 ·rw[t1 hn]at key;obtain⟨_,j3,k⟩:=key;rw[e0]at k;simp[SF,k,hn]
 ·rw[t2 hn]at key;obtain⟨j3,Fr,k,g2⟩:=key;rw[e0]at k;simp[SF,k,g2,hn]
theorem f113(nl:Bool)(l:List Rf)(hl:l.length<=1000000)(h:Heap):(mu K).fn 113 [lv nl (l.map Rf.av)] h=some (.val (.bool (decide (¬ l.Nodup))) h):=by
 have key:=aB (K:=K) (n:=1) (live:=[3,7,8,9]) (a:=tY) twF
  (λj4 met=>⟨[(3,.mp (h.length,0)),(7,lv nl (l.map Rf.av)),(8,.int .i64 (l.length:Int)),(9,.int .i64 (j4.length:Int))],[.map (jc Rf.av met)]::h⟩) (λ_ _=>True)
  (λmet o=>∃j3,o=some (.exit 0,⟨j3,[.map (jc Rf.av met)]::h⟩)) (λ_ o=>∃j3 Fr,o=some (.ret,⟨j3,Fr::h⟩)∧get j3 2=.bool true) l
  (λj4 x r met hl' _=>by
   obtain⟨h1,h2,w1⟩:=aA hl' (by omega);have hix:=λ(k:IntKind)=>nI (sz:=2) (nl:=nl) (l:=l.map Rf.av) (k:=k) (j:=(j4.length:Int)) (v:=x.av) (by omega) (by rw[afM,afy,h2];rfl) rfl
   have lk:=nU PB x met;have uk:=rz PB x met;have kq:=PB x x;have kr:=λp=>pI (kv:=Rf.av) p met
   have kr2:=λp=>pI (kv:=Rf.av) p (met++[x])
   rw[aj];generalize (mu K).code _=F;clear hl';unfold twF;by_cases hx:x∈met
   ·simp[tY,h1,hix,kq,lk,hx]
   ·have uk:=uk hx;simp[-List.all_eq_true,tY,h1,hix,w1,kq,lk,uk,hx,kr2])
  (λmet _=>by
   rw[aj];generalize (mu K).code _=F;simp[tY]) [] trivial
 simp only[iO,afl]at key;have e0:jc Rf.av []=[]:=rfl;rw[aC (KX _ _ _) Zl rfl (by simp[SG])];obtain⟨t1,t2⟩:=wq l [] (by simp);simp only[afq]at t1 t2;by_cases hn:l.Nodup
 ·rw[t1 hn]at key;obtain⟨_,j3,k⟩:=key;rw[e0]at k;simp[SG,k,hn]
 ·rw[t2 hn]at key;obtain⟨j3,Fr,k,g2⟩:=key;rw[e0]at k;simp[SG,k,g2,hn]
abbrev okU(u:Us):Prop:=okS u.al∧okS u.sc
abbrev okR(r:Rf):Prop:=okS r.al∧okS r.attr
structure Sz (p:Po):Prop where
 name:okS p.name
 scope:okS p.scope
 bt:okS p.bt
 uses:p.uses.l.length<=1000∧∀u∈p.uses.l,okU u
 az:p.az.l.length<=1000∧∀r∈p.az.l,okR r
 nodes:okP p
theorem vZ{α:Type}(g:α->Bool):∀(l:List α) (b:Bool),iter (λ(b:Bool) (x:α)=>(.inl (b&&g x):Bool ⊕ Unit)) b l=.inl (b&&l.all g)
 | [],b=>by simp[iter]
 |x::l,b=>by simp[iter,vZ g l,Bool.and_assoc]
theorem f110(p:Po)(hp:Sz p)(h:Heap):(mu K).fn 110 [p.av] h=some (.val (.bool (pJ p)) h):=by
 have k1:=λh=>f170 p.name hp.name h
 have k2:=λh=>f170 p.bt hp.bt h
 have k3:=λh=>f171 p.scope hp.scope h
 have kL:=λ(b0:Bool)=>aB (K:=K) (n:=1) (live:=[1,3,32,33,34]) (a:=qK) (λ(b:Bool) (u:Us)=>(.inl (b&&(aJ u.al&&aJ u.sc)):Bool ⊕ Unit))
  (λj4 b=>⟨[(1,.ptr (h.length,0) 0),(3,.bool b),(32,p.uses.avS Us.av),(33,.int .i64 (p.uses.l.length:Int)),(34,.int .i64 (j4.length:Int))],[.box 26 false p.av]::h⟩) (λ_ _=>True)
  (λb o=>∃j3,o=some (.exit 0,⟨j3,[.box 26 false p.av]::h⟩)∧get j3 1=.ptr (h.length,0) 0∧get j3 3=.bool b) (λ_ _=>False) p.uses.l
  (λj4 x r b hl _=>by
   obtain⟨h1,h2,w1⟩:=aA hl (by have:=hp.uses.1;omega);have hx:=hp.uses.2 x (by rw[hl];simp);have hix:=iaP Us.av 2 p.uses j4.length x (by simpa using h2);have q1:=λh=>f170 x.al hx.1 h
   have q2:=λh=>f170 x.sc hx.2 h
   rw[aj];generalize (mu K).code _=F;clear hl;refine⟨λb' e=>⟨trivial,?_⟩,λ_ e=>by cases e⟩;injection e with e
   subst e;cases b
   ·simp[qK,h1,hix,w1]
   ·cases c1:aJ x.al
    ·simp[qK,KL,aa,h1,hix,w1,q1,c1]
    ·simp[qK,KL,aa,h1,hix,w1,q1,q2,c1])
  (λb _=>by
   rw[aj];generalize (mu K).code _=F;simp[qK]) b0 trivial
 have dH:=λ(b0:Bool)=>aB (K:=K) (n:=1) (live:=[3,51,52,53]) (a:=qL) (λ(b:Bool) (u:Rf)=>(.inl (b&&(aJ u.al&&aJ u.attr)):Bool ⊕ Unit))
  (λj4 b=>⟨[(3,.bool b),(51,p.az.avS Rf.av),(52,.int .i64 (p.az.l.length:Int)),(53,.int .i64 (j4.length:Int))],[.box 26 false p.av]::h⟩) (λ_ _=>True)
  (λb o=>∃j3,o=some (.exit 2,⟨j3,[.box 26 false p.av]::h⟩)∧get j3 3=.bool b) (λ_ _=>False) p.az.l
  (λj4 x r b hl _=>by
   obtain⟨h1,h2,w1⟩:=aA hl (by have:=hp.az.1;omega);have hx:=hp.az.2 x (by rw[hl];simp);have hix:=iaP Rf.av 2 p.az j4.length x (by simpa using h2);have q1:=λh=>f170 x.al hx.1 h
   have q2:=λh=>f170 x.attr hx.2 h
   rw[aj];generalize (mu K).code _=F;clear hl;refine⟨λb' e=>⟨trivial,?_⟩,λ_ e=>by cases e⟩;injection e with e
   subst e;cases b
   ·simp[qL,h1,hix,w1]
   ·cases c1:aJ x.al
    ·simp[qL,KL,aa,h1,hix,w1,q1,c1]
    ·simp[qL,KL,aa,h1,hix,w1,q1,q2,c1])
  (λb _=>by
   rw[aj];generalize (mu K).code _=F;simp[qL]) b0 trivial
 simp only[vZ,iO,afl]at kL dH;obtain⟨_,e0,a0,a1,a2⟩:=kL (aJ p.name&&(decide (p.bt=[]) ||aJ p.bt)&&(decide (p.scope=[]) ||cw p.scope));obtain⟨_,e1,b0,b1⟩:=dH (aJ p.name&&(decide (p.bt=[]) ||aJ p.bt)&&(decide (p.scope=[]) ||cw p.scope)&&p.uses.l.all (λu=>aJ u.al&&aJ u.sc));have en:pJ p=(aJ p.name&&(decide (p.bt=[]) ||aJ p.bt)&&(decide (p.scope=[]) ||cw p.scope)&&p.uses.l.all (λu=>aJ u.al&&aJ u.sc)&&p.az.l.all (λr=>aJ r.al&&aJ r.attr)):=rfl;rw[en];generalize p.uses.l.all (λu=>aJ u.al&&aJ u.sc)=A at *
 generalize p.az.l.all (λr=>aJ r.al&&aJ r.attr)=B at *
 rw[aC (KX _ _ _) Zi rfl (by simp[GV])];cases c1:aJ p.name
 ·simp only[c1,agH]at *
  simp[GV,KL,aa,k1,a0,a1,a2,b0,b1]
 ·by_cases c2:p.bt=[]
  ·have d2:(p.bt=[])=True:=by simp[c2]
   by_cases c3:p.scope=[]
   ·have d3:(p.scope=[])=True:=by simp[c3]
    simp only[c1,d2,d3,decide_true,Bool.true_or,afS,agA]at a0 a2 b0 b1;simp[GV,KL,aa,k1,c1,d2,d3,a0,a1,a2,b0,b1]
   ·have d3:(p.scope=[])=False:=by simp[c3]
    simp only[c1,d2,d3,decide_true,decide_false,agy,Bool.true_or,afS,agA]at a0 a2 b0 b1;simp[GV,KL,aa,k1,k3,c1,d2,d3,a0,a1,a2,b0,b1]
  ·have d2:(p.bt=[])=False:=by simp[c2]
   cases c4:aJ p.bt
   ·simp only[c1,c4,d2,decide_false,agy,afS,agH]at a0 a2 b0 b1;simp[GV,KL,aa,k1,k2,c1,c4,d2,a0,a1,a2,b0,b1]
   ·by_cases c3:p.scope=[]
    ·have d3:(p.scope=[])=True:=by simp[c3]
     simp only[c1,c4,d2,d3,decide_true,decide_false,agy,Bool.true_or,afS,agA]at a0 a2 b0 b1;simp[GV,KL,aa,k1,k2,c1,c4,d2,d3,a0,a1,a2,b0,b1]
    ·have d3:(p.scope=[])=False:=by simp[c3]
     simp only[c1,c4,d2,d3,decide_false,agy,afS,agA]at a0 a2 b0 b1;simp[GV,KL,aa,k1,k2,k3,c1,c4,d2,d3,a0,a1,a2,b0,b1]
def BZ(s:Bs)(_:Unit)(x:Bs):Unit ⊕ Unit:=if s=x then .inr () else .inl ()
theorem iX(s:Bs):∀l:List Bs,(s∈l->iter (BZ s) () l=.inr ())∧(s∉l->iter (BZ s) () l=.inl ())
 | []=>⟨λh=>by simp at h,λ_=>rfl⟩
 |x::l=>by
  have ih:=iX s l;simp only[iter,BZ];by_cases e:s=x
  ·rw[if_pos e];exact⟨λ_=>rfl,λh=>absurd (by simp[e]) h⟩
  ·rw[if_neg e];exact⟨λh=>ih.1 (by simpa[e]using h),λh=>ih.2 (λq=>h (by simp[q]))⟩
theorem f174(nl:Bool)(l:List Bs)(s:Bs)(hl:l.length<=1000000)(h:Heap):∃i:Int,(mu K).fn 174 [lv nl (l.map AV.str),.str s] h=some (.val (.int .i64 i) h)∧decide (0<=i)=decide (s∈l):=by
 have key:=aB (K:=K) (n:=0) (live:=[0,1,7,8]) (a:=uE) (BZ s)
  (λj4 _=>⟨[(0,lv nl (l.map AV.str)),(1,.str s),(7,.int .i64 (l.length:Int)),(8,.int .i64 (j4.length:Int))],[]::h⟩) (λ_ _=>True)
  (λ_ o=>∃j3,o=some (.exit 0,⟨j3,[]::h⟩)) (λ_ o=>∃j3 i,o=some (.ret,⟨j3,[]::h⟩)∧get j3 4=.int .i64 i∧0<=i) l
  (λj4 x r b hl' _=>by
   obtain⟨h1,h2,w1⟩:=aA hl' (by omega);have hix:=λ(k:IntKind)=>nI (sz:=1) (nl:=nl) (l:=l.map AV.str) (k:=k) (j:=(j4.length:Int)) (v:=.str x) (by omega) (by simpa using h2) rfl
   rw[aj];generalize (mu K).code _=F;clear hl';unfold BZ;by_cases hx:s=x
   ·have d:(s=x)=True:=by simp[hx]
    simp[uE,h1,hix,d]
   ·simp[uE,h1,hix,w1,hx])
  (λb _=>by
   rw[aj];generalize (mu K).code _=F;simp[uE]) () trivial
 simp only[iO,afl]at key;rw[aC (KX _ _ _) Z4 rfl (by simp[SN])];by_cases hm:s∈l
 ·rw[(iX s l).1 hm]at key;obtain⟨j3,i,k,g4,hi⟩:=key;exact⟨i,by simp[SN,k,g4],by simp[hi,hm]⟩
 ·rw[(iX s l).2 hm]at key;obtain⟨_,j3,k⟩:=key;exact⟨-1,by simp[SN,k],by simp[hm]⟩
theorem f115(nl:Bool)(l:List Bs)(s:Bs)(hl:l.length<=1000000)(h:Heap):(mu K).fn 115 [lv nl (l.map AV.str),.str s] h=some (.val (.bool (decide (s∈l))) h):=by
 obtain⟨i,k,hi⟩:=f174 nl l s hl ([]::h);rw[aC (KX _ _ _) Zn rfl (by simp[VI])];simp[VI,KL,aa,k,hi]
theorem f114(s:Bs)(l:List Bs)(hl:l.length<=1000000)(b0:Blk)(R:List Blk)(h:Heap) :
  (mu K).fn 114 [.str s,.ptr (h.length,2) 0] ((b0::.arr 9 1 true (l.map AV.str)::.box 48 false (.own (h.length,1) l.length)::R)::h) =
   some (.val (.bool (decide (s∈l))) ((b0::.arr 9 1 true (l.map AV.str)::.box 48 false (.own (h.length,1) l.length)::R)::h)):=by
 have k:=λh=>f115 false l s hl h
 simp only[lR]at k;rw[aC (KX _ _ _) Zm rfl (by simp[VH])];simp[VH,KL,aa,k]
theorem Hj(p:Po)(s:Bs):decide (s∈p.uses.l.map Us.al)=used p s:=by
 unfold used;rw[agt];simp
theorem aT{α:Type}(g:α->Bool):∀l:List α,(l.all g=true->iter (λ(_:Unit) (x:α)=>if g x=true then (.inl ():Unit ⊕ Unit) else .inr ()) () l=.inl ())∧(l.all g=false->iter (λ(_:Unit) (x:α)=>if g x=true then (.inl ():Unit ⊕ Unit) else .inr ()) () l=.inr ())
 | []=>⟨λ_=>rfl,λh=>by cases h⟩
 |x::l=>by
  have ih:=aT g l;simp only[iter,af9];by_cases e:g x=true
  ·simp only[e,if_true,afS];exact ih
  ·have e:g x=false:=by simpa using e
   simp[e]
abbrev alB(T s:Nat)(vw:Bool)(l:List Bs):Blk:=.arr T s vw (l.map AV.str)
theorem f51(p:Po)(hp:Sz p)(h:Heap):(mu K).fn 51 [p.av] h=some (.val (.int .i64 (chk p)) h):=by
  have k64:=λh=>f110 p hp h
  have k65:=λh=>f111 p hp.nodes h
  have kL:=aB (K:=K) (n:=3) (live:=[1, 4, 61, 62, 63]) (a:=Bq) (λ(l:List Bs) (u:Us)=>(.inl (l++[u.al]):List Bs ⊕ Unit))
    (λj4 l=>⟨[(1, .ptr (h.length, 0) 0), (4, .ptr (h.length, 2) 0), (61, p.uses.avS Us.av), (62, .int .i64 (p.uses.l.length:Int)), (63, .int .i64 (j4.length:Int))],
      [.box 26 false p.av, alB (if j4=[] then 0 else 9) (if j4=[] then 0 else 1) false l, .box 48 false (.own (h.length, 1) l.length)]::h⟩) (λj4 l=>l=j4.map Us.al)
    (λl o=>∃j3, o=some (.exit 0, ⟨j3, [.box 26 false p.av, alB (if p.uses.l=[] then 0 else 9) (if p.uses.l=[] then 0 else 1) false l, .box 48 false (.own (h.length, 1) l.length)]::h⟩)∧get j3 1=.ptr (h.length, 0) 0∧get j3 4=.ptr (h.length, 2) 0) (λ_ _=>False) p.uses.l
    (λj4 x r l hl hi=>by
      obtain⟨h1, h2, w1⟩:=aA hl (by have:=hp.uses.1;omega);have hb:=hp.uses.1;have hll:l.length=j4.length:=by rw[hi];simp
      have hlt : l.length < 1000 := by have : p.uses.l.length = j4.length + (r.length + 1) := by rw [hl]; simp
                                       omega
      have hix:=iaP Us.av 2 p.uses j4.length x (by simpa using h2);have r1:(l.length+1)*16<=room:=by unfold room;omega
      have r2:l.length+1<=room:=by unfold room;omega
      rw[aj];generalize (mu K).code _=F;clear hl;refine⟨λb' e=>?_, λ_ e=>by cases e⟩;injection e with e
      subst e;refine⟨by rw[hi];simp, ?_⟩;by_cases hpre:j4=[]
      · have d:(j4=[])=True:=by simp[hpre]
        simp[Bq, h1, hix, w1, r1, r2, d, List.replicate, alB]
      · simp[Bq, h1, hix, w1, r1, r2, hpre, List.replicate, alB])
    (λb _=>by
      rw[aj];generalize (mu K).code _=F;simp[Bq]) [] rfl
  have hF:∀(l:List Bs) (R:List Blk), l.length<=1000000->∀s, (mu K).fn 114 [.str s, .ptr (h.length, 2) 0] ((.box 26 false p.av::.arr 9 1 true (l.map AV.str)::.box 48 false (.own (h.length, 1) l.length)::R)::h) =
      some (.val (.bool (decide (s∈l))) ((.box 26 false p.av::.arr 9 1 true (l.map AV.str)::.box 48 false (.own (h.length, 1) l.length)::R)::h)):=λl R hl s=>f114 s l hl _ R h
  have hal:(p.uses.l.map Us.al).length<=1000000:=by have:=hp.uses.1;simp;omega
  have dH:=aB (K:=K) (n:=3) (live:=[1, 7, 82, 83, 84]) (a:=Br) (λ(_:Unit) (r:Rf)=>if used p r.al=true then (.inl ():Unit ⊕ Unit) else .inr ())
    (λj4 _=>⟨[(1, .ptr (h.length, 0) 0), (7, .fn (.func 114) [] [.ptr (h.length, 2) 0]), (82, p.az.avS Rf.av), (83, .int .i64 (p.az.l.length:Int)), (84, .int .i64 (j4.length:Int))],
      [.box 26 false p.av, alB 9 1 true (p.uses.l.map Us.al), .box 48 false (.own (h.length, 1) p.uses.l.length)]::h⟩) (λ_ _=>True)
    (λ_ o=>∃j3, o=some (.exit 2, ⟨j3, [.box 26 false p.av, alB 9 1 true (p.uses.l.map Us.al), .box 48 false (.own (h.length, 1) p.uses.l.length)]::h⟩)∧get j3 1=.ptr (h.length, 0) 0∧get j3 7=.fn (.func 114) [] [.ptr (h.length, 2) 0])
    (λ_ o=>∃j3 Fr, o=some (.ret, ⟨j3, Fr::h⟩)∧get j3 2=.int .i64 9) p.az.l
    (λj4 x r l hl _=>by
      obtain⟨h1, h2, w1⟩:=aA hl (by have:=hp.az.1;omega);have hix:=iaP Rf.av 2 p.az j4.length x (by simpa using h2);have q:=hF (p.uses.l.map Us.al) [.box 54 false x.av] hal x.al;rw[Hj]at q;simp only[afv]at q;rw[aj];generalize (mu K).code _=F;clear hl;cases c:used p x.al
      · rw[c]at q
        simp only[af0]at q;simp[Br, KL, aa, h1, hix, q, alB]
      · rw[c]at q
        simp only[af0]at q;simp[Br, KL, aa, h1, hix, w1, q, alB])
    (λb _=>by
      rw[aj];generalize (mu K).code _=F;simp[Br]) () trivial
  have lS:=aB (K:=K) (n:=3) (live:=[7, 95, 96, 97]) (a:=zM) (λ(_:Unit) (n:Nd)=>if (!(decide (n.k=9)) ||used p n.nm)=true then (.inl ():Unit ⊕ Unit) else .inr ())
    (λj4 _=>⟨[(7, .fn (.func 114) [] [.ptr (h.length, 2) 0]), (95, p.nodes.avS Nd.av), (96, .int .i64 (p.nodes.l.length:Int)), (97, .int .i64 (j4.length:Int))],
      [.box 26 false p.av, alB 9 1 true (p.uses.l.map Us.al), .box 48 false (.own (h.length, 1) p.uses.l.length)]::h⟩) (λ_ _=>True)
    (λ_ o=>∃j3, o=some (.exit 4, ⟨j3, [.box 26 false p.av, alB 9 1 true (p.uses.l.map Us.al), .box 48 false (.own (h.length, 1) p.uses.l.length)]::h⟩))
    (λ_ o=>∃j3 Fr, o=some (.ret, ⟨j3, Fr::h⟩)∧get j3 2=.int .i64 9) p.nodes.l
    (λj4 x r l hl _=>by
      obtain⟨h1, h2, w1⟩:=aA hl (by have:=hp.nodes.1;omega);have hix:=iaP Nd.av 6 p.nodes j4.length x (by simpa using h2);have q:=hF (p.uses.l.map Us.al) [.box 90 false x.av] hal x.nm;rw[Hj]at q;simp only[afv, af0]at q;rw[aj];generalize (mu K).code _=F;clear hl;by_cases hk:x.k=9
      · have d:(x.k=9)=True:=by simp[hk]
        cases c:used p x.nm
        · rw[c]at q
          simp[zM, KL, aa, h1, hix, q, alB, d]
        · rw[c]at q
          simp[zM, KL, aa, h1, hix, w1, q, alB, d]
      · simp[zM, h1, hix, w1, alB, hk])
    (λb _=>by
      rw[aj];generalize (mu K).code _=F;simp[zM]) () trivial
  have k66:=λh=>f112 false (p.uses.l.map Us.al) hal h
  simp only[lR, af0]at k66;have k67:∀h, (mu K).fn 113 [p.az.avS Rf.av] h=some (.val (.bool (decide (¬ p.az.l.Nodup))) h):=λh=>f113 p.az.nl p.az.l (by have:=hp.az.1;omega) h
  have it0:iter (λ(l:List Bs) (u:Us)=>(.inl (l++[u.al]):List Bs ⊕ Unit)) [] p.uses.l=.inl (p.uses.l.map Us.al):=by
    have:∀(us:List Us) (l:List Bs), iter (λ(l:List Bs) (u:Us)=>(.inl (l++[u.al]):List Bs ⊕ Unit)) l us=.inl (l++us.map Us.al):=by
      intro us
      induction us with
      |nil=>intro l;simp[iter]
      |cons u us ih=>intro l;simp[iter, ih]
    simpa using this p.uses.l []
  rw[it0]at kL;obtain⟨_, JG, a0, a1, a4⟩:=kL;simp only[iO, afl, if_true, alB, afw, afv, af0]at a0 dH lS;rw[aC (KX _ _ _) adM rfl (by simp[c51])];unfold chk;by_cases c1:512<p.nodes.l.length
  · have d1:(512:Int)<(p.nodes.l.length:Int):=by omega
    simp[c51, c1, d1]
  have d1:¬ (512:Int)<(p.nodes.l.length:Int):=by omega
  by_cases c2:p.uses.l.length<1
  · have d2:(p.uses.l.length:Int)<1:=by omega
    rw[if_pos (.inr (.inl c2))];simp[c51, d1, d2]
  have d2:¬ (p.uses.l.length:Int)<1:=by omega
  by_cases c3:4<p.uses.l.length
  · have d3:(4:Int)<(p.uses.l.length:Int):=by omega
    rw[if_pos (.inr (.inr (.inl c3)))];simp[c51, d1, d2, d3]
  have d3:¬ (4:Int)<(p.uses.l.length:Int):=by omega
  by_cases c4:64<p.az.l.length
  · have d4:(64:Int)<(p.az.l.length:Int):=by omega
    rw[if_pos (.inr (.inr (.inr c4)))];simp[c51, d1, d2, d3, d4]
  have d4:¬ (64:Int)<(p.az.l.length:Int):=by omega
  rw[if_neg (by omega)];cases c5:pJ p
  · simp[c51, KL, aa, d1, d2, d3, d4, k64, c5]
  rw[if_neg (by simp)];by_cases c6:p.limit<0
  · rw[if_pos (.inl c6)]
    simp[c51, KL, aa, d1, d2, d3, d4, k64, c5, c6]
  by_cases c7:65536<p.limit
  · rw[if_pos (.inr (.inl c7))]
    simp[c51, KL, aa, d1, d2, d3, d4, k64, c5, c6, c7]
  by_cases c8:0<p.limit∧p.scope=[]
  · rw[if_pos (.inr (.inr c8))]
    have e8:(p.scope=[])=True:=by simp[c8.2]
    have e9:=c8.1;simp[c51, KL, aa, d1, d2, d3, d4, k64, c5, c6, c7, e8, e9]
  rw[if_neg (by rintro (q|q|q);exact c6 q;exact c7 q;exact c8 q)];have lim:(0<p.limit)=False∨((0<p.limit)=True∧(p.scope=[])=False):=by
    by_cases q:0<p.limit
    · exact .inr ⟨by simp[q], by simp;exact λe=>c8 ⟨q, e⟩⟩
    · exact .inl (by simp;omega)
  by_cases ht:mM p=0
  case neg=>
    rw[if_pos ht];rcases lim with l1|⟨l1, l2⟩
    · simp[c51, KL, aa, d1, d2, d3, d4, k64, c5, c6, c7, k65, l1, ht]
    · simp[c51, KL, aa, d1, d2, d3, d4, k64, c5, c6, c7, k65, l1, l2, ht]
  rw[if_neg (by simp[ht])];have hu:¬ p.uses.l=[]:=λe=>by rw[e]at c2;simp at c2
  simp only[hu, if_false]at a0;have hd:mM p=0:=ht;by_cases n1:(p.uses.l.map Us.al).Nodup
  case neg=>
    rw[if_pos (.inl n1)];rcases lim with l1|⟨l1, l2⟩
    · simp[c51, KL, aa, d1, d2, d3, d4, k64, c5, c6, c7, k65, l1, hd, a0, a4, k66, n1]
    · simp[c51, KL, aa, d1, d2, d3, d4, k64, c5, c6, c7, k65, l1, l2, hd, a0, a4, k66, n1]
  by_cases n2:p.az.l.Nodup
  case neg=>
    rw[if_pos (.inr n2)];rcases lim with l1|⟨l1, l2⟩
    · simp[c51, KL, aa, d1, d2, d3, d4, k64, c5, c6, c7, k65, l1, hd, a0, a1, a4, k66, k67, n1, n2]
    · simp[c51, KL, aa, d1, d2, d3, d4, k64, c5, c6, c7, k65, l1, l2, hd, a0, a1, a4, k66, k67, n1, n2]
  rw[if_neg (by rintro (q|q);exact q n1;exact q n2)];cases r1:p.az.l.all (λr=>used p r.al)
  · rw[(aT (λr:Rf=>used p r.al) p.az.l).2 r1]at dH
    obtain⟨iZ, Fr, b0, b2⟩:=dH;rcases lim with l1|⟨l1, l2⟩
    · simp[c51, KL, aa, d1, d2, d3, d4, k64, c5, c6, c7, k65, l1, hd, a0, a1, a4, k66, k67, n1, n2, b0, b2]
    · simp[c51, KL, aa, d1, d2, d3, d4, k64, c5, c6, c7, k65, l1, l2, hd, a0, a1, a4, k66, k67, n1, n2, b0, b2]
  rw[(aT (λr:Rf=>used p r.al) p.az.l).1 r1]at dH;obtain⟨_, iZ, b0, b1, b7⟩:=dH;cases r2:p.nodes.l.all (λn=>!(decide (n.k=9)) ||used p n.nm)
  · rw[(aT (λn:Nd=>!(decide (n.k=9)) ||used p n.nm) p.nodes.l).2 r2]at lS
    obtain⟨jA, Fr, e0, e2⟩:=lS;rcases lim with l1|⟨l1, l2⟩
    · simp[c51, KL, aa, d1, d2, d3, d4, k64, c5, c6, c7, k65, l1, hd, a0, a1, a4, k66, k67, n1, n2, b0, b1, b7, e0, e2]
    · simp[c51, KL, aa, d1, d2, d3, d4, k64, c5, c6, c7, k65, l1, l2, hd, a0, a1, a4, k66, k67, n1, n2, b0, b1, b7, e0, e2]
  rw[(aT (λn:Nd=>!(decide (n.k=9)) ||used p n.nm) p.nodes.l).1 r2]at lS;obtain⟨_, jA, e0⟩:=lS;rcases lim with l1 |⟨l1, l2⟩
  · simp[c51, KL, aa, d1, d2, d3, d4, k64, c5, c6, c7, k65, l1, hd, a0, a1, a4, k66, k67, n1, n2, b0, b1, b7, e0]
  · simp[c51, KL, aa, d1, d2, d3, d4, k64, c5, c6, c7, k65, l1, l2, hd, a0, a1, a4, k66, k67, n1, n2, b0, b1, b7, e0]
def qE(n:Int):Bool:=dG n ||fc n ||decide (n=95)
theorem f232(n:Int)(h:Heap):(mu K).fn 232 [.int .u8 n] h=some (.val (.bool (dG n)) h):=by
 rw[aC (KX _ _ _) aaI rfl (by simp[Wa])];unfold dG;by_cases a:97<=n<;>by_cases b:n<=122<;>by_cases c:65<=n<;>by_cases d:n<=90<;>simp[Wa,a,b,c,d]
theorem f252(n:Int)(h:Heap):(mu K).fn 252 [.int .u8 n] h=some (.val (.bool (fc n)) h):=by
 rw[aC (KX _ _ _) aaW rfl (by simp[Wh])];unfold fc;by_cases a:48<=n<;>by_cases b:n<=57<;>simp[Wh,a,b]
theorem f234(n:Int)(h:Heap):(mu K).fn 234 [.int .u8 n] h=some (.val (.bool (qE n)) h):=by
 have k1:=λh=>f232 n h
 have k2:=λh=>f252 n h
 rw[aC (KX _ _ _) aaK rfl (by simp[Nc])];unfold qE;cases a:dG n
 ·cases b:fc n
  ·by_cases c:n=95
   ·have d:(n=95)=True:=by simp[c]
    simp[Nc,KL,aa,k1,k2,a,b,d]
   ·simp[Nc,KL,aa,k1,k2,a,b,c]
  ·simp[Nc,KL,aa,k1,k2,a,b]
 ·simp[Nc,KL,aa,k1,a]
theorem f259(n:Int)(h:Heap):(mu K).fn 259 [.int .u8 n] h=some (.val (.bool (qE n ||decide (n=45))) h):=by
 have k1:=λh=>f234 n h
 rw[aC (KX _ _ _) aa1 rfl (by simp[OX])];cases a:qE n
 ·by_cases c:n=45
  ·have d:(n=45)=True:=by simp[c]
   simp[OX,KL,aa,k1,a,d]
  ·simp[OX,KL,aa,k1,a,c]
 ·simp[OX,KL,aa,k1,a]
theorem f233(g:FuncId)(pr:Int->Bool)(hg:∀n h,(mu K).fn g [.int .u8 n] h=some (.val (.bool (pr n)) h))(s:Bs)(hs:okS s)(h:Heap) :
  (mu K).fn 233 [.str s,.fn (.func g) [] []] h=some (.val (.bool (s.all λc=>pr (c.toNat:Int))) h):=by
 have key:=aB (K:=K) (n:=0) (live:=[0,1,7,8]) (a:=uK) (λ(_:Unit) (c:UInt8)=>if pr (c.toNat:Int)=true then (.inl ():Unit ⊕ Unit) else .inr ())
  (λj4 b=>⟨[(0,.str s),(1,.fn (.func g) [] []),(7,.int .i64 (s.length:Int)),(8,.int .i64 (j4.length:Int))],[]::h⟩) (λj4 b=>True)
  (λb o=>∃j3,o=some (.exit 0,⟨j3,[]::h⟩)) (λ_ o=>∃j3,o=some (.ret,⟨j3,[]::h⟩)∧get j3 4=.bool false) s
  (λj4 x r b hl hb=>by
   obtain⟨h1,h2,w1⟩:=aA hl hs;have k:=λh=>hg (x.toNat:Int) h
   rw[aj];generalize (mu K).code _=F;clear hb hl;cases c:pr (x.toNat:Int)
   ·simp[uK,KL,aa,h1,h2,k,c]
   ·simp[uK,KL,aa,h1,h2,w1,k,c])
  (λb _=>by
   rw[aj];generalize (mu K).code _=F;simp[uK]) () trivial
 simp only[iO,afl]at key;rw[aC (KX _ _ _) aaJ rfl (by simp[S3])];cases hn:s.all (λc=>pr (c.toNat:Int))
 ·rw[(aT (λc:UInt8=>pr (c.toNat:Int)) s).2 hn]at key;obtain⟨j3,k,g⟩:=key;simp[S3,k,g]
 ·rw[(aT (λc:UInt8=>pr (c.toNat:Int)) s).1 hn]at key;obtain⟨_,j3,k⟩:=key;simp[S3,k]
theorem f235(s:Bs)(h:Heap):(mu K).fn 235 [.str s] h=some (.val (.bool (kw s)) h):=by
 have k:=λh=>f115 false kws s (by decide) h
 simp only[lR]at k;have e:kws.map AV.str=[.str [112,111,108,105,99,121],.str [117,115,101,115],.str [114,101,118,101,97,108],.str [112,114,111,118,101],.str [115,99,111,112,101],.str [108,105,109,105,116],.str [101,115,99,114,111,119],.str [101,110,100],.str [97,108,108],.str [97,110,121],.str [97,116,108,101,97,115,116],.str [110,111,116],.str [116,114,117,101],.str [102,97,108,115,101],.str [98,101,116,119,101,101,110],.str [97,110,100],.str [105,110]]:=rfl;rw[e]at k;rw[aC (KX _ _ _) aaL rfl (by simp[Wb])];unfold kw;generalize decide (s∈kws)=b at *
 simp[Wb,KL,aa,k]
theorem Ej:∀s:Bs,qD false s=s.all λc=>qE (c.toNat:Int)
 | []=>rfl
 |c::s=>by
  simp only[qD,af9,Ej s,pz,qE];cases dG (c.toNat:Int)<;>cases fc (c.toNat:Int)<;>cases decide ((c.toNat:Int)=95)<;>rfl
theorem Ek:∀s:Bs,qW s=s.all λc=>(qE (c.toNat:Int) ||decide ((c.toNat:Int)=45))
 | []=>rfl
 |c::s=>by
  simp only[qW,af9,Ek s,pE,qE];cases dG (c.toNat:Int)<;>cases fc (c.toNat:Int)<;>cases decide ((c.toNat:Int)=95)<;>cases decide ((c.toNat:Int)=45)<;>rfl
theorem f179(s:Bs)(hs:okS s)(h:Heap):(mu K).fn 179 [.str s] h=some (.val (.bool (aJ s)) h):=by
 have k1:=λh=>f233 234 qE f234 s hs h
 have k2:=λh=>f235 s h
 rw[aC (KX _ _ _) Z5 rfl (by simp[Jz])];cases s with
 |nil=>simp[Jz,aJ]
 |cons c r=>
  have k3:=λh=>f232 (c.toNat:Int) h
  by_cases e3:r.length+1<=32
  case neg=>
   have e4:aJ (c::r)=false:=by simp only[aJ,Io,decide_eq_false e3];simp
   have e5:((r.length:Int)+1<=32)=False:=by simp;omega
   rw[e4];simp[Jz,e5]
  have e5:((r.length:Int)+1<=32)=True:=by simp;omega
  have e6:(r.length<=31)=True:=by simp;omega
  cases a:dG (c.toNat:Int)
  ·have e4:aJ (c::r)=false:=by simp[aJ,qD,pz,a]
   rw[e4];simp[Jz,KL,aa,e5,k3,a]
  have e7:aJ (c::r)=(((c::r).all λc=>qE (c.toNat:Int)) && !kw (c::r)):=by
   simp only[aJ,qD,pz,a,Bool.true_or,afS,Ej,af9,Io,decide_eq_true e3,agA,qE];simp
  rw[e7];generalize ((c::r).all λc=>qE (c.toNat:Int))=b1 at *
  generalize kw (c::r)=b2 at *
  cases b1
  ·simp[Jz,KL,aa,e5,k3,a,k1]
  ·simp[Jz,KL,aa,e5,k3,a,k1,k2]
theorem f253(s:Bs)(hs:okS s)(h:Heap):(mu K).fn 253 [.str s] h=some (.val (.bool (cw s)) h):=by
 have k1:=λh=>f233 259 _ f259 s hs h
 rw[<-Ek]at k1;rw[aC (KX _ _ _) aaX rfl (by simp[OV])];unfold cw;generalize qW s=b at *
 by_cases e1:s=[]
 ·have d1:(s=[])=True:=by simp[e1]
  simp[OV,d1]
 ·by_cases e2:(s.length:Int)<=32
  ·have e3:s.length<=32:=by omega
   simp[OV,KL,aa,k1,e1,e2,e3]
  ·have e3:¬ s.length<=32:=by omega
   simp[OV,e1,e2,e3]
structure abk (f:Pol.Fd):Prop where
 name:okS f.name
 len:f.words.l.length<=1000
 words:∀w∈f.words.l,okS w
structure WC (s:Sc):Prop where
 name:okS s.name
 len:s.fields.l.length<=1000
 fields:∀f∈s.fields.l,abk f
def wdF(met:List Bs)(w:Bs):List Bs ⊕ Int:=if cw w=false then .inr 1 else if w∈met then .inr 8 else .inl (met++[w])
theorem FD:∀(l met:List Bs),iter wdF met l=if nH met l=0 then .inl (met++l) else .inr (nH met l)
 | [],met=>by simp[iter,nH]
 |w::l,met=>by
  simp only[iter,wdF,nH];by_cases a:cw w=false
  ·simp[a]
  ·simp only[a];by_cases b:w∈met
   ·simp[b]
   ·have e:=FD l (met++[w]);simp[b,e]
theorem f236(s:Sl Bs)(h1:s.l.length<=1000)(h2:∀w∈s.l,okS w)(h:Heap):(mu K).fn 236 [s.avS .str] h=some (.val (.int .i64 (nG s.l)) h):=by
 have key:=aB (K:=K) (n:=1) (live:=[3,15,16,17]) (a:=qR) wdF
  (λj4 met=>⟨[(3,.mp (h.length,0)),(15,s.avS .str),(16,.int .i64 (s.l.length:Int)),(17,.int .i64 (j4.length:Int))],[.map (jc AV.str met)]::h⟩) (λ_ _=>True)
  (λmet o=>∃j3,o=some (.exit 0,⟨j3,[.map (jc AV.str met)]::h⟩)) (λe o=>∃j3 Fr,o=some (.ret,⟨j3,Fr::h⟩)∧get j3 2=.int .i64 e) s.l
  (λj4 x r met hl' _=>by
   obtain⟨g1,g2,w1⟩:=aA hl' (by omega);have hix:=iaP AV.str 1 s j4.length x (by simpa using g2);have lk:=nU xM x met;have uk:=rz xM x met;have kw:=λh=>f253 x (h2 x (by rw[hl'];simp)) h
   rw[aj];generalize (mu K).code _=F;clear hl';unfold wdF;cases a:cw x
   ·simp[qR,KL,aa,g1,hix,kw,a]
   by_cases hx:x∈met
   ·simp[qR,KL,aa,g1,hix,kw,a,eqK,eqF,lk,hx]
   ·have uk:=uk hx;simp[qR,KL,aa,g1,hix,w1,kw,a,eqK,eqF,lk,uk,hx])
  (λmet _=>by
   rw[aj];generalize (mu K).code _=F;simp[qR]) [] trivial
 simp only[iO,afl]at key;have e0:jc AV.str []=[]:=rfl;rw[FD]at key;simp only[e0]at key;rw[aC (KX _ _ _) aaM rfl (by simp[Nf])];unfold nG;by_cases c1:s.l.length<1
 ·have d1:(s.l.length:Int)<1:=by omega
  rw[if_pos (.inl c1)];simp[Nf,d1]
 have d1:¬ (s.l.length:Int)<1:=by omega
 by_cases c2:64<s.l.length
 ·have d2:(64:Int)<(s.l.length:Int):=by omega
  rw[if_pos (.inr c2)];simp[Nf,d1,d2]
 have d2:¬ (64:Int)<(s.l.length:Int):=by omega
 rw[if_neg (by omega)];by_cases hn:nH [] s.l=0
 ·rw[if_pos hn]at key;obtain⟨_,j3,k⟩:=key;simp[Nf,d1,d2,k,hn]
 ·rw[if_neg hn]at key;obtain⟨j3,Fr,k,g2⟩:=key;simp[Nf,d1,d2,k,g2]
theorem f180(f:Pol.Fd)(hf:abk f)(h:Heap):(mu K).fn 180 [f.av] h=some (.val (.int .i64 (bN f)) h):=by
 have k1:=λh=>f236 f.words hf.len hf.words h
 obtain⟨name,kind,mn,mx,words⟩:=f;simp only at k1;rw[aC (KX _ _ _) Z6 rfl (by simp[BV])];unfold bN;by_cases c0:kind=0
 ·have d0:(kind=0)=True:=by simp[c0]
  by_cases c1:words.l=[]
  case neg=>
   have e1:0<(words.l.length:Int):=by
    have:0<words.l.length:=agz.2 c1;omega
   have e2:0<words.l.length:=by omega
   simp[BV,d0,c1,e2]
  have e1:words.l.length=0:=by simp[c1]
  have dd:(words.l=[])=True:=by simp[c1]
  by_cases c2:mn < -2147483648
  ·simp[BV,d0,dd,e1,c2]
  by_cases c3:2147483647<mx
  ·simp[BV,d0,dd,e1,c2,c3]
  by_cases c4:mx<mn
  ·simp[BV,d0,dd,e1,c2,c3,c4]
  ·simp[BV,d0,dd,e1,c2,c3,c4]
 by_cases c1:kind=1
 ·have d1:(kind=1)=True:=by simp[c1]
  have d0:(kind=0)=False:=by simp[c0]
  by_cases c2:mn=0
  case neg=>
   simp[BV,d0,d1,c2]
  have d2:(mn=0)=True:=by simp[c2]
  by_cases c3:mx=0
  case neg=>
   simp[BV,d0,d1,d2,c3]
  have d3:(mx=0)=True:=by simp[c3]
  simp[BV,KL,aa,d0,d1,d2,d3,k1]
 ·simp[BV,c0,c1]
def fdF(met:List Bs)(f:Pol.Fd):List Bs ⊕ Int:=if aJ f.name=false then .inr 1 else if f.name∈met then .inr 8 else if bN f≠0 then .inr (bN f) else .inl (met++[f.name])
theorem FN:∀(l:List Pol.Fd) (met:List Bs),iter fdF met l=if gj met l=0 then .inl (met++l.map Pol.Fd.name) else .inr (gj met l)
 | [],met=>by simp[iter,gj]
 |f::l,met=>by
  simp only[iter,fdF,gj];by_cases a:aJ f.name=false
  ·simp[a]
  ·simp only[a];by_cases b:f.name∈met
   ·simp[b]
   ·simp only[b,if_false];by_cases c:bN f=0
    ·have e:=FN l (met++[f.name]);simp[c,e]
    ·simp[c]
theorem f138(s:Sc)(hs:WC s)(h:Heap):(mu K).fn 138 [s.av] h=some (.val (.int .i64 (jV s)) h):=by
 have key:=aB (K:=K) (n:=2) (live:=[3,23,24,25]) (a:=oP) fdF
  (λj4 met=>⟨[(3,.mp (h.length,1)),(23,s.fields.avS Pol.Fd.av),(24,.int .i64 (s.fields.l.length:Int)),(25,.int .i64 (j4.length:Int))],[.box 84 false s.av,.map (jc AV.str met)]::h⟩) (λ_ _=>True)
  (λmet o=>∃j3,o=some (.exit 0,⟨j3,[.box 84 false s.av,.map (jc AV.str met)]::h⟩)) (λe o=>∃j3 Fr,o=some (.ret,⟨j3,Fr::h⟩)∧get j3 2=.int .i64 e) s.fields.l
  (λj4 x r met hl' _=>by
   obtain⟨g1,g2,w1⟩:=aA hl' (by have:=hs.len;omega);have hx:=hs.fields x (by rw[hl'];simp);have hix:=iaP Pol.Fd.av 5 s.fields j4.length x (by simpa using g2);have lk:=nU xM x.name met;have uk:=rz xM x.name met;have k1:=λh=>f179 x.name hx.name h
   have k2:=λh=>f180 x hx h
   have kr:=λp=>pI (kv:=AV.str) p met
   have kr2:=λp=>pI (kv:=AV.str) p (met++[x.name])
   rw[aj];generalize (mu K).code _=F;clear hl';unfold fdF;cases a:aJ x.name
   ·simp[oP,KL,aa,g1,hix,k1,a]
   by_cases hm:x.name∈met
   ·simp[oP,KL,aa,g1,hix,k1,a,eqK,eqF,lk,hm]
   ·have uk:=uk hm;by_cases he:bN x=0
    ·simp[-List.all_eq_true,oP,KL,aa,g1,hix,w1,k1,k2,a,eqK,eqF,lk,uk,hm,he,kr2]
    ·simp[oP,KL,aa,g1,hix,k1,k2,a,eqK,eqF,lk,uk,hm,he])
  (λmet _=>by
   rw[aj];generalize (mu K).code _=F;simp[oP]) [] trivial
 simp only[iO,afl]at key;have e0:jc AV.str []=[]:=rfl;rw[FN]at key;simp only[e0]at key;have k0:=λh=>f179 s.name hs.name h
 rw[aC (KX _ _ _) Zr rfl (by simp[c138])];unfold jV;cases a:aJ s.name
 ·simp[c138,KL,aa,k0,a]
 by_cases c1:s.fields.l.length<1
 ·have d1:(s.fields.l.length:Int)<1:=by omega
  simp[c138,KL,aa,k0,a,d1,c1]
 have d1:¬ (s.fields.l.length:Int)<1:=by omega
 by_cases c2:16<s.fields.l.length
 ·have d2:(16:Int)<(s.fields.l.length:Int):=by omega
  simp[c138,KL,aa,k0,a,d1,d2,c2]
 have d2:¬ (16:Int)<(s.fields.l.length:Int):=by omega
 rw[if_neg (by simp),if_neg (by omega)];by_cases hn:gj [] s.fields.l=0
 ·rw[if_pos hn]at key;obtain⟨_,j3,k⟩:=key;simp[c138,KL,aa,k0,a,d1,d2,k,hn]
 ·rw[if_neg hn]at key;obtain⟨j3,Fr,k,g2⟩:=key;simp[c138,KL,aa,k0,a,d1,d2,k,g2]
theorem f201(n:Int)(h:Heap):(mu K).fn 201 [.int .u8 n] h=some (.val (.bool (dG n)) h):=by
 rw[aC (KX _ _ _) aaq rfl (by simp[V3])];unfold dG;by_cases a:97<=n<;>by_cases b:n<=122<;>by_cases c:65<=n<;>by_cases d:n<=90<;>simp[V3,a,b,c,d]
theorem f202(n:Int)(h:Heap):(mu K).fn 202 [.int .u8 n] h=some (.val (.bool (fc n)) h):=by
 rw[aC (KX _ _ _) aar rfl (by simp[V4])];unfold fc;by_cases a:48<=n<;>by_cases b:n<=57<;>simp[V4,a,b]
def eX:List Bs:=[[112,111,108,105,99,121],[117,115,101,115],[114,101,118,101,97,108],[112,114,111,118,101],[115,99,111,112,101],[108,105,109,105,116],[101,115,99,114,111,119],[101,110,100],[97,108,108],[97,110,121],[97,116,108,101,97,115,116],[110,111,116],[116,114,117,101],[102,97,108,115,101],[98,101,116,119,101,101,110],[97,110,100]]
theorem aa6(s:Bs):kw s=(decide (s∈eX) ||decide (s=[105,110])):=by
 have:kws=eX++[[105,110]]:=rfl;unfold kw;rw[this,agt];simp
theorem f203(s:Bs)(h:Heap):(mu K).fn 203 [.str s] h=some (.val (.bool (kw s)) h):=by
 have key:=aB (K:=K) (n:=0) (live:=[0,3,4]) (a:=uH) (BZ s)
  (λj4 _=>⟨[(0,.str s),(3,.lst (eX.map AV.str)),(4,.int .i64 (j4.length:Int))],[]::h⟩) (λ_ _=>True)
  (λ_ o=>∃j3,o=some (.exit 0,⟨j3,[]::h⟩)∧get j3 0=.str s) (λ_ o=>∃j3,o=some (.ret,⟨j3,[]::h⟩)∧get j3 2=.bool true) eX
  (λj4 x r b hl' _=>by
   obtain⟨h1,h2,w1⟩:=aA hl' (by decide);have hix:=λ(k:IntKind)=>cG (sz:=1) (l:=eX.map AV.str) (k:=k) (j:=(j4.length:Int)) (v:=.str x) (by omega) (by rw[afM,afy,h2];rfl) rfl
   rw[aj];generalize (mu K).code _=F;have hlen:(eX.map AV.str).length=eX.length:=by simp
   generalize eX=Q at *
   generalize hM:Q.map AV.str=M at *
   clear hl';unfold BZ;by_cases hx:s=x
   ·have d:(x=s)=True:=by simp[hx]
    have d2:(s=x)=True:=by simp[hx]
    simp[uH,h1,hlen,hix,d,d2]
   ·have d:(x=s)=False:=by simp;exact λe=>hx e.symm
    simp[uH,h1,hlen,hix,w1,d,hx])
  (λb _=>by
   rw[aj];generalize (mu K).code _=F;have hlen:(eX.map AV.str).length=eX.length:=by simp
   generalize eX=Q at *
   generalize hM:Q.map AV.str=M at *
   simp[uH,hlen]) () trivial
 simp only[iO,afl]at key;have e16:eX.map AV.str=[.str [112,111,108,105,99,121],.str [117,115,101,115],.str [114,101,118,101,97,108],.str [112,114,111,118,101],.str [115,99,111,112,101],.str [108,105,109,105,116],.str [101,115,99,114,111,119],.str [101,110,100],.str [97,108,108],.str [97,110,121],.str [97,116,108,101,97,115,116],.str [110,111,116],.str [116,114,117,101],.str [102,97,108,115,101],.str [98,101,116,119,101,101,110],.str [97,110,100]]:=rfl;rw[aC (KX _ _ _) aas rfl (by simp[SY])];rw[aa6];by_cases hm:s∈eX
 ·rw[(iX s eX).1 hm,e16]at key;obtain⟨j3,k,g2⟩:=key;simp[SY,List.replicate,k,g2,hm]
 ·rw[(iX s eX).2 hm,e16]at key;obtain⟨_,j3,k,g0⟩:=key;simp[SY,List.replicate,k,g0,hm]
theorem f151(s:Bs)(hs:okS s)(h:Heap):(mu K).fn 151 [.str s] h=some (.val (.bool (aJ s)) h):=by
 have O9:=λh=>f203 s h
 have key:=aB (K:=K) (n:=0) (live:=[0,3]) (a:=ny) vV
  (λj4 b=>⟨[(0,.str s),(3,.int .i64 (j4.length:Int))],[]::h⟩) (λj4 b=>b=j4.isEmpty)
  (λb o=>∃j3,o=some (.exit 0,⟨j3,[]::h⟩)∧get j3 0=.str s) (λ_ o=>∃j3,o=some (.ret,⟨j3,[]::h⟩)∧get j3 2=.bool false) s
  (λj4 x r b hl hb=>by
   obtain⟨h1,h2,w1⟩:=aA hl hs;have gS:=λh=>f201 (x.toNat:Int) h
   have pq:=λh=>f202 (x.toNat:Int) h
   rw[aj];generalize (mu K).code _=F;have hb':((j4.length:Int)=0)=(b=true):=by rw[hb];cases j4<;>simp;omega
   have hb2:(j4=[])=(b=true):=by rw[hb];cases j4<;>simp
   clear hb hl;unfold vV pz;by_cases c1:dG (x.toNat:Int)=true
   ·simp[ny,KL,aa,h1,h2,gS,w1,c1]
   ·cases b
    ·by_cases c3:(x.toNat:Int)=95
     ·have d3:((x.toNat:Int)=95)=True:=by simp;omega
      simp[ny,KL,aa,h1,h2,gS,w1,c1,hb2,d3]
     ·have d3:((x.toNat:Int)=95)=False:=by simp;omega
      by_cases c4:fc (x.toNat:Int)=true
      ·simp[ny,KL,aa,h1,h2,gS,pq,w1,c1,hb2,d3,c4]
      ·simp[ny,KL,aa,h1,h2,gS,pq,c1,hb2,d3,c4]
    ·simp[ny,KL,aa,h1,h2,gS,c1,hb2])
  (λb _=>by
   rw[aj];generalize (mu K).code _=F;simp[ny]) true rfl
 rw[aC (KX _ _ _) ZG rfl (by simp[M5])];cases hn:qD true s
 ·rw[(jy s true).2 hn]at key;obtain⟨j3,k,g2⟩:=key;simp only[iO,afl]at k;simp[M5,k,g2,aJ,hn]
 ·obtain⟨b',e⟩:=(jy s true).1 hn;rw[e]at key;obtain⟨_,j3,k,g0⟩:=key;simp only[iO,afl]at k;unfold aJ;by_cases e1:s=[]
  ·have d1:(s=[])=True:=by simp[e1]
   simp[M5,k,g0,d1]
  ·by_cases e2:(s.length:Int)<=32
   ·have e3:s.length<=32:=by omega
    simp[M5,KL,aa,k,g0,e1,e2,e3,O9,hn]
   ·have e3:¬ s.length<=32:=by omega
    simp[M5,k,g0,e1,e2,e3,hn]
theorem f152(s:Bs)(hs:okS s)(h:Heap):(mu K).fn 152 [.str s] h=some (.val (.bool (cw s)) h):=by
 have key:=aB (K:=K) (n:=0) (live:=[0,3]) (a:=nA) vW
  (λj4 b=>⟨[(0,.str s),(3,.int .i64 (j4.length:Int))],[]::h⟩) (λj4 b=>True)
  (λb o=>∃j3,o=some (.exit 0,⟨j3,[]::h⟩)∧get j3 0=.str s) (λ_ o=>∃j3,o=some (.ret,⟨j3,[]::h⟩)∧get j3 2=.bool false) s
  (λj4 x r b hl hb=>by
   obtain⟨h1,h2,w1⟩:=aA hl hs;have gS:=λh=>f201 (x.toNat:Int) h
   have pq:=λh=>f202 (x.toNat:Int) h
   rw[aj];generalize (mu K).code _=F;clear hb hl;unfold vW pE;by_cases c1:dG (x.toNat:Int)=true
   ·simp[nA,KL,aa,h1,h2,gS,w1,c1]
   by_cases c2:fc (x.toNat:Int)=true
   ·simp[nA,KL,aa,h1,h2,gS,pq,w1,c1,c2]
   by_cases c3:(x.toNat:Int)=45
   ·have d3:((x.toNat:Int)=45)=True:=by simp;omega
    simp[nA,KL,aa,h1,h2,gS,pq,w1,c1,c2,d3]
   have d3:((x.toNat:Int)=45)=False:=by simp;omega
   by_cases c4:(x.toNat:Int)=95
   ·have d4:((x.toNat:Int)=95)=True:=by simp;omega
    simp[nA,KL,aa,h1,h2,gS,pq,w1,c1,c2,d3,d4]
   ·have d4:((x.toNat:Int)=95)=False:=by simp;omega
    simp[nA,KL,aa,h1,h2,gS,pq,c1,c2,d3,d4])
  (λb _=>by
   rw[aj];generalize (mu K).code _=F;simp[nA]) () trivial
 rw[aC (KX _ _ _) ZH rfl (by simp[M6])];cases hn:qW s
 ·rw[(jz s).2 hn]at key;obtain⟨j3,k,g2⟩:=key;simp only[iO,afl]at k;simp[M6,k,g2,cw,hn]
 ·rw[(jz s).1 hn]at key;obtain⟨_,j3,k,g0⟩:=key;simp only[iO,afl]at k;unfold cw;by_cases e1:s=[]
  ·have d1:(s=[])=True:=by simp[e1]
   simp[M6,k,g0,d1]
  ·by_cases e2:(s.length:Int)<=32
   ·have e3:s.length<=32:=by omega
    simp[M6,k,g0,e1,e2,e3,hn]
   ·have e3:¬ s.length<=32:=by omega
    simp[M6,k,g0,e1,e2,e3,hn]
theorem f204(k:Int)(h:Heap):(mu K).fn 204 [.int .i64 k] h=some (.val (.bool (decide (0<=k)&&decide (k<=8))) h):=by
 rw[aC (KX _ _ _) aat rfl (by simp[V5])];by_cases a:0<=k<;>simp[V5,a]

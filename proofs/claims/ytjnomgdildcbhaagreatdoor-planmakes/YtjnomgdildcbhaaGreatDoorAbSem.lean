/-
  The evaluator in use: what simp unfolds.
-/
import Derived.Test.YtjnomgdildcbhaaGreatDoorAbFix
set_option linter.all false
namespace Go.Ab
theorem UI{K:Cfg}{f:FuncId}{args:List AV}{h:Heap}{cf:aK}{c:CC}(hX:K.X f args h=none)(hc:K.fns f=some cf)(hb:cf.body=.code c)(ha:args.length<=cf.nt) :
  (mu K).fn f args h=match evC K (mu K) c { env:=cI 0 args,h:=[]::h } with
   |some (.norm,s)=>finish cf.res s
   |some (.ret,s)=>finish cf.res s
   |some (.pan v,s)=>(match pop v s.h with
    |some (v',h')=>some (.pan v' h')
    |none=>none)
   |_=>none:=by
 rw[gp];simp only[step,iY,hX,hc,hb,if_pos ha,evB];cases evC K (mu K) c { env:=cI 0 args,h:=[]::h } with
 |none=>rfl
 |some r=>
  obtain⟨ex,s⟩:=r;cases ex<;>rfl
theorem UJ{K:Cfg}{n:Nat}{live:List Nat}{a:CC}{s:St}:(mu K).code (.af n live a) s=match evC K (mu K) a s with
  |some (.norm,s1)=>(match cut n live s1 with
   |some s2=>(mu K).code (.af n live a) s2
   |none=>none)
  |r=>r:=by rw[wY];rfl
section
variable(k:IntKind)(a b:Int)
@[simp] theorem ZaL:Rg .eql k a b=some (.bool (decide (a=b))):=rfl
@[simp] theorem ZaM:Rg .neq k a b=some (.bool (!(decide (a=b)))):=rfl
end
attribute [simp] Rg.eq_1 Rg.eq_2 Rg.eq_3 Rg.eq_4 Rg.eq_5 Rg.eq_6 Rg.eq_7 Rg.eq_12 Rg.eq_13 Rg.eq_14 Rg.eq_15 Rg.eq_16 Rg.eq_17 CW.eq_1 rC.eq_1 rC.eq_2 rC.eq_4 AV.cells.eq_1 AV.cells.eq_2 AV.cells.eq_3 AV.isAgg.eq_1
section
variable(k:IntKind)(n:Int)(b:Bool)(q:List UInt8)(l m:List AV)(a:Loc)(i j x y:Nat)(v:AV)(f:Fn)(t:TypeId)
@[simp] theorem Zaa:(AV.tup l).isAgg=false:=rfl
@[simp] theorem Zab:(AV.bool b).cells=[.bool b]:=rfl
@[simp] theorem Zac:(AV.bool b).isAgg=false:=rfl
@[simp] theorem Zad:(AV.int k n).cells=[.int k n]:=rfl
@[simp] theorem Zae:(AV.int k n).isAgg=false:=rfl
@[simp] theorem Zaf:(AV.str q).cells=[.str q]:=rfl
@[simp] theorem Zag:(AV.str q).isAgg=false:=rfl
@[simp] theorem Zah:(AV.ay).cells=[.ay]:=rfl
@[simp] theorem Zai:(AV.ay).isAgg=false:=rfl
@[simp] theorem Zaj:(AV.emp).cells=[.emp]:=rfl
@[simp] theorem Zak:(AV.emp).isAgg=false:=rfl
@[simp] theorem Zal:(AV.lst l).cells=[.lst l]:=rfl
@[simp] theorem Zam:(AV.lst l).isAgg=false:=rfl
@[simp] theorem Zan:(AV.own a i).cells=[.own a i]:=rfl
@[simp] theorem Zao:(AV.own a i).isAgg=false:=rfl
@[simp] theorem Zap:(AV.ptr a i).cells=[.ptr a i]:=rfl
@[simp] theorem Zaq:(AV.ptr a i).isAgg=false:=rfl
@[simp] theorem Zar:(AV.dN a i j x y).cells=[.dN a i j x y]:=rfl
@[simp] theorem Zas:(AV.dN a i j x y).isAgg=false:=rfl
@[simp] theorem Zat:(AV.eF v i).cells=[.eF v i]:=rfl
@[simp] theorem Zau:(AV.eF v i).isAgg=false:=rfl
@[simp] theorem Zav:(AV.mI).cells=[.mI]:=rfl
@[simp] theorem Zaw:(AV.mI).isAgg=false:=rfl
@[simp] theorem Zax:(AV.fn f l m).cells=[.fn f l m]:=rfl
@[simp] theorem Zay:(AV.fn f l m).isAgg=false:=rfl
@[simp] theorem Zaz:(AV.iP).cells=[.iP]:=rfl
@[simp] theorem ZaA:(AV.iP).isAgg=false:=rfl
@[simp] theorem ZaB:(AV.iface t v).cells=[.iface t v]:=rfl
@[simp] theorem ZaC:(AV.iface t v).isAgg=false:=rfl
@[simp] theorem ZaD:(AV.jg).cells=[.jg]:=rfl
@[simp] theorem ZaE:(AV.jg).isAgg=false:=rfl
@[simp] theorem ZaF:(AV.mp a).cells=[.mp a]:=rfl
@[simp] theorem ZaG:(AV.mp a).isAgg=false:=rfl
@[simp] theorem ZaH:(AV.iM).cells=[.iM]:=rfl
@[simp] theorem ZaI:(AV.iM).isAgg=false:=rfl
@[simp] theorem ZaJ:(AV.ou).cells=[.ou]:=rfl
@[simp] theorem ZaK:(AV.ou).isAgg=false:=rfl
end
section
variable(a b:List UInt8)
theorem MT:(a==b)=decide (a=b):=by
 by_cases h:a=b
 ·simp[h]
 ·simp[h]
@[simp] theorem YP:CW .eql a b=some (.bool (decide (a=b))):=by simp only [CW,MT]
@[simp] theorem YQ:CW .neq a b=some (.bool (!(decide (a=b)))):=by simp only [CW,MT]
end
theorem wrap64{n:Int}(h1:-9223372036854775808<=n)(h2:n<=9223372036854775807):IntKind.i64.wrap n=n:=by
 have e1:IntKind.i64.bits=64:=rfl;have e2:IntKind.i64.signed=true:=rfl;unfold IntKind.wrap;simp only[e1,e2,afS,decide_eq_true_eq];have e3:(2:Int) ^ 64=18446744073709551616:=by decide
 have e4:(2:Int) ^ (64-1)=9223372036854775808:=by decide
 rw[e3,e4];split<;>omega
theorem wrS{n:Nat}(h:n<9223372036854775807):IntKind.i64.wrap ((n:Int)+1)=(n:Int)+1:=wrap64 (by omega) (by omega)
def iaF(sz:Nat)(v:AV)(j:AV):Option AV:=match v,j with
 |.lst es,.int _ j=>if 0<=j then (match es[j.toNat]? with
  |some v=>if v.cells.length=sz then some (.eF v 0) else none
  |none=>none) else none
 |.own a n,.int _ j=>if 0<=j∧j<n then some (.dN a n sz j.toNat 0) else none
 |_,_=>none
@[simp] theorem ZaN(s:Nat)(x i:Opd)(e:Env):evP (.iaS s x i) e=iaF s (x.ev e) (i.ev e):=rfl
attribute [simp] iaF.eq_1 iaF.eq_2 evP.eq_1 evP.eq_2 evP.eq_3 evP.eq_4 evP.eq_5 evP.eq_6 evP.eq_8 evP.eq_9 evP.eq_10 evP.eq_11 evP.eq_12 evP.eq_13 evP.eq_14 evP.eq_15 evP.eq_16 evP.eq_17 evP.eq_18 evP.eq_19 evP.eq_20 evP.eq_21 evP.eq_22 evP.eq_23 evP.eq_24 evP.eq_25 evP.eq_26 evP.eq_27
attribute [simp] wT Ri toV CY asV vk Cz CD tK isE ldQ stQ toQ CX EO wanted evM ji evQ iB loud Gh Opd.ev oev get set put cI keep Rh BinOp.gh isNil finish CZ nL zi Vg Um pop merge moved AV.ren AV.zj Blk.ren AV.aO AV.cD AV.view AV.views hget aQ hnext hnew hlen
 AG Kj ow A7 Kl bHi bLo dW.eq_1 dW.eq_2 dW.eq_3 dW.eq_4 recheck Rj
attribute [simp] EM EN wS AV.pure AV.beq AV.dh sized cut XQ Blk.aO wU bp jh kU xW tM xX
theorem eD{h:Heap}{a:Loc}(d:dom h a):a.1<h.length:=by
 induction h with
 |nil=>simp[dom,hget]at d
 |cons f o ih=>
  unfold dom hget at d;split at d
  ·simp;omega
  ·have:=ih d;simp;omega
theorem cO:∀(h:Heap) (a:Loc) (B C:Blk),aQ (aQ h a B) a C=aQ h a C
 | [],_,_,_=>rfl
 |f::o,a,B,C=>by
  by_cases e:a.1=o.length
  ·simp[aQ,e]
  ·simp[aQ,e,bp,cO o a B C]
theorem fq{h:Heap}{a:Loc}(d:dom h a)(B:Blk):hget (aQ h a B) a=some B:=by
 rw[gF];simp[d]
theorem pG{h:Heap}{a:Loc}(d:dom h a):(a.1=h.length)=False:=by
 have:=eD d;simp;omega
section
variable(K:Cfg)(O:Orc)
def goP(d:Option Nat)(r:List CO)(e:Env)(h:Heap):Option AV->Option (Ex×St)
 |some v=>dF K O r ⟨put e d v,h⟩
 |none=>none
def goM(d:Option Nat)(r:List CO)(e:Env):Option Out->Option (Ex×St)
 |some (.val v h)=>dF K O r ⟨put e d v,h⟩
 |some (.pan v h)=>some (.pan v,⟨e,h⟩)
 |none=>none
def goG(b:Bool)(d:Option Nat)(op:COp)(r:List CO)(e:Env)(h:Heap):AV->Option (Ex×St)
 |.bool c=>if c=b then dF K O (⟨d,none,op⟩::r) ⟨e,h⟩ else dF K O r ⟨put e d (.tup []),h⟩
 |.tup []=>dF K O r ⟨put e d (.tup []),h⟩
 |_=>none
theorem UK(s:St):dF K O [] s=some (.norm,s):=rfl
theorem ac4(d:Option Nat)(q:POp)(r:List CO)(e:Env)(h:Heap):dF K O (⟨d,none,.p q⟩::r) ⟨e,h⟩=goP K O d r e h (evP q e):=by
 simp only[dF,wanted];cases evP q e<;>rfl
theorem ac5(d:Option Nat)(q:MOp)(r:List CO)(e:Env)(h:Heap):dF K O (⟨d,none,.m q⟩::r) ⟨e,h⟩=goM K O d r e (evM K O q e h):=by
 simp only[dF,wanted];cases evM K O q e h with
 |none=>rfl
 |some o=>cases o<;>rfl
theorem ac6(d:Option Nat)(t:Nat)(b:Bool)(op:COp)(r:List CO)(e:Env)(h:Heap):dF K O (⟨d,some (t,b),op⟩::r) ⟨e,h⟩=goG K O b d op r e h (get e t):=by
 rw[dF];simp only[wanted];cases hg:get e t with
 |bool c=>
  by_cases hc:c=b
  ·subst hc;simp only[goG,beq_self_eq_true,if_true,dF,wanted]
  ·have:(c==b)=false:=by simp[hc]
   simp only[goG,this,hc,if_false]
 |tup l=>cases l<;>rfl
 |_=>rfl
theorem R3(d:Option Nat)(r:List CO)(e:Env)(h:Heap)(v:AV):goP K O d r e h (some v)=dF K O r ⟨put e d v,h⟩:=rfl
theorem UL(d:Option Nat)(r:List CO)(e:Env)(h:Heap)(v:AV):goM K O d r e (some (.val v h))=dF K O r ⟨put e d v,h⟩:=rfl
theorem UM(d:Option Nat)(r:List CO)(e:Env)(h:Heap)(v:AV):goM K O d r e (some (.pan v h))=some (.pan v,⟨e,h⟩):=rfl
theorem Yk(d:Option Nat)(op:COp)(r:List CO)(e:Env)(h:Heap):goG K O true d op r e h (.bool true)=dF K O (⟨d,none,op⟩::r) ⟨e,h⟩:=rfl
theorem Yl(d:Option Nat)(op:COp)(r:List CO)(e:Env)(h:Heap):goG K O false d op r e h (.bool false)=dF K O (⟨d,none,op⟩::r) ⟨e,h⟩:=rfl
theorem Ym(d:Option Nat)(op:COp)(r:List CO)(e:Env)(h:Heap):goG K O true d op r e h (.bool false)=dF K O r ⟨put e d (.tup []),h⟩:=rfl
theorem Yn(d:Option Nat)(op:COp)(r:List CO)(e:Env)(h:Heap):goG K O false d op r e h (.bool true)=dF K O r ⟨put e d (.tup []),h⟩:=rfl
theorem Yo(b:Bool)(d:Option Nat)(op:COp)(r:List CO)(e:Env)(h:Heap):goG K O b d op r e h (.tup [])=dF K O r ⟨put e d (.tup []),h⟩:=rfl
def doP(d:Option Nat)(r:List DO)(pd:vo)(e:Env)(h:Heap):Option AV->Option (Ex×St)
 |some v=>evD K O r pd ⟨put e d v,h⟩
 |none=>none
def doQ(x:Nat)(q:MOp)(k:Env)(d:Option Nat)(r:List DO)(pd:vo)(e:Env)(h:Heap):Option AV->Option (Ex×St)
 |some v=>evD K O r ((x,q,k,v)::pd) ⟨put e d v,h⟩
 |none=>none
def doM(re:List Nat)(d:Option Nat)(r:List DO)(pd:vo)(e:Env):Option Out->Option (Ex×St)
 |some (.val v h)=>if recheck K O re pd h=true then evD K O r pd ⟨put e d v,h⟩ else none
 |some (.pan v h)=>some (.pan v,⟨[],h⟩)
 |none=>none
def doG(d:Option Nat)(b:Bool)(op:COp)(x:Nat)(lk an re:List Nat)(r:List DO)(pd:vo)(e:Env)(h:Heap):AV->Option (Ex×St)
 |.bool c=>if c=b then evD K O (⟨⟨d,none,op⟩,x,lk,an,re⟩::r) pd ⟨e,h⟩
  else if loud ⟨d,some (0,b),op⟩=true∧recheck K O re pd h=false then none else evD K O r pd ⟨put e d (.tup []),h⟩
 |.tup []=>if loud ⟨d,some (0,b),op⟩=true∧recheck K O re pd h=false then none else evD K O r pd ⟨put e d (.tup []),h⟩
 |_=>none
variable(x:Nat)(lk an re:List Nat)(d:Option Nat)(r:List DO)(pd:vo)(e:Env)(h:Heap)
theorem Yp(s:St):evD K O [] pd s=some (.norm,s):=rfl
theorem aeV(q:POp):evD K O (⟨⟨d,none,.p q⟩,x,lk,an,re⟩::r) pd ⟨e,h⟩=doP K O d r pd e h (evP q (keep lk e)):=by
 simp only[evD,wanted];cases evP q (keep lk e)<;>rfl
theorem aeW(q:MOp):evD K O (⟨⟨d,none,.m q⟩,x,lk,an,re⟩::r) pd ⟨e,h⟩ =
  if iB q=true then doQ K O x q (keep lk e) d r pd e h (evQ K O q (keep lk e) h) else doM K O re d r pd e (evM K O q (keep lk e) h):=by
 simp only[evD,wanted];by_cases hq:iB q=true
 ·simp only[hq,if_true];cases evQ K O q (keep lk e) h<;>rfl
 ·simp only[hq];cases evM K O q (keep lk e) h with
  |none=>rfl
  |some o=>cases o<;>rfl
theorem aeX(t:Nat)(b:Bool)(op:COp):evD K O (⟨⟨d,some (t,b),op⟩,x,lk,an,re⟩::r) pd ⟨e,h⟩=doG K O d b op x lk an re r pd e h (get (keep lk e) t):=by
 rw[evD];simp only[wanted];have hl:loud ⟨d,some (t,b),op⟩=loud ⟨d,some (0,b),op⟩:=rfl;cases hg:get (keep lk e) t with
 |bool c=>
  by_cases hc:c=b
  ·subst hc;simp only[doG,beq_self_eq_true,if_true,evD,wanted]
  ·have:(c==b)=false:=by simp[hc]
   simp only[doG,this,hc,if_false,hl]
 |tup l=>
  cases l
  ·simp only[doG,hl]
  ·rfl
 |_=>rfl
theorem R4(v:AV):doP K O d r pd e h (some v)=evD K O r pd ⟨put e d v,h⟩:=rfl
theorem R5(q:MOp)(k:Env)(v:AV):doQ K O x q k d r pd e h (some v)=evD K O r ((x,q,k,v)::pd) ⟨put e d v,h⟩:=rfl
theorem UN(v:AV):doM K O re d r pd e (some (.val v h))=if recheck K O re pd h=true then evD K O r pd ⟨put e d v,h⟩ else none:=rfl
theorem UO(v:AV):doM K O re d r pd e (some (.pan v h))=some (.pan v,⟨[],h⟩):=rfl
theorem Yq(op:COp):doG K O d true op x lk an re r pd e h (.bool true)=evD K O (⟨⟨d,none,op⟩,x,lk,an,re⟩::r) pd ⟨e,h⟩:=rfl
theorem Yr(op:COp):doG K O d false op x lk an re r pd e h (.bool false)=evD K O (⟨⟨d,none,op⟩,x,lk,an,re⟩::r) pd ⟨e,h⟩:=rfl
theorem Yt(op:COp):doG K O d true op x lk an re r pd e h (.bool false)=if loud ⟨d,some (0,true),op⟩=true∧recheck K O re pd h=false then none else evD K O r pd ⟨put e d (.tup []),h⟩:=rfl
theorem Yu(op:COp):doG K O d false op x lk an re r pd e h (.bool true)=if loud ⟨d,some (0,false),op⟩=true∧recheck K O re pd h=false then none else evD K O r pd ⟨put e d (.tup []),h⟩:=rfl
theorem Yv(b:Bool)(op:COp):doG K O d b op x lk an re r pd e h (.tup [])=if loud ⟨d,some (0,b),op⟩=true∧recheck K O re pd h=false then none else evD K O r pd ⟨put e d (.tup []),h⟩:=rfl
end
section
variable(K:Cfg)(O:Orc)
def goS(b:CC):Option (Ex×St)->Option (Ex×St)
 |some (.norm,s1)=>evC K O b s1
 |r=>r
def goC(a b:CC)(s:St):AV->Option (Ex×St)
 |.bool t=>if t then evC K O a s else evC K O b s
 |_=>none
def goB(id:Nat):Option (Ex×St)->Option (Ex×St)
 |some (.exit j,s1)=>if j=id then some (.norm,s1) else some (.exit j,s1)
 |r=>r
def goL(F:St->Option (Ex×St))(n:Nat)(live:List Nat):Option (Ex×St)->Option (Ex×St)
 |some (.norm,s1)=>(match cut n live s1 with
   |some s2=>F s2
   |none=>none)
 |r=>r
variable(s:St)(a b:CC)(id n:Nat)(live:List Nat)
theorem dm:evC K O (.seq a b) s=goS K O b (evC K O a s):=by
 rw[evC];cases evC K O a s with
 |none=>rfl
 |some x=>obtain⟨ex,s1⟩:=x;cases ex<;>rfl
theorem Yw(x:Opd)(e:Env)(h:Heap):evC K O (.cond x a b) ⟨e,h⟩=goC K O a b ⟨e,h⟩ (x.ev e):=by
 rw[evC];cases x.ev e<;>rfl
theorem UQ:evC K O (.block id a) s=goB id (evC K O a s):=by
 rw[evC];cases evC K O a s with
 |none=>rfl
 |some x=>obtain⟨ex,s1⟩:=x;cases ex<;>rfl
theorem Yx(e:Env)(h:Heap):evC K O (.loop live a) ⟨e,h⟩=O.code (.af (hlen h) live a) ⟨keep live e,h⟩:=rfl
theorem Yy:evC K O .skip s=some (.norm,s):=rfl
theorem ac7(l:List CO):evC K O (.reg l) s=dF K O l s:=rfl
theorem Yz(l:List DO):evC K O (.draw l) s=evD K O l [] s:=rfl
theorem YA:evC K O (.exit id) s=some (.exit id,s):=rfl
theorem ac8:evC K O .ret s=some (.ret,s):=rfl
theorem UR:evC K O (.scope a) s=evC K O a s:=rfl
theorem bk:goS K O b (some (.norm,s))=evC K O b s:=rfl
theorem R6(j:Nat):goS K O b (some (.exit j,s))=some (.exit j,s):=rfl
theorem A0:goS K O b (some (.ret,s))=some (.ret,s):=rfl
theorem UT(v:AV):goS K O b (some (.pan v,s))=some (.pan v,s):=rfl
theorem R7:goC K O a b s (.bool true)=evC K O a s:=rfl
theorem Ow:goC K O a b s (.bool false)=evC K O b s:=rfl
theorem R8:goB id (some (.norm,s))=some (.norm,s):=rfl
theorem R9(j:Nat):goB id (some (.exit j,s))=if j=id then some (.norm,s) else some (.exit j,s):=rfl
theorem UU:goB id (some (.ret,s))=some (.ret,s):=rfl
theorem UW(v:AV):goB id (some (.pan v,s))=some (.pan v,s):=rfl
variable(F:St->Option (Ex×St))
theorem CH : goL F n live (some (.norm, s)) = match cut n live s with
      |some s2=>F s2
      |none=>none:=rfl
theorem Sa(j:Nat):goL F n live (some (.exit j,s))=some (.exit j,s):=rfl
theorem L6:goL F n live (some (.ret,s))=some (.ret,s):=rfl
theorem UX(v:AV):goL F n live (some (.pan v,s))=some (.pan v,s):=rfl
end
theorem aj{K:Cfg}{n:Nat}{live:List Nat}{a:CC}{s:St}:(mu K).code (.af n live a) s=goL ((mu K).code (.af n live a)) n live (evC K (mu K) a s):=by
 rw[UJ];cases evC K (mu K) a s with
 |none=>rfl
 |some x=>obtain⟨ex,s1⟩:=x;cases ex<;>rfl
def goF(rs:List jm):Option (Ex×St)->Option Out
 |some (.norm,s)=>finish rs s
 |some (.ret,s)=>finish rs s
 |some (.pan v,s)=>(match pop v s.h with
  |some (v',h')=>some (.pan v' h')
  |none=>none)
 |_=>none
theorem Sb(rs:List jm)(s:St):goF rs (some (.norm,s))=finish rs s:=rfl
theorem UY(rs:List jm)(s:St):goF rs (some (.ret,s))=finish rs s:=rfl
theorem UZ(rs:List jm)(v:AV)(s:St):goF rs (some (.pan v,s))=match pop v s.h with
  |some (v',h')=>some (.pan v' h')
  |none=>none:=rfl
theorem aC{K:Cfg}{f:FuncId}{args:List AV}{h:Heap}{cf:aK}{c:CC}(hX:K.X f args h=none)(hc:K.fns f=some cf)(hb:cf.body=.code c)(ha:args.length<=cf.nt) :
  (mu K).fn f args h=goF cf.res (evC K (mu K) c { env:=cI 0 args,h:=[]::h }):=by
 rw[UI hX hc hb ha];cases evC K (mu K) c { env:=cI 0 args,h:=[]::h } with
 |none=>rfl
 |some x=>obtain⟨ex,s1⟩:=x;cases ex<;>rfl
attribute [simp] Yy ac7 Yz YA ac8 UR UK ac4 ac5 ac6 R3 UL UM Yk Yl Ym Yn Yo Yp aeV aeW aeX R4 R5 UN UO Yq Yr Yt Yu Yv dm Yw UQ Yx bk R6 A0 UT R7 Ow R8 R9 UU UW CH Sa L6 UX Sb UY UZ
mutual
theorem eJ:∀(v:AV),v.aO (λ_=>false)=true->∀p,v.aO p=true
 |.agg cs,h,p=>by simp only[AV.aO]at h⊢;exact mE cs h p
 |.tup cs,h,p=>by simp only[AV.aO]at h⊢;exact mE cs h p
 |.own a n,h,p=>by simp[AV.aO]at h
 |.ptr a n,h,p=>by simp[AV.aO]at h
 |.dN a n s i o,h,p=>by simp[AV.aO]at h
 |.mp a,h,p=>by simp[AV.aO]at h
 |.fn f x y,h,p=>by
  simp only[AV.aO,afC]at h⊢;exact⟨mE x h.1 p,mE y h.2 p⟩
 |.iface t v,h,p=>by simp only[AV.aO]at h⊢;exact eJ v h p
 |.top,_,_=>rfl
 |.bool _,_,_=>rfl
 |.int _ _,_,_=>rfl
 |.str _,_,_=>rfl
 |.ay,_,_=>rfl
 |.emp,_,_=>rfl
 |.lst _,_,_=>rfl
 |.eF _ _,_,_=>rfl
 |.mI,_,_=>rfl
 |.iP,_,_=>rfl
 |.jg,_,_=>rfl
 |.iM,_,_=>rfl
 |.ou,_,_=>rfl
theorem mE:∀(cs:List AV),AV.cD (λ_=>false) cs=true->∀p,AV.cD p cs=true
 | [],_,_=>rfl
 |c::cs,h,p=>by
  simp only[AV.cD,afC]at h⊢;exact⟨eJ c h.1 p,mE cs h.2 p⟩
end
mutual
theorem nX:∀(v:AV),v.aO (λ_=>false)=true->∀p h,v.view p h=some (v,h)
 |.agg cs,hv,p,h=>by simp only[AV.aO]at hv;simp only[AV.view,vD cs hv p h]
 |.tup cs,hv,p,h=>by simp only[AV.aO]at hv;simp only[AV.view,vD cs hv p h]
 |.own a n,hv,p,h=>by simp[AV.aO]at hv
 |.ptr a n,hv,p,h=>by simp[AV.aO]at hv
 |.dN a n s i o,hv,p,h=>by simp[AV.aO]at hv
 |.mp a,hv,p,h=>by simp[AV.aO]at hv
 |.fn f x y,hv,p,h=>rfl
 |.iface t v,hv,p,h=>by simp only[AV.aO]at hv;simp only[AV.view,nX v hv p h]
 |.top,_,_,_=>rfl
 |.bool _,_,_,_=>rfl
 |.int _ _,_,_,_=>rfl
 |.str _,_,_,_=>rfl
 |.ay,_,_,_=>rfl
 |.emp,_,_,_=>rfl
 |.lst _,_,_,_=>rfl
 |.eF _ _,_,_,_=>rfl
 |.mI,_,_,_=>rfl
 |.iP,_,_,_=>rfl
 |.jg,_,_,_=>rfl
 |.iM,_,_,_=>rfl
 |.ou,_,_,_=>rfl
theorem vD:∀(cs:List AV),AV.cD (λ_=>false) cs=true->∀p h,AV.views p cs h=some (cs,h)
 | [],_,_,_=>rfl
 |c::cs,hv,p,h=>by
  simp only[AV.cD,afC]at hv;simp only[AV.views,nX c hv.1 p h,vD cs hv.2 p h]
end
theorem kZ{f:List Blk}{h:Heap}{a:Loc}(ha:dom h a):dom (f::h) a:=by
 unfold dom hget;rw[if_neg (by have:=eD ha;omega)];exact ha
end Go.Ab
namespace Go.Ab
def lv(nl:Bool):List AV->AV
 | []=>if nl then .ay else .lst []
 |e::r=>.lst (e::r)
structure Sl (α:Type) where
 nl:Bool
 l:List α
def Sl.avS{α:Type}(av:α->AV)(s:Sl α):AV:=lv s.nl (s.l.map av)
@[simp] theorem lR (l:List AV):lv false l=.lst l:=by cases l<;>rfl
@[simp] theorem TE (nl:Bool) (e:AV) (r:List AV):lv nl (e :: r)=.lst (e :: r):=rfl
theorem gu(nl:Bool){l:List AV}(h:l≠[]):lv nl l=.lst l:=by cases l with
 |nil=>exact absurd rfl h
 |cons e r=>rfl
@[simp] theorem Sd (nl:Bool) (l:List AV):(lv nl l).cells=[lv nl l]:=by cases l<;>cases nl<;>rfl
@[simp] theorem Sg (nl:Bool) (l:List AV):(lv nl l).isAgg=false:=by cases l<;>cases nl<;>rfl
@[simp] theorem ID (p:Loc->Bool) (nl:Bool) (l:List AV):(lv nl l).aO p=true:=by cases l<;>cases nl<;>rfl
@[simp] theorem U0 (p:Loc->Bool) (nl:Bool) (l:List AV) (h:Heap):(lv nl l).view p h=some (lv nl l,h):=by cases l<;>cases nl<;>rfl
@[simp] theorem YB (nl:Bool) (l:List AV):rC (lv nl l)=some l.length:=by cases l<;>cases nl<;>rfl
@[simp] theorem YC (r:Loc->Loc) (nl:Bool) (l:List AV):(lv nl l).ren r=lv nl l:=by cases l<;>cases nl<;>rfl
@[simp] theorem sW {α:Type} (av:α->AV) (s:Sl α):(s.avS av).cells=[s.avS av]:=Sd _ _
@[simp] theorem sV {α:Type} (av:α->AV) (s:Sl α):(s.avS av).isAgg=false:=Sg _ _
@[simp] theorem oh {α:Type} (p:Loc->Bool) (av:α->AV) (s:Sl α):(s.avS av).aO p=true:=ID _ _ _
@[simp] theorem IJ {α:Type} (p:Loc->Bool) (av:α->AV) (s:Sl α) (h:Heap):(s.avS av).view p h=some (s.avS av,h):=U0 _ _ _ _
@[simp] theorem adj {α:Type} (av:α->AV) (s:Sl α):rC (s.avS av)=some s.l.length:=by rw [Sl.avS,YB,afv]
@[simp] theorem adk {α:Type} (r:Loc->Loc) (av:α->AV) (s:Sl α):(s.avS av).ren r=s.avS av:=YC _ _ _
theorem nI{sz:Nat}{nl:Bool}{l:List AV}{k:IntKind}{j:Int}{v:AV}(h0:0<=j)(h1:l[j.toNat]?=some v)(h2:v.cells.length=sz):iaF sz (lv nl l) (.int k j)=some (.eF v 0):=by
 have:l≠[]:=λe=>by rw[e]at h1;simp at h1
 rw[gu nl this];simp[iaF,h0,h1,h2]
theorem cG{sz:Nat}{l:List AV}{k:IntKind}{j:Int}{v:AV}(h0:0<=j)(h1:l[j.toNat]?=some v)(h2:v.cells.length=sz):iaF sz (.lst l) (.int k j)=some (.eF v 0):=by
 simp[iaF,h0,h1,h2]
theorem cK{α:Type}{av:α->AV}{sz:Nat}{s:Sl α}{k:IntKind}{j:Int}{x:α}(h0:0<=j)(h1:s.l[j.toNat]?=some x)(h2:(av x).cells.length=sz):iaF sz (s.avS av) (.int k j)=some (.eF (av x) 0):=
 nI h0 (by simp[h1]) h2
theorem iaP{α:Type}(av:α->AV)(sz:Nat)(s:Sl α)(n:Nat)(x:α)(h1:s.l[n]?=some x)(h2:(av x).cells.length=sz:=by rfl):∀k:IntKind,iaF sz (s.avS av) (.int k (n:Int))=some (.eF (av x) 0):=
 λk=>cK (by omega) (by simpa using h1) h2
def iter{α β ρ:Type}(f:β->α->β ⊕ ρ):β->List α->β ⊕ ρ
 |b,[]=>.inl b
 |b,x::l=>match f b x with
  |.inl b'=>iter f b' l
  |.inr r=>.inr r
theorem aB{K:Cfg}{n:Nat}{live:List Nat}{a:CC}{α β ρ:Type}(f:β->α->β ⊕ ρ)(S:List α->β->St)(I:List α->β->Prop)
  (E:β->Option (Ex×St)->Prop) (R:ρ->Option (Ex×St)->Prop) (l:List α)
  (hs:∀j4 x s b,l=j4++x::s->I j4 b->(∀b',f b x=.inl b'->I (j4++[x]) b'∧(mu K).code (.af n live a) (S j4 b)=(mu K).code (.af n live a) (S (j4++[x]) b')) ∧
   (∀r,f b x=.inr r->R r ((mu K).code (.af n live a) (S j4 b))))
  (he:∀b,I l b->E b ((mu K).code (.af n live a) (S l b))) (b0:β) (h0:I [] b0) :
  match iter f b0 l with
  |.inl b=>I l b∧E b ((mu K).code (.af n live a) (S [] b0))
  |.inr r=>R r ((mu K).code (.af n live a) (S [] b0)):=by
 have key:∀(s j4:List α) (b:β),l=j4++s->I j4 b->match iter f b s with
   |.inl b'=>I l b'∧E b' ((mu K).code (.af n live a) (S j4 b))
   |.inr r=>R r ((mu K).code (.af n live a) (S j4 b)):=by
  intro s
  induction s with
  |nil=>
   intro j4 b hl hi;simp only[afz]at hl;subst hl;exact⟨hi,he b hi⟩
  |cons x s ih=>
   intro j4 b hl hi;obtain⟨h1,h2⟩:=hs j4 x s b hl hi;simp only[iter];cases hf:f b x with
   |inl b'=>
    obtain⟨k1,k2⟩:=h1 b' hf;have:=ih (j4++[x]) b' (by simp[hl]) k1;rw[k2];exact this
   |inr r=>exact h2 r hf
 exact key l [] b0 rfl h0
end Go.Ab
namespace Go.Ab.Pol
abbrev Bs:=List UInt8
abbrev iV(n:Int):AV:=.int .i64 n
structure Nd where
 k:Int
 num:Int
 nm:Bs
 attr:Bs
 kids:Sl Int
 pos:Int
structure Us where
 al:Bs
 sc:Bs
 deriving DecidableEq
structure Rf where
 al:Bs
 attr:Bs
 deriving DecidableEq
structure Po where
 name:Bs
 uses:Sl Us
 az:Sl Rf
 nodes:Sl Nd
 root:Int
 scope:Bs
 limit:Int
 bt:Bs
abbrev Nd.cs(x:Nd):List AV:=[iV x.k,iV x.num,.str x.nm,.str x.attr,x.kids.avS iV,iV x.pos]
abbrev Nd.av(x:Nd):AV:=.agg x.cs
abbrev Us.cs(x:Us):List AV:=[.str x.al,.str x.sc]
abbrev Us.av(x:Us):AV:=.agg x.cs
abbrev Rf.cs(x:Rf):List AV:=[.str x.al,.str x.attr]
abbrev Rf.av(x:Rf):AV:=.agg x.cs
abbrev Po.cs(x:Po):List AV:=[.str x.name,x.uses.avS Us.av,x.az.avS Rf.av,x.nodes.avS Nd.av,iV x.root,.str x.scope,iV x.limit,.str x.bt]
abbrev Po.av(x:Po):AV:=.agg x.cs
def dG(n:Int):Bool:=decide (97<=n∧n<=122) ||decide (65<=n∧n<=90)
def fc(n:Int):Bool:=decide (48<=n∧n<=57)
def pz(first:Bool)(n:Int):Bool:=dG n ||(!first&&(decide (n=95) ||fc n))
def pE(n:Int):Bool:=dG n ||fc n ||decide (n=45) ||decide (n=95)
def qD:Bool->Bs->Bool
 |_,[]=>true
 |b,c::s=>pz b (c.toNat:Int)&&qD false s
def qW:Bs->Bool
 | []=>true
 |c::s=>pE (c.toNat:Int)&&qW s
def kws:List Bs:=[[112,111,108,105,99,121],[117,115,101,115],[114,101,118,101,97,108],[112,114,111,118,101],[115,99,111,112,101],[108,105,109,105,116],[101,115,99,114,111,119],[101,110,100],[97,108,108],
 [97,110,121],[97,116,108,101,97,115,116],[110,111,116],[116,114,117,101],[102,97,108,115,101],[98,101,116,119,101,101,110],[97,110,100],[105,110]]
def kw(s:Bs):Bool:=decide (s∈kws)
def aJ(s:Bs):Bool:=qD true s&&decide (s≠[])&&decide (s.length<=32) && !kw s
def cw(s:Bs):Bool:=qW s&&decide (s≠[])&&decide (s.length<=32)
def aI(k:Int)(n:Nat):Bool:=
 if k=0∨k=1∨k=9∨k=10∨k=11 then decide (n=0) else if k=2 then decide (n=1) else if k=3∨k=4∨k=5 then decide (1<=n)
 else if k=6 then decide (n=2) else if k=7 then decide (n=3) else if k=8 then decide (2<=n) else false
def aH(x:Nd):Bool:=if x.k=9 then aJ x.nm&&aJ x.attr else if x.k=11 then cw x.nm&&decide (x.attr=[]) else decide (x.nm=[])&&decide (x.attr=[])
def eP(x:Nd):Int:=if x.k=5 then 1 else if x.k=10 then -2147483648 else 0
def cH(x:Nd):Int:=if x.k=5 then (x.kids.l.length:Int) else if x.k=6 then 5 else if x.k=10 then 2147483647 else 0
def vY(x:Nd)(c:Bool):Bool:=decide (0<=x.k)&&decide (x.k<12)&&(decide (x.k<=8)==c)&&aI x.k x.kids.l.length&&aH x
def jo(x:Nd)(c:Bool):Int:=if vY x c=false then 3 else if x.num<eP x∨cH x<x.num then 2 else 0
def gT(ns:List Nd)(i:Int)(l9:List Int):Bool:=decide (i<0) ||decide ((ns.length:Int)<=i) ||decide (i∈l9)
def mG(v:Int->List Int->Int×List Int):List Int->List Int->Int×List Int
 | [],l9=>(0,l9)
 |k::ks,l9=>if (v k l9).1=0 then mG v ks (v k l9).2 else v k l9
def vis(ns:List Nd):Nat->Int->Bool->List Int->Int×List Int
 | 0,i,c,l9=>if gT ns i l9 then (3,l9) else (7,l9)
 |f+1,i,c,l9=>if gT ns i l9 then (3,l9) else match ns[i.toNat]? with
  |none=>(3,l9)
  |some n=>if jo n c=0 then mG (λk s=>vis ns f k (decide (n.k<=5)) s) n.kids.l (l9++[i]) else (jo n c,l9++[i])
def mM(p:Po):Int:=if (vis p.nodes.l 32 p.root true []).1=0 then (if (vis p.nodes.l 32 p.root true []).2.length=p.nodes.l.length then 0 else 3) else (vis p.nodes.l 32 p.root true []).1
def pJ(p:Po):Bool:=aJ p.name&&(decide (p.bt=[]) ||aJ p.bt)&&(decide (p.scope=[]) ||cw p.scope) &&
 p.uses.l.all (λu=>aJ u.al&&aJ u.sc)&&p.az.l.all (λr=>aJ r.al&&aJ r.attr)
def used(p:Po)(s:Bs):Bool:=p.uses.l.any λu=>decide (u.al=s)
def chk(p:Po):Int:=
 if 512<p.nodes.l.length∨p.uses.l.length<1∨4<p.uses.l.length∨64<p.az.l.length then 6
 else if pJ p=false then 3
 else if p.limit<0∨65536<p.limit∨(0<p.limit∧p.scope=[]) then 2
 else if mM p≠0 then mM p
 else if ¬ (p.uses.l.map Us.al).Nodup∨¬ p.az.l.Nodup then 8
 else if p.az.l.all (λr=>used p r.al)=false then 9
 else if p.nodes.l.all (λn=>!(decide (n.k=9)) ||used p n.nm)=false then 9
 else 0
inductive Tr where
 |nd (i:Nat) (n:Nd) (ks:List Tr)
def Tr.i:Tr->Nat
 |.nd i _ _=>i
def Tr.n:Tr->Nd
 |.nd _ n _=>n
def Tr.ks:Tr->List Tr
 |.nd _ _ ks=>ks
mutual
def Tr.pre:Tr->List Nat
 |.nd i _ ks=>i::Tr.iz ks
def Tr.iz:List Tr->List Nat
 | []=>[]
 |t::ts=>t.pre++Tr.iz ts
end
mutual
def Tr.dep:Tr->Nat
 |.nd _ _ ks=>Tr.deps ks+1
def Tr.deps:List Tr->Nat
 | []=>0
 |t::ts=>max t.dep (Tr.deps ts)
end
mutual
def IsT(ns:List Nd):Tr->Prop
 |.nd i n ks=>ns[i]?=some n∧n.kids.l=ks.map (λt=>(t.i:Int))∧nR ns ks
def nR(ns:List Nd):List Tr->Prop
 | []=>True
 |t::ts=>IsT ns t∧nR ns ts
end
mutual
def WF:Tr->Bool->Prop
 |.nd _ n ks,c=>jo n c=0∧WFs ks (decide (n.k<=5))
def WFs:List Tr->Bool->Prop
 | [],_=>True
 |t::ts,c=>WF t c∧WFs ts c
end
abbrev ints(l:List Nat):List Int:=l.map λ(i:Nat)=>(i:Int)
theorem nP{ns:List Nd}{i:Int}{l9:List Int}:gT ns i l9=false↔0<=i∧i<(ns.length:Int)∧i∉l9:=by
 unfold gT;simp only[Bool.or_eq_false_iff,decide_eq_false_iff_not];constructor
 ·rintro⟨⟨h1,h2⟩,h3⟩;exact⟨by omega,by omega,h3⟩
 ·rintro⟨h1,h2,h3⟩;exact⟨⟨by omega,by omega⟩,h3⟩
mutual
theorem Gg:∀(t:Tr) {ns:List Nd} {f:Nat} {c:Bool} {l9:List Int},IsT ns t->WF t c->t.dep<=f->(l9++ints t.pre).Nodup->vis ns f t.i c l9=(0,l9++ints t.pre)
 |.nd i n ks,ns,f,c,l9,h1,h2,h3,h4=>by
  obtain⟨a1,a2,a3⟩:=h1;obtain⟨b1,b2⟩:=h2;cases f with
  |zero=>simp[Tr.dep]at h3
  |succ f=>
   have hlt:=(aft.1 a1).1;have hb:gT ns (i:Int) l9=false:=nP.2 ⟨by omega,by omega,λhm=>by
    simp only[Tr.pre,afj]at h4;have:=(aga.1 h4).2.2 _ hm (i:Int) (by simp);exact this rfl⟩
   have:=MU ks (ns:=ns) (f:=f) (c:=decide (n.k<=5)) (l9:=l9++[(i:Int)]) a3 b2 (by simp only[Tr.dep]at h3;omega) (by simpa[Tr.pre]using h4);show vis ns (f+1) (i:Int) c l9=_;rw[vis,hb];simp only[afA,if_false,afM,a1,b1,if_true,a2,this];simp[Tr.pre]
theorem MU:∀(ts:List Tr) {ns:List Nd} {f:Nat} {c:Bool} {l9:List Int},nR ns ts->WFs ts c->Tr.deps ts<=f->(l9++ints (Tr.iz ts)).Nodup->mG (λk s=>vis ns f k c s) (ts.map λt=>(t.i:Int)) l9=(0,l9++ints (Tr.iz ts))
 | [],ns,f,c,l9,_,_,_,_=>by simp[mG,Tr.iz]
 |t::ts,ns,f,c,l9,h1,h2,h3,h4=>by
  have h4':((l9++ints t.pre)++ints (Tr.iz ts)).Nodup:=by simpa[Tr.iz]using h4
  have k1:=Gg t (f:=f) (l9:=l9) h1.1 h2.1 (by simp only[Tr.deps]at h3;omega) (aga.1 h4').1;have k2:=MU ts (f:=f) (l9:=l9++ints t.pre) h1.2 h2.2 (by simp only[Tr.deps]at h3;omega) h4';simp only[afj,mG,k1,if_true,k2];simp[Tr.iz]
end
theorem Si{ns:List Nd}{i:Int}{c:Bool}{l9 s':List Int}(h:vis ns 0 i c l9=(0,s')):False:=by
 unfold vis at h;split at h<;>simp at h
theorem E7{ns:List Nd}{f:Nat}{c:Bool}(ih:∀(i:Int) (l9 s':List Int),l9.Nodup->vis ns f i c l9=(0,s')->∃t:Tr,IsT ns t∧(t.i:Int)=i∧WF t c∧t.dep<=f∧s'=l9++ints t.pre∧s'.Nodup) :
  ∀(ks:List Int) (l9 s':List Int),l9.Nodup->mG (λk s=>vis ns f k c s) ks l9=(0,s')->∃ts:List Tr,nR ns ts∧ts.map (λt=>(t.i:Int))=ks∧WFs ts c∧Tr.deps ts<=f∧s'=l9++ints (Tr.iz ts)∧s'.Nodup
 | [],l9,s',hn,h=>by
  simp only[mG,afn,true_and]at h;subst h;exact⟨[],trivial,rfl,trivial,Nat.zero_le _,by simp[Tr.iz],hn⟩
 |k::ks,l9,s',hn,h=>by
  simp only[mG]at h;split at h
  ·rename_i h0;obtain⟨s1,hs1⟩:∃s1,vis ns f k c l9=(0,s1):=⟨_,Prod.ext h0 rfl⟩
   rw[hs1]at h;obtain⟨t,a1,a2,a3,a4,a5,a6⟩:=ih k l9 s1 hn hs1;obtain⟨ts,b1,b2,b3,b4,b5,b6⟩:=E7 ih ks s1 s' a6 h;refine⟨t::ts,⟨a1,b1⟩,by simp[a2,b2],⟨a3,b3⟩,by simp only[Tr.deps];omega,?_,b6⟩;rw[b5,a5];simp[Tr.iz]
  ·rename_i h0;rw[h]at h0;exact absurd rfl h0
theorem Jj{ns:List Nd}:∀(f:Nat) (c:Bool) (i:Int) (l9 s':List Int),l9.Nodup->vis ns f i c l9=(0,s')->∃t:Tr,IsT ns t∧(t.i:Int)=i∧WF t c∧t.dep<=f∧s'=l9++ints t.pre∧s'.Nodup
 | 0,c,i,l9,s',hn,h=>(Si h).elim
 |f+1,c,i,l9,s',hn,h=>by
  simp only[vis]at h;split at h
  ·simp at h
  ·rename_i hb;have hb:gT ns i l9=false:=by simpa using hb
   obtain⟨h0,h1,h2⟩:=nP.1 hb;split at h
   ·simp at h
   ·rename_i n hnd;split at h
    ·rename_i he;have hn2:(l9++[i]).Nodup:=by
      rw[aga];exact⟨hn,by simp,λa ha b hb2 e=>by
       simp only[afO]at hb2;rw[e,hb2]at ha;exact h2 ha⟩
     obtain⟨ts,b1,b2,b3,b4,b5,b6⟩:=E7 (Jj f (decide (n.k<=5))) n.kids.l (l9++[i]) s' hn2 h;refine⟨.nd i.toNat n ts,⟨hnd,b2.symm,b1⟩,Int.toNat_of_nonneg h0,⟨he,b3⟩,by simp only[Tr.dep];omega,?_,b6⟩;rw[b5];simp[Tr.pre,Int.toNat_of_nonneg h0]
    ·rename_i he;simp only[afn]at h;exact absurd h.1 he
structure Good (p:Po)(t:Tr):Prop where
 sizes:p.nodes.l.length<=512∧1<=p.uses.l.length∧p.uses.l.length<=4∧p.az.l.length<=64
 names:pJ p=true
 limit:0<=p.limit∧p.limit<=65536∧(0<p.limit->p.scope≠[])
 isT:IsT p.nodes.l t
 root:(t.i:Int)=p.root
 wf:WF t true
 dep:t.dep<=32
 nodup:t.pre.Nodup
 all:t.pre.length=p.nodes.l.length
 aliases:(p.uses.l.map Us.al).Nodup
 U1:p.az.l.Nodup
 Nh:∀r∈p.az.l,used p r.al=true
 refs:∀n∈p.nodes.l,n.k=9->used p n.nm=true
theorem pR{l:List Nat}:(ints l).Nodup↔l.Nodup:=by
 unfold List.Nodup;rw[List.pairwise_map];constructor
 ·exact λh=>h.imp λq e=>q (by rw[e])
 ·exact λh=>h.imp λq e=>q (by omega)
theorem Iw{p:Po}(h:chk p=0):∃t,Good p t:=by
 unfold chk at h;split at h
 ·simp at h
 rename_i h1;split at h
 ·simp at h
 rename_i h2;split at h
 ·simp at h
 rename_i h3;split at h
 ·rename_i h4;exact absurd h h4
 rename_i h4;split at h
 ·simp at h
 rename_i h5;split at h
 ·simp at h
 rename_i h6;split at h
 ·simp at h
 rename_i h7;have h4:mM p=0:=by simpa using h4
 unfold mM at h4;split at h4
 ·rename_i k1;split at h4
  ·rename_i k2;obtain⟨s',hs⟩:∃s',vis p.nodes.l 32 p.root true []=(0,s'):=⟨_,Prod.ext k1 rfl⟩
   rw[hs]at k2;obtain⟨t,a1,a2,a3,a4,a5,a6⟩:=Jj 32 true p.root [] s' (by simp) hs;simp only[afq]at a5;subst a5;refine⟨t,⟨by omega,by omega,by omega,by omega⟩,by simpa using h2,⟨by omega,by omega,λq e=>h3 (.inr (.inr ⟨q,e⟩))⟩,a1,a2,a3,a4,pR.1 a6,by simpa using k2,?_,?_,?_,?_⟩
   ·exact Classical.not_not.1 λq=>h5 (.inl q)
   ·exact Classical.not_not.1 λq=>h5 (.inr q)
   ·have h6:p.az.l.all (λr=>used p r.al)=true:=by simpa using h6
    exact afL.1 h6
   ·have h7:p.nodes.l.all (λn=>!(decide (n.k=9)) ||used p n.nm)=true:=by
     cases e:p.nodes.l.all (λn=>!(decide (n.k=9)) ||used p n.nm)
     ·exact absurd e h7
     ·rfl
    intro n hn hk;have:=afL.1 h7 n hn;simpa[hk]using this
  ·simp at h4
 ·rename_i k1;exact absurd h4 k1
theorem Cn{p:Po}{t:Tr}(g:Good p t):chk p=0:=by
 have hv:=Gg t (ns:=p.nodes.l) (f:=32) (c:=true) (l9:=[]) g.isT g.wf g.dep (by simpa using pR.2 g.nodup);rw[g.root]at hv;have ht:mM p=0:=by
  unfold mM;rw[hv];simp[g.all]
 unfold chk;have s:=g.sizes;rw[if_neg (by omega),if_neg (by rw[g.names];simp),if_neg (by
  have:=g.limit;rintro (q|q|⟨q1,q2⟩)
  ·omega
  ·omega
  ·exact this.2.2 q1 q2),if_neg (by simp[ht]),if_neg (by
  rintro (q|q)
  ·exact q g.aliases
  ·exact q g.U1),if_neg (by
  rw[afL.2 g.Nh];simp),if_neg (by
  rw[afL.2 λn hn=>by
   by_cases hk:n.k=9
   ·simp[hk,g.refs n hn hk]
   ·simp[hk]]
  simp)]
end Go.Ab.Pol
namespace Go.Ab.Pol
inductive Cd where
 |atom (k num:Int) (vs:List Nd)
 |gate (j5:Int) (kids:List Cd)
def Cd.isT:Cd->Bool
 |.atom k _ _=>decide (k=0)
 |.gate _ _=>false
def Cd.isF:Cd->Bool
 |.atom k _ _=>decide (k=1)
 |.gate _ _=>false
def cB(b:Bool):Cd:=.atom (if b then 0 else 1) 0 []
def cnt(h:Cd->Bool)(l:List Cd):Nat:=(l.filter h).length
def rest(l:List Cd):List Cd:=l.filter λc=>!c.isT && !c.isF
def gW(l:List Cd):Nat:=(l.filter Cd.isT).length
def cX(whole:Bool)(k:Int):Cd->List Cd
 |.gate j5 ks=>if (whole&&decide (j5=(ks.length:Int))) ||(!whole&&decide (k=1)&&decide (j5=1)) then ks else [.gate j5 ks]
 |c=>[c]
def bw(whole:Bool)(k:Int):List Cd->List Cd
 | []=>[]
 |c::l=>cX whole k c++bw whole k l
def thr(k:Int)(l:List Cd):Cd:=
 if k-gW l<=0 then cB true
 else if ((rest l).length:Int)<k-gW l then cB false
 else match rest l with
  | [c]=>c
  |r=>if k-gW l=(r.length:Int) then .gate ((bw true (k-gW l) r).length:Int) (bw true (k-gW l) r)
   else .gate (k-gW l) (bw false (k-gW l) r)
structure Says (at_:Int->Int->List Nd->Bool)(h:Cd->Bool):Prop where
 tru:∀n vs,h (.atom 0 n vs)=true
 fls:∀n vs,h (.atom 1 n vs)=false
 atm:∀k n vs,k≠0->k≠1->h (.atom k n vs)=at_ k n vs
 gat:∀n ks,h (.gate n ks)=decide (n<=(cnt h ks:Int))
section
variable{at_:Int->Int->List Nd->Bool}{h:Cd->Bool}
theorem Dm{k:Int}(hk:k≠1):∀l:List Cd,bw false k l=l
 | []=>rfl
 |c::l=>by
  rw[bw,Dm hk l];cases c<;>simp[cX,hk]
end

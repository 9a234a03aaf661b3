/-
  Small laws for contracts: a memory with one place set; bits.
-/
import Derived.Test.YtjnomgdildcbhaaGreatDoorAbTop
set_option linter.unusedVariables false
set_option linter.unusedSimpArgs false
namespace Go.Ab
attribute [simp] Dc Dd uJ AV.pure AV.beq AV.eG sized cut Vs Blk.aJ uK bt iJ jO wJ rO wK
theorem kF{h:Heap}{a:Loc}(d:dom h a):a.1<h.length:=by
 induction h with
 |nil=>simp[dom,hget]at d
 |cons f o ih=>
  unfold dom hget at d;split at d
  ·simp;omega
  ·have:=ih d;simp;omega
theorem fc:∀ (h:Heap) (a:Loc) (B C:Blk),aR (aR h a B) a C=aR h a C
 | [],_,_,_=>rfl
 |f :: o,a,B,C=>by
  by_cases e:a.1=o.length
  ·simp[aR,e]
  ·simp[aR,e,bt,fc o a B C]
theorem jw{h:Heap}{a:Loc}(d:dom h a)(B:Blk):hget (aR h a B) a=some B:=by
 rw[fV];simp[d]
theorem vK{h:Heap}{a:Loc}(d:dom h a):(a.1=h.length)=False:=by
 have:=kF d;simp;omega
end Go.Ab
/-
  The evaluator, step by step: each step a small term, whatever comes behind it.
-/
namespace Go.Ab
section
variable(K:Cfg)(O:Orc)
def goP(d:Option Nat)(r:List CO)(e:Env)(h:Heap):Option AV->Option (Ex×St)
 |some v=>cO K O r ⟨put e d v,h⟩
 |none=>none
def goM(d:Option Nat)(r:List CO)(e:Env):Option Out->Option (Ex×St)
 |some (.val v h)=>cO K O r ⟨put e d v,h⟩
 |some (.pan v h)=>some (.pan v,⟨e,h⟩)
 |none=>none
def goG(b:Bool)(d:Option Nat)(op:COp)(r:List CO)(e:Env)(h:Heap):AV->Option (Ex×St)
 |.bool c=>if c=b then cO K O (⟨d,none,op⟩ :: r) ⟨e,h⟩ else cO K O r ⟨put e d (.tup []),h⟩
 |.tup []=>cO K O r ⟨put e d (.tup []),h⟩
 |_=>none
theorem Sb(s:St):cO K O [] s=some (.norm,s):=rfl
theorem aaV(d:Option Nat)(q:POp)(r:List CO)(e:Env)(h:Heap):cO K O (⟨d,none,.p q⟩ :: r) ⟨e,h⟩=goP K O d r e h (evP q e):=by
 simp only[cO,wanted];cases evP q e<;>rfl
theorem aaW(d:Option Nat)(q:MOp)(r:List CO)(e:Env)(h:Heap):cO K O (⟨d,none,.m q⟩ :: r) ⟨e,h⟩=goM K O d r e (evM K O q e h):=by
 simp only[cO,wanted];cases evM K O q e h with
 |none=>rfl
 |some o=>cases o<;>rfl
theorem aaX(d:Option Nat)(t:Nat)(b:Bool)(op:COp)(r:List CO)(e:Env)(h:Heap):cO K O (⟨d,some (t,b),op⟩ :: r) ⟨e,h⟩=goG K O b d op r e h (get e t):=by
 rw[cO];simp only[wanted];cases hg:get e t with
 |bool c=>
  by_cases hc:c=b
  ·subst hc;simp only[goG,beq_self_eq_true,if_true,cO,wanted]
  ·have:(c==b)=false:=by simp[hc]
   simp only[goG,this,hc,if_false]
 |tup l=>cases l<;>rfl
 |_=>rfl
theorem OM(d:Option Nat)(r:List CO)(e:Env)(h:Heap)(v:AV):goP K O d r e h (some v)=cO K O r ⟨put e d v,h⟩:=rfl
theorem Sd(d:Option Nat)(r:List CO)(e:Env)(h:Heap)(v:AV):goM K O d r e (some (.val v h))=cO K O r ⟨put e d v,h⟩:=rfl
theorem Sg(d:Option Nat)(r:List CO)(e:Env)(h:Heap)(v:AV):goM K O d r e (some (.pan v h))=some (.pan v,⟨e,h⟩):=rfl
theorem Vt(d:Option Nat)(op:COp)(r:List CO)(e:Env)(h:Heap):goG K O true d op r e h (.bool true)=cO K O (⟨d,none,op⟩ :: r) ⟨e,h⟩:=rfl
theorem Vu(d:Option Nat)(op:COp)(r:List CO)(e:Env)(h:Heap):goG K O false d op r e h (.bool false)=cO K O (⟨d,none,op⟩ :: r) ⟨e,h⟩:=rfl
theorem Vv(d:Option Nat)(op:COp)(r:List CO)(e:Env)(h:Heap):goG K O true d op r e h (.bool false)=cO K O r ⟨put e d (.tup []),h⟩:=rfl
theorem Vw(d:Option Nat)(op:COp)(r:List CO)(e:Env)(h:Heap):goG K O false d op r e h (.bool true)=cO K O r ⟨put e d (.tup []),h⟩:=rfl
theorem Vx(b:Bool)(d:Option Nat)(op:COp)(r:List CO)(e:Env)(h:Heap):goG K O b d op r e h (.tup [])=cO K O r ⟨put e d (.tup []),h⟩:=rfl
def doP(d:Option Nat)(r:List DO)(pd:sZ)(e:Env)(h:Heap):Option AV->Option (Ex×St)
 |some v=>evD K O r pd ⟨put e d v,h⟩
 |none=>none
def doQ(x:Nat)(q:MOp)(k:Env)(d:Option Nat)(r:List DO)(pd:sZ)(e:Env)(h:Heap):Option AV->Option (Ex×St)
 |some v=>evD K O r ((x,q,k,v) :: pd) ⟨put e d v,h⟩
 |none=>none
def doM(re:List Nat)(d:Option Nat)(r:List DO)(pd:sZ)(e:Env):Option Out->Option (Ex×St)
 |some (.val v h)=>if recheck K O re pd h=true then evD K O r pd ⟨put e d v,h⟩ else none
 |some (.pan v h)=>some (.pan v,⟨[],h⟩)
 |none=>none
def doG(d:Option Nat)(b:Bool)(op:COp)(x:Nat)(lk an re:List Nat)(r:List DO)(pd:sZ)(e:Env)(h:Heap):AV->Option (Ex×St)
 |.bool c=>if c=b then evD K O (⟨⟨d,none,op⟩,x,lk,an,re⟩ :: r) pd ⟨e,h⟩
  else if loud ⟨d,some (0,b),op⟩=true∧recheck K O re pd h=false then none else evD K O r pd ⟨put e d (.tup []),h⟩
 |.tup []=>if loud ⟨d,some (0,b),op⟩=true∧recheck K O re pd h=false then none else evD K O r pd ⟨put e d (.tup []),h⟩
 |_=>none
variable(x:Nat)(lk an re:List Nat)(d:Option Nat)(r:List DO)(pd:sZ)(e:Env)(h:Heap)
theorem Vy(s:St):evD K O [] pd s=some (.norm,s):=rfl
theorem adp(q:POp):evD K O (⟨⟨d,none,.p q⟩,x,lk,an,re⟩ :: r) pd ⟨e,h⟩=doP K O d r pd e h (evP q (keep lk e)):=by
 simp only[evD,wanted];cases evP q (keep lk e)<;>rfl
theorem adq(q:MOp):evD K O (⟨⟨d,none,.m q⟩,x,lk,an,re⟩ :: r) pd ⟨e,h⟩ =
  if gJ q=true then doQ K O x q (keep lk e) d r pd e h (evQ K O q (keep lk e) h) else doM K O re d r pd e (evM K O q (keep lk e) h):=by
 simp only[evD,wanted];by_cases hq:gJ q=true
 ·simp only[hq,if_true];cases evQ K O q (keep lk e) h<;>rfl
 ·simp only[hq,if_false];cases evM K O q (keep lk e) h with
  |none=>rfl
  |some o=>cases o<;>rfl
theorem adr(t:Nat)(b:Bool)(op:COp):evD K O (⟨⟨d,some (t,b),op⟩,x,lk,an,re⟩ :: r) pd ⟨e,h⟩=doG K O d b op x lk an re r pd e h (get (keep lk e) t):=by
 rw[evD];simp only[wanted];have hl:loud ⟨d,some (t,b),op⟩=loud ⟨d,some (0,b),op⟩:=rfl;cases hg:get (keep lk e) t with
 |bool c=>
  by_cases hc:c=b
  ·subst hc;simp only[doG,beq_self_eq_true,if_true,evD,wanted]
  ·have:(c==b)=false:=by simp[hc]
   simp only[doG,this,hc,if_false,hl]
 |tup l=>
  cases l
  ·simp only[doG,hl]
  ·rfl
 |_=>rfl
theorem OO(v:AV):doP K O d r pd e h (some v)=evD K O r pd ⟨put e d v,h⟩:=rfl
theorem OP(q:MOp)(k:Env)(v:AV):doQ K O x q k d r pd e h (some v)=evD K O r ((x,q,k,v) :: pd) ⟨put e d v,h⟩:=rfl
theorem Si(v:AV):doM K O re d r pd e (some (.val v h))=if recheck K O re pd h=true then evD K O r pd ⟨put e d v,h⟩ else none:=rfl
theorem Sj(v:AV):doM K O re d r pd e (some (.pan v h))=some (.pan v,⟨[],h⟩):=rfl
theorem Vz(op:COp):doG K O d true op x lk an re r pd e h (.bool true)=evD K O (⟨⟨d,none,op⟩,x,lk,an,re⟩ :: r) pd ⟨e,h⟩:=rfl
theorem VA(op:COp):doG K O d false op x lk an re r pd e h (.bool false)=evD K O (⟨⟨d,none,op⟩,x,lk,an,re⟩ :: r) pd ⟨e,h⟩:=rfl
theorem VB(op:COp):doG K O d true op x lk an re r pd e h (.bool false)=if loud ⟨d,some (0,true),op⟩=true∧recheck K O re pd h=false then none else evD K O r pd ⟨put e d (.tup []),h⟩:=rfl
theorem VC(op:COp):doG K O d false op x lk an re r pd e h (.bool true)=if loud ⟨d,some (0,false),op⟩=true∧recheck K O re pd h=false then none else evD K O r pd ⟨put e d (.tup []),h⟩:=rfl
theorem VD(b:Bool)(op:COp):doG K O d b op x lk an re r pd e h (.tup [])=if loud ⟨d,some (0,b),op⟩=true∧recheck K O re pd h=false then none else evD K O r pd ⟨put e d (.tup []),h⟩:=rfl
end
/- Code. -/
section
variable(K:Cfg)(O:Orc)
def goS(b:CC):Option (Ex×St)->Option (Ex×St)
 |some (.norm,s1)=>evC K O b s1
 |r=>r
def goC(a b:CC)(s:St):AV->Option (Ex×St)
 |.bool t=>if t then evC K O a s else evC K O b s
 |_=>none
def goB(id:Nat):Option (Ex×St)->Option (Ex×St)
 |some (.exit j,s1)=>if j=id then some (.norm,s1) else some (.exit j,s1)
 |r=>r
def goL(F:St->Option (Ex×St))(n:Nat)(live:List Nat):Option (Ex×St)->Option (Ex×St)
 |some (.norm,s1)=>(match cut n live s1 with
   |some s2=>F s2
   |none=>none)
 |r=>r
variable(s:St)(a b:CC)(id n:Nat)(live:List Nat)
theorem fF:evC K O (.seq a b) s=goS K O b (evC K O a s):=by
 rw[evC];cases evC K O a s with
 |none=>rfl
 |some x=>obtain⟨ex,s1⟩:=x;cases ex<;>rfl
theorem VE(x:Opd)(e:Env)(h:Heap):evC K O (.cond x a b) ⟨e,h⟩=goC K O a b ⟨e,h⟩ (x.ev e):=by
 rw[evC];cases x.ev e<;>rfl
theorem Sk:evC K O (.block id a) s=goB id (evC K O a s):=by
 rw[evC];cases evC K O a s with
 |none=>rfl
 |some x=>obtain⟨ex,s1⟩:=x;cases ex<;>rfl
theorem VG(e:Env)(h:Heap):evC K O (.loop live a) ⟨e,h⟩=O.code (.af (hlen h) live a) ⟨keep live e,h⟩:=rfl
theorem VH:evC K O .skip s=some (.norm,s):=rfl
theorem aaY(l:List CO):evC K O (.reg l) s=cO K O l s:=rfl
theorem VI(l:List DO):evC K O (.draw l) s=evD K O l [] s:=rfl
theorem VJ:evC K O (.exit id) s=some (.exit id,s):=rfl
theorem aaZ:evC K O .ret s=some (.ret,s):=rfl
theorem Sm:evC K O (.scope a) s=evC K O a s:=rfl
theorem cR:goS K O b (some (.norm,s))=evC K O b s:=rfl
theorem OQ(j:Nat):goS K O b (some (.exit j,s))=some (.exit j,s):=rfl
theorem Ej:goS K O b (some (.ret,s))=some (.ret,s):=rfl
theorem Sn(v:AV):goS K O b (some (.pan v,s))=some (.pan v,s):=rfl
theorem OS:goC K O a b s (.bool true)=evC K O a s:=rfl
theorem Ma:goC K O a b s (.bool false)=evC K O b s:=rfl
theorem OT:goB id (some (.norm,s))=some (.norm,s):=rfl
theorem OU(j:Nat):goB id (some (.exit j,s))=if j=id then some (.norm,s) else some (.exit j,s):=rfl
theorem Sq:goB id (some (.ret,s))=some (.ret,s):=rfl
theorem Sr(v:AV):goB id (some (.pan v,s))=some (.pan v,s):=rfl
variable(F:St->Option (Ex×St))
theorem Bi : goL F n live (some (.norm, s)) = match cut n live s with
      |some s2=>F s2
      |none=>none:=rfl
theorem OV(j:Nat):goL F n live (some (.exit j,s))=some (.exit j,s):=rfl
theorem Ke:goL F n live (some (.ret,s))=some (.ret,s):=rfl
theorem Ss(v:AV):goL F n live (some (.pan v,s))=some (.pan v,s):=rfl
end
theorem au{K:Cfg}{n:Nat}{live:List Nat}{a:CC}{s:St}:(mu K).code (.af n live a) s=goL ((mu K).code (.af n live a)) n live (evC K (mu K) a s):=by
 rw[Su];cases evC K (mu K) a s with
 |none=>rfl
 |some x=>obtain⟨ex,s1⟩:=x;cases ex<;>rfl
def goF(rs:List iQ):Option (Ex×St)->Option Out
 |some (.norm,s)=>finish rs s
 |some (.ret,s)=>finish rs s
 |some (.pan v,s)=>(match pop v s.h with
  |some (v',h')=>some (.pan v' h')
  |none=>none)
 |_=>none
theorem OW(rs:List iQ)(s:St):goF rs (some (.norm,s))=finish rs s:=rfl
theorem Sv(rs:List iQ)(s:St):goF rs (some (.ret,s))=finish rs s:=rfl
theorem Sy(rs:List iQ)(v:AV)(s:St):goF rs (some (.pan v,s))=match pop v s.h with
  |some (v',h')=>some (.pan v' h')
  |none=>none:=rfl
theorem aB{K:Cfg}{f:FuncId}{args:List AV}{h:Heap}{cf:aI}{c:CC}(hX:K.X f args h=none)(hc:K.fns f=some cf)(hb:cf.body=.code c)(ha:args.length<=cf.nt) :
  (mu K).fn f args h=goF cf.res (evC K (mu K) c { env:=dc 0 args,h:=[] :: h }):=by
 rw[SA hX hc hb ha];cases evC K (mu K) c { env:=dc 0 args,h:=[] :: h } with
 |none=>rfl
 |some x=>obtain⟨ex,s1⟩:=x;cases ex<;>rfl
attribute [simp] VH aaY VI VJ aaZ Sm Sb aaV aaW aaX OM Sd Sg Vt Vu Vv Vw Vx Vy adp adq adr OO OP Si Sj Vz VA VB VC VD fF VE Sk VG cR OQ Ej Sn OS Ma OT OU Sq Sr Bi OV Ke Ss OW Sv Sy
end Go.Ab
/-
  Values without references: they read as they are at every place, and no frame's end turns them.
-/
namespace Go.Ab
mutual
theorem fu:∀ (v:AV),v.aJ (λ_=>false)=true->∀ p,v.aJ p=true
 |.agg cs,h,p=>by simp only[AV.aJ]at h ⊢;exact kN cs h p
 |.tup cs,h,p=>by simp only[AV.aJ]at h ⊢;exact kN cs h p
 |.own a n,h,p=>by simp[AV.aJ]at h
 |.ptr a n,h,p=>by simp[AV.aJ]at h
 |.cM a n s i o,h,p=>by simp[AV.aJ]at h
 |.mp a,h,p=>by simp[AV.aJ]at h
 |.fn f x y,h,p=>by
  simp only[AV.aJ,ad8]at h ⊢;exact⟨kN x h.1 p,kN y h.2 p⟩
 |.iface t v,h,p=>by simp only[AV.aJ]at h ⊢;exact fu v h p
 |.top,_,_=>rfl
 |.bool _,_,_=>rfl
 |.int _ _,_,_=>rfl
 |.str _,_,_=>rfl
 |.aj,_,_=>rfl
 |.emp,_,_=>rfl
 |.lst _,_,_=>rfl
 |.dH _ _,_,_=>rfl
 |.jL,_,_=>rfl
 |.gq,_,_=>rfl
 |.fH,_,_=>rfl
 |.fG,_,_=>rfl
 |.kO,_,_=>rfl
theorem kN:∀ (cs:List AV),AV.bQ (λ_=>false) cs=true->∀ p,AV.bQ p cs=true
 | [],_,_=>rfl
 |c :: cs,h,p=>by
  simp only[AV.bQ,ad8]at h ⊢;exact⟨fu c h.1 p,kN cs h.2 p⟩
end
mutual
theorem vO:∀ (v:AV),v.aJ (λ_=>false)=true->∀ p h,v.view p h=some (v,h)
 |.agg cs,hv,p,h=>by simp only[AV.aJ]at hv;simp only[AV.view,tE cs hv p h]
 |.tup cs,hv,p,h=>by simp only[AV.aJ]at hv;simp only[AV.view,tE cs hv p h]
 |.own a n,hv,p,h=>by simp[AV.aJ]at hv
 |.ptr a n,hv,p,h=>by simp[AV.aJ]at hv
 |.cM a n s i o,hv,p,h=>by simp[AV.aJ]at hv
 |.mp a,hv,p,h=>by simp[AV.aJ]at hv
 |.fn f x y,hv,p,h=>rfl
 |.iface t v,hv,p,h=>by simp only[AV.aJ]at hv;simp only[AV.view,vO v hv p h]
 |.top,_,_,_=>rfl
 |.bool _,_,_,_=>rfl
 |.int _ _,_,_,_=>rfl
 |.str _,_,_,_=>rfl
 |.aj,_,_,_=>rfl
 |.emp,_,_,_=>rfl
 |.lst _,_,_,_=>rfl
 |.dH _ _,_,_,_=>rfl
 |.jL,_,_,_=>rfl
 |.gq,_,_,_=>rfl
 |.fH,_,_,_=>rfl
 |.fG,_,_,_=>rfl
 |.kO,_,_,_=>rfl
theorem tE:∀ (cs:List AV),AV.bQ (λ_=>false) cs=true->∀ p h,AV.views p cs h=some (cs,h)
 | [],_,_,_=>rfl
 |c :: cs,hv,p,h=>by
  simp only[AV.bQ,ad8]at hv;simp only[AV.views,vO c hv.1 p h,tE cs hv.2 p h]
end
theorem wG{f:List Blk}{h:Heap}{a:Loc}(ha:dom h a):dom (f :: h) a:=by
 unfold dom hget;rw[if_neg (by have:=kF ha;omega)];exact ha
end Go.Ab
/-
  The form's reading of an argument of any type made of bools, ints, strings, slices and structs, as a value of the oP.
-/
namespace Go.Ab
def slv(nl:Bool):List AV->AV
 | []=>if nl then .aj else .lst []
 |e :: r=>.lst (e :: r)
theorem Mb(nl:Bool)(es:List AV):(slv nl es).cells=[slv nl es]:=by cases es<;>cases nl<;>rfl
theorem SB(nl:Bool)(es:List AV):(slv nl es).isAgg=false:=by cases es<;>cases nl<;>rfl
inductive TT where
 |bool
 |int (k:IntKind)
 |str
 |slice (t:TT)
 |struct (fs:List TT)
def TT.agg:TT->Bool
 |.struct _=>true
 |_=>false
mutual
def TT.size:TT->Nat
 |.struct fs=>TT.sizes fs
 |.bool=>1
 |.int _=>1
 |.str=>1
 |.slice _=>1
def TT.sizes:List TT->Nat
 | []=>0
 |t :: r=>t.size+TT.sizes r
end
mutual
def TT.ok(P:Program):TT->TypeId->Bool
 |.bool,t=>match P.underlying t with
  |some .bool=>true
  |_=>false
 |.int k,t=>match P.underlying t with
  |some (.int k')=>decide (k'=k)
  |_=>false
 |.str,t=>match P.underlying t with
  |some .string=>true
  |_=>false
 |.slice e,t=>match P.underlying t with
  |some (.slice u)=>e.ok P u&&(decide (P.cellsOf u=e.size)&&(decide (0<e.size)&&decide (0<P.bytesOf u)))
  |_=>false
 |.struct fs,t=>match P.underlying t with
  |some (.struct fl)=>TT.oks P fs fl.toList 0&&decide (P.cellsOf t=TT.sizes fs)
  |_=>false
def TT.oks(P:Program):List TT->List Field->Nat->Bool
 | [],[],_=>true
 |t :: r,f :: fl,o=>decide (f.offset=o)&&(t.ok P f.type&&(decide (P.cellsOf f.type=t.size)&&TT.oks P r fl (o+t.size)))
 | [],_ :: _,_=>false
 |_ :: _,[],_=>false
end
mutual
def TT.Has:TT->List AV->Prop
 |.bool,cs=>∃ b,cs=[.bool b]
 |.int k,cs=>∃ n,cs=[.int k n]∧(Lit.int k n).wf=true
 |.str,cs=>∃ s,cs=[.str s]∧s.length<=140737488355328
 |.slice e,cs=>∃ nl es,cs=[slv nl es]∧es.length<=140737488355328∧∀ v∈es,v.isAgg=e.agg∧TT.Has e v.cells
 |.struct fs,cs=>TT.tQ fs cs
def TT.tQ:List TT->List AV->Prop
 | [],cs=>cs=[]
 |t :: r,cs=>∃ a b,cs=a++b∧TT.Has t a∧TT.tQ r b
end
def IsT(w:World)(avs:List AV)(cs:List Value)(n:Nat):Prop:=
 avs.length=n∧cs.length=n∧∀ j,j<n->(cs.getD j undef).oneCell'=true∧az w (G0 w) bF (avs.getD j .top) (cs.getD j undef)
theorem uL{w:World}{a:AV}{c:Value}(h1:c.oneCell'=true)(h2:az w (G0 w) bF a c):IsT w [a] [c] 1:=⟨rfl,rfl,λj hj=>by
 have:j=0:=by omega
 subst this;exact⟨h1,h2⟩⟩
def TT.of(t:TT)(cs:List AV):AV:=if t.agg then .agg cs else cs.getD 0 .top
theorem TT.uM{t:TT}{cs:List AV}(h:t.Has cs):(t.of cs).cells=cs∧(t.of cs).isAgg=t.agg:=by
 cases t with
 |bool=>obtain⟨b,rfl⟩:=h;exact⟨rfl,rfl⟩
 |int k=>obtain⟨n,rfl,_⟩:=h;exact⟨rfl,rfl⟩
 |str=>obtain⟨s,rfl,_⟩:=h;exact⟨rfl,rfl⟩
 |slice e=>
  obtain⟨nl,es,rfl,_⟩:=h;exact⟨by simp[TT.of,TT.agg,Mb],by simp[TT.of,TT.agg,SB]⟩
 |struct fs=>exact⟨rfl,rfl⟩
section
variable{P:Program}
theorem zk{H:Type}{e:TypeId}{es:List (DataW H×List MemPlace)}{i n:Nat}(hi:i<es.length)(hn:n∈DataW.weights P e es[i].1):n∈DataW.weightsAll P e (es.map (·.1)):=by
 induction es generalizing i with
 |nil=>simp at hi
 |cons e es ih=>
  simp only[Io,DataW.weightsAll,aep];cases i with
  |zero=>exact .inl hn
  |succ i=>exact .inr (ih (by simpa using hi) hn)
variable{H:Type}{enc:TypeId×Value->H}{w:World}{base:Nat}{spare:Nat->Bool}{held:Bool}
theorem Iu{e:TT}{t u:TypeId}{n:Nat}{cs:List Value}{y:DataW H×List MemPlace}(hu:P.underlying t=some (.slice u))(hc:P.cellsOf u=e.size)(h0:0<e.size)(hb0:0<P.bytesOf u)
  (ih:∀ m,m<n->∀ (cs:List Value) (x:DataW H×List MemPlace),DataW.trod enc P w base spare held m u cs=some x->(∀ n∈x.1.weights P u,n<=reachBytes)->∃ avs,e.Has avs∧IsT w avs cs e.size)
  (h:DataW.trod enc P w base spare held n t cs=some y) (hw:∀ n∈y.1.weights P t,n<=reachBytes):∃ avs,(TT.slice e).Has avs∧IsT w avs cs 1:=by
 have rb:reachBytes<=140737488355328:=by decide
 rcases DataW.trod_slice hu h with⟨rfl,_⟩ |⟨a,len,cap,elems,rest,m,rfl,rfl,rfl,hb,hle,hcap,hel,hget,_⟩
 ·exact⟨[slv true []],⟨true,[],rfl,by simp,by simp⟩,uL rfl (.aj _)⟩
 ·have hS:DataW.weights P t (.slice (elems.map (·.1)) (rest.map (·.1)))=(elems.length+rest.length)*P.bytesOf u :: (DataW.weightsAll P u (elems.map (·.1))++DataW.weightsAll P u (rest.map (·.1))):=by
   simp[DataW.weights,hu]
  have hW:∀ n∈DataW.weights P t (.slice (elems.map (·.1)) (rest.map (·.1))),n<=reachBytes:=hw;rw[hS]at hW;have hlen:(elems.length+rest.length)*P.bytesOf u<=reachBytes:=hW _ (by simp);have Tg:elems.length<=140737488355328:=by
   have:=Nat.le_mul_of_pos_right (elems.length+rest.length) hb0;omega
  have hall:∀ n∈DataW.weightsAll P u (elems.map (·.1)),n<=reachBytes:=λn hn=>hW n (by simp[hn])
  have each:∀ i,i<len->∃ av:List AV,∃ cs',w.cells? base (a.add (i*e.size)) e.size=some cs'∧e.Has av∧IsT w av cs' e.size:=λi hi=>by
   have h1:=hget i hi;rw[hc]at h1;have hi':i<elems.length:=by omega
   rw[aea hi']at h1;obtain⟨cs',h2,h3⟩:=Option.bind_eq_some_iff.1 h1;obtain⟨av,h4,h5⟩:=ih m (by omega) cs' _ h3 λn hn=>hall n (zk hi' hn)
   exact⟨av,cs',h2,h4,h5⟩
  obtain⟨l,hl1,hl2⟩:=Kf len each;have hmem:∀ v∈l.map e.of,v.isAgg=e.agg∧e.Has v.cells:=λv hv=>by
   obtain⟨av,hav,rfl⟩:=aeg.1 hv;obtain⟨i,hi⟩:=List.getElem?_of_mem hav;obtain⟨_,_,h4,_⟩:=hl2 i av hi;obtain⟨k1,k2⟩:=TT.uM h4;exact⟨k2,by rw[k1];exact h4⟩
  refine⟨[slv false (l.map e.of)],⟨false,l.map e.of,rfl,by simp;omega,hmem⟩,uL rfl ?_⟩;cases len with
  |zero=>
   have:l=[]:=aes hl1;subst this;exact .lJ _ _ _
  |succ len=>
   have hne:slv false (l.map e.of)=.lst (l.map e.of):=by cases l with
    |nil=>simp at hl1
    |cons _ _=>rfl
   rw[hne];have Tg:(l.map e.of).length=len+1:=by simp[hl1]
   have cell:∀ i,i<len+1->∃ av cs',l[i]?=some av∧cs'.length=e.size∧(∀ j,j<e.size->w.cell? ((a.add (i*e.size)).add j)=cs'[j]?)∧e.Has av∧IsT w av cs' e.size:=λi hi=>by
    obtain⟨av,hit⟩:∃ av,l[i]?=some av:=⟨_,aea (by omega)⟩
    obtain⟨cs',h1,h2,h5⟩:=hl2 i av hit;obtain⟨_,h3,h4⟩:=World.cells?_some h1;exact⟨av,cs',hit,h3,h4,h2,h5⟩
   have spot:a.spot=none:=by
    obtain⟨av,cs',_,h3,h4,_⟩:=cell 0 (by omega);have:=h4 0 h0;rw[aea (by omega)]at this;have:=(Bj this).1;simpa[Addr.add]using this
   obtain⟨b,off,sp⟩:=a;simp only at spot;subst spot;have addr:∀ i j,((⟨b,off,none⟩:Addr).add (i*e.size)).add j=⟨b,off+i*e.size+j,none⟩:=λi j=>by
    unfold Addr.add;split<;>split<;>simp_all
   have got:∀ i j,i<len+1->j<e.size->∃ v av,w.cell? ⟨b,off+i*e.size+j,none⟩=some v∧l[i]?=some av∧e.Has av∧av.length=e.size∧v.oneCell'=true∧az w (G0 w) bF (av.getD j .top) v:=λi j hi hj=>by
    obtain⟨av,cs',hit,h3,h4,h5,h7⟩:=cell i hi;have h6:=h4 j hj;rw[addr]at h6;have h9:cs'[j]?=some (cs'.getD j undef):=by
     have:j<cs'.length:=by omega
     simp[iO,this]
    rw[h9]at h6;exact⟨_,av,h6,hit,h5,h7.1,(h7.2.2 j hj).1,(h7.2.2 j hj).2⟩
   have at_:∀ i av,l[i]?=some av->e.Has av->((l.map e.of).getD i .top).cells=av:=λi av hi ha=>by
    rw[iO,aeh,hi];exact (TT.uM ha).1
   rw[<-Tg];refine az.lst _ (l.map e.of) b off cap e.size (λi j=>(w.cell? ⟨b,off+i*e.size+j,none⟩).getD undef) (by omega) (λi hi=>?_) (λi j hi hj=>?_) (λi j hi hj=>?_)
   ·obtain⟨v,av,_,h2,h3,h4,_⟩:=got i 0 (by omega) h0;rw[at_ i av h2 h3];exact h4
   ·obtain⟨v,av,h1,h2,h3,h4,h5,h6⟩:=got i j (by omega) hj;rw[h1];exact⟨rfl,(Bj h1).2,h5⟩
   ·obtain⟨v,av,h1,h2,h3,h4,h5,h6⟩:=got i j (by omega) hj;rw[at_ i av h2 h3];simp only[h1];exact h6
theorem xI{n:Nat}{cs:List Value}
  (ih:∀ (tt:TT) (t:TypeId) (cs:List Value) (x:DataW H×List MemPlace),tt.ok P t=true->P.cellsOf t=tt.size->DataW.trod enc P w base spare held n t cs=some x->(∀ n∈x.1.weights P t,n<=reachBytes)->∃ avs,tt.Has avs∧IsT w avs cs tt.size) :
  ∀ (fs:List TT) (fl:List Field) (o:Nat) (xs:List (DataW H×List MemPlace)),TT.oks P fs fl o=true->xs.length=fl.length ->
   (∀ (i:Nat) (f:Field),fl[i]?=some f->DataW.trod enc P w base spare held n f.type ((cs.drop f.offset).take (P.cellsOf f.type))=xs[i]?) ->
   (∀ n∈DataW.weightsEach P (fl.map (·.type)) (xs.map (·.1)),n<=reachBytes)->o+TT.sizes fs<=cs.length ->
   ∃ avs,TT.tQ fs avs∧avs.length=TT.sizes fs∧∀ j,j<TT.sizes fs->(cs.getD (o+j) undef).oneCell'=true∧az w (G0 w) bF (avs.getD j .top) (cs.getD (o+j) undef)
 | [],[],o,xs,hok,hx,hf,hw,ho=>⟨[],rfl,rfl,λj hj=>by simp[TT.sizes]at hj⟩
 |t :: r,f :: fl,o,[],hok,hx,hf,hw,ho=>by simp at hx
 |t :: r,f :: fl,o,x :: xs,hok,hx,hf,hw,ho=>by
  simp only[TT.oks,ad8,decide_eq_true_eq]at hok;obtain⟨h1,h2,h3,h4⟩:=hok;simp only[TT.sizes]at ho ⊢;have f0:=hf 0 f rfl;rw[h1,h3]at f0;obtain⟨a,a1,a2,a3,a4⟩:=ih t f.type _ x h2 h3 (by simpa using f0) λn hn=>hw n (by simp[DataW.weightsEach,hn])
  obtain⟨b,b1,b2,b3⟩:=xI ih r fl (o+t.size) xs h4 (by simpa using hx) (λi g hg=>by simpa using hf (i+1) g (by simpa using hg))
   (λn hn=>hw n (by simp[DataW.weightsEach,hn])) (by omega)
  refine⟨a++b,⟨a,b,rfl,a1,b1⟩,by simp[a2,b2],λj hj=>?_⟩;by_cases hjt:j<t.size
  ·have:=a4 j hjt;have e1:((cs.drop o).take t.size).getD j undef=cs.getD (o+j) undef:=by
    simp[iO,List.getElem?_take,hjt]
   have e2:(a++b).getD j .top=a.getD j .top:=by
    simp[iO,aej (show j<a.length by omega)]
   rw[e1]at this;rw[e2];exact this
  ·have:=b3 (j-t.size) (by omega);have e1:o+t.size+(j-t.size)=o+j:=by omega
   have e2:(a++b).getD j .top=b.getD (j-t.size) .top:=by
    rw[iO,aez (by omega),a2,iO]
   rw[e1]at this;rw[e2];exact this
 | [],_ :: _,o,xs,hok,hx,hf,hw,ho=>by simp[TT.oks]at hok
 |_ :: _,[],o,xs,hok,hx,hf,hw,ho=>by simp[TT.oks]at hok
theorem SC:∀ (fuel:Nat) (tt:TT) (t:TypeId) (cs:List Value) (x:DataW H×List MemPlace),tt.ok P t=true->DataW.trod enc P w base spare held fuel t cs=some x->(∀ n∈x.1.weights P t,n<=reachBytes) ->
  ∃ avs,tt.Has avs∧IsT w avs cs tt.size:=by
 have rb:reachBytes<=140737488355328:=by decide
 intro fuel
 induction fuel using Nat.strongRecOn with
 |ind fuel ih=>
  intro tt t cs x hok h hw;cases tt with
  |bool=>
   simp only[TT.ok]at hok;split at hok
   ·rename_i hu;obtain⟨b,rfl,rfl⟩:=DataW.trod_bool hu h;exact⟨[.bool b],⟨b,rfl⟩,uL rfl (.bool _ _)⟩
   ·cases hok
  |int k=>
   simp only[TT.ok]at hok;split at hok
   ·rename_i k' hu;simp only[decide_eq_true_eq]at hok;subst hok;obtain⟨n,rfl,rfl,hwf⟩:=DataW.trod_int hu h;exact⟨[.int k' n],⟨n,rfl,hwf⟩,uL rfl (.int _ _ _)⟩
   ·cases hok
  |str=>
   simp only[TT.ok]at hok;split at hok
   ·rename_i hu;obtain⟨s,rfl,rfl,_⟩:=DataW.trod_string hu h;have:=hw s.data.toList.length (by simp[DataW.weights]);exact⟨[.str s.data.toList],⟨s.data.toList,rfl,by omega⟩,uL rfl (.str _ s.data.toList)⟩
   ·cases hok
  |slice e=>
   simp only[TT.ok]at hok;split at hok
   ·rename_i u hu;simp only[ad8,decide_eq_true_eq]at hok;exact Iu hu hok.2.1 hok.2.2.1 hok.2.2.2 (λm hm cs x h1 h2=>ih m hm e u cs x hok.1 h1 h2) h hw
   ·cases hok
  |struct fs=>
   simp only[TT.ok]at hok;split at hok
   ·rename_i fl hu;simp only[ad8,decide_eq_true_eq]at hok;obtain⟨xs,n,rfl,rfl,hl,hlen,hf⟩:=DataW.trod_struct hu h;rw[hok.2]at hl;have hw2:∀ n∈DataW.weights P t (.agg (xs.map (·.1))),n<=reachBytes:=hw;have hE:DataW.weights P t (.agg (xs.map (·.1)))=DataW.weightsEach P (fl.toList.map (·.type)) (xs.map (·.1)):=by simp[DataW.weights,hu]
    rw[hE]at hw2;obtain⟨avs,a1,a2,a3⟩:=xI (λtt t cs x h1 _ h2 h3=>ih n (by omega) tt t cs x h1 h2 h3) fs fl.toList 0 xs hok.1 (by simpa using hlen) (λi f hi=>hf i f (by simpa using hi)) hw2 (by omega);exact⟨avs,a1,a2,hl,λj hj=>by simpa using a3 j hj⟩
   ·cases hok
theorem VK(tt:TT){t:TypeId}{v:Value}{d:DataW H}{ps:List MemPlace}{b:Nat}(hok:tt.ok P t=true)(hs:tt.agg=true->∃ cs,v=.agg cs)(hs2:tt.agg=false->v.oneCell'=true)
  (h:DataW.Trod enc P w b spare held t v d ps) (hz:∀ n∈d.weights P t,n<=reachBytes):∃ av:AV,tt.Has av.cells∧av.isAgg=tt.agg∧az w (G0 w) bF av v:=by
 obtain⟨fuel,hf⟩:=h;obtain⟨avs,h1,h2,h3,h4⟩:=SC fuel tt t _ _ hok hf hz;obtain⟨k1,k2⟩:=TT.uM h1;refine⟨tt.of avs,by rw[k1];exact h1,k2,?_⟩;cases ha:tt.agg with
 |true=>
  obtain⟨cs,rfl⟩:=hs ha;simp only[Value.cells]at h3 h4;have h5:∀ j,j<avs.length->(cs.getD j undef).oneCell'=true∧az w (G0 w) bF (avs.getD j .top) (cs.getD j undef):=λj hj=>by
   have:=h4 j (by omega);simpa[iO,aec]using this
  have e:tt.of avs=.agg avs:=by simp[TT.of,ha]
  rw[e];exact .agg _ _ _ (by rw[h2];simpa using h3) (λi hi=>(h5 i hi).1) (λi hi=>(h5 i hi).2)
 |false=>
  have e:tt.of avs=avs.getD 0 .top:=by simp[TT.of,ha]
  have hc:v.cells=#[v]:=by
   have:=hs2 ha;cases v<;>simp_all[Value.cells,Value.oneCell']
  rw[hc]at h3 h4;simp at h3;have:=(h4 0 (by omega)).2;rw[e];simpa using this
theorem Gv{tt:TT}{t:TypeId}{v:Value}{base0:Nat}(hok:tt.ok P t=true)(hv:Value.okWide P w .any base0 t v):(tt.agg=true->∃ cs,v=.agg cs)∧(tt.agg=false->v.oneCell'=true):=by
 cases tt with
 |bool=>
  refine⟨λe=>absurd e (by simp[TT.agg]),λ_=>?_⟩;simp only[TT.ok]at hok;split at hok
  ·rename_i hu;obtain⟨b,rfl⟩:=WideShapes.okWide_bool hu hv;rfl
  ·cases hok
 |int k=>
  refine⟨λe=>absurd e (by simp[TT.agg]),λ_=>?_⟩;simp only[TT.ok]at hok;split at hok
  ·rename_i hu;obtain⟨b,rfl⟩:=WideShapes.okWide_int hu hv;rfl
  ·cases hok
 |str=>
  refine⟨λe=>absurd e (by simp[TT.agg]),λ_=>?_⟩;simp only[TT.ok]at hok;split at hok
  ·rename_i hu;obtain⟨b,rfl⟩:=WideShapes.okWide_string hu hv;rfl
  ·cases hok
 |slice e=>
  refine⟨λe=>absurd e (by simp[TT.agg]),λ_=>?_⟩;simp only[TT.ok]at hok;split at hok
  ·rename_i hu;obtain⟨a,l,c,rfl⟩:=WideShapes.okWide_slice hu hv;rfl
  ·cases hok
 |struct fs=>
  refine⟨λ_=>?_,λe=>absurd e (by simp[TT.agg])⟩;simp only[TT.ok]at hok;split at hok
  ·rename_i hu;obtain⟨cs,rfl,_⟩:=WideShapes.okWide_struct hu hv;exact⟨_,rfl⟩
  ·cases hok
theorem Uv(tt:TT){t:TypeId}{v:Value}{d:DataW H}{ps:List MemPlace}{b base0:Nat}(hok:tt.ok P t=true)(hv:Value.okWide P w .any base0 t v)
  (h:DataW.Trod enc P w b spare held t v d ps) (hz:∀ n∈d.weights P t,n<=reachBytes):∃ av:AV,tt.Has av.cells∧av.isAgg=tt.agg∧az w (G0 w) bF av v:=
 VK tt hok (Gv hok hv).1 (Gv hok hv).2 h hz
/- What has a shape. -/
theorem TM{v:AV}(h:v.isAgg=true):v=.agg v.cells:=by cases v<;>first |rfl |cases h
theorem Iw{v c:AV}(h:v.isAgg=false)(hc:v.cells=[c]):v=c:=by cases v<;>simp_all[AV.cells,AV.isAgg]
theorem Kg{α:Type}{av:α->AV}{e:TT}{ok:α->Prop}(H:∀ v:AV,v.isAgg=e.agg->e.Has v.cells->∃ x,v=av x∧ok x):∀ es:List AV,(∀ v∈es,v.isAgg=e.agg∧e.Has v.cells)->∃ l:List α,es=l.map av∧∀ x∈l,ok x
 | [],_=>⟨[],rfl,λx hx=>by cases hx⟩
 |v :: r,h=>by
  obtain⟨x,rfl,hx⟩:=H v (h v (by simp)).1 (h v (by simp)).2;obtain⟨l,rfl,hl⟩:=Kg H r (λu hu=>h u (by simp[hu]));exact⟨x :: l,rfl,λy hy=>by
   rcases adY.1 hy with rfl |hy
   ·exact hx
   ·exact hl y hy⟩
theorem Qo{v:AV}(h1:v.isAgg=TT.str.agg)(h2:TT.str.Has v.cells):∃ s:List UInt8,v=.str s∧s.length<=140737488355328:=by
 obtain⟨s,hs,hl⟩:=h2;exact⟨s,Iw h1 hs,hl⟩
theorem K1{α:Type}{av:α->AV}{e:TT}{ok:α->Prop}(H:∀ v:AV,v.isAgg=e.agg->e.Has v.cells->∃ x,v=av x∧ok x){v:AV}(h1:v.isAgg=(TT.slice e).agg)(h2:(TT.slice e).Has v.cells) :
  ∃ (nl:Bool) (l:List α),v=slv nl (l.map av)∧l.length<=140737488355328∧∀ x∈l,ok x:=by
 obtain⟨nl,es,hs,hl,he⟩:=h2;obtain⟨l,rfl,hk⟩:=Kg H es he;exact⟨nl,l,Iw h1 hs,by simpa using hl,hk⟩
theorem Qp{k:IntKind}{v:AV}(h1:v.isAgg=(TT.int k).agg)(h2:(TT.int k).Has v.cells):∃ n:Int,v=.int k n∧(Lit.int k n).wf=true:=by
 obtain⟨n,hs,hl⟩:=h2;exact⟨n,Iw h1 hs,hl⟩
theorem bu{t:TT}{r:List TT}{cs:List AV}(h:TT.tQ (t :: r) cs):∃ a b,cs=a++b∧t.Has a∧TT.tQ r b:=h
theorem nC{cs:List AV}(h:TT.tQ [] cs):cs=[]:=h
theorem Qq{t:TT}{cs:List AV}(ht:t.agg=false)(h:t.Has cs):∃ v:AV,cs=[v]∧v.isAgg=t.agg∧t.Has v.cells:=by
 have hk:=TT.uM h;refine⟨t.of cs,?_,hk.2,by rw[hk.1];exact h⟩;cases t with
 |struct fs=>cases ht
 |bool=>obtain⟨b,rfl⟩:=h;rfl
 |int k=>obtain⟨n,rfl,_⟩:=h;rfl
 |str=>obtain⟨n,rfl,_⟩:=h;rfl
 |slice e=>obtain⟨nl,es,rfl,_⟩:=h;rfl
end
end Go.Ab

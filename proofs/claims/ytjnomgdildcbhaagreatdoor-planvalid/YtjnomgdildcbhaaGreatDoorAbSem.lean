/-
  The evaluator in use: what simp unfolds.
-/
import Derived.Test.YtjnomgdildcbhaaGreatDoorAbFix
set_option linter.unusedVariables false
namespace Go.Ab
theorem MK {K:Cfg} {f:FuncId} {args:List AV} {h:aj} {cf:aP} {c:CC} (hX:K.X f args h=none) (hc:K.fns f=some cf) (hb:cf.body=.code c) (ha:args.length<=cf.nt) :
  (mu K).fn f args h=match evC K (mu K) c { env:=cQ 0 args,h:=[] :: h } with
   | some (.norm,s)=>finish cf.res s
   | some (.ret,s)=>finish cf.res s
   | some (.pan v,s)=>(match pop v s.h with
    | some (v',h')=>some (.pan v' h')
    | none=>none)
   | _=>none:=by
 rw [dy]
 simp only [step,fm,hX,hc,hb,if_pos ha,evB]
 cases evC K (mu K) c { env:=cQ 0 args,h:=[] :: h } with
 | none=>rfl
 | some r=>
  obtain ⟨ex,s⟩:=r
  cases ex<;>rfl
theorem ML {K:Cfg} {n:Nat} {live:List Nat} {a:CC} {s:St}:(mu K).code (.ak n live a) s=match evC K (mu K) a s with
  | some (.norm,s1)=>(match cut n live s1 with
   | some s2=>(mu K).code (.ak n live a) s2
   | none=>none)
  | r=>r:=by rw [qY];rfl
section
variable (k:IntKind) (a b:Int)
@[simp] theorem QJ:gK .add k a b=some (.int k (k.wrap (a+b))):=rfl
@[simp] theorem QK:gK .sub k a b=some (.int k (k.wrap (a - b))):=rfl
@[simp] theorem QL:gK .mul k a b=some (.int k (k.wrap (a * b))):=rfl
@[simp] theorem QM:gK .quo k a b=if b=0 then none else some (.int k (k.wrap (a.tdiv b))):=rfl
@[simp] theorem QN:gK .rem k a b=if b=0 then none else some (.int k (a.tmod b)):=rfl
@[simp] theorem QO:gK .and k a b=some (.int k (k.wrap ((BitVec.ofInt k.bits a &&& BitVec.ofInt k.bits b).toNat:Int))):=rfl
@[simp] theorem U8:gK .or k a b=some (.int k (k.wrap ((BitVec.ofInt k.bits a ||| BitVec.ofInt k.bits b).toNat:Int))):=rfl
@[simp] theorem QS:gK .eql k a b=some (.bool (decide (a=b))):=rfl
@[simp] theorem QT:gK .neq k a b=some (.bool (!(decide (a=b)))):=rfl
@[simp] theorem QU:gK .lss k a b=some (.bool (decide (a < b))):=rfl
@[simp] theorem QV:gK .leq k a b=some (.bool (decide (a<=b))):=rfl
@[simp] theorem QW:gK .gtr k a b=some (.bool (decide (b < a))):=rfl
@[simp] theorem QX:gK .geq k a b=some (.bool (decide (b<=a))):=rfl
@[simp] theorem QY:gK .shl k a b=if b < 0 then none else some (.int k (k.wrap (a * 2 ^ (min b.toNat k.bits)))):=rfl
@[simp] theorem QZ:gK .shr k a b=if b < 0 then none else some (.int k (a.fdiv (2 ^ (min b.toNat k.bits)))):=rfl
end
section
variable (a b:List UInt8)
theorem F8:(a == b)=decide (a=b):=by
 by_cases h:a=b
 ·simp [h]
 ·simp [h]
@[simp] theorem Q0:tP .add a b=if a.length+b.length<=wA then some (.str (a++b)) else none:=rfl
@[simp] theorem Q1:tP .eql a b=some (.bool (decide (a=b))):=by simp only [tP,F8]
@[simp] theorem Q2:tP .neq a b=some (.bool (!(decide (a=b)))):=by simp only [tP,F8]
end
@[simp] theorem Q3 (es:List AV):qS (.lst es)=some es.length:=rfl
@[simp] theorem PY:qS .af=some 0:=rfl
@[simp] theorem Q4 (a:Loc) (n:Nat):qS (.own a n)=some n:=rfl
theorem wrap64 {n:Int} (h1:-9223372036854775808<=n) (h2:n<=9223372036854775807):IntKind.i64.wrap n=n:=by
 have e1:IntKind.i64.bits=64:=rfl
 have e2:IntKind.i64.signed=true:=rfl
 unfold IntKind.wrap
 simp only [e1,e2,Bool.true_and,decide_eq_true_eq]
 have e3:(2:Int) ^ 64=18446744073709551616:=by decide
 have e4:(2:Int) ^ (64 - 1)=9223372036854775808:=by decide
 rw [e3,e4]
 split<;>omega
@[simp] theorem Q5 (cs:List AV):(AV.agg cs).cells=cs:=rfl
@[simp] theorem Q6 (cs:List AV):(AV.agg cs).isAgg=true:=rfl
@[simp] theorem Q7 (cs:List AV):(AV.tup cs).cells=[]:=rfl
@[simp] theorem Q8 (cs:List AV):(AV.tup cs).isAgg=false:=rfl
@[simp] theorem Q9:AV.top.cells=[]:=rfl
@[simp] theorem PZ (b:Bool):(AV.bool b).cells=[(AV.bool b)]:=rfl
@[simp] theorem P0 (b:Bool):(AV.bool b).isAgg=false:=rfl
@[simp] theorem Ra (k:IntKind) (n:Int):(AV.int k n).cells=[(AV.int k n)]:=rfl
@[simp] theorem Rb (k:IntKind) (n:Int):(AV.int k n).isAgg=false:=rfl
@[simp] theorem Rc (s:List UInt8):(AV.str s).cells=[(AV.str s)]:=rfl
@[simp] theorem Re (s:List UInt8):(AV.str s).isAgg=false:=rfl
@[simp] theorem P1 :AV.af.cells=[AV.af]:=rfl
@[simp] theorem P2 :AV.af.isAgg=false:=rfl
@[simp] theorem Rg :AV.emp.cells=[AV.emp]:=rfl
@[simp] theorem Rh :AV.emp.isAgg=false:=rfl
@[simp] theorem Ri (es:List AV):(AV.lst es).cells=[(AV.lst es)]:=rfl
@[simp] theorem Rj (es:List AV):(AV.lst es).isAgg=false:=rfl
@[simp] theorem Rk (a:Loc) (n:Nat):(AV.own a n).cells=[(AV.own a n)]:=rfl
@[simp] theorem Rm (a:Loc) (n:Nat):(AV.own a n).isAgg=false:=rfl
@[simp] theorem Rn (a:Loc) (o:Nat):(AV.ptr a o).cells=[(AV.ptr a o)]:=rfl
@[simp] theorem Ro (a:Loc) (o:Nat):(AV.ptr a o).isAgg=false:=rfl
@[simp] theorem P3 (a:Loc) (n s i o:Nat):(AV.cE a n s i o).cells=[(AV.cE a n s i o)]:=rfl
@[simp] theorem P4 (a:Loc) (n s i o:Nat):(AV.cE a n s i o).isAgg=false:=rfl
@[simp] theorem P5 (e:AV) (o:Nat):(AV.dh e o).cells=[(AV.dh e o)]:=rfl
@[simp] theorem P6 (e:AV) (o:Nat):(AV.dh e o).isAgg=false:=rfl
@[simp] theorem P7 :AV.iF.cells=[AV.iF]:=rfl
@[simp] theorem P8 :AV.iF.isAgg=false:=rfl
@[simp] theorem U9 (f:Fn) (x y:List AV):(AV.fn f x y).cells=[(AV.fn f x y)]:=rfl
@[simp] theorem Va (f:Fn) (x y:List AV):(AV.fn f x y).isAgg=false:=rfl
@[simp] theorem P9 :AV.bG.cells=[AV.bG]:=rfl
@[simp] theorem Qa :AV.bG.isAgg=false:=rfl
@[simp] theorem Nu (t:TypeId) (v:AV):(AV.iface t v).cells=[(AV.iface t v)]:=rfl
@[simp] theorem Nv (t:TypeId) (v:AV):(AV.iface t v).isAgg=false:=rfl
@[simp] theorem Qb :AV.cN.cells=[AV.cN]:=rfl
@[simp] theorem Qc :AV.cN.isAgg=false:=rfl
@[simp] theorem Vb (a:Loc):(AV.mp a).cells=[(AV.mp a)]:=rfl
@[simp] theorem Vc (a:Loc):(AV.mp a).isAgg=false:=rfl
@[simp] theorem Qd :AV.dJ.cells=[AV.dJ]:=rfl
@[simp] theorem Qe :AV.dJ.isAgg=false:=rfl
@[simp] theorem Qf :AV.jd.cells=[AV.jd]:=rfl
@[simp] theorem Qg :AV.jd.isAgg=false:=rfl
def iaF (sz:Nat) (v:AV) (j:AV):Option AV:=match v,j with
 | .lst es,.int _ j=>if 0<=j then (match es[j.toNat]? with
  | some v=>if v.cells.length=sz then some (.dh v 0) else none
  | none=>none) else none
 | .own a n,.int _ j=>if 0<=j∧j < n then some (.cE a n sz j.toNat 0) else none
 | _,_=>none
@[simp] theorem WY (sz:Nat) (x i:Opd) (e:Env):evP (.iaS sz x i) e=iaF sz (x.ev e) (i.ev e):=rfl
@[simp] theorem Vu (sz:Nat) (a:Loc) (n:Nat) (k:IntKind) (j:Int):iaF sz (.own a n) (.int k j)=if 0<=j∧j < n then some (.cE a n sz j.toNat 0) else none:=rfl
@[simp] theorem Vd (sz:Nat) (es:List AV) (k:IntKind) (j:Int):iaF sz (.lst es) (.int k j)=if 0<=j then (match es[j.toNat]? with
  | some v=>if v.cells.length=sz then some (.dh v 0) else none
  | none=>none) else none:=rfl
attribute [simp] evP.eq_1 evP.eq_2 evP.eq_3 evP.eq_4 evP.eq_5 evP.eq_6 evP.eq_8 evP.eq_9 evP.eq_10 evP.eq_11 evP.eq_12 evP.eq_13 evP.eq_14 evP.eq_15 evP.eq_16 evP.eq_17 evP.eq_18 evP.eq_19 evP.eq_20 evP.eq_21 evP.eq_22 evP.eq_23 evP.eq_24 evP.eq_25 evP.eq_26 evP.eq_27
attribute [simp] qT JG toV wC asV pN wu wv oq isE ldQ stQ toQ wB zS wanted evM gD evQ fN bJ A8 Opd.ev oev get set put cQ keep JF BinOp.eA isNil finish wD jQ sR Ng Mp pop merge zG AV.ren AV.qC Blk.ren AV.aK AV.bM AV.view AV.views aA aS hnext hnew hlen
 uq D1 kL uC D3 bHi bLo cJ.eq_1 cJ.eq_2 cJ.eq_3 cJ.eq_4 recheck JH
end Go.Ab
/-
  Small Xz for Rp: a memory with one place set;bits.
-/
set_option linter.unusedSimpArgs false
namespace Go.Ab
attribute [simp] zQ zR qR AV.pure AV.beq AV.dA sized cut Pg Blk.aK qU aX gC iJ sP ou sO
theorem iR {h:aj} {a:Loc} (d:dom h a):a.1 < h.length:=by
 induction h with
 | nil=>simp [dom,aA] at d
 | cons f o ih=>
  unfold dom aA at d
  split at d
  ·simp;omega
  ·have:=ih d;simp;omega
theorem dU:∀ (h:aj) (a:Loc) (B C:Blk),aS (aS h a B) a C=aS h a C
 | [],_,_,_=>rfl
 | f :: o,a,B,C=>by
  by_cases e:a.1=o.length
  ·simp [aS,e]
  ·simp [aS,e,aX,dU o a B C]
theorem hU {h:aj} {a:Loc} (d:dom h a) (B:Blk):aA (aS h a B) a=some B:=by
 rw [eT];simp [d]
theorem rI {h:aj} {a:Loc} (d:dom h a):(a.1=h.length)=False:=by
 have:=iR d
 simp;omega
end Go.Ab
/-
  The evaluator, step by step: each step a small term, whatever comes behind it.
-/
namespace Go.Ab
section
variable (K:Cfg) (O:Orc)
def goP (d:Option Nat) (r:List CO) (e:Env) (h:aj):Option AV->Option (Ex×St)
 | some v=>cI K O r ⟨put e d v,h⟩
 | none=>none
def goM (d:Option Nat) (r:List CO) (e:Env):Option Out->Option (Ex×St)
 | some (.val v h)=>cI K O r ⟨put e d v,h⟩
 | some (.pan v h)=>some (.pan v,⟨e,h⟩)
 | none=>none
def goG (b:Bool) (d:Option Nat) (op:COp) (r:List CO) (e:Env) (h:aj):AV->Option (Ex×St)
 | .bool c=>if c=b then cI K O (⟨d,none,op⟩ :: r) ⟨e,h⟩ else cI K O r ⟨put e d (.tup []),h⟩
 | .tup []=>cI K O r ⟨put e d (.tup []),h⟩
 | _=>none
theorem MM (s:St):cI K O [] s=some (.norm,s):=rfl
theorem Ve (d:Option Nat) (q:POp) (r:List CO) (e:Env) (h:aj):cI K O (⟨d,none,.p q⟩ :: r) ⟨e,h⟩=goP K O d r e h (evP q e):=by
 simp only [cI,wanted]
 cases evP q e<;>rfl
theorem Vf (d:Option Nat) (q:MOp) (r:List CO) (e:Env) (h:aj):cI K O (⟨d,none,.m q⟩ :: r) ⟨e,h⟩=goM K O d r e (evM K O q e h):=by
 simp only [cI,wanted]
 cases evM K O q e h with
 | none=>rfl
 | some o=>cases o<;>rfl
theorem Vg (d:Option Nat) (t:Nat) (b:Bool) (op:COp) (r:List CO) (e:Env) (h:aj):cI K O (⟨d,some (t,b),op⟩ :: r) ⟨e,h⟩=goG K O b d op r e h (get e t):=by
 rw [cI]
 simp only [wanted]
 cases hg:get e t with
 | bool c=>
  by_cases hc:c=b
  ·subst hc
   simp only [goG,beq_self_eq_true,if_true,cI,wanted]
  ·have:(c == b)=false:=by simp [hc]
   simp only [goG,this,hc,if_false]
 | tup l=>cases l<;>rfl
 | _=>rfl
theorem KB (d:Option Nat) (r:List CO) (e:Env) (h:aj) (v:AV):goP K O d r e h (some v)=cI K O r ⟨put e d v,h⟩:=rfl
theorem MN (d:Option Nat) (r:List CO) (e:Env) (h:aj) (v:AV):goM K O d r e (some (.val v h))=cI K O r ⟨put e d v,h⟩:=rfl
theorem MO (d:Option Nat) (r:List CO) (e:Env) (h:aj) (v:AV):goM K O d r e (some (.pan v h))=some (.pan v,⟨e,h⟩):=rfl
theorem Qh (d:Option Nat) (op:COp) (r:List CO) (e:Env) (h:aj):goG K O true d op r e h (.bool true)=cI K O (⟨d,none,op⟩ :: r) ⟨e,h⟩:=rfl
theorem Qi (d:Option Nat) (op:COp) (r:List CO) (e:Env) (h:aj):goG K O false d op r e h (.bool false)=cI K O (⟨d,none,op⟩ :: r) ⟨e,h⟩:=rfl
theorem Qj (d:Option Nat) (op:COp) (r:List CO) (e:Env) (h:aj):goG K O true d op r e h (.bool false)=cI K O r ⟨put e d (.tup []),h⟩:=rfl
theorem Qk (d:Option Nat) (op:COp) (r:List CO) (e:Env) (h:aj):goG K O false d op r e h (.bool true)=cI K O r ⟨put e d (.tup []),h⟩:=rfl
theorem Ql (b:Bool) (d:Option Nat) (op:COp) (r:List CO) (e:Env) (h:aj):goG K O b d op r e h (.tup [])=cI K O r ⟨put e d (.tup []),h⟩:=rfl
def doP (d:Option Nat) (r:List DO) (pd:pe) (e:Env) (h:aj):Option AV->Option (Ex×St)
 | some v=>evD K O r pd ⟨put e d v,h⟩
 | none=>none
def doQ (x:Nat) (q:MOp) (k:Env) (d:Option Nat) (r:List DO) (pd:pe) (e:Env) (h:aj):Option AV->Option (Ex×St)
 | some v=>evD K O r ((x,q,k,v) :: pd) ⟨put e d v,h⟩
 | none=>none
def doM (re:List Nat) (d:Option Nat) (r:List DO) (pd:pe) (e:Env):Option Out->Option (Ex×St)
 | some (.val v h)=>if recheck K O re pd h=true then evD K O r pd ⟨put e d v,h⟩ else none
 | some (.pan v h)=>some (.pan v,⟨[],h⟩)
 | none=>none
def doG (d:Option Nat) (b:Bool) (op:COp) (x:Nat) (lk an re:List Nat) (r:List DO) (pd:pe) (e:Env) (h:aj):AV->Option (Ex×St)
 | .bool c=>if c=b then evD K O (⟨⟨d,none,op⟩,x,lk,an,re⟩ :: r) pd ⟨e,h⟩
  else if bJ ⟨d,some (0,b),op⟩=true∧recheck K O re pd h=false then none else evD K O r pd ⟨put e d (.tup []),h⟩
 | .tup []=>if bJ ⟨d,some (0,b),op⟩=true∧recheck K O re pd h=false then none else evD K O r pd ⟨put e d (.tup []),h⟩
 | _=>none
variable (x:Nat) (lk an re:List Nat) (d:Option Nat) (r:List DO) (pd:pe) (e:Env) (h:aj)
theorem Qm (s:St):evD K O [] pd s=some (.norm,s):=rfl
theorem WZ (q:POp):evD K O (⟨⟨d,none,.p q⟩,x,lk,an,re⟩ :: r) pd ⟨e,h⟩=doP K O d r pd e h (evP q (keep lk e)):=by
 simp only [evD,wanted]
 cases evP q (keep lk e)<;>rfl
theorem W0 (q:MOp):evD K O (⟨⟨d,none,.m q⟩,x,lk,an,re⟩ :: r) pd ⟨e,h⟩ =
  if fN q=true then doQ K O x q (keep lk e) d r pd e h (evQ K O q (keep lk e) h) else doM K O re d r pd e (evM K O q (keep lk e) h):=by
 simp only [evD,wanted]
 by_cases hq:fN q=true
 ·simp only [hq,if_true]
  cases evQ K O q (keep lk e) h<;>rfl
 ·simp only [hq,if_false]
  cases evM K O q (keep lk e) h with
  | none=>rfl
  | some o=>cases o<;>rfl
theorem W4 (t:Nat) (b:Bool) (op:COp):evD K O (⟨⟨d,some (t,b),op⟩,x,lk,an,re⟩ :: r) pd ⟨e,h⟩=doG K O d b op x lk an re r pd e h (get (keep lk e) t):=by
 rw [evD]
 simp only [wanted]
 have hl:bJ ⟨d,some (t,b),op⟩=bJ ⟨d,some (0,b),op⟩:=rfl
 cases hg:get (keep lk e) t with
 | bool c=>
  by_cases hc:c=b
  ·subst hc
   simp only [doG,beq_self_eq_true,if_true,evD,wanted]
  ·have:(c == b)=false:=by simp [hc]
   simp only [doG,this,hc,if_false,hl]
 | tup l=>
  cases l
  ·simp only [doG,hl]
  ·rfl
 | _=>rfl
theorem KC (v:AV):doP K O d r pd e h (some v)=evD K O r pd ⟨put e d v,h⟩:=rfl
theorem KD (q:MOp) (k:Env) (v:AV):doQ K O x q k d r pd e h (some v)=evD K O r ((x,q,k,v) :: pd) ⟨put e d v,h⟩:=rfl
theorem MP (v:AV):doM K O re d r pd e (some (.val v h))=if recheck K O re pd h=true then evD K O r pd ⟨put e d v,h⟩ else none:=rfl
theorem MQ (v:AV):doM K O re d r pd e (some (.pan v h))=some (.pan v,⟨[],h⟩):=rfl
theorem Qn (op:COp):doG K O d true op x lk an re r pd e h (.bool true)=evD K O (⟨⟨d,none,op⟩,x,lk,an,re⟩ :: r) pd ⟨e,h⟩:=rfl
theorem Qo (op:COp):doG K O d false op x lk an re r pd e h (.bool false)=evD K O (⟨⟨d,none,op⟩,x,lk,an,re⟩ :: r) pd ⟨e,h⟩:=rfl
theorem Qp (op:COp):doG K O d true op x lk an re r pd e h (.bool false)=if bJ ⟨d,some (0,true),op⟩=true∧recheck K O re pd h=false then none else evD K O r pd ⟨put e d (.tup []),h⟩:=rfl
theorem Qq (op:COp):doG K O d false op x lk an re r pd e h (.bool true)=if bJ ⟨d,some (0,false),op⟩=true∧recheck K O re pd h=false then none else evD K O r pd ⟨put e d (.tup []),h⟩:=rfl
theorem Qr (b:Bool) (op:COp):doG K O d b op x lk an re r pd e h (.tup [])=if bJ ⟨d,some (0,b),op⟩=true∧recheck K O re pd h=false then none else evD K O r pd ⟨put e d (.tup []),h⟩:=rfl
end
/- Code. -/
section
variable (K:Cfg) (O:Orc)
def goS (b:CC):Option (Ex×St)->Option (Ex×St)
 | some (.norm,s1)=>evC K O b s1
 | r=>r
def goC (a b:CC) (s:St):AV->Option (Ex×St)
 | .bool t=>if t then evC K O a s else evC K O b s
 | _=>none
def goB (id:Nat):Option (Ex×St)->Option (Ex×St)
 | some (.exit j,s1)=>if j=id then some (.norm,s1) else some (.exit j,s1)
 | r=>r
def goL (F:St->Option (Ex×St)) (n:Nat) (live:List Nat):Option (Ex×St)->Option (Ex×St)
 | some (.norm,s1)=>(match cut n live s1 with
   | some s2=>F s2
   | none=>none)
 | r=>r
variable (s:St) (a b:CC) (id n:Nat) (live:List Nat)
theorem eD:evC K O (.seq a b) s=goS K O b (evC K O a s):=by
 rw [evC];cases evC K O a s with
 | none=>rfl
 | some x=>obtain ⟨ex,s1⟩:=x;cases ex<;>rfl
theorem Qs (x:Opd) (e:Env) (h:aj):evC K O (.cond x a b) ⟨e,h⟩=goC K O a b ⟨e,h⟩ (x.ev e):=by
 rw [evC];cases x.ev e<;>rfl
theorem MR:evC K O (.block id a) s=goB id (evC K O a s):=by
 rw [evC];cases evC K O a s with
 | none=>rfl
 | some x=>obtain ⟨ex,s1⟩:=x;cases ex<;>rfl
theorem Qt (e:Env) (h:aj):evC K O (.loop live a) ⟨e,h⟩=O.code (.ak (hlen h) live a) ⟨keep live e,h⟩:=rfl
theorem Qu:evC K O .skip s=some (.norm,s):=rfl
theorem Vh (l:List CO):evC K O (.reg l) s=cI K O l s:=rfl
theorem Qv (l:List DO):evC K O (.draw l) s=evD K O l [] s:=rfl
theorem Qw:evC K O (.exit id) s=some (.exit id,s):=rfl
theorem Vi:evC K O .ret s=some (.ret,s):=rfl
theorem MS:evC K O (.scope a) s=evC K O a s:=rfl
theorem cK:goS K O b (some (.norm,s))=evC K O b s:=rfl
theorem KE (j:Nat):goS K O b (some (.exit j,s))=some (.exit j,s):=rfl
theorem AF:goS K O b (some (.ret,s))=some (.ret,s):=rfl
theorem MT (v:AV):goS K O b (some (.pan v,s))=some (.pan v,s):=rfl
theorem KF:goC K O a b s (.bool true)=evC K O a s:=rfl
theorem HA:goC K O a b s (.bool false)=evC K O b s:=rfl
theorem KG:goB id (some (.norm,s))=some (.norm,s):=rfl
theorem KH (j:Nat):goB id (some (.exit j,s))=if j=id then some (.norm,s) else some (.exit j,s):=rfl
theorem MU:goB id (some (.ret,s))=some (.ret,s):=rfl
theorem MV (v:AV):goB id (some (.pan v,s))=some (.pan v,s):=rfl
variable (F:St->Option (Ex×St))
theorem xw : goL F n live (some (.norm, s)) = match cut n live s with
      | some s2=>F s2
      | none=>none:=rfl
theorem KI (j:Nat):goL F n live (some (.exit j,s))=some (.exit j,s):=rfl
theorem F5:goL F n live (some (.ret,s))=some (.ret,s):=rfl
theorem MW (v:AV):goL F n live (some (.pan v,s))=some (.pan v,s):=rfl
end
theorem aq {K:Cfg} {n:Nat} {live:List Nat} {a:CC} {s:St}:(mu K).code (.ak n live a) s=goL ((mu K).code (.ak n live a)) n live (evC K (mu K) a s):=by
 rw [ML];cases evC K (mu K) a s with
 | none=>rfl
 | some x=>obtain ⟨ex,s1⟩:=x;cases ex<;>rfl
def goF (rs:List gG):Option (Ex×St)->Option Out
 | some (.norm,s)=>finish rs s
 | some (.ret,s)=>finish rs s
 | some (.pan v,s)=>(match pop v s.h with
  | some (v',h')=>some (.pan v' h')
  | none=>none)
 | _=>none
theorem KJ (rs:List gG) (s:St):goF rs (some (.norm,s))=finish rs s:=rfl
theorem MX (rs:List gG) (s:St):goF rs (some (.ret,s))=finish rs s:=rfl
theorem MY (rs:List gG) (v:AV) (s:St):goF rs (some (.pan v,s))=match pop v s.h with
  | some (v',h')=>some (.pan v' h')
  | none=>none:=rfl
theorem aC {K:Cfg} {f:FuncId} {args:List AV} {h:aj} {cf:aP} {c:CC} (hX:K.X f args h=none) (hc:K.fns f=some cf) (hb:cf.body=.code c) (ha:args.length<=cf.nt) :
  (mu K).fn f args h=goF cf.res (evC K (mu K) c { env:=cQ 0 args,h:=[] :: h }):=by
 rw [MK hX hc hb ha]
 cases evC K (mu K) c { env:=cQ 0 args,h:=[] :: h } with
 | none=>rfl
 | some x=>obtain ⟨ex,s1⟩:=x;cases ex<;>rfl
attribute [simp] Qu Vh Qv Qw Vi MS MM Ve Vf Vg KB MN MO Qh Qi Qj Qk Ql Qm WZ W0 W4 KC KD MP MQ Qn Qo Qp Qq Qr eD Qs MR Qt cK KE AF MT KF HA KG KH MU MV xw KI F5 MW KJ MX MY
end Go.Ab
/-
  HS Vv references: they read as they are at every place, and no Vw end turns them.
-/
namespace Go.Ab
mutual
theorem dX:∀ (v:AV),v.aK (fun _=>false)=true->∀ p,v.aK p=true
 | .agg cs,h,p=>by simp only [AV.aK] at h ⊢;exact jl cs h p
 | .tup cs,h,p=>by simp only [AV.aK] at h ⊢;exact jl cs h p
 | .own a n,h,p=>by simp [AV.aK] at h
 | .ptr a n,h,p=>by simp [AV.aK] at h
 | .cE a n s i o,h,p=>by simp [AV.aK] at h
 | .mp a,h,p=>by simp [AV.aK] at h
 | .fn f x y,h,p=>by
  simp only [AV.aK,Bool.and_eq_true] at h ⊢
  exact ⟨jl x h.1 p,jl y h.2 p⟩
 | .iface t v,h,p=>by simp only [AV.aK] at h ⊢;exact dX v h p
 | .top,_,_=>rfl
 | .bool _,_,_=>rfl
 | .int _ _,_,_=>rfl
 | .str _,_,_=>rfl
 | .af,_,_=>rfl
 | .emp,_,_=>rfl
 | .lst _,_,_=>rfl
 | .dh _ _,_,_=>rfl
 | .iF,_,_=>rfl
 | .bG,_,_=>rfl
 | .cN,_,_=>rfl
 | .dJ,_,_=>rfl
 | .jd,_,_=>rfl
theorem jl:∀ (cs:List AV),AV.bM (fun _=>false) cs=true->∀ p,AV.bM p cs=true
 | [],_,_=>rfl
 | c :: cs,h,p=>by
  simp only [AV.bM,Bool.and_eq_true] at h ⊢
  exact ⟨dX c h.1 p,jl cs h.2 p⟩
end
mutual
theorem rY:∀ (v:AV),v.aK (fun _=>false)=true->∀ p h,v.view p h=some (v,h)
 | .agg cs,hv,p,h=>by simp only [AV.aK] at hv;simp only [AV.view,pU cs hv p h]
 | .tup cs,hv,p,h=>by simp only [AV.aK] at hv;simp only [AV.view,pU cs hv p h]
 | .own a n,hv,p,h=>by simp [AV.aK] at hv
 | .ptr a n,hv,p,h=>by simp [AV.aK] at hv
 | .cE a n s i o,hv,p,h=>by simp [AV.aK] at hv
 | .mp a,hv,p,h=>by simp [AV.aK] at hv
 | .fn f x y,hv,p,h=>rfl
 | .iface t v,hv,p,h=>by simp only [AV.aK] at hv;simp only [AV.view,rY v hv p h]
 | .top,_,_,_=>rfl
 | .bool _,_,_,_=>rfl
 | .int _ _,_,_,_=>rfl
 | .str _,_,_,_=>rfl
 | .af,_,_,_=>rfl
 | .emp,_,_,_=>rfl
 | .lst _,_,_,_=>rfl
 | .dh _ _,_,_,_=>rfl
 | .iF,_,_,_=>rfl
 | .bG,_,_,_=>rfl
 | .cN,_,_,_=>rfl
 | .dJ,_,_,_=>rfl
 | .jd,_,_,_=>rfl
theorem pU:∀ (cs:List AV),AV.bM (fun _=>false) cs=true->∀ p h,AV.views p cs h=some (cs,h)
 | [],_,_,_=>rfl
 | c :: cs,hv,p,h=>by
  simp only [AV.bM,Bool.and_eq_true] at hv
  simp only [AV.views,rY c hv.1 p h,pU cs hv.2 p h]
end
theorem sK {f:List Blk} {h:aj} {a:Loc} (ha:dom h a):dom (f :: h) a:=by
 unfold dom aA
 rw [if_neg (by have:=iR ha;omega)];exact ha
end Go.Ab
/-
  Slices that nobody writes, as lists with a mark for nil;loops over them.
-/
namespace Go.Ab
def lv (nl:Bool):List AV->AV
 | []=>if nl then .af else .lst []
 | e :: r=>.lst (e :: r)
structure Sl (α:Type) where
 nl:Bool
 l:List α
def Sl.avS {α:Type} (av:α->AV) (s:Sl α):AV:=lv s.nl (s.l.map av)
@[simp] theorem jY (l:List AV):lv false l=.lst l:=by cases l<;>rfl
@[simp] theorem LY (nl:Bool) (e:AV) (r:List AV):lv nl (e :: r)=.lst (e :: r):=rfl
theorem iY (nl:Bool) {l:List AV} (h:l≠[]):lv nl l=.lst l:=by cases l with
 | nil=>exact absurd rfl h
 | cons e r=>rfl
@[simp] theorem KM (nl:Bool) (l:List AV):(lv nl l).cells=[lv nl l]:=by cases l<;>cases nl<;>rfl
@[simp] theorem KN (nl:Bool) (l:List AV):(lv nl l).isAgg=false:=by cases l<;>cases nl<;>rfl
@[simp] theorem KO (p:Loc->Bool) (nl:Bool) (l:List AV):(lv nl l).aK p=true:=by cases l<;>cases nl<;>rfl
@[simp] theorem MZ (p:Loc->Bool) (nl:Bool) (l:List AV) (h:aj):(lv nl l).view p h=some (lv nl l,h):=by cases l<;>cases nl<;>rfl
@[simp] theorem Qx (nl:Bool) (l:List AV):qS (lv nl l)=some l.length:=by cases l<;>cases nl<;>rfl
@[simp] theorem KP (nl:Bool) (l:List AV) (h:aj):cJ (lv nl l) h=some l:=by cases l<;>cases nl<;>rfl
@[simp] theorem Qy (r:Loc->Loc) (nl:Bool) (l:List AV):(lv nl l).ren r=lv nl l:=by cases l<;>cases nl<;>rfl
@[simp] theorem zn {α:Type} (av:α->AV) (s:Sl α):(s.avS av).cells=[s.avS av]:=KM _ _
@[simp] theorem zm {α:Type} (av:α->AV) (s:Sl α):(s.avS av).isAgg=false:=KN _ _
@[simp] theorem rU {α:Type} (p:Loc->Bool) (av:α->AV) (s:Sl α):(s.avS av).aK p=true:=KO _ _ _
@[simp] theorem Ku {α:Type} (p:Loc->Bool) (av:α->AV) (s:Sl α) (h:aj):(s.avS av).view p h=some (s.avS av,h):=MZ _ _ _ _
@[simp] theorem Vx {α:Type} (av:α->AV) (s:Sl α):qS (s.avS av)=some s.l.length:=by rw [Sl.avS,Qx,List.length_map]
@[simp] theorem Rq {α:Type} (av:α->AV) (s:Sl α) (h:aj):cJ (s.avS av) h=some (s.l.map av):=KP _ _ _
@[simp] theorem Vy {α:Type} (r:Loc->Loc) (av:α->AV) (s:Sl α):(s.avS av).ren r=s.avS av:=Qy _ _ _
theorem lu {sz:Nat} {nl:Bool} {l:List AV} {k:IntKind} {j:Int} {v:AV} (h0:0<=j) (h1:l[j.toNat]?=some v) (h2:v.cells.length=sz):iaF sz (lv nl l) (.int k j)=some (.dh v 0):=by
 have:l≠[]:=fun e=>by rw [e] at h1;simp at h1
 rw [iY nl this]
 simp [iaF,h0,h1,h2]
theorem eG {sz:Nat} {l:List AV} {k:IntKind} {j:Int} {v:AV} (h0:0<=j) (h1:l[j.toNat]?=some v) (h2:v.cells.length=sz):iaF sz (.lst l) (.int k j)=some (.dh v 0):=by
 simp [iaF,h0,h1,h2]
theorem aI {α:Type} {av:α->AV} {sz:Nat} {s:Sl α} {k:IntKind} {j:Int} {x:α} (h0:0<=j) (h1:s.l[j.toNat]?=some x) (h2:(av x).cells.length=sz):iaF sz (s.avS av) (.int k j)=some (.dh (av x) 0):=
 lu h0 (by simp [h1]) h2
def iter {α β ρ:Type} (f:β->α->β ⊕ ρ):β->List α->β ⊕ ρ
 | b,[]=>.inl b
 | b,x :: l=>match f b x with
  | .inl b'=>iter f b' l
  | .inr r=>.inr r
theorem aF {K:Cfg} {n:Nat} {live:List Nat} {a:CC} {α β ρ:Type} (f:β->α->β ⊕ ρ) (S:List α->β->St) (I:List α->β->Prop)
  (E:β->Option (Ex×St)->Prop) (R:ρ->Option (Ex×St)->Prop) (l:List α)
  (hs:∀ pre x s b,l=pre++x :: s->I pre b->(∀ b',f b x=.inl b'->I (pre++[x]) b'∧(mu K).code (.ak n live a) (S pre b)=(mu K).code (.ak n live a) (S (pre++[x]) b')) ∧
   (∀ r,f b x=.inr r->R r ((mu K).code (.ak n live a) (S pre b))))
  (he:∀ b,I l b->E b ((mu K).code (.ak n live a) (S l b))) (b0:β) (h0:I [] b0) :
  match iter f b0 l with
  | .inl b=>I l b∧E b ((mu K).code (.ak n live a) (S [] b0))
  | .inr r=>R r ((mu K).code (.ak n live a) (S [] b0)):=by
 have key:∀ (s pre:List α) (b:β),l=pre++s->I pre b->match iter f b s with
   | .inl b'=>I l b'∧E b' ((mu K).code (.ak n live a) (S pre b))
   | .inr r=>R r ((mu K).code (.ak n live a) (S pre b)):=by
  intro s
  induction s with
  | nil=>
   intro pre b hl hi
   simp only [List.append_nil] at hl
   subst hl
   exact ⟨hi,he b hi⟩
  | cons x s ih=>
   intro pre b hl hi
   obtain ⟨h1,h2⟩:=hs pre x s b hl hi
   simp only [iter]
   cases hf:f b x with
   | inl b'=>
    obtain ⟨k1,k2⟩:=h1 b' hf
    have:=ih (pre++[x]) b' (by simp [hl]) k1
    rw [k2]
    exact this
   | inr r=>exact h2 r hf
 exact key l [] b0 rfl h0
end Go.Ab
/-
  Policies: plain data;when a policy is well-formed;its tree.
-/
namespace Go.Ab.Pol
abbrev Bs:=List UInt8
abbrev iV (n:Int):AV:=.int .i64 n
structure Nd where
 k:Int
 num:Int
 nm:Bs
 attr:Bs
 kids:Sl Int
 pos:Int
structure Us where
 al:Bs
 sc:Bs
 deriving DecidableEq
structure Rf where
 al:Bs
 attr:Bs
 deriving DecidableEq
structure Po where
 name:Bs
 uses:Sl Us
 aB:Sl Rf
 nodes:Sl Nd
 root:Int
 scope:Bs
 limit:Int
 cC:Bs
abbrev Nd.cs (x:Nd):List AV:=[iV x.k,iV x.num,.str x.nm,.str x.attr,x.kids.avS iV,iV x.pos]
abbrev Nd.av (x:Nd):AV:=.agg x.cs
abbrev Us.cs (x:Us):List AV:=[.str x.al,.str x.sc]
abbrev Us.av (x:Us):AV:=.agg x.cs
abbrev Rf.cs (x:Rf):List AV:=[.str x.al,.str x.attr]
abbrev Rf.av (x:Rf):AV:=.agg x.cs
abbrev Po.cs (x:Po):List AV:=[.str x.name,x.uses.avS Us.av,x.aB.avS Rf.av,x.nodes.avS Nd.av,iV x.root,.str x.scope,iV x.limit,.str x.cC]
abbrev Po.av (x:Po):AV:=.agg x.cs
/- Names and words. -/
def eR (n:Int):Bool:=decide (97<=n∧n<=122) || decide (65<=n∧n<=90)
def iC (n:Int):Bool:=decide (48<=n∧n<=57)
def oS (first:Bool) (n:Int):Bool:=eR n || (!first && (decide (n=95) || iC n))
def vm (n:Int):Bool:=eR n || iC n || decide (n=45) || decide (n=95)
def oc:Bool->Bs->Bool
 | _,[]=>true
 | b,c :: s=>oS b (c.toNat:Int) && oc false s
def qi:Bs->Bool
 | []=>true
 | c :: s=>vm (c.toNat:Int) && qi s
def kws:List Bs:=[[112,111,108,105,99,121],[117,115,101,115],[114,101,118,101,97,108],[112,114,111,118,101],[115,99,111,112,101],[108,105,109,105,116],[101,115,99,114,111,119],[101,110,100],[97,108,108],
 [97,110,121],[97,116,108,101,97,115,116],[110,111,116],[116,114,117,101],[102,97,108,115,101],[98,101,116,119,101,101,110],[97,110,100],[105,110]]
def kw (s:Bs):Bool:=decide (s∈kws)
def aU (s:Bs):Bool:=oc true s && decide (s≠[]) && decide (s.length<=32) && !kw s
def fK (s:Bs):Bool:=qi s && decide (s≠[]) && decide (s.length<=32)
/- A node alone. -/
def gq (k:Int) (n:Nat):Bool:=
 if k=0∨k=1∨k=9∨k=10∨k=11 then decide (n=0) else if k=2 then decide (n=1) else if k=3∨k=4∨k=5 then decide (1<=n)
 else if k=6 then decide (n=2) else if k=7 then decide (n=3) else if k=8 then decide (2<=n) else false
def qj (x:Nd):Bool:=if x.k=9 then aU x.nm && aU x.attr else if x.k=11 then fK x.nm && decide (x.attr=[]) else decide (x.nm=[]) && decide (x.attr=[])
def GD (x:Nd):Int:=if x.k=5 then 1 else if x.k=10 then -2147483648 else 0
def xZ (x:Nd):Int:=if x.k=5 then (x.kids.l.length:Int) else if x.k=6 then 5 else if x.k=10 then 2147483647 else 0
def uw (x:Nd) (c:Bool):Bool:=decide (0<=x.k) && decide (x.k < 12) && (decide (x.k<=8) == c) && gq x.k x.kids.l.length && qj x
def og (x:Nd) (c:Bool):Int:=if uw x c=false then 3 else if x.num < GD x∨xZ x < x.num then 2 else 0
/- The visit of the nodes. -/
def kJ (ns:List Nd) (i:Int) (seen:List Int):Bool:=decide (i < 0) || decide ((ns.length:Int)<=i) || decide (i∈seen)
def pM (v:Int->List Int->Int×List Int):List Int->List Int->Int×List Int
 | [],seen=>(0,seen)
 | k :: ks,seen=>if (v k seen).1=0 then pM v ks (v k seen).2 else v k seen
def vis (ns:List Nd):Nat->Int->Bool->List Int->Int×List Int
 | 0,i,c,seen=>if kJ ns i seen then (3,seen) else (7,seen)
 | f+1,i,c,seen=>if kJ ns i seen then (3,seen) else match ns[i.toNat]? with
  | none=>(3,seen)
  | some n=>if og n c=0 then pM (fun k s=>vis ns f k (decide (n.k<=5)) s) n.kids.l (seen++[i]) else (og n c,seen++[i])
def oh (p:Po):Int:=if (vis p.nodes.l 32 p.root true []).1=0 then (if (vis p.nodes.l 32 p.root true []).2.length=p.nodes.l.length then 0 else 3) else (vis p.nodes.l 32 p.root true []).1
def qt (p:Po):Bool:=aU p.name && (decide (p.cC=[]) || aU p.cC) && (decide (p.scope=[]) || fK p.scope) &&
 p.uses.l.all (fun u=>aU u.al && aU u.sc) && p.aB.l.all (fun r=>aU r.al && aU r.attr)
def used (p:Po) (s:Bs):Bool:=p.uses.l.any fun u=>decide (u.al=s)
def chk (p:Po):Int:=
 if 512 < p.nodes.l.length∨p.uses.l.length < 1∨4 < p.uses.l.length∨64 < p.aB.l.length then 6
 else if qt p=false then 3
 else if p.limit < 0∨65536 < p.limit∨(0 < p.limit∧p.scope=[]) then 2
 else if oh p≠0 then oh p
 else if ¬ (p.uses.l.map Us.al).Nodup∨¬ p.aB.l.Nodup then 8
 else if p.aB.l.all (fun r=>used p r.al)=false then 9
 else if p.nodes.l.all (fun n=>!(decide (n.k=9)) || used p n.nm)=false then 9
 else 0
/- The tree of a well-formed policy. -/
inductive Tr where
 | nd (i:Nat) (n:Nd) (ks:List Tr)
def Tr.i:Tr->Nat
 | .nd i _ _=>i
def Tr.n:Tr->Nd
 | .nd _ n _=>n
def Tr.ks:Tr->List Tr
 | .nd _ _ ks=>ks
mutual
def Tr.pre:Tr->List Nat
 | .nd i _ ks=>i :: Tr.fL ks
def Tr.fL:List Tr->List Nat
 | []=>[]
 | t :: ts=>t.pre++Tr.fL ts
end
mutual
def Tr.dep:Tr->Nat
 | .nd _ _ ks=>Tr.deps ks+1
def Tr.deps:List Tr->Nat
 | []=>0
 | t :: ts=>max t.dep (Tr.deps ts)
end
mutual
def IsT (ns:List Nd):Tr->Prop
 | .nd i n ks=>ns[i]?=some n∧n.kids.l=ks.map (fun t=>(t.i:Int))∧lp ns ks
def lp (ns:List Nd):List Tr->Prop
 | []=>True
 | t :: ts=>IsT ns t∧lp ns ts
end
mutual
def WF:Tr->Bool->Prop
 | .nd _ n ks,c=>og n c=0∧WFs ks (decide (n.k<=5))
def WFs:List Tr->Bool->Prop
 | [],_=>True
 | t :: ts,c=>WF t c∧WFs ts c
end
abbrev ints (l:List Nat):List Int:=l.map fun (i:Nat)=>(i:Int)
theorem sH {ns:List Nd} {i:Int} {seen:List Int}:kJ ns i seen=false↔0<=i∧i < (ns.length:Int)∧i∉seen:=by
 unfold kJ
 simp only [Bool.or_eq_false_iff,decide_eq_false_iff_not]
 constructor
 ·rintro ⟨⟨h1,h2⟩,h3⟩;exact ⟨by omega,by omega,h3⟩
 ·rintro ⟨h1,h2,h3⟩;exact ⟨⟨by omega,by omega⟩,h3⟩
mutual
theorem KQ:∀ (t:Tr) {ns:List Nd} {f:Nat} {c:Bool} {seen:List Int},IsT ns t->WF t c->t.dep<=f->(seen++ints t.pre).Nodup->vis ns f t.i c seen=(0,seen++ints t.pre)
 | .nd i n ks,ns,f,c,seen,h1,h2,h3,h4=>by
  obtain ⟨a1,a2,a3⟩:=h1
  obtain ⟨b1,b2⟩:=h2
  cases f with
  | zero=>simp [Tr.dep] at h3
  | succ f=>
   have hlt:=(List.getElem?_eq_some_iff.1 a1).1
   have hb:kJ ns (i:Int) seen=false:=sH.2 ⟨by omega,by omega,fun hm=>by
    simp only [Tr.pre,List.map_cons] at h4
    have:=(List.nodup_append.1 h4).2.2 _ hm (i:Int) (by simp)
    exact this rfl⟩
   have:=F9 ks (ns:=ns) (f:=f) (c:=decide (n.k<=5)) (seen:=seen++[(i:Int)]) a3 b2 (by simp only [Tr.dep] at h3;omega) (by simpa [Tr.pre] using h4)
   show vis ns (f+1) (i:Int) c seen=_
   rw [vis,hb]
   simp only [Bool.false_eq_true,if_false,Int.toNat_natCast,a1,b1,if_true,a2,this]
   simp [Tr.pre]
theorem F9:∀ (ts:List Tr) {ns:List Nd} {f:Nat} {c:Bool} {seen:List Int},lp ns ts->WFs ts c->Tr.deps ts<=f->(seen++ints (Tr.fL ts)).Nodup->pM (fun k s=>vis ns f k c s) (ts.map fun t=>(t.i:Int)) seen=(0,seen++ints (Tr.fL ts))
 | [],ns,f,c,seen,_,_,_,_=>by simp [pM,Tr.fL]
 | t :: ts,ns,f,c,seen,h1,h2,h3,h4=>by
  have h4':((seen++ints t.pre)++ints (Tr.fL ts)).Nodup:=by simpa [Tr.fL] using h4
  have k1:=KQ t (f:=f) (seen:=seen) h1.1 h2.1 (by simp only [Tr.deps] at h3;omega) (List.nodup_append.1 h4').1
  have k2:=F9 ts (f:=f) (seen:=seen++ints t.pre) h1.2 h2.2 (by simp only [Tr.deps] at h3;omega) h4'
  simp only [List.map_cons,pM,k1,if_true,k2]
  simp [Tr.fL]
end
theorem KR {ns:List Nd} {i:Int} {c:Bool} {seen s':List Int} (h:vis ns 0 i c seen=(0,s')):False:=by
 unfold vis at h
 split at h<;>simp at h
theorem Al {ns:List Nd} {f:Nat} {c:Bool} (ih:∀ (i:Int) (seen s':List Int),seen.Nodup->vis ns f i c seen=(0,s')->∃ t:Tr,IsT ns t∧(t.i:Int)=i∧WF t c∧t.dep<=f∧s'=seen++ints t.pre∧s'.Nodup) :
  ∀ (ks:List Int) (seen s':List Int),seen.Nodup->pM (fun k s=>vis ns f k c s) ks seen=(0,s')->∃ ts:List Tr,lp ns ts∧ts.map (fun t=>(t.i:Int))=ks∧WFs ts c∧Tr.deps ts<=f∧s'=seen++ints (Tr.fL ts)∧s'.Nodup
 | [],seen,s',hn,h=>by
  simp only [pM,Prod.mk.injEq,true_and] at h
  subst h
  exact ⟨[],trivial,rfl,trivial,Nat.zero_le _,by simp [Tr.fL],hn⟩
 | k :: ks,seen,s',hn,h=>by
  simp only [pM] at h
  split at h
  ·rename_i h0
   obtain ⟨s1,hs1⟩:∃ s1,vis ns f k c seen=(0,s1):=⟨_,Prod.ext h0 rfl⟩
   rw [hs1] at h
   obtain ⟨t,a1,a2,a3,a4,a5,a6⟩:=ih k seen s1 hn hs1
   obtain ⟨ts,b1,b2,b3,b4,b5,b6⟩:=Al ih ks s1 s' a6 h
   refine ⟨t :: ts,⟨a1,b1⟩,by simp [a2,b2],⟨a3,b3⟩,by simp only [Tr.deps];omega,?_,b6⟩
   rw [b5,a5]
   simp [Tr.fL]
  ·rename_i h0
   rw [h] at h0
   exact absurd rfl h0
theorem Dm {ns:List Nd}:∀ (f:Nat) (c:Bool) (i:Int) (seen s':List Int),seen.Nodup->vis ns f i c seen=(0,s')->∃ t:Tr,IsT ns t∧(t.i:Int)=i∧WF t c∧t.dep<=f∧s'=seen++ints t.pre∧s'.Nodup
 | 0,c,i,seen,s',hn,h=>(KR h).elim
 | f+1,c,i,seen,s',hn,h=>by
  simp only [vis] at h
  split at h
  ·simp at h
  ·rename_i hb
   have hb:kJ ns i seen=false:=by simpa using hb
   obtain ⟨h0,h1,h2⟩:=sH.1 hb
   split at h
   ·simp at h
   ·rename_i n hnd
    split at h
    ·rename_i he
     have hn2:(seen++[i]).Nodup:=by
      rw [List.nodup_append]
      exact ⟨hn,by simp,fun a ha b hb2 e=>by
       simp only [List.mem_singleton] at hb2
       rw [e,hb2] at ha
       exact h2 ha⟩
     obtain ⟨ts,b1,b2,b3,b4,b5,b6⟩:=Al (Dm f (decide (n.k<=5))) n.kids.l (seen++[i]) s' hn2 h
     refine ⟨.nd i.toNat n ts,⟨hnd,b2.symm,b1⟩,Int.toNat_of_nonneg h0,⟨he,b3⟩,by simp only [Tr.dep];omega,?_,b6⟩
     rw [b5]
     simp [Tr.pre,Int.toNat_of_nonneg h0]
    ·rename_i he
     simp only [Prod.mk.injEq] at h
     exact absurd h.1 he
structure Good (p:Po) (t:Tr):Prop where
 sizes:p.nodes.l.length<=512∧1<=p.uses.l.length∧p.uses.l.length<=4∧p.aB.l.length<=64
 names:qt p=true
 limit:0<=p.limit∧p.limit<=65536∧(0 < p.limit->p.scope≠[])
 isT:IsT p.nodes.l t
 root:(t.i:Int)=p.root
 wf:WF t true
 dep:t.dep<=32
 nodup:t.pre.Nodup
 all:t.pre.length=p.nodes.l.length
 aliases:(p.uses.l.map Us.al).Nodup
 M0:p.aB.l.Nodup
 Ie:∀ r∈p.aB.l,used p r.al=true
 refs:∀ n∈p.nodes.l,n.k=9->used p n.nm=true
theorem xz {l:List Nat}:(ints l).Nodup↔l.Nodup:=by
 unfold List.Nodup
 rw [List.pairwise_map]
 constructor
 ·exact fun h=>h.imp fun q e=>q (by rw [e])
 ·exact fun h=>h.imp fun q e=>q (by omega)
theorem Ca {p:Po} (h:chk p=0):∃ t,Good p t:=by
 unfold chk at h
 split at h
 ·simp at h
 rename_i h1
 split at h
 ·simp at h
 rename_i h2
 split at h
 ·simp at h
 rename_i h3
 split at h
 ·rename_i h4;exact absurd h h4
 rename_i h4
 split at h
 ·simp at h
 rename_i h5
 split at h
 ·simp at h
 rename_i h6
 split at h
 ·simp at h
 rename_i h7
 have h4:oh p=0:=by simpa using h4
 unfold oh at h4
 split at h4
 ·rename_i k1
  split at h4
  ·rename_i k2
   obtain ⟨s',hs⟩:∃ s',vis p.nodes.l 32 p.root true []=(0,s'):=⟨_,Prod.ext k1 rfl⟩
   rw [hs] at k2
   obtain ⟨t,a1,a2,a3,a4,a5,a6⟩:=Dm 32 true p.root [] s' (by simp) hs
   simp only [List.nil_append] at a5
   subst a5
   refine ⟨t,⟨by omega,by omega,by omega,by omega⟩,by simpa using h2,⟨by omega,by omega,fun q e=>h3 (.inr (.inr ⟨q,e⟩))⟩,a1,a2,a3,a4,xz.1 a6,by simpa using k2,?_,?_,?_,?_⟩
   ·exact Classical.not_not.1 fun q=>h5 (.inl q)
   ·exact Classical.not_not.1 fun q=>h5 (.inr q)
   ·have h6:p.aB.l.all (fun r=>used p r.al)=true:=by simpa using h6
    exact List.all_eq_true.1 h6
   ·have h7:p.nodes.l.all (fun n=>!(decide (n.k=9)) || used p n.nm)=true:=by
     cases e:p.nodes.l.all (fun n=>!(decide (n.k=9)) || used p n.nm)
     ·exact absurd e h7
     ·rfl
    intro n hn hk
    have:=List.all_eq_true.1 h7 n hn
    simpa [hk] using this
  ·simp at h4
 ·rename_i k1;exact absurd h4 k1
theorem B7 {p:Po} {t:Tr} (g:Good p t):chk p=0:=by
 have hv:=KQ t (ns:=p.nodes.l) (f:=32) (c:=true) (seen:=[]) g.isT g.wf g.dep (by simpa using xz.2 g.nodup)
 rw [g.root] at hv
 have ht:oh p=0:=by
  unfold oh
  rw [hv]
  simp [g.all]
 unfold chk
 have s:=g.sizes
 rw [if_neg (by omega),if_neg (by rw [g.names];simp),if_neg (by
  have:=g.limit
  rintro (q | q | ⟨q1,q2⟩)
  ·omega
  ·omega
  ·exact this.2.2 q1 q2),if_neg (by simp [ht]),if_neg (by
  rintro (q | q)
  ·exact q g.aliases
  ·exact q g.M0),if_neg (by
  rw [List.all_eq_true.2 g.Ie];simp),if_neg (by
  rw [List.all_eq_true.2 fun n hn=>by
   by_cases hk:n.k=9
   ·simp [hk,g.refs n hn hk]
   ·simp [hk]]
  simp)]
end Go.Ab.Pol
/-
  Normal forms: thresholds, and that they XA what they XB made from.
-/
namespace Go.Ab.Pol
inductive Cd where
 | atom (k num:Int) (vs:List Nd)
 | gate (need:Int) (kids:List Cd)
def Cd.isT:Cd->Bool
 | .atom k _ _=>decide (k=0)
 | .gate _ _=>false
def Cd.isF:Cd->Bool
 | .atom k _ _=>decide (k=1)
 | .gate _ _=>false
def cB (b:Bool):Cd:=.atom (if b then 0 else 1) 0 []
def cnt (h:Cd->Bool) (l:List Cd):Nat:=(l.filter h).length
def rest (l:List Cd):List Cd:=l.filter fun c=>!c.isT && !c.isF
def fT (l:List Cd):Nat:=(l.filter Cd.isT).length
def cS (whole:Bool) (k:Int):Cd->List Cd
 | .gate need ks=>if (whole && decide (need=(ks.length:Int))) || (!whole && decide (k=1) && decide (need=1)) then ks else [.gate need ks]
 | c=>[c]
def bA (whole:Bool) (k:Int):List Cd->List Cd
 | []=>[]
 | c :: l=>cS whole k c++bA whole k l
def thr (k:Int) (l:List Cd):Cd:=
 if k - fT l<=0 then cB true
 else if ((rest l).length:Int) < k - fT l then cB false
 else match rest l with
  | [c]=>c
  | r=>if k - fT l=(r.length:Int) then .gate ((bA true (k - fT l) r).length:Int) (bA true (k - fT l) r)
   else .gate (k - fT l) (bA false (k - fT l) r)
structure Says (at_:Int->Int->List Nd->Bool) (h:Cd->Bool):Prop where
 tru:∀ n vs,h (.atom 0 n vs)=true
 fls:∀ n vs,h (.atom 1 n vs)=false
 atm:∀ k n vs,k≠0->k≠1->h (.atom k n vs)=at_ k n vs
 gat:∀ n ks,h (.gate n ks)=decide (n<=(cnt h ks:Int))
section
variable {at_:Int->Int->List Nd->Bool} {h:Cd->Bool}
theorem xd {k:Int} (hk:k≠1):∀ l:List Cd,bA false k l=l
 | []=>rfl
 | c :: l=>by
  rw [bA,xd hk l]
  cases c<;>simp [cS,hk]
end
end Go.Ab.Pol

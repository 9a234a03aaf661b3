/-
  The evaluator in use: what simp unfolds.
-/
import Derived.Test.YtjnomgdildcbhaaGreatDoorAbFix
set_option linter.unusedVariables false
namespace Go.Ab
theorem NC {K:Cfg} {f:FuncId} {args:List AV} {h:Heap} {cf:aQ} {c:CC} (hX:K.X f args h=none) (hc:K.fns f=some cf) (hb:cf.body=.code c) (ha:args.length<=cf.nt) :
  (mu K).fn f args h=match evC K (mu K) c { env:=cL 0 args,h:=[] :: h } with
   | some (.norm,s)=>finish cf.res s
   | some (.ret,s)=>finish cf.res s
   | some (.pan v,s)=>(match pop v s.h with
    | some (v',h')=>some (.pan v' h')
    | none=>none)
   | _=>none:=by
 rw [eJ]
 simp only [step,gq,hX,hc,hb,if_pos ha,evB]
 cases evC K (mu K) c { env:=cL 0 args,h:=[] :: h } with
 | none=>rfl
 | some r=>
  obtain ⟨ex,s⟩:=r
  cases ex<;>rfl
theorem ND {K:Cfg} {n:Nat} {live:List Nat} {a:CC} {s:St}:(mu K).code (.aj n live a) s=match evC K (mu K) a s with
  | some (.norm,s1)=>(match cut n live s1 with
   | some s2=>(mu K).code (.aj n live a) s2
   | none=>none)
  | r=>r:=by rw [rF];rfl
section
variable (k:IntKind) (a b:Int)
@[simp] theorem RH:gL .add k a b=some (.int k (k.wrap (a+b))):=rfl
@[simp] theorem RI:gL .sub k a b=some (.int k (k.wrap (a - b))):=rfl
@[simp] theorem RJ:gL .mul k a b=some (.int k (k.wrap (a * b))):=rfl
@[simp] theorem RL:gL .quo k a b=if b=0 then none else some (.int k (k.wrap (a.tdiv b))):=rfl
@[simp] theorem RM:gL .rem k a b=if b=0 then none else some (.int k (a.tmod b)):=rfl
@[simp] theorem RO:gL .and k a b=some (.int k (k.wrap ((BitVec.ofInt k.bits a &&& BitVec.ofInt k.bits b).toNat:Int))):=rfl
@[simp] theorem V6:gL .or k a b=some (.int k (k.wrap ((BitVec.ofInt k.bits a ||| BitVec.ofInt k.bits b).toNat:Int))):=rfl
@[simp] theorem RP:gL .eql k a b=some (.bool (decide (a=b))):=rfl
@[simp] theorem RQ:gL .neq k a b=some (.bool (!(decide (a=b)))):=rfl
@[simp] theorem RS:gL .lss k a b=some (.bool (decide (a < b))):=rfl
@[simp] theorem RT:gL .leq k a b=some (.bool (decide (a<=b))):=rfl
@[simp] theorem RU:gL .gtr k a b=some (.bool (decide (b < a))):=rfl
@[simp] theorem RV:gL .geq k a b=some (.bool (decide (b<=a))):=rfl
@[simp] theorem RX:gL .shl k a b=if b < 0 then none else some (.int k (k.wrap (a * 2 ^ (min b.toNat k.bits)))):=rfl
@[simp] theorem RY:gL .shr k a b=if b < 0 then none else some (.int k (a.fdiv (2 ^ (min b.toNat k.bits)))):=rfl
end
section
variable (a b:List UInt8)
theorem G5:(a == b)=decide (a=b):=by
 by_cases h:a=b
 ·simp [h]
 ·simp [h]
@[simp] theorem RZ:uz .add a b=if a.length+b.length<=xB then some (.str (a++b)) else none:=rfl
@[simp] theorem R3:uz .eql a b=some (.bool (decide (a=b))):=by simp only [uz,G5]
@[simp] theorem R4:uz .neq a b=some (.bool (!(decide (a=b)))):=by simp only [uz,G5]
end
@[simp] theorem R5 (es:List AV):rz (.lst es)=some es.length:=rfl
@[simp] theorem QM:rz .af=some 0:=rfl
@[simp] theorem R6 (a:Loc) (n:Nat):rz (.own a n)=some n:=rfl
theorem wrap64 {n:Int} (h1:-9223372036854775808<=n) (h2:n<=9223372036854775807):IntKind.i64.wrap n=n:=by
 have e1:IntKind.i64.bits=64:=rfl
 have e2:IntKind.i64.signed=true:=rfl
 unfold IntKind.wrap
 simp only [e1,e2,Bool.true_and,decide_eq_true_eq]
 have e3:(2:Int) ^ 64=18446744073709551616:=by decide
 have e4:(2:Int) ^ (64 - 1)=9223372036854775808:=by decide
 rw [e3,e4]
 split<;>omega
@[simp] theorem R7 (cs:List AV):(AV.agg cs).cells=cs:=rfl
@[simp] theorem R8 (cs:List AV):(AV.agg cs).isAgg=true:=rfl
@[simp] theorem R9 (cs:List AV):(AV.tup cs).cells=[]:=rfl
@[simp] theorem Sa (cs:List AV):(AV.tup cs).isAgg=false:=rfl
@[simp] theorem Sb:AV.top.cells=[]:=rfl
@[simp] theorem QN (b:Bool):(AV.bool b).cells=[(AV.bool b)]:=rfl
@[simp] theorem QO (b:Bool):(AV.bool b).isAgg=false:=rfl
@[simp] theorem Sd (k:IntKind) (n:Int):(AV.int k n).cells=[(AV.int k n)]:=rfl
@[simp] theorem Sg (k:IntKind) (n:Int):(AV.int k n).isAgg=false:=rfl
@[simp] theorem Si (s:List UInt8):(AV.str s).cells=[(AV.str s)]:=rfl
@[simp] theorem Sj (s:List UInt8):(AV.str s).isAgg=false:=rfl
@[simp] theorem QS :AV.af.cells=[AV.af]:=rfl
@[simp] theorem QT :AV.af.isAgg=false:=rfl
@[simp] theorem Sk :AV.emp.cells=[AV.emp]:=rfl
@[simp] theorem Sm :AV.emp.isAgg=false:=rfl
@[simp] theorem Sn (es:List AV):(AV.lst es).cells=[(AV.lst es)]:=rfl
@[simp] theorem Sq (es:List AV):(AV.lst es).isAgg=false:=rfl
@[simp] theorem Sr (a:Loc) (n:Nat):(AV.own a n).cells=[(AV.own a n)]:=rfl
@[simp] theorem Ss (a:Loc) (n:Nat):(AV.own a n).isAgg=false:=rfl
@[simp] theorem Su (a:Loc) (o:Nat):(AV.ptr a o).cells=[(AV.ptr a o)]:=rfl
@[simp] theorem Sv (a:Loc) (o:Nat):(AV.ptr a o).isAgg=false:=rfl
@[simp] theorem QU (a:Loc) (n s i o:Nat):(AV.cw a n s i o).cells=[(AV.cw a n s i o)]:=rfl
@[simp] theorem QV (a:Loc) (n s i o:Nat):(AV.cw a n s i o).isAgg=false:=rfl
@[simp] theorem QW (e:AV) (o:Nat):(AV.cV e o).cells=[(AV.cV e o)]:=rfl
@[simp] theorem QX (e:AV) (o:Nat):(AV.cV e o).isAgg=false:=rfl
@[simp] theorem QY :AV.iK.cells=[AV.iK]:=rfl
@[simp] theorem QZ :AV.iK.isAgg=false:=rfl
@[simp] theorem V7 (f:Fn) (x y:List AV):(AV.fn f x y).cells=[(AV.fn f x y)]:=rfl
@[simp] theorem V8 (f:Fn) (x y:List AV):(AV.fn f x y).isAgg=false:=rfl
@[simp] theorem Q0 :AV.bS.cells=[AV.bS]:=rfl
@[simp] theorem Q3 :AV.bS.isAgg=false:=rfl
@[simp] theorem Ot (t:TypeId) (v:AV):(AV.iface t v).cells=[(AV.iface t v)]:=rfl
@[simp] theorem Ou (t:TypeId) (v:AV):(AV.iface t v).isAgg=false:=rfl
@[simp] theorem Q4 :AV.cH.cells=[AV.cH]:=rfl
@[simp] theorem Q5 :AV.cH.isAgg=false:=rfl
@[simp] theorem V9 (a:Loc):(AV.mp a).cells=[(AV.mp a)]:=rfl
@[simp] theorem Wa (a:Loc):(AV.mp a).isAgg=false:=rfl
@[simp] theorem Q6 :AV.dH.cells=[AV.dH]:=rfl
@[simp] theorem Q7 :AV.dH.isAgg=false:=rfl
@[simp] theorem Q8 :AV.ji.cells=[AV.ji]:=rfl
@[simp] theorem Q9 :AV.ji.isAgg=false:=rfl
def iaF (sz:Nat) (v:AV) (j:AV):Option AV:=match v,j with
 | .lst es,.int _ j=>if 0<=j then (match es[j.toNat]? with
  | some v=>if v.cells.length=sz then some (.cV v 0) else none
  | none=>none) else none
 | .own a n,.int _ j=>if 0<=j∧j < n then some (.cw a n sz j.toNat 0) else none
 | _,_=>none
@[simp] theorem XH (sz:Nat) (x i:Opd) (e:Env):evP (.iaS sz x i) e=iaF sz (x.ev e) (i.ev e):=rfl
@[simp] theorem Wp (sz:Nat) (a:Loc) (n:Nat) (k:IntKind) (j:Int):iaF sz (.own a n) (.int k j)=if 0<=j∧j < n then some (.cw a n sz j.toNat 0) else none:=rfl
@[simp] theorem Wb (sz:Nat) (es:List AV) (k:IntKind) (j:Int):iaF sz (.lst es) (.int k j)=if 0<=j then (match es[j.toNat]? with
  | some v=>if v.cells.length=sz then some (.cV v 0) else none
  | none=>none) else none:=rfl
attribute [simp] evP.eq_1 evP.eq_2 evP.eq_3 evP.eq_4 evP.eq_5 evP.eq_6 evP.eq_8 evP.eq_9 evP.eq_10 evP.eq_11 evP.eq_12 evP.eq_13 evP.eq_14 evP.eq_15 evP.eq_16 evP.eq_17 evP.eq_18 evP.eq_19 evP.eq_20 evP.eq_21 evP.eq_22 evP.eq_23 evP.eq_24 evP.eq_25 evP.eq_26 evP.eq_27
attribute [simp] rA Kt toV xD asV pZ xy xz oF isE ldQ stQ toQ xC AK wanted evM gB evQ fJ loud BP Opd.ev oev get set put cL keep Ks BinOp.dZ isNil finish xE jW tG Oa Nf pop merge moved AV.ren AV.qO Blk.ren AV.aJ AV.bH AV.view AV.views hget aP hnext hnew hlen
 uR EL kQ vh EN bHi bLo cD.eq_1 cD.eq_2 cD.eq_3 cD.eq_4 recheck Ku
end Go.Ab
/-
  Small laws for contracts: a memory with one place set;bits.
-/
set_option linter.unusedSimpArgs false
namespace Go.Ab
attribute [simp] AH AJ ru AV.pure AV.beq AV.dF sized cut Qh Blk.aJ rB aW gA iP tE oG tD
theorem iY {h:Heap} {a:Loc} (d:dom h a):a.1 < h.length:=by
 induction h with
 | nil=>simp [dom,hget] at d
 | cons f o ih=>
  unfold dom hget at d
  split at d
  ·simp;omega
  ·have:=ih d;simp;omega
theorem dS:∀ (h:Heap) (a:Loc) (B C:Blk),aP (aP h a B) a C=aP h a C
 | [],_,_,_=>rfl
 | f :: o,a,B,C=>by
  by_cases e:a.1=o.length
  ·simp [aP,e]
  ·simp [aP,e,aW,dS o a B C]
theorem iy {h:Heap} {a:Loc} (d:dom h a) (B:Blk):hget (aP h a B) a=some B:=by
 rw [eV];simp [d]
theorem rV {h:Heap} {a:Loc} (d:dom h a):(a.1=h.length)=False:=by
 have:=iY d
 simp;omega
end Go.Ab
/-
  The evaluator, step by step: each step a small term, whatever comes behind it.
-/
namespace Go.Ab
section
variable (K:Cfg) (O:Orc)
def goP (d:Option Nat) (r:List CO) (e:Env) (h:Heap):Option AV->Option (Ex×St)
 | some v=>cC K O r ⟨put e d v,h⟩
 | none=>none
def goM (d:Option Nat) (r:List CO) (e:Env):Option Out->Option (Ex×St)
 | some (.val v h)=>cC K O r ⟨put e d v,h⟩
 | some (.pan v h)=>some (.pan v,⟨e,h⟩)
 | none=>none
def goG (b:Bool) (d:Option Nat) (op:COp) (r:List CO) (e:Env) (h:Heap):AV->Option (Ex×St)
 | .bool c=>if c=b then cC K O (⟨d,none,op⟩ :: r) ⟨e,h⟩ else cC K O r ⟨put e d (.tup []),h⟩
 | .tup []=>cC K O r ⟨put e d (.tup []),h⟩
 | _=>none
theorem NG (s:St):cC K O [] s=some (.norm,s):=rfl
theorem Wc (d:Option Nat) (q:POp) (r:List CO) (e:Env) (h:Heap):cC K O (⟨d,none,.p q⟩ :: r) ⟨e,h⟩=goP K O d r e h (evP q e):=by
 simp only [cC,wanted]
 cases evP q e<;>rfl
theorem Wd (d:Option Nat) (q:MOp) (r:List CO) (e:Env) (h:Heap):cC K O (⟨d,none,.m q⟩ :: r) ⟨e,h⟩=goM K O d r e (evM K O q e h):=by
 simp only [cC,wanted]
 cases evM K O q e h with
 | none=>rfl
 | some o=>cases o<;>rfl
theorem We (d:Option Nat) (t:Nat) (b:Bool) (op:COp) (r:List CO) (e:Env) (h:Heap):cC K O (⟨d,some (t,b),op⟩ :: r) ⟨e,h⟩=goG K O b d op r e h (get e t):=by
 rw [cC]
 simp only [wanted]
 cases hg:get e t with
 | bool c=>
  by_cases hc:c=b
  ·subst hc
   simp only [goG,beq_self_eq_true,if_true,cC,wanted]
  ·have:(c == b)=false:=by simp [hc]
   simp only [goG,this,hc,if_false]
 | tup l=>cases l<;>rfl
 | _=>rfl
theorem Lx (d:Option Nat) (r:List CO) (e:Env) (h:Heap) (v:AV):goP K O d r e h (some v)=cC K O r ⟨put e d v,h⟩:=rfl
theorem NH (d:Option Nat) (r:List CO) (e:Env) (h:Heap) (v:AV):goM K O d r e (some (.val v h))=cC K O r ⟨put e d v,h⟩:=rfl
theorem NI (d:Option Nat) (r:List CO) (e:Env) (h:Heap) (v:AV):goM K O d r e (some (.pan v h))=some (.pan v,⟨e,h⟩):=rfl
theorem Ra (d:Option Nat) (op:COp) (r:List CO) (e:Env) (h:Heap):goG K O true d op r e h (.bool true)=cC K O (⟨d,none,op⟩ :: r) ⟨e,h⟩:=rfl
theorem Rb (d:Option Nat) (op:COp) (r:List CO) (e:Env) (h:Heap):goG K O false d op r e h (.bool false)=cC K O (⟨d,none,op⟩ :: r) ⟨e,h⟩:=rfl
theorem Rc (d:Option Nat) (op:COp) (r:List CO) (e:Env) (h:Heap):goG K O true d op r e h (.bool false)=cC K O r ⟨put e d (.tup []),h⟩:=rfl
theorem Re (d:Option Nat) (op:COp) (r:List CO) (e:Env) (h:Heap):goG K O false d op r e h (.bool true)=cC K O r ⟨put e d (.tup []),h⟩:=rfl
theorem Rg (b:Bool) (d:Option Nat) (op:COp) (r:List CO) (e:Env) (h:Heap):goG K O b d op r e h (.tup [])=cC K O r ⟨put e d (.tup []),h⟩:=rfl
def doP (d:Option Nat) (r:List DO) (pd:pP) (e:Env) (h:Heap):Option AV->Option (Ex×St)
 | some v=>evD K O r pd ⟨put e d v,h⟩
 | none=>none
def doQ (x:Nat) (q:MOp) (k:Env) (d:Option Nat) (r:List DO) (pd:pP) (e:Env) (h:Heap):Option AV->Option (Ex×St)
 | some v=>evD K O r ((x,q,k,v) :: pd) ⟨put e d v,h⟩
 | none=>none
def doM (re:List Nat) (d:Option Nat) (r:List DO) (pd:pP) (e:Env):Option Out->Option (Ex×St)
 | some (.val v h)=>if recheck K O re pd h=true then evD K O r pd ⟨put e d v,h⟩ else none
 | some (.pan v h)=>some (.pan v,⟨[],h⟩)
 | none=>none
def doG (d:Option Nat) (b:Bool) (op:COp) (x:Nat) (lk an re:List Nat) (r:List DO) (pd:pP) (e:Env) (h:Heap):AV->Option (Ex×St)
 | .bool c=>if c=b then evD K O (⟨⟨d,none,op⟩,x,lk,an,re⟩ :: r) pd ⟨e,h⟩
  else if loud ⟨d,some (0,b),op⟩=true∧recheck K O re pd h=false then none else evD K O r pd ⟨put e d (.tup []),h⟩
 | .tup []=>if loud ⟨d,some (0,b),op⟩=true∧recheck K O re pd h=false then none else evD K O r pd ⟨put e d (.tup []),h⟩
 | _=>none
variable (x:Nat) (lk an re:List Nat) (d:Option Nat) (r:List DO) (pd:pP) (e:Env) (h:Heap)
theorem Rh (s:St):evD K O [] pd s=some (.norm,s):=rfl
theorem XI (q:POp):evD K O (⟨⟨d,none,.p q⟩,x,lk,an,re⟩ :: r) pd ⟨e,h⟩=doP K O d r pd e h (evP q (keep lk e)):=by
 simp only [evD,wanted]
 cases evP q (keep lk e)<;>rfl
theorem XJ (q:MOp):evD K O (⟨⟨d,none,.m q⟩,x,lk,an,re⟩ :: r) pd ⟨e,h⟩ =
  if fJ q=true then doQ K O x q (keep lk e) d r pd e h (evQ K O q (keep lk e) h) else doM K O re d r pd e (evM K O q (keep lk e) h):=by
 simp only [evD,wanted]
 by_cases hq:fJ q=true
 ·simp only [hq,if_true]
  cases evQ K O q (keep lk e) h<;>rfl
 ·simp only [hq,if_false]
  cases evM K O q (keep lk e) h with
  | none=>rfl
  | some o=>cases o<;>rfl
theorem XK (t:Nat) (b:Bool) (op:COp):evD K O (⟨⟨d,some (t,b),op⟩,x,lk,an,re⟩ :: r) pd ⟨e,h⟩=doG K O d b op x lk an re r pd e h (get (keep lk e) t):=by
 rw [evD]
 simp only [wanted]
 have hl:loud ⟨d,some (t,b),op⟩=loud ⟨d,some (0,b),op⟩:=rfl
 cases hg:get (keep lk e) t with
 | bool c=>
  by_cases hc:c=b
  ·subst hc
   simp only [doG,beq_self_eq_true,if_true,evD,wanted]
  ·have:(c == b)=false:=by simp [hc]
   simp only [doG,this,hc,if_false,hl]
 | tup l=>
  cases l
  ·simp only [doG,hl]
  ·rfl
 | _=>rfl
theorem Lz (v:AV):doP K O d r pd e h (some v)=evD K O r pd ⟨put e d v,h⟩:=rfl
theorem LA (q:MOp) (k:Env) (v:AV):doQ K O x q k d r pd e h (some v)=evD K O r ((x,q,k,v) :: pd) ⟨put e d v,h⟩:=rfl
theorem NJ (v:AV):doM K O re d r pd e (some (.val v h))=if recheck K O re pd h=true then evD K O r pd ⟨put e d v,h⟩ else none:=rfl
theorem NL (v:AV):doM K O re d r pd e (some (.pan v h))=some (.pan v,⟨[],h⟩):=rfl
theorem Ri (op:COp):doG K O d true op x lk an re r pd e h (.bool true)=evD K O (⟨⟨d,none,op⟩,x,lk,an,re⟩ :: r) pd ⟨e,h⟩:=rfl
theorem Rj (op:COp):doG K O d false op x lk an re r pd e h (.bool false)=evD K O (⟨⟨d,none,op⟩,x,lk,an,re⟩ :: r) pd ⟨e,h⟩:=rfl
theorem Rk (op:COp):doG K O d true op x lk an re r pd e h (.bool false)=if loud ⟨d,some (0,true),op⟩=true∧recheck K O re pd h=false then none else evD K O r pd ⟨put e d (.tup []),h⟩:=rfl
theorem Rm (op:COp):doG K O d false op x lk an re r pd e h (.bool true)=if loud ⟨d,some (0,false),op⟩=true∧recheck K O re pd h=false then none else evD K O r pd ⟨put e d (.tup []),h⟩:=rfl
theorem Rn (b:Bool) (op:COp):doG K O d b op x lk an re r pd e h (.tup [])=if loud ⟨d,some (0,b),op⟩=true∧recheck K O re pd h=false then none else evD K O r pd ⟨put e d (.tup []),h⟩:=rfl
end
/- Code. -/
section
variable (K:Cfg) (O:Orc)
def goS (b:CC):Option (Ex×St)->Option (Ex×St)
 | some (.norm,s1)=>evC K O b s1
 | r=>r
def goC (a b:CC) (s:St):AV->Option (Ex×St)
 | .bool t=>if t then evC K O a s else evC K O b s
 | _=>none
def goB (id:Nat):Option (Ex×St)->Option (Ex×St)
 | some (.exit j,s1)=>if j=id then some (.norm,s1) else some (.exit j,s1)
 | r=>r
def goL (F:St->Option (Ex×St)) (n:Nat) (live:List Nat):Option (Ex×St)->Option (Ex×St)
 | some (.norm,s1)=>(match cut n live s1 with
   | some s2=>F s2
   | none=>none)
 | r=>r
variable (s:St) (a b:CC) (id n:Nat) (live:List Nat)
theorem eA:evC K O (.seq a b) s=goS K O b (evC K O a s):=by
 rw [evC];cases evC K O a s with
 | none=>rfl
 | some x=>obtain ⟨ex,s1⟩:=x;cases ex<;>rfl
theorem Ro (x:Opd) (e:Env) (h:Heap):evC K O (.cond x a b) ⟨e,h⟩=goC K O a b ⟨e,h⟩ (x.ev e):=by
 rw [evC];cases x.ev e<;>rfl
theorem NM:evC K O (.block id a) s=goB id (evC K O a s):=by
 rw [evC];cases evC K O a s with
 | none=>rfl
 | some x=>obtain ⟨ex,s1⟩:=x;cases ex<;>rfl
theorem Rp (e:Env) (h:Heap):evC K O (.loop live a) ⟨e,h⟩=O.code (.aj (hlen h) live a) ⟨keep live e,h⟩:=rfl
theorem Rq:evC K O .skip s=some (.norm,s):=rfl
theorem Wf (l:List CO):evC K O (.reg l) s=cC K O l s:=rfl
theorem Rs (l:List DO):evC K O (.draw l) s=evD K O l [] s:=rfl
theorem Rt:evC K O (.exit id) s=some (.exit id,s):=rfl
theorem Wh:evC K O .ret s=some (.ret,s):=rfl
theorem NN:evC K O (.scope a) s=evC K O a s:=rfl
theorem cE:goS K O b (some (.norm,s))=evC K O b s:=rfl
theorem LB (j:Nat):goS K O b (some (.exit j,s))=some (.exit j,s):=rfl
theorem Bp:goS K O b (some (.ret,s))=some (.ret,s):=rfl
theorem NP (v:AV):goS K O b (some (.pan v,s))=some (.pan v,s):=rfl
theorem LC:goC K O a b s (.bool true)=evC K O a s:=rfl
theorem IM:goC K O a b s (.bool false)=evC K O b s:=rfl
theorem LD:goB id (some (.norm,s))=some (.norm,s):=rfl
theorem LF (j:Nat):goB id (some (.exit j,s))=if j=id then some (.norm,s) else some (.exit j,s):=rfl
theorem NQ:goB id (some (.ret,s))=some (.ret,s):=rfl
theorem NR (v:AV):goB id (some (.pan v,s))=some (.pan v,s):=rfl
variable (F:St->Option (Ex×St))
theorem zw : goL F n live (some (.norm, s)) = match cut n live s with
      | some s2=>F s2
      | none=>none:=rfl
theorem LG (j:Nat):goL F n live (some (.exit j,s))=some (.exit j,s):=rfl
theorem GY:goL F n live (some (.ret,s))=some (.ret,s):=rfl
theorem NS (v:AV):goL F n live (some (.pan v,s))=some (.pan v,s):=rfl
end
theorem ay {K:Cfg} {n:Nat} {live:List Nat} {a:CC} {s:St}:(mu K).code (.aj n live a) s=goL ((mu K).code (.aj n live a)) n live (evC K (mu K) a s):=by
 rw [ND];cases evC K (mu K) a s with
 | none=>rfl
 | some x=>obtain ⟨ex,s1⟩:=x;cases ex<;>rfl
def goF (rs:List gG):Option (Ex×St)->Option Out
 | some (.norm,s)=>finish rs s
 | some (.ret,s)=>finish rs s
 | some (.pan v,s)=>(match pop v s.h with
  | some (v',h')=>some (.pan v' h')
  | none=>none)
 | _=>none
theorem LH (rs:List gG) (s:St):goF rs (some (.norm,s))=finish rs s:=rfl
theorem NT (rs:List gG) (s:St):goF rs (some (.ret,s))=finish rs s:=rfl
theorem NU (rs:List gG) (v:AV) (s:St):goF rs (some (.pan v,s))=match pop v s.h with
  | some (v',h')=>some (.pan v' h')
  | none=>none:=rfl
theorem aD {K:Cfg} {f:FuncId} {args:List AV} {h:Heap} {cf:aQ} {c:CC} (hX:K.X f args h=none) (hc:K.fns f=some cf) (hb:cf.body=.code c) (ha:args.length<=cf.nt) :
  (mu K).fn f args h=goF cf.res (evC K (mu K) c { env:=cL 0 args,h:=[] :: h }):=by
 rw [NC hX hc hb ha]
 cases evC K (mu K) c { env:=cL 0 args,h:=[] :: h } with
 | none=>rfl
 | some x=>obtain ⟨ex,s1⟩:=x;cases ex<;>rfl
attribute [simp] Rq Wf Rs Rt Wh NN NG Wc Wd We Lx NH NI Ra Rb Rc Re Rg Rh XI XJ XK Lz LA NJ NL Ri Rj Rk Rm Rn eA Ro NM Rp cE LB Bp NP LC IM LD LF NQ NR zw LG GY NS LH NT NU
end Go.Ab
/-
  O9 without references: they read as they are at every place, and no frame's end turns them.
-/
namespace Go.Ab
mutual
theorem dW:∀ (v:AV),v.aJ (fun _=>false)=true->∀ p,v.aJ p=true
 | .agg cs,h,p=>by simp only [AV.aJ] at h ⊢;exact ju cs h p
 | .tup cs,h,p=>by simp only [AV.aJ] at h ⊢;exact ju cs h p
 | .own a n,h,p=>by simp [AV.aJ] at h
 | .ptr a n,h,p=>by simp [AV.aJ] at h
 | .cw a n s i o,h,p=>by simp [AV.aJ] at h
 | .mp a,h,p=>by simp [AV.aJ] at h
 | .fn f x y,h,p=>by
  simp only [AV.aJ,Bool.and_eq_true] at h ⊢
  exact ⟨ju x h.1 p,ju y h.2 p⟩
 | .iface t v,h,p=>by simp only [AV.aJ] at h ⊢;exact dW v h p
 | .top,_,_=>rfl
 | .bool _,_,_=>rfl
 | .int _ _,_,_=>rfl
 | .str _,_,_=>rfl
 | .af,_,_=>rfl
 | .emp,_,_=>rfl
 | .lst _,_,_=>rfl
 | .cV _ _,_,_=>rfl
 | .iK,_,_=>rfl
 | .bS,_,_=>rfl
 | .cH,_,_=>rfl
 | .dH,_,_=>rfl
 | .ji,_,_=>rfl
theorem ju:∀ (cs:List AV),AV.bH (fun _=>false) cs=true->∀ p,AV.bH p cs=true
 | [],_,_=>rfl
 | c :: cs,h,p=>by
  simp only [AV.bH,Bool.and_eq_true] at h ⊢
  exact ⟨dW c h.1 p,ju cs h.2 p⟩
end
mutual
theorem sM:∀ (v:AV),v.aJ (fun _=>false)=true->∀ p h,v.view p h=some (v,h)
 | .agg cs,hv,p,h=>by simp only [AV.aJ] at hv;simp only [AV.view,ql cs hv p h]
 | .tup cs,hv,p,h=>by simp only [AV.aJ] at hv;simp only [AV.view,ql cs hv p h]
 | .own a n,hv,p,h=>by simp [AV.aJ] at hv
 | .ptr a n,hv,p,h=>by simp [AV.aJ] at hv
 | .cw a n s i o,hv,p,h=>by simp [AV.aJ] at hv
 | .mp a,hv,p,h=>by simp [AV.aJ] at hv
 | .fn f x y,hv,p,h=>rfl
 | .iface t v,hv,p,h=>by simp only [AV.aJ] at hv;simp only [AV.view,sM v hv p h]
 | .top,_,_,_=>rfl
 | .bool _,_,_,_=>rfl
 | .int _ _,_,_,_=>rfl
 | .str _,_,_,_=>rfl
 | .af,_,_,_=>rfl
 | .emp,_,_,_=>rfl
 | .lst _,_,_,_=>rfl
 | .cV _ _,_,_,_=>rfl
 | .iK,_,_,_=>rfl
 | .bS,_,_,_=>rfl
 | .cH,_,_,_=>rfl
 | .dH,_,_,_=>rfl
 | .ji,_,_,_=>rfl
theorem ql:∀ (cs:List AV),AV.bH (fun _=>false) cs=true->∀ p h,AV.views p cs h=some (cs,h)
 | [],_,_,_=>rfl
 | c :: cs,hv,p,h=>by
  simp only [AV.bH,Bool.and_eq_true] at hv
  simp only [AV.views,sM c hv.1 p h,ql cs hv.2 p h]
end
theorem tA {f:List Blk} {h:Heap} {a:Loc} (ha:dom h a):dom (f :: h) a:=by
 unfold dom hget
 rw [if_neg (by have:=iY ha;omega)];exact ha
end Go.Ab
/-
  Slices that nobody writes, as lists with a mark for nil;loops over them.
-/
namespace Go.Ab
def lv (nl:Bool):List AV->AV
 | []=>if nl then .af else .lst []
 | e :: r=>.lst (e :: r)
structure Sl (α:Type) where
 nl:Bool
 l:List α
def Sl.avS {α:Type} (av:α->AV) (s:Sl α):AV:=lv s.nl (s.l.map av)
@[simp] theorem kD (l:List AV):lv false l=.lst l:=by cases l<;>rfl
@[simp] theorem MP (nl:Bool) (e:AV) (r:List AV):lv nl (e :: r)=.lst (e :: r):=rfl
theorem jT (nl:Bool) {l:List AV} (h:l≠[]):lv nl l=.lst l:=by cases l with
 | nil=>exact absurd rfl h
 | cons e r=>rfl
@[simp] theorem LI (nl:Bool) (l:List AV):(lv nl l).cells=[lv nl l]:=by cases l<;>cases nl<;>rfl
@[simp] theorem LJ (nl:Bool) (l:List AV):(lv nl l).isAgg=false:=by cases l<;>cases nl<;>rfl
@[simp] theorem LK (p:Loc->Bool) (nl:Bool) (l:List AV):(lv nl l).aJ p=true:=by cases l<;>cases nl<;>rfl
@[simp] theorem NV (p:Loc->Bool) (nl:Bool) (l:List AV) (h:Heap):(lv nl l).view p h=some (lv nl l,h):=by cases l<;>cases nl<;>rfl
@[simp] theorem Ru (nl:Bool) (l:List AV):rz (lv nl l)=some l.length:=by cases l<;>cases nl<;>rfl
@[simp] theorem LL (nl:Bool) (l:List AV) (h:Heap):cD (lv nl l) h=some l:=by cases l<;>cases nl<;>rfl
@[simp] theorem Rv (r:Loc->Loc) (nl:Bool) (l:List AV):(lv nl l).ren r=lv nl l:=by cases l<;>cases nl<;>rfl
@[simp] theorem Af {α:Type} (av:α->AV) (s:Sl α):(s.avS av).cells=[s.avS av]:=LI _ _
@[simp] theorem Ae {α:Type} (av:α->AV) (s:Sl α):(s.avS av).isAgg=false:=LJ _ _
@[simp] theorem sH {α:Type} (p:Loc->Bool) (av:α->AV) (s:Sl α):(s.avS av).aJ p=true:=LK _ _ _
@[simp] theorem Lp {α:Type} (p:Loc->Bool) (av:α->AV) (s:Sl α) (h:Heap):(s.avS av).view p h=some (s.avS av,h):=NV _ _ _ _
@[simp] theorem Wq {α:Type} (av:α->AV) (s:Sl α):rz (s.avS av)=some s.l.length:=by rw [Sl.avS,Ru,List.length_map]
@[simp] theorem Sy {α:Type} (av:α->AV) (s:Sl α) (h:Heap):cD (s.avS av) h=some (s.l.map av):=LL _ _ _
@[simp] theorem Ws {α:Type} (r:Loc->Loc) (av:α->AV) (s:Sl α):(s.avS av).ren r=s.avS av:=Rv _ _ _
theorem pH {sz:Nat} {nl:Bool} {l:List AV} {k:IntKind} {j:Int} {v:AV} (h0:0<=j) (h1:l[j.toNat]?=some v) (h2:v.cells.length=sz):iaF sz (lv nl l) (.int k j)=some (.cV v 0):=by
 have:l≠[]:=fun e=>by rw [e] at h1;simp at h1
 rw [jT nl this]
 simp [iaF,h0,h1,h2]
theorem eP {sz:Nat} {l:List AV} {k:IntKind} {j:Int} {v:AV} (h0:0<=j) (h1:l[j.toNat]?=some v) (h2:v.cells.length=sz):iaF sz (.lst l) (.int k j)=some (.cV v 0):=by
 simp [iaF,h0,h1,h2]
theorem aH {α:Type} {av:α->AV} {sz:Nat} {s:Sl α} {k:IntKind} {j:Int} {x:α} (h0:0<=j) (h1:s.l[j.toNat]?=some x) (h2:(av x).cells.length=sz):iaF sz (s.avS av) (.int k j)=some (.cV (av x) 0):=
 pH h0 (by simp [h1]) h2
def iter {α β ρ:Type} (f:β->α->β ⊕ ρ):β->List α->β ⊕ ρ
 | b,[]=>.inl b
 | b,x :: l=>match f b x with
  | .inl b'=>iter f b' l
  | .inr r=>.inr r
theorem aF {K:Cfg} {n:Nat} {live:List Nat} {a:CC} {α β ρ:Type} (f:β->α->β ⊕ ρ) (S:List α->β->St) (I:List α->β->Prop)
  (E:β->Option (Ex×St)->Prop) (R:ρ->Option (Ex×St)->Prop) (l:List α)
  (hs:∀ pre x s b,l=pre++x :: s->I pre b->(∀ b',f b x=.inl b'->I (pre++[x]) b'∧(mu K).code (.aj n live a) (S pre b)=(mu K).code (.aj n live a) (S (pre++[x]) b')) ∧
   (∀ r,f b x=.inr r->R r ((mu K).code (.aj n live a) (S pre b))))
  (he:∀ b,I l b->E b ((mu K).code (.aj n live a) (S l b))) (b0:β) (h0:I [] b0) :
  match iter f b0 l with
  | .inl b=>I l b∧E b ((mu K).code (.aj n live a) (S [] b0))
  | .inr r=>R r ((mu K).code (.aj n live a) (S [] b0)):=by
 have key:∀ (s pre:List α) (b:β),l=pre++s->I pre b->match iter f b s with
   | .inl b'=>I l b'∧E b' ((mu K).code (.aj n live a) (S pre b))
   | .inr r=>R r ((mu K).code (.aj n live a) (S pre b)):=by
  intro s
  induction s with
  | nil=>
   intro pre b hl hi
   simp only [List.append_nil] at hl
   subst hl
   exact ⟨hi,he b hi⟩
  | cons x s ih=>
   intro pre b hl hi
   obtain ⟨h1,h2⟩:=hs pre x s b hl hi
   simp only [iter]
   cases hf:f b x with
   | inl b'=>
    obtain ⟨k1,k2⟩:=h1 b' hf
    have:=ih (pre++[x]) b' (by simp [hl]) k1
    rw [k2]
    exact this
   | inr r=>exact h2 r hf
 exact key l [] b0 rfl h0
end Go.Ab
/-
  Policies: plain data;when a policy is well-formed;its tree.
-/
namespace Go.Ab.Pol
abbrev Bs:=List UInt8
abbrev iV (n:Int):AV:=.int .i64 n
structure Nd where
 k:Int
 num:Int
 nm:Bs
 attr:Bs
 kids:Sl Int
 pos:Int
structure Us where
 al:Bs
 sc:Bs
 deriving DecidableEq
structure Rf where
 al:Bs
 attr:Bs
 deriving DecidableEq
structure Po where
 name:Bs
 uses:Sl Us
 aA:Sl Rf
 nodes:Sl Nd
 root:Int
 scope:Bs
 limit:Int
 ct:Bs
abbrev Nd.cs (x:Nd):List AV:=[iV x.k,iV x.num,.str x.nm,.str x.attr,x.kids.avS iV,iV x.pos]
abbrev Nd.av (x:Nd):AV:=.agg x.cs
abbrev Us.cs (x:Us):List AV:=[.str x.al,.str x.sc]
abbrev Us.av (x:Us):AV:=.agg x.cs
abbrev Rf.cs (x:Rf):List AV:=[.str x.al,.str x.attr]
abbrev Rf.av (x:Rf):AV:=.agg x.cs
abbrev Po.cs (x:Po):List AV:=[.str x.name,x.uses.avS Us.av,x.aA.avS Rf.av,x.nodes.avS Nd.av,iV x.root,.str x.scope,iV x.limit,.str x.ct]
abbrev Po.av (x:Po):AV:=.agg x.cs
/- Names and words. -/
def eT (n:Int):Bool:=decide (97<=n∧n<=122) || decide (65<=n∧n<=90)
def iH (n:Int):Bool:=decide (48<=n∧n<=57)
def pG (first:Bool) (n:Int):Bool:=eT n || (!first && (decide (n=95) || iH n))
def wo (n:Int):Bool:=eT n || iH n || decide (n=45) || decide (n=95)
def ou:Bool->Bs->Bool
 | _,[]=>true
 | b,c :: s=>pG b (c.toNat:Int) && ou false s
def qD:Bs->Bool
 | []=>true
 | c :: s=>wo (c.toNat:Int) && qD s
def kws:List Bs:=[[112,111,108,105,99,121],[117,115,101,115],[114,101,118,101,97,108],[112,114,111,118,101],[115,99,111,112,101],[108,105,109,105,116],[101,115,99,114,111,119],[101,110,100],[97,108,108],
 [97,110,121],[97,116,108,101,97,115,116],[110,111,116],[116,114,117,101],[102,97,108,115,101],[98,101,116,119,101,101,110],[97,110,100],[105,110]]
def kw (s:Bs):Bool:=decide (s∈kws)
def aS (s:Bs):Bool:=ou true s && decide (s≠[]) && decide (s.length<=32) && !kw s
def fH (s:Bs):Bool:=qD s && decide (s≠[]) && decide (s.length<=32)
/- A node alone. -/
def gh (k:Int) (n:Nat):Bool:=
 if k=0∨k=1∨k=9∨k=10∨k=11 then decide (n=0) else if k=2 then decide (n=1) else if k=3∨k=4∨k=5 then decide (1<=n)
 else if k=6 then decide (n=2) else if k=7 then decide (n=3) else if k=8 then decide (2<=n) else false
def qE (x:Nd):Bool:=if x.k=9 then aS x.nm && aS x.attr else if x.k=11 then fH x.nm && decide (x.attr=[]) else decide (x.nm=[]) && decide (x.attr=[])
def HF (x:Nd):Int:=if x.k=5 then 1 else if x.k=10 then -2147483648 else 0
def zU (x:Nd):Int:=if x.k=5 then (x.kids.l.length:Int) else if x.k=6 then 5 else if x.k=10 then 2147483647 else 0
def uW (x:Nd) (c:Bool):Bool:=decide (0<=x.k) && decide (x.k < 12) && (decide (x.k<=8) == c) && gh x.k x.kids.l.length && qE x
def ow (x:Nd) (c:Bool):Int:=if uW x c=false then 3 else if x.num < HF x∨zU x < x.num then 2 else 0
/- The visit of the nodes. -/
def kO (ns:List Nd) (i:Int) (seen:List Int):Bool:=decide (i < 0) || decide ((ns.length:Int)<=i) || decide (i∈seen)
def pY (v:Int->List Int->Int×List Int):List Int->List Int->Int×List Int
 | [],seen=>(0,seen)
 | k :: ks,seen=>if (v k seen).1=0 then pY v ks (v k seen).2 else v k seen
def vis (ns:List Nd):Nat->Int->Bool->List Int->Int×List Int
 | 0,i,c,seen=>if kO ns i seen then (3,seen) else (7,seen)
 | f+1,i,c,seen=>if kO ns i seen then (3,seen) else match ns[i.toNat]? with
  | none=>(3,seen)
  | some n=>if ow n c=0 then pY (fun k s=>vis ns f k (decide (n.k<=5)) s) n.kids.l (seen++[i]) else (ow n c,seen++[i])
def oC (p:Po):Int:=if (vis p.nodes.l 32 p.root true []).1=0 then (if (vis p.nodes.l 32 p.root true []).2.length=p.nodes.l.length then 0 else 3) else (vis p.nodes.l 32 p.root true []).1
def qK (p:Po):Bool:=aS p.name && (decide (p.ct=[]) || aS p.ct) && (decide (p.scope=[]) || fH p.scope) &&
 p.uses.l.all (fun u=>aS u.al && aS u.sc) && p.aA.l.all (fun r=>aS r.al && aS r.attr)
def used (p:Po) (s:Bs):Bool:=p.uses.l.any fun u=>decide (u.al=s)
def chk (p:Po):Int:=
 if 512 < p.nodes.l.length∨p.uses.l.length < 1∨4 < p.uses.l.length∨64 < p.aA.l.length then 6
 else if qK p=false then 3
 else if p.limit < 0∨65536 < p.limit∨(0 < p.limit∧p.scope=[]) then 2
 else if oC p≠0 then oC p
 else if ¬ (p.uses.l.map Us.al).Nodup∨¬ p.aA.l.Nodup then 8
 else if p.aA.l.all (fun r=>used p r.al)=false then 9
 else if p.nodes.l.all (fun n=>!(decide (n.k=9)) || used p n.nm)=false then 9
 else 0
/- The tree of a well-formed policy. -/
inductive Tr where
 | nd (i:Nat) (n:Nd) (ks:List Tr)
def Tr.i:Tr->Nat
 | .nd i _ _=>i
def Tr.n:Tr->Nd
 | .nd _ n _=>n
def Tr.ks:Tr->List Tr
 | .nd _ _ ks=>ks
mutual
def Tr.pre:Tr->List Nat
 | .nd i _ ks=>i :: Tr.fI ks
def Tr.fI:List Tr->List Nat
 | []=>[]
 | t :: ts=>t.pre++Tr.fI ts
end
mutual
def Tr.dep:Tr->Nat
 | .nd _ _ ks=>Tr.deps ks+1
def Tr.deps:List Tr->Nat
 | []=>0
 | t :: ts=>max t.dep (Tr.deps ts)
end
mutual
def IsT (ns:List Nd):Tr->Prop
 | .nd i n ks=>ns[i]?=some n∧n.kids.l=ks.map (fun t=>(t.i:Int))∧lC ns ks
def lC (ns:List Nd):List Tr->Prop
 | []=>True
 | t :: ts=>IsT ns t∧lC ns ts
end
mutual
def WF:Tr->Bool->Prop
 | .nd _ n ks,c=>ow n c=0∧WFs ks (decide (n.k<=5))
def WFs:List Tr->Bool->Prop
 | [],_=>True
 | t :: ts,c=>WF t c∧WFs ts c
end
abbrev ints (l:List Nat):List Int:=l.map fun (i:Nat)=>(i:Int)
theorem tq {ns:List Nd} {i:Int} {seen:List Int}:kO ns i seen=false↔0<=i∧i < (ns.length:Int)∧i∉seen:=by
 unfold kO
 simp only [Bool.or_eq_false_iff,decide_eq_false_iff_not]
 constructor
 ·rintro ⟨⟨h1,h2⟩,h3⟩;exact ⟨by omega,by omega,h3⟩
 ·rintro ⟨h1,h2,h3⟩;exact ⟨⟨by omega,by omega⟩,h3⟩
mutual
theorem LM:∀ (t:Tr) {ns:List Nd} {f:Nat} {c:Bool} {seen:List Int},IsT ns t->WF t c->t.dep<=f->(seen++ints t.pre).Nodup->vis ns f t.i c seen=(0,seen++ints t.pre)
 | .nd i n ks,ns,f,c,seen,h1,h2,h3,h4=>by
  obtain ⟨a1,a2,a3⟩:=h1
  obtain ⟨b1,b2⟩:=h2
  cases f with
  | zero=>simp [Tr.dep] at h3
  | succ f=>
   have hlt:=(List.getElem?_eq_some_iff.1 a1).1
   have hb:kO ns (i:Int) seen=false:=tq.2 ⟨by omega,by omega,fun hm=>by
    simp only [Tr.pre,List.map_cons] at h4
    have:=(List.nodup_append.1 h4).2.2 _ hm (i:Int) (by simp)
    exact this rfl⟩
   have:=G6 ks (ns:=ns) (f:=f) (c:=decide (n.k<=5)) (seen:=seen++[(i:Int)]) a3 b2 (by simp only [Tr.dep] at h3;omega) (by simpa [Tr.pre] using h4)
   show vis ns (f+1) (i:Int) c seen=_
   rw [vis,hb]
   simp only [Bool.false_eq_true,if_false,Int.toNat_natCast,a1,b1,if_true,a2,this]
   simp [Tr.pre]
theorem G6:∀ (ts:List Tr) {ns:List Nd} {f:Nat} {c:Bool} {seen:List Int},lC ns ts->WFs ts c->Tr.deps ts<=f->(seen++ints (Tr.fI ts)).Nodup->pY (fun k s=>vis ns f k c s) (ts.map fun t=>(t.i:Int)) seen=(0,seen++ints (Tr.fI ts))
 | [],ns,f,c,seen,_,_,_,_=>by simp [pY,Tr.fI]
 | t :: ts,ns,f,c,seen,h1,h2,h3,h4=>by
  have h4':((seen++ints t.pre)++ints (Tr.fI ts)).Nodup:=by simpa [Tr.fI] using h4
  have k1:=LM t (f:=f) (seen:=seen) h1.1 h2.1 (by simp only [Tr.deps] at h3;omega) (List.nodup_append.1 h4').1
  have k2:=G6 ts (f:=f) (seen:=seen++ints t.pre) h1.2 h2.2 (by simp only [Tr.deps] at h3;omega) h4'
  simp only [List.map_cons,pY,k1,if_true,k2]
  simp [Tr.fI]
end
theorem LN {ns:List Nd} {i:Int} {c:Bool} {seen s':List Int} (h:vis ns 0 i c seen=(0,s')):False:=by
 unfold vis at h
 split at h<;>simp at h
theorem A9 {ns:List Nd} {f:Nat} {c:Bool} (ih:∀ (i:Int) (seen s':List Int),seen.Nodup->vis ns f i c seen=(0,s')->∃ t:Tr,IsT ns t∧(t.i:Int)=i∧WF t c∧t.dep<=f∧s'=seen++ints t.pre∧s'.Nodup) :
  ∀ (ks:List Int) (seen s':List Int),seen.Nodup->pY (fun k s=>vis ns f k c s) ks seen=(0,s')->∃ ts:List Tr,lC ns ts∧ts.map (fun t=>(t.i:Int))=ks∧WFs ts c∧Tr.deps ts<=f∧s'=seen++ints (Tr.fI ts)∧s'.Nodup
 | [],seen,s',hn,h=>by
  simp only [pY,Prod.mk.injEq,true_and] at h
  subst h
  exact ⟨[],trivial,rfl,trivial,Nat.zero_le _,by simp [Tr.fI],hn⟩
 | k :: ks,seen,s',hn,h=>by
  simp only [pY] at h
  split at h
  ·rename_i h0
   obtain ⟨s1,hs1⟩:∃ s1,vis ns f k c seen=(0,s1):=⟨_,Prod.ext h0 rfl⟩
   rw [hs1] at h
   obtain ⟨t,a1,a2,a3,a4,a5,a6⟩:=ih k seen s1 hn hs1
   obtain ⟨ts,b1,b2,b3,b4,b5,b6⟩:=A9 ih ks s1 s' a6 h
   refine ⟨t :: ts,⟨a1,b1⟩,by simp [a2,b2],⟨a3,b3⟩,by simp only [Tr.deps];omega,?_,b6⟩
   rw [b5,a5]
   simp [Tr.fI]
  ·rename_i h0
   rw [h] at h0
   exact absurd rfl h0
theorem Ed {ns:List Nd}:∀ (f:Nat) (c:Bool) (i:Int) (seen s':List Int),seen.Nodup->vis ns f i c seen=(0,s')->∃ t:Tr,IsT ns t∧(t.i:Int)=i∧WF t c∧t.dep<=f∧s'=seen++ints t.pre∧s'.Nodup
 | 0,c,i,seen,s',hn,h=>(LN h).elim
 | f+1,c,i,seen,s',hn,h=>by
  simp only [vis] at h
  split at h
  ·simp at h
  ·rename_i hb
   have hb:kO ns i seen=false:=by simpa using hb
   obtain ⟨h0,h1,h2⟩:=tq.1 hb
   split at h
   ·simp at h
   ·rename_i n hnd
    split at h
    ·rename_i he
     have hn2:(seen++[i]).Nodup:=by
      rw [List.nodup_append]
      exact ⟨hn,by simp,fun a ha b hb2 e=>by
       simp only [List.mem_singleton] at hb2
       rw [e,hb2] at ha
       exact h2 ha⟩
     obtain ⟨ts,b1,b2,b3,b4,b5,b6⟩:=A9 (Ed f (decide (n.k<=5))) n.kids.l (seen++[i]) s' hn2 h
     refine ⟨.nd i.toNat n ts,⟨hnd,b2.symm,b1⟩,Int.toNat_of_nonneg h0,⟨he,b3⟩,by simp only [Tr.dep];omega,?_,b6⟩
     rw [b5]
     simp [Tr.pre,Int.toNat_of_nonneg h0]
    ·rename_i he
     simp only [Prod.mk.injEq] at h
     exact absurd h.1 he
structure Good (p:Po) (t:Tr):Prop where
 sizes:p.nodes.l.length<=512∧1<=p.uses.l.length∧p.uses.l.length<=4∧p.aA.l.length<=64
 names:qK p=true
 limit:0<=p.limit∧p.limit<=65536∧(0 < p.limit->p.scope≠[])
 isT:IsT p.nodes.l t
 root:(t.i:Int)=p.root
 wf:WF t true
 dep:t.dep<=32
 nodup:t.pre.Nodup
 all:t.pre.length=p.nodes.l.length
 aliases:(p.uses.l.map Us.al).Nodup
 NW:p.aA.l.Nodup
 Hv:∀ r∈p.aA.l,used p r.al=true
 refs:∀ n∈p.nodes.l,n.k=9->used p n.nm=true
theorem zy {l:List Nat}:(ints l).Nodup↔l.Nodup:=by
 unfold List.Nodup
 rw [List.pairwise_map]
 constructor
 ·exact fun h=>h.imp fun q e=>q (by rw [e])
 ·exact fun h=>h.imp fun q e=>q (by omega)
theorem C2 {p:Po} (h:chk p=0):∃ t,Good p t:=by
 unfold chk at h
 split at h
 ·simp at h
 rename_i h1
 split at h
 ·simp at h
 rename_i h2
 split at h
 ·simp at h
 rename_i h3
 split at h
 ·rename_i h4;exact absurd h h4
 rename_i h4
 split at h
 ·simp at h
 rename_i h5
 split at h
 ·simp at h
 rename_i h6
 split at h
 ·simp at h
 rename_i h7
 have h4:oC p=0:=by simpa using h4
 unfold oC at h4
 split at h4
 ·rename_i k1
  split at h4
  ·rename_i k2
   obtain ⟨s',hs⟩:∃ s',vis p.nodes.l 32 p.root true []=(0,s'):=⟨_,Prod.ext k1 rfl⟩
   rw [hs] at k2
   obtain ⟨t,a1,a2,a3,a4,a5,a6⟩:=Ed 32 true p.root [] s' (by simp) hs
   simp only [List.nil_append] at a5
   subst a5
   refine ⟨t,⟨by omega,by omega,by omega,by omega⟩,by simpa using h2,⟨by omega,by omega,fun q e=>h3 (.inr (.inr ⟨q,e⟩))⟩,a1,a2,a3,a4,zy.1 a6,by simpa using k2,?_,?_,?_,?_⟩
   ·exact Classical.not_not.1 fun q=>h5 (.inl q)
   ·exact Classical.not_not.1 fun q=>h5 (.inr q)
   ·have h6:p.aA.l.all (fun r=>used p r.al)=true:=by simpa using h6
    exact List.all_eq_true.1 h6
   ·have h7:p.nodes.l.all (fun n=>!(decide (n.k=9)) || used p n.nm)=true:=by
     cases e:p.nodes.l.all (fun n=>!(decide (n.k=9)) || used p n.nm)
     ·exact absurd e h7
     ·rfl
    intro n hn hk
    have:=List.all_eq_true.1 h7 n hn
    simpa [hk] using this
  ·simp at h4
 ·rename_i k1;exact absurd h4 k1
theorem CY {p:Po} {t:Tr} (g:Good p t):chk p=0:=by
 have hv:=LM t (ns:=p.nodes.l) (f:=32) (c:=true) (seen:=[]) g.isT g.wf g.dep (by simpa using zy.2 g.nodup)
 rw [g.root] at hv
 have ht:oC p=0:=by
  unfold oC
  rw [hv]
  simp [g.all]
 unfold chk
 have s:=g.sizes
 rw [if_neg (by omega),if_neg (by rw [g.names];simp),if_neg (by
  have:=g.limit
  rintro (q | q | ⟨q1,q2⟩)
  ·omega
  ·omega
  ·exact this.2.2 q1 q2),if_neg (by simp [ht]),if_neg (by
  rintro (q | q)
  ·exact q g.aliases
  ·exact q g.NW),if_neg (by
  rw [List.all_eq_true.2 g.Hv];simp),if_neg (by
  rw [List.all_eq_true.2 fun n hn=>by
   by_cases hk:n.k=9
   ·simp [hk,g.refs n hn hk]
   ·simp [hk]]
  simp)]
end Go.Ab.Pol
/-
  Normal forms: thresholds, and that they X4 what they were made from.
-/
namespace Go.Ab.Pol
inductive Cd where
 | atom (k num:Int) (vs:List Nd)
 | gate (need:Int) (kids:List Cd)
def Cd.isT:Cd->Bool
 | .atom k _ _=>decide (k=0)
 | .gate _ _=>false
def Cd.isF:Cd->Bool
 | .atom k _ _=>decide (k=1)
 | .gate _ _=>false
def cB (b:Bool):Cd:=.atom (if b then 0 else 1) 0 []
def cnt (h:Cd->Bool) (l:List Cd):Nat:=(l.filter h).length
def rest (l:List Cd):List Cd:=l.filter fun c=>!c.isT && !c.isF
def fP (l:List Cd):Nat:=(l.filter Cd.isT).length
def cN (whole:Bool) (k:Int):Cd->List Cd
 | .gate need ks=>if (whole && decide (need=(ks.length:Int))) || (!whole && decide (k=1) && decide (need=1)) then ks else [.gate need ks]
 | c=>[c]
def bt (whole:Bool) (k:Int):List Cd->List Cd
 | []=>[]
 | c :: l=>cN whole k c++bt whole k l
def thr (k:Int) (l:List Cd):Cd:=
 if k - fP l<=0 then cB true
 else if ((rest l).length:Int) < k - fP l then cB false
 else match rest l with
  | [c]=>c
  | r=>if k - fP l=(r.length:Int) then .gate ((bt true (k - fP l) r).length:Int) (bt true (k - fP l) r)
   else .gate (k - fP l) (bt false (k - fP l) r)
structure Says (at_:Int->Int->List Nd->Bool) (h:Cd->Bool):Prop where
 tru:∀ n vs,h (.atom 0 n vs)=true
 fls:∀ n vs,h (.atom 1 n vs)=false
 atm:∀ k n vs,k≠0->k≠1->h (.atom k n vs)=at_ k n vs
 gat:∀ n ks,h (.gate n ks)=decide (n<=(cnt h ks:Int))
section
variable {at_:Int->Int->List Nd->Bool} {h:Cd->Bool}
theorem zf {k:Int} (hk:k≠1):∀ l:List Cd,bt false k l=l
 | []=>rfl
 | c :: l=>by
  rw [bt,zf hk l]
  cases c<;>simp [cN,hk]
end
end Go.Ab.Pol

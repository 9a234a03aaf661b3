/-
  From the model's code to the compact code.
-/
import Derived.Test.YtjnomgdildcbhaaGreatDoorAbSim
import Derived.Orders
set_option linter.all false
namespace Go.Ab
def DD:Value->AV
 |.bool b=>.bool b
 |.int k n=>.int k n
 |.string s=>.str s.data.toList
 |.pointer none=>.mI
 |.slice none 0 0=>.ay
 |.map none=>.iM
 |.nilFunc=>.iP
 |.nilIface=>.jg
 |_=>.top
def ofV:Value->AV
 |.agg cs=>if cs.toList.all Value.oneCell' then .agg (cs.toList.map DD) else .top
 |v=>DD v
def aS:Operand->Option Opd
 |.tmp t=>some (.t t)
 |.const v=>some (.c (ofV v))
 |.func f=>some (.c (.fn (.func f) [] []))
 |.global _=>none
def gK:List Operand->Option (List Opd)
 | []=>some []
 |x::r=>match aS x,gK r with
  |some y,some s=>some (y::s)
  |_,_=>none
def jt:Option Operand->Option (Option Opd)
 |none=>some none
 |some x=>match aS x with
  |some y=>some (some y)
  |none=>none
def shapeOf(P:Program)(t:TypeId):Option (Bool×Nat):=
 match P.underlying t,P.info? t with
 |some d,some i=>some (match d with|.struct _|.array _ _=>true|_=>false,i.size)
 |_,_=>none
def zeroOf(P:Program)(t:TypeId):Option AV:=
 match P.info? t with
 |some i=>match i.zero with
  |some z=>if (ofV z).cells.length=i.size then some (ofV z) else none
  |none=>none
 |none=>none
def tv(P:Program)(t:TypeId)(i:Nat):Option (Nat×TypeId):=
 match P.underlying t with
 |some (.struct fs)=>match fs[i]? with
  |some f=>some (f.offset,f.type)
  |none=>none
 |_=>none
def DN (s : String) : Prop := Extern.allGenericRows.lookup s = none ∧ Extern.allTypedRows.lookup s = none ∧ Extern.allRows.lookup s = some Extern.AbiNoEscape.same ∧ Extern.allNextRows.lookup s = none ∧ (s == "runtime.NumGoroutine") = false
structure Hints where
  mat:FuncId->Nat->Bool
  own:FuncId->Nat->Bool
  quiet:FuncId->Bool
  live:FuncId->Nat->List Nat
  draw:FuncId->Nat->List (Nat×List Nat×List Nat):=λ_ _=>[]
  GM:Option String:=none
  KJ:∀s, GM=some s->DN s:=by simp
  YX:FuncId->Nat->Option Nat:=λ_ _=>none
  ldq:FuncId->Nat->Bool:=λ_ _=>false
  stq:FuncId->Nat->Bool:=λ_ _=>false
  mkq:FuncId->Nat->Option (Nat×TypeId×Nat):=λ_ _=>none
  mkv:FuncId->Nat->Bool:=λ_ _=>false
  stv:FuncId->Nat->Bool:=λ_ _=>false
  YW:FuncId->Nat->Option Nat:=λ_ _=>none
  inv:List TypeId:=[]
  iM:FuncId->Nat->Option String:=λ_ _=>none
  kept:FuncId->Bool:=λ_=>false
  dfr:FuncId->Bool:=λ_=>false
def qh(m:FuncId->Nat->Bool)(f:FuncId):Option Nat->Bool
 |some d=>m f d
 |none=>false
def RY:Operand->Option Nat
 |.tmp d=>some d
 |_=>none
def Be:TypeDesc->Operand->Option NK
 |.slice _,.const (.slice none 0 0)=>some .slice
 |.pointer _,.const (.pointer none)=>some .ptr
 |.func _ _ _,.const .nilFunc=>some .func
 |.interface _,.const .nilIface=>some .iface
 |.map _ _,.const (.map none)=>some .map
 |_,_=>none
def placesOf(P:Program)(t:TypeId):Option (Nat->Option (Nat×Nat)):=
 match P.info? t,P.underlying t with
 |some _,some (.array _ e)=>match P.info? e with
  |some ie=>some λi=>some (i*ie.size,ie.size)
  |none=>none
 |some _,some (.struct fields)=>match fields.toList.mapM (λf=>(P.info? f.type).map λi=>(f.offset,i.size)) with
  |some places=>some λi=>places.toArray[i]?
  |none=>none
 |_,_=>none
def partsOf(pl:Nat->Option (Nat×Nat)):List (Nat×Operand)->Option (List (Nat×Nat×Opd))
 | []=>some []
 |(i,x)::r=>match aS x,partsOf pl r,pl i with
  |some y,some s,some (off,sz)=>some ((off,sz,y)::s)
  |_,_,_=>none
def zz:List (Nat×Operand)->Option (List (Nat×Opd))
 | []=>some []
 |(i,x)::r=>match aS x,zz r with
  |some y,some s=>some ((i,y)::s)
  |_,_=>none
def wZ(P:Program)(t:TypeId):Option FK:=match P.underlying t with
 |some .bool=>some .bool
 |some (.int _)=>some .int
 |some .string=>some .str
 |_=>none
def vA(P:Program):Nat->List Field->Option (List FK)
 |_,[]=>some []
 | i, f :: r => if f.offset = i ∧ f.name ≠ "_" ∧ shapeOf P f.type = some (false, 1) then (match wZ P f.type, vA P (i + 1) r with
  |some k,some s=>some (k::s)
  |_,_=>none) else none
def pY(P:Program)(t:TypeId):Option (List FK):=match P.underlying t with
 |some (.struct fs)=>if P.stoodInHeld t=false∧P.eqGuardType P.depth t=false then vA P 0 fs.toList else none
 |_=>none
def Gx(P:Program)(t:TypeId):Option KK:=match wZ P t with
 |some k=>if shapeOf P t=some (false,1) then some (.one k) else none
 |none=>match pY P t with
  |some ks=>some (.st ks)
  |none=>none
def Ds(P:Program)(GM:Option String):Operand->Bool
 |.func f=>match P.funcs[f]? with
  | some fn => fn.body.isNone && some fn.name == GM && fn.origin == ""
  |none=>false
 |_=>false
def rowOf(P:Program)(name:String)(t:TypeId):Option FuncId:=match P.info? t,P.underlying t with
 |some i,some d=>(match d with
  |.pointer _=>none
  |_=>match i.methods.find? (·.name==name) with
   |some m=>if m.path=#[] then (match m.func with
    |some (g,false)=>some g
    |_=>none) else none
   |none=>none)
 |_,_=>none
def RZ(m:FuncId->Nat->Option String)(f:FuncId)(d:Option Nat):Option String:=match d with
 |some d=>m f d
 |none=>none
def IV(P:Program)(name:String)(ts:List TypeId):List (TypeId×FuncId):=ts.filterMap λt=>(rowOf P name t).map λg=>(t,g)
def cOp(P:Program)(H:Hints)(f:FuncId)(o:Oper):COp:=
 match o.op with
 |.move x=>match aS x with
  |some y=>.p (.mv y)
  |none=>.bad
 |.assign x=>match aS x with
  |some y=>if qh H.mat f o.dst then .m (.mat y) else .p (.mv y)
  |none=>.bad
 |.pick c a b=>match aS c,aS a,aS b with
  |some c,some a,some b=>.p (.pick c a b)
  |_,_,_=>.bad
 |.alloc t=>match shapeOf P t,zeroOf P t with
  |some (_,sz),some z=>if 0<sz then .m (.alloc t z (qh H.own f o.dst)) else (match z with
   |.agg []=>.m (.al0 t)
   |_=>.bad)
  |_,_=>.bad
 |.box t x=>match aS x,shapeOf P t with
  |some y,some (_,sz)=>if 0<sz then .m (match o.dst.bind (H.YW f) with
   |some k=>.XN t sz k y
   |none=>match o.dst.bind (H.YX f) with
   |some k=>.OH t sz k y
   |none=>.box t sz y) else .bad
  |_,_=>.bad
 |.build t ps=>match zeroOf P t,placesOf P t with
  |some (.agg z),some pl=>(match partsOf pl ps.toList with
   |some s=>.p (.bld z s)
   |none=>.bad)
  |_,_=>.bad
 |.buildSlice t n ps=>match P.underlying t with
  |some (.slice e)=>(match shapeOf P e,zeroOf P e,zz ps.toList with
   |some (_,sz),some z,some s=>if n*sz<=2 ^ 24∧0<sz then .m (.Bg e sz n z s (qh H.own f o.dst)) else .bad
   |_,_,_=>.bad)
  |_=>.bad
 |.load t x=>match aS x,shapeOf P t with
  |some y,some (ag,sz)=>if qh H.ldq f o.dst then (if ag=false∧sz=1 then .m (.ldQ y) else .bad) else if 0<sz then .m (.load ag sz y) else .bad
  |_,_=>.bad
 |.store t a x=>match aS a,aS x,shapeOf P t with
  |some b,some y,some (ag,sz)=>if qh H.stv f (RY a) then (if 0<sz then .m (.stV sz b y) else .bad) else if qh H.stq f (RY a) then (if ag=false∧sz=1 then .m (.stQ b y) else .bad) else if 0<sz then .m (.store sz (qh H.mat f (RY a)) b y) else if sz=0 then .m (.st0 b y) else .bad
  |_,_,_=>.bad
 |.nilCheck x=>match aS x with
  |some y=>(match RZ H.iM f o.dst with
   |some nm=>.p (.Kk nm (H.inv.filter λt=>(rowOf P nm t).isSome) y)
   |none=>.p (.GP y))
  |none=>.bad
 |.binOp b t x y _=>
  match aS x,aS y with
  |some x',some y'=>
   (match P.underlying t with
    |some (.int _)=>.p (.bin b x' y')
    |some .string=>.p (.bin b x' y')
    |some .bool=>(match b with
     |.eql=>.p (.eqB false x' y')
     |.neq=>.p (.eqB true x' y')
     |_=>.bad)
    |some d=>(match Be d y with
     |some k=>(match b with
      |.eql=>.p (.eqN k false x')
      |.neq=>.p (.eqN k true x')
      |_=>.bad)
     |none=>(match d with
      |.pointer te=>(match P.info? te with
       |some _=>(match b with
        |.eql=>.p (.eqP false x' y')
        |.neq=>.p (.eqP true x' y')
        |_=>.bad)
       |none=>.bad)
      |.struct _=>(match pY P t with
       |some ks=>(match b with
        |.eql=>.p (.eqA false ks x' y')
        |.neq=>.p (.eqA true ks x' y')
        |_=>.bad)
       |none=>.bad)
      |_=>.bad))
    |_=>.bad)
  |_,_=>.bad
 |.unOp u _ x=>match aS x,u with
  |some y,.not=>.p (.not y)
  |some y,.neg=>.p (.neg y)
  |_,_=>.bad
 |.convert s d x=>match aS x,P.underlying s,P.underlying d with
  |some y,some (.int _),some (.int k)=>.p (.cvI k y)
  |some y,some .string,some .string=>.p (.cvS y)
  |some y,some (.slice e),some .string=>(match P.underlying e with
   |some (.int .u8)=>.m (.b2s y)
   |_=>.bad)
  |some y,some .string,some (.slice e)=>(match P.underlying e with
   |some (.int .u8)=>.m (.s2b y)
   |_=>.bad)
  |some y,some (.pointer t),some .unsafePointer=>(match P.info? t with
   |some j=>if 0<j.size then .m (.cvU y) else .bad
   |none=>.bad)
  |some y,some .unsafePointer,some (.pointer u)=>(match P.info? u with
   |some j=>if liesAt P P.depth u 1 0 u 1=true∧P.cellsOf u=j.size∧0<j.size then .m (.cvP u j.size y) else .bad
   |none=>.bad)
  |_,_,_=>.bad
 |.makeInterface t x=>match aS x,P.underlying t with
  |some _,some (.interface _)=>.bad
  |some y,some _=>.p (.mkI t y)
  |_,_=>.bad
 |.makeFunc fn a b=>match gK a.toList,gK b.toList with
  |some a,some b=>.p (.mkF fn a b)
  |_,_=>.bad
 |.makeMap t r=>match r with
  |none=>.m .mkM
  |some (.const (.int _ _))=>(match P.underlying t with
   |some (.map _ _)=>.m .mkM
   |_=>.bad)
  |_=>.bad
 |.lookup t x k ok=>match aS x,aS k,P.underlying t with
  |some x,some k,some (.map kt et)=>(match Gx P kt,zeroOf P et with
   |some kk,some z=>.m (.lkp kk z ok x k)
   |_,_=>.bad)
  |_,_,_=>.bad
 |.mapUpdate t x k v=>match aS x,aS k,aS v,P.underlying t with
  |some x,some k,some v,some (.map kt _)=>(match Gx P kt with
   |some kk=>.m (.mup kk x k v)
   |none=>.bad)
  |_,_,_,_=>.bad
 |.insert t x k v=>match aS x,aS k,aS v,P.underlying t with
  |some x,some k,some v,some (.map kt _)=>(match Gx P kt with
   |some kk=>.m (.mup kk x k v)
   |none=>.bad)
  |_,_,_,_=>.bad
 |.makeSlice t l c=>match P.underlying t,aS l,aS c with
  |some (.slice e),some l,some c=>(match P.info? e,zeroOf P e with
   |some i,some z=>if 0<i.size then .m (if qh H.mkv f o.dst then .XO e i.size i.bytes z l c else match o.dst.bind (H.mkq f) with
    |some (_,ti,si)=>.XM e i.size i.bytes z l c ti si
    |none=>.mkS e i.size i.bytes z l c) else .bad
   |_,_=>.bad)
  |_,_,_=>.bad
 |.slice t x lo hi mx=>match P.underlying t,aS x,jt lo,jt hi,jt mx with
  |some .string,some y,some lo,some hi,some none=>.p (.slS y lo hi)
  |some (.slice e),some y,some lo,some hi,some mx=>(match shapeOf P e with
   |some (_,sz)=>.m (.slL sz y lo hi mx)
   |none=>.bad)
  |some (.array n e),some y,some lo,some hi,some none=>(match shapeOf P e with
   |some (_,sz)=>.m (.slA n sz y lo hi)
   |none=>.bad)
  |_,_,_,_,_=>.bad
 |.fieldAddr t x i=>match aS x,tv P t i with
  |some y,some (off,ft)=>(match shapeOf P ft with
   |some (_,sz)=>if 0<sz then .p (.fa off y) else .bad
   |none=>.bad)
  |_,_=>.bad
 |.field t x i=>match aS x,tv P t i with
  |some y,some (off,ft)=>(match shapeOf P ft with
   |some (ag,sz)=>.p (.fld ag off sz y)
   |none=>.bad)
  |_,_=>.bad
 |.indexAddr t x i=>match aS x,aS i,P.underlying t with
  |some y,some j,some (.array n e)=>(match shapeOf P e with
   |some (_,sz)=>.p (.iaA n sz y j)
   |none=>.bad)
  |some y,some j,some (.slice e)=>(match shapeOf P e with
   |some (_,sz)=>.p (.iaS sz y j)
   |none=>.bad)
  |_,_,_=>.bad
 |.index t x i=>match aS x,aS i,P.underlying t with
  |some y,some j,some (.array n e)=>(match shapeOf P e with
   |some (ag,sz)=>.p (.ixA ag n sz y j)
   |none=>.bad)
  |some y,some j,some .string=>.p (.ixS y j)
  |_,_,_=>.bad
 |.typeAssert x _ t ok=>match aS x,P.underlying t,zeroOf P t with
  |some _,some (.interface _),_=>.bad
  |some y,some _,some z=>.p (.tyA t ok z y)
  |_,_,_=>.bad
 |.extract x i=>match aS x with
  |some y=>.p (.ext y i)
  |none=>.bad
 |.call c=>match c.callee,gK c.args.toList with
  |.value g,some xs=>if Ds P H.GM g=true then (match xs with
    | [x]=>.p (.mv x)
    |_=>.bad)
   else (match aS g with
   |some g=>.m (.call g xs)
   |none=>.bad)
  |.invoke r name,some xs=>(match aS r with
   |some r=>.m (.inv (IV P name H.inv) r xs)
   |none=>.bad)
  |.builtin .unsafeSliceData,some [x]=>(match P.underlying o.type with
   |some (.pointer _)=>.m (.usd x)
   |_=>.bad)
  |.builtin .unsafeString,some [x,k]=>(match c.argTypes.toList with
   | [pt,_]=>(match P.underlying pt with
    |some (.pointer e)=>if P.cellsOf e=1 then .m (.XK e x k) else .bad
    |_=>.bad)
   |_=>.bad)
  |.builtin .len,some [x]=>(match c.argTypes[0]? with
   |some t=>(match P.underlying t with
    |some .string=>.p (.len false x)
    |some (.slice _)=>.p (.len true x)
    |some (.map _ _)=>.m (.Oc x)
    |_=>.bad)
   |none=>.bad)
  |.builtin .max,some xs=>.p (.mm true xs)
  |.builtin .min,some xs=>.p (.mm false xs)
  |.builtin .append,some [s,x]=>(match c.argTypes[0]?,c.argTypes[1]? with
   |some t,some u=>(match P.underlying t,P.underlying u with
    |some (.slice e),some (.slice e')=>(match P.info? e,zeroOf P e with
     |some i,some _=>if 0<i.size∧t=u then .m (if qh H.mkv f o.dst then .XP e i.size i.bytes s x else match o.dst.bind (H.mkq f) with
      |some (k,ti,si)=>.XL e i.size i.bytes k ti si s x
      |none=>.app e i.size i.bytes s x) else .bad
     |_,_=>.bad)
    |some (.slice e),some .string=>(match P.info? e,zeroOf P e with
     |some i,some _=>if i.size=1 then .m (.XJ e i.bytes s x) else .bad
     |_,_=>.bad)
    |_,_=>.bad)
   |_,_=>.bad)
  |_,_=>.bad
 |.panic x=>match aS x with
  |some y=>.m (.pan y)
  |none=>.bad
 |_=>.bad
def rT(ops:Array Oper):Option (Nat×Bool)->Option (Option (Nat×Bool))
 |none=>some none
 |some (j,b)=>match (ops[j]?).bind (·.dst) with
  |some t=>some (some (t,b))
  |none=>none
def inN(N:Nat):Option Nat->Bool
 |some d=>decide (d<N)
 |none=>true
def kO(P:Program)(H:Hints)(f:FuncId)(N:Nat)(ops:Array Oper)(o:Oper):CO:=
 match rT ops o.guard with
 |none=>{ dst:=o.dst,gd:=none,op:=.bad }
 |some g=>if inN N o.dst then { dst:=o.dst,gd:=g,op:=cOp P H f o } else { dst:=o.dst,gd:=none,op:=.bad }
def mz(c:CO):Bool:=match c with
 | { dst:=some _,gd:=none,op:=.m (.alloc _ _ false) }=>true
 |_=>false
def iC(q p:DO):Bool:=
 p.ix != q.ix &&
 (q.anc.contains p.ix ||
  ((match p.co.dst with
   |some t=>!(q.looks.contains t)
   |none=>true) &&
  (match q.co.dst with
   |some t=>!(p.looks.contains t)
   |none=>true) &&
  (!(loud p.co) ||mz q.co)&&(!(loud q.co&&Gh p.co) ||q.re.contains p.ix))) &&
 (match p.co.dst,q.co.dst with
  |some t,some u=>t != u
  |_,_=>true)
def A9(d:DO):List DO->Bool
 | []=>true
 |c::r=>(!(mz c.co) ||(match c.co.dst with
   |some t=>!(d.looks.contains t) ||r.all (λb=>!(loud b.co) ||d.anc.contains b.ix)
   |none=>true))&&A9 d r
def okD(ops:Array Oper):List DO->List DO->Bool
 | [],l9=>(List.range ops.size).all λi=>l9.any λs=>s.ix==i
 |d::r,l9=>(match ops[d.ix]? with
  |none=>false
  |some o=>o.after.toList.all (λe=>!(Region.binds .any e) ||l9.any (λs=>s.ix==e.on)) &&
    d.anc.all (λi=>o.after.toList.any (λe=>Region.binds .any e&&(e.on==i ||l9.any (λs=>s.ix==e.on&&s.anc.contains i))))) &&
   l9.all (iC d)&&(A9 d l9&&okD ops r (d::l9))
def cDO(P:Program)(H:Hints)(f:FuncId)(N:Nat)(ops:Array Oper)(x:Nat×List Nat×List Nat):DO:=
 match ops[x.1]? with
 |some o=>{ co:=kO P H f N ops o,ix:=x.1,looks:=o.looksAt ops,anc:=x.2.1,re:=x.2.2 }
 |none=>{ co:={ dst:=none,gd:=none,op:=.bad },ix:=x.1,looks:=[],anc:=[],re:=[] }
def bare(d:DO):DO:={ d with anc:=[] }
def Rv(P:Program)(H:Hints)(f:FuncId)(N:Nat)(ops:Array Oper)(hs:List (Nat×List Nat×List Nat)):CC:=
 if P.follows .mixedOrders=true∧okD ops (hs.map (cDO P H f N ops)) []=true then .draw ((hs.map (cDO P H f N ops)).map bare) else .bad
def oL:Code->Nat
 |.region id _ _=>id
 |.seq a _=>oL a
 |.block _ a=>oL a
 |.loop a=>oL a
 |.scope a=>oL a
 |.cond _ a _=>oL a
 |_=>0
def dK(P:Program)(H:Hints)(f:FuncId)(N:Nat):Code->CC
 |.skip=>.skip
 |.region id ops draw=>if draw then Rv P H f N ops (H.draw f id) else .reg (ops.toList.map (kO P H f N ops))
 |.seq a b=>.seq (dK P H f N a) (dK P H f N b)
 |.cond x a b=>match aS x with
  |some y=>.cond y (dK P H f N a) (dK P H f N b)
  |none=>.bad
 |.block id a=>.block id (dK P H f N a)
 |.loop a=>.loop (H.live f (oL a)) (dK P H f N a)
 |.exit id=>.exit id
 |.scope a=>.scope (dK P H f N a)
 |.label _=>.skip
 |.ret=>.ret
 |_=>.bad
def Gp(P:Program)(N:Nat):List ResultVar->Option (List jm)
 | []=>some []
 |.tmp t::r=>match Gp P N r with
  |some s=>some (.tmp t::s)
  |none=>none
 |.cell t ty::r=>match shapeOf P ty,Gp P N r with
  |some (ag,sz),some s=>if 0<sz then some (.cell t ag sz::s) else none
  |_,_=>none
def Ba(P:Program)(H:Hints)(f:FuncId)(N:Nat)(ops:Array Oper):Option (Nat×POp):=
 match ops.toList with
 | [o1,o2]=>(match o1.dst,o1.guard,cOp P H f o1,o2.op,o2.guard,o2.dst with
  |some d,none,.p q,.defer c,none,none=>(match c.callee,c.args.toList with
   |.value (.tmp d'),[]=>if d=d'∧d<N then some (d,q) else none
   |_,_=>none)
  |_,_,_,_,_,_=>none)
 |_=>none
def pS(P:Program)(H:Hints)(f:FuncId)(N:Nat):Code->CB
 |.seq (.region id ops false) y=>match Ba P H f N ops with
  |some (d,q)=>.dfr d q (dK P H f N y)
  |none=>.seq (dK P H f N (.region id ops false)) (pS P H f N y)
 |.seq x y=>.seq (dK P H f N x) (pS P H f N y)
 |c=>.code (dK P H f N c)
def GN(P:Program)(H:Hints)(g:FuncId):Option S7:=
 match P.funcs[g]? with
 |none=>none
 |some fn=>(match fn.body,fn.results.toList with
  |some (.seq (.region _ ops false) y),[]=>(match ops.toList with
   | [o1,o2]=>(match o1.dst,o1.guard,o1.op,o2.dst,o2.guard,o2.op with
    |some d1,none,.call c,some d2,none,.assign (.tmp d)=>(match c.callee,c.args.toList with
     | .builtin .recover, [] => if d = d1 ∧ d1 < fn.ntmps ∧ d2 < fn.ntmps ∧ (fn.name == "runtime.NumGoroutine") = false then some { d1 := d1, d2 := d2, rest := dK P H g fn.ntmps y, nt := fn.ntmps } else none
     |_,_=>none)
    |_,_,_,_,_,_=>none)
   |_=>none)
  |_,_=>none)
def OL(P:Program)(H:Hints)(f:FuncId):Option aK:=
 match P.funcs[f]? with
 |none=>none
 |some fn=>match fn.body,Gp P fn.ntmps fn.results.toList with
  | some c, some r => if fn.name == "runtime.NumGoroutine" then none else some { body := if H.dfr f then pS P H f fn.ntmps c else .code (dK P H f fn.ntmps c), res := IQ (H.kept f) r, np := fn.params.size + fn.nfree, nt := fn.ntmps }
  |_,_=>none
open Go.RowKit
def aF(w:World)(G:Gm)(L:Loc->Prop)(e:Env)(a:Act):Prop:=∀t,aD w G L (get e t) (a.tmps.getD t undef)
variable{P:Program}{w:World}{G:Gm}{L:Loc->Prop}
theorem E6(v:Value):aD w G L (DD v) v:=by
 unfold DD;split<;>first
  |exact .bool _ _
  |exact .int _ _ _
  |(rename_i s;exact .str _ _)
  |exact .mI _
  |exact .ay _
  |exact .iM _
  |exact .iP _
  |exact .jg _
  |exact .top _ _
theorem fD(v:Value):aD w G L (ofV v) v:=by
 unfold ofV;split
 ·rename_i cs;split
  ·rename_i hall;refine .agg _ _ _ (by simp) (λi hi=>?_) (λi hi=>?_)
   ·simp only[afv,afP]at hi;have:=afL.1 hall cs[i] (by simp);simpa[hi]using this
   ·simp only[afv,afP]at hi;have e:(cs.toList.map DD).getD i .top=DD (cs.getD i undef):=by simp[hi]
    rw[e];exact E6 _
  ·exact .top _ _
 ·exact E6 v
theorem aG{e:Env}{a:Act}(he:aF w G L e a){x:Operand}{y:Opd}(h:aS x=some y):aD w G L (y.ev e) (a.eval x):=by
 cases x with
 |tmp t=>simp only[aS,fS]at h;subst h;exact he t
 |const v=>simp only[aS,fS]at h;subst h;exact fD v
 |global g=>simp[aS]at h
 |func f=>
  simp only[aS,fS]at h;subst h;exact .fn _ _ _ _ _ _ rfl rfl (λi hi=>by simp at hi) (λi hi=>by simp at hi)
theorem oF{e:Env}{a:Act}(he:aF w G L e a):∀{xs:List Operand} {ys:List Opd},gK xs=some ys ->
  ys.length=xs.length∧∀i,i<ys.length->aD w G L ((ys.map (·.ev e)).getD i .top) ((xs.map a.eval).getD i undef)
 | [],ys,h=>by simp only[gK,fS]at h;subst h;exact⟨rfl,λi hi=>by simp at hi⟩
 |x::r,ys,h=>by
  simp only[gK]at h;cases hx:aS x with
  |none=>simp[hx]at h
  |some y=>
   cases hr:gK r with
   |none=>simp[hx,hr]at h
   |some s=>
    simp only[hx,hr,fS]at h;subst h;obtain⟨h1,h2⟩:=oF he hr;refine⟨by simp[h1],λi hi=>?_⟩;cases i with
    |zero=>simpa using aG he hx
    |succ i=>simpa using h2 i (by simpa using hi)
theorem IU{f:Fn}{a b:List AV}{x:Value}(h:aD w G L (.fn f a b) x):∃va vb:Array Value,x=.func f va vb∧va.size=a.length∧vb.size=b.length ∧
  (∀i,i<a.length->aD w G L (a.getD i .top) (va.getD i undef))∧(∀i,i<b.length->aD w G L (b.getD i .top) (vb.getD i undef)):=by
 cases h with
 |fn L f a b va vb hla hlb ha hb=>exact⟨va,vb,rfl,hla,hlb,ha,hb⟩
theorem iI{cs:List AV}{x:Value}(h:aD w G L (.agg cs) x):∃vs:Array Value,x=.agg vs∧vs.size=cs.length ∧
  (∀i,i<cs.length->(vs.getD i undef).oneCell'=true)∧(∀i,i<cs.length->aD w G L (cs.getD i .top) (vs.getD i undef)):=by
 cases h with
 |agg L cs vs hl ho h=>exact⟨vs,rfl,hl,ho,h⟩
theorem aU{k:IntKind}{n:Int}{x:Value}(h:aD w G L (.int k n) x):x=.int k n:=by cases h;rfl
theorem cm{b:Bool}{x:Value}(h:aD w G L (.bool b) x):x=.bool b:=by cases h;rfl
theorem cJ{s:List UInt8}{x:Value}(h:aD w G L (.str s) x):x=.string ⟨s.toArray⟩:=by cases h;rfl
theorem cC{v:AV}{x:Value}(h:aD w G L v x)(ho:x.oneCell'=true)(hv:v.cells=[v]):x.cells.size=v.cells.length∧x.cells≠#[] ∧
  ∀i,i<v.cells.length->(x.cells.getD i undef).oneCell'=true∧aD w G L (v.cells.getD i .top) (x.cells.getD i undef):=by
 have hx:x.cells=#[x]:=by
  cases x<;>first|rfl|cases ho
 rw[hx,hv];refine⟨rfl,by simp,λi hi=>?_⟩;simp only[afU,Nat.lt_one_iff]at hi;subst hi;exact⟨by simpa using ho,by simpa using h⟩
theorem aD.Yj{v:AV}{x:Value}(h:aD w G L v x)(hne:v.cells≠[]):x.cells.size=v.cells.length∧x.cells≠#[] ∧
  ∀i,i<v.cells.length->(x.cells.getD i undef).oneCell'=true∧aD w G L (v.cells.getD i .top) (x.cells.getD i undef):=by
 cases h with
 |agg L cs vs hl ho h=>
  refine⟨hl,λe=>hne ?_,λi hi=>⟨ho i hi,h i hi⟩⟩;have e':vs=#[]:=e;subst e';exact afJ hl.symm
 |top L x=>exact absurd rfl hne
 |tup L cs vs hl h=>exact absurd rfl hne
 |own L a n m x hLa hm hle ho h=>exact cC (.own _ a n m x hLa hm hle ho h) (by rcases ho with⟨_,rfl⟩|⟨b,c,rfl⟩<;>rfl) rfl
 |dN L a n sz i o m b hLa hm hle h=>exact cC (.dN _ a n sz i o m b hLa hm hle h) rfl rfl
 |bool L b=>exact cC (.bool _ _) rfl rfl
 |int L k n=>exact cC (.int _ _ _) rfl rfl
 |str L s=>exact cC (.str _ _) rfl rfl
 |ay L=>exact cC (.ay _) rfl rfl
 |emp L a=>exact cC (.emp _ _) rfl rfl
 |mU L a c=>exact cC (.mU _ _ _) rfl rfl
 |lst L es b off c sz vf hle hs hc hv=>exact cC (.lst _ es b off c sz vf hle hs hc hv) rfl rfl
 |ptr L a o b hLa hm h=>exact cC (.ptr _ a o b hLa hm h) rfl rfl
 |eF L e o b off vf hc hv=>exact cC (.eF _ e o b off vf hc hv) rfl rfl
 |mI L=>exact cC (.mI _) rfl rfl
 |fn L f a b va vb hla hlb ha hb=>exact cC (.fn _ f a b va vb hla hlb ha hb) rfl rfl
 |iP L=>exact cC (.iP _) rfl rfl
 |iface L t v x h=>exact cC (.iface _ t v x h) rfl rfl
 |jg L=>exact cC (.jg _) rfl rfl
 |mp L a b hLa hm h=>exact cC (.mp _ a b hLa hm h) rfl rfl
 |iM L=>exact cC (.iM _) rfl rfl
 |ou L p=>exact cC (.ou _ p) rfl rfl
def dx(w:World)(G:Gm)(L:Loc->Prop)(cs:List AV)(vs:Array Value):Prop:=
 vs.size=cs.length∧∀i,i<cs.length->(vs.getD i undef).oneCell'=true∧aD w G L (cs.getD i .top) (vs.getD i undef)
theorem aD.dO{v:AV}{x:Value}(h:aD w G L v x)(hne:0<v.cells.length):dx w G L v.cells x.cells:=by
 obtain⟨h1,_,h3⟩:=h.Yj (λe=>by rw[e]at hne;simp at hne);exact⟨h1,h3⟩
theorem dx.agg{cs:List AV}{vs:Array Value}(h:dx w G L cs vs):aD w G L (.agg cs) (.agg vs):=
 .agg _ _ _ h.1 (λi hi=>(h.2 i hi).1) λi hi=>(h.2 i hi).2
theorem sj(off:Nat):∀(l:List (Value×Nat)) (cs:Array Value),(l.foldl (λcs (x:Value×Nat)=>cs.setIfInBounds (off+x.2) x.1) cs).size=cs.size
 | [],cs=>rfl
 |x::l,cs=>by simp[sj off l]
theorem vB(off:Nat):∀(l:List Value) (s:Nat) (cs:Array Value) (k:Nat),off+s+l.length<=cs.size ->
  ((l.zipIdx s).foldl (λcs (x:Value×Nat)=>cs.setIfInBounds (off+x.2) x.1) cs)[k]?=if off+s<=k∧k<off+s+l.length then l[k-(off+s)]? else cs[k]?
 | [],s,cs,k,h=>by simp;intro h1 h2;omega
 |x::l,s,cs,k,h=>by
  simp only[List.zipIdx_cons,agq];rw[vB off l (s+1) _ k (by simp at h⊢;omega)];simp only[Io,ag8];by_cases h1:off+s=k
  ·subst h1;rw[if_neg (by omega),if_pos rfl,if_pos (by simp at h;omega),if_pos (by omega)];simp
  ·rw[if_neg h1];by_cases h2:off+(s+1)<=k∧k<off+(s+1)+l.length
   ·rw[if_pos h2,if_pos (by omega)];obtain⟨d,rfl⟩:∃d,k=off+s+1+d:=⟨k-(off+s+1),by omega⟩
    rw[show off+s+1+d-(off+(s+1))=d by omega,show off+s+1+d-(off+s)=d+1 by omega];simp
   ·rw[if_neg h2,if_neg (by omega)]
theorem dx.splice{cs ds:List AV}{vs us:Array Value}(h:dx w G L cs vs)(k:dx w G L ds us){off:Nat}(ho:off+ds.length<=cs.length) :
  dx w G L (cs.take off++ds++cs.drop (off+ds.length)) (us.zipIdx.foldl (λcs (x:Value×Nat)=>cs.setIfInBounds (off+x.2) x.1) vs):=by
 have hs:(us.zipIdx.foldl (λcs (x:Value×Nat)=>cs.setIfInBounds (off+x.2) x.1) vs).size=vs.size:=by
  rw[<-Array.foldl_toList];exact sj off _ _
 have hlen:(cs.take off++ds++cs.drop (off+ds.length)).length=cs.length:=by simp;omega
 refine⟨by rw[hs,hlen,h.1],λi hi=>?_⟩;rw[hlen]at hi;have hg:(us.zipIdx.foldl (λcs (x:Value×Nat)=>cs.setIfInBounds (off+x.2) x.1) vs)[i]?=if off<=i∧i<off+us.size then us[i-off]? else vs[i]?:=by
  rw[<-Array.foldl_toList,Array.toList_zipIdx];have:=vB off us.toList 0 vs i (by have:=h.1;have:=k.1;simp;omega);simpa using this
 have hu:=k.1;by_cases c:off<=i∧i<off+us.size
 ·have e1:(cs.take off++ds++cs.drop (off+ds.length)).getD i .top=ds.getD (i-off) .top:=by
   simp only[afk];rw[afX,afT (by simp;omega),afF (by simp;omega)];simp only[agw];rw[Nat.min_eq_left (by omega)]
  have e2:(us.zipIdx.foldl (λcs (x:Value×Nat)=>cs.setIfInBounds (off+x.2) x.1) vs).getD i undef=us.getD (i-off) undef:=by
   rw[afx,hg,if_pos c,afx]
  rw[e1,e2];exact k.2 _ (by omega)
 ·have e1:(cs.take off++ds++cs.drop (off+ds.length)).getD i .top=cs.getD i .top:=by
   simp only[afk];by_cases h1:i<off
   ·rw[afX,afF (by simp;omega),af2 h1]
   ·rw[afT (by simp;omega),ags]
    congr 2
    simp;omega
  have e2:(us.zipIdx.foldl (λcs (x:Value×Nat)=>cs.setIfInBounds (off+x.2) x.1) vs).getD i undef=vs.getD i undef:=by
   rw[afx,hg,if_neg c,afx]
  rw[e1,e2];exact h.2 _ hi
theorem Jh{e:Env}{a:Act}(he:aF w G L e a){pl:Nat->Option (Nat×Nat)}:∀{ps:List (Nat×Operand)} {qs:List (Nat×Nat×Opd)} {z:List AV} {zs:Array Value} {r:List AV},
  partsOf pl ps=some qs->dx w G L z zs->EM z (qs.map λ(o,s,x)=>(o,s,x.ev e))=some r ->
  ∃cells,Instr.fill pl zs (ps.map λ(i,x)=>(i,a.eval x))=some cells∧dx w G L r cells
 | [],qs,z,zs,r,h,hz,hr=>by
  simp only[partsOf,fS]at h;subst h;simp only[afw,EM,fS]at hr;subst hr;exact⟨zs,rfl,hz⟩
 |(i,x)::ps,qs,z,zs,r,h,hz,hr=>by
  simp only[partsOf]at h;cases hx:aS x with
  |none=>simp[hx]at h
  |some y=>
   cases hp:partsOf pl ps with
   |none=>simp[hx,hp]at h
   |some s=>
    cases hi:pl i with
    |none=>simp[hx,hp,hi]at h
    |some q=>
     obtain⟨off,sz⟩:=q;simp only[hx,hp,hi,fS]at h;subst h;simp only[afj,EM]at hr;split at hr
     ·rename_i c;obtain⟨c1,c2,c3⟩:=c;have hv:=(aG he hx).dO (by omega);have hsz:=hv.1;have hzs:=hz.1;have hk:=hz.splice hv (off:=off) (by rw[c1];exact c3);rw[c1]at hk;obtain⟨cells,k1,k2⟩:=Jh he hp hk hr;refine⟨cells,?_,k2⟩;simp only[afj,Instr.fill,hi];rw[if_neg,<-k1];simp only[agp,ne_eq,decide_eq_true_eq,not_or,decide_not,agQ,decide_eq_false_iff_not,Decidable.not_not];omega
     ·cases hr

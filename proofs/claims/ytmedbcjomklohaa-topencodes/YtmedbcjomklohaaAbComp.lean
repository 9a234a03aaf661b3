/-
  The abstract evaluator: its values, its memory, its compact code, and the evaluator itself. No theorem here speaks of the model.
-/
import Derived.WalkKit
import Derived.Orders
namespace Go.Ab
abbrev Loc:=Nat×Nat
inductive AV where
 | top
 | bool (b:Bool)
 | int (k:IntKind) (n:Int)
 | str (s:List UInt8)
 | agg (cs:List AV)
 | tup (vs:List AV)
 | nils
 | emp
 | lst (es:List AV)
 | own (a:Loc) (n:Nat)
 | ptr (a:Loc) (off:Nat)
 | eptr (a:Loc) (n sz i off:Nat)
 | iptr (e:AV) (off:Nat)
 | nilp
 | fn (f:Fn) (first captured:List AV)
 | nilf
 | iface (t:TypeId) (v:AV)
 | nili
 | mp (a:Loc)
 | nilm
 | anyp
 deriving Inhabited
def AV.cells:AV→List AV
 | .agg cs=>cs
 | .top=>[]
 | .tup _=>[]
 | v=>[v]
def AV.isAgg:AV→Bool
 | .agg _=>true
 | _=>false
mutual
def AV.refOk (p:Loc→Bool):AV→Bool
 | .agg cs=>AV.refOks p cs
 | .tup cs=>AV.refOks p cs
 | .own a _=>p a
 | .ptr a _=>p a
 | .eptr a _ _ _ _=>p a
 | .mp a=>p a
 | .fn _ x y=>AV.refOks p x && AV.refOks p y
 | .iface _ v=>v.refOk p
 | _=>true
def AV.refOks (p:Loc→Bool):List AV→Bool
 | []=>true
 | c :: cs=>c.refOk p && AV.refOks p cs
end
def AV.pure (v:AV):Bool:=v.refOk fun _=>false
mutual
def AV.beq:AV→AV→Bool
 | .top,.top=>true
 | .bool a,.bool b=>a == b
 | .int k a,.int j b=>decide (k=j) && decide (a=b)
 | .str a,.str b=>a == b
 | .agg x,.agg y=>AV.beqs x y
 | .tup x,.tup y=>AV.beqs x y
 | .nils,.nils=>true
 | .emp,.emp=>true
 | .lst x,.lst y=>AV.beqs x y
 | .own a n,.own b m=>decide (a=b) && decide (n=m)
 | .ptr a n,.ptr b m=>decide (a=b) && decide (n=m)
 | .eptr a n s i o,.eptr a' n' s' i' o'=>decide (a=a') && decide (n=n') && decide (s=s') && decide (i=i') && decide (o=o')
 | .iptr e o,.iptr e' o'=>e.beq e' && decide (o=o')
 | .nilp,.nilp=>true
 | .fn (.func f) x y,.fn (.func g) x' y'=>decide (f=g) && AV.beqs x x' && AV.beqs y y'
 | .nilf,.nilf=>true
 | .iface t v,.iface u w=>decide (t=u) && v.beq w
 | .nili,.nili=>true
 | .mp a,.mp b=>decide (a=b)
 | .nilm,.nilm=>true
 | .anyp,.anyp=>true
 | _,_=>false
def AV.beqs:List AV→List AV→Bool
 | [],[]=>true
 | c :: cs,d :: ds=>c.beq d && AV.beqs cs ds
 | _,_=>false
end
inductive Blk where
  | box (t:TypeId) (fz:Bool) (v:AV)
  | arr (t:TypeId) (size:Nat) (vw:Bool) (es:List AV)
  | map (es:List (AV×AV))
  | dead
  | arq (t:TypeId) (size k:Nat) (ti:TypeId) (si:Nat) (out:List Nat) (es:List AV)
  | arv (t:TypeId) (size:Nat) (es:List AV)
  deriving Inhabited
abbrev Heap:=List (List Blk)
def hget:Heap→Loc→Option Blk
 | [],_=>none
 | f :: o,l=>if l.1=o.length then f[l.2]? else hget o l
def hset:Heap→Loc→Blk→Heap
 | [],_,_=>[]
 | f :: o,l,b=>if l.1=o.length then f.set l.2 b :: o else f :: hset o l b
def hnext:Heap→Loc
 | []=>(0,0)
 | f :: o=>(o.length,f.length)
def hnew:Heap→Blk→Heap
 | [],_=>[]
 | f :: o,b=>(f++[b]) :: o
def hlen:Heap→Nat
 | []=>0
 | f :: _=>f.length
def viewF1:AV→Heap→Option (AV×Heap)
 | .own b m,h=>match hget h b with
  | some (.arr t s _ es)=>if es.length=m then some (.lst es,hset h b (.arr t s true es)) else none
  | _=>none
 | v,h=>if v.pure=true∧v.isAgg=false then some (v,h) else none
def viewC:List AV→Heap→Option (List AV×Heap)
 | [],h=>some ([],h)
 | c :: cs,h=>match viewF1 c h with
  | some (c',h')=>(match viewC cs h' with
   | some (cs',h'')=>some (c' :: cs',h'')
   | none=>none)
  | none=>none
def viewE:AV→Heap→Option (AV×Heap)
 | .agg cs,h=>match viewC cs h with
  | some (cs',h')=>some (.agg cs',h')
  | none=>none
 | v,h=>viewF1 v h
def viewF:List AV→Heap→Option (List AV×Heap)
 | [],h=>some ([],h)
 | c :: cs,h=>match viewE c h with
  | some (c',h')=>(match viewF cs h' with
   | some (cs',h'')=>some (c' :: cs',h'')
   | none=>none)
  | none=>none
mutual
def AV.view (p:Loc→Bool):AV→Heap→Option (AV×Heap)
 | .own a n,h=>
  if p a then
   match hget h a with
   | some (.arr t s _ es)=>if es.length=n then some (.lst es,hset h a (.arr t s true es)) else none
   | some (.arq t s _ _ _ _ es)=>if es.length=n then some (.lst es,hset h a (.arr t s true es)) else none
   | some (.arv t s es)=>if es.length=n then (match viewF es h with
    | some (es',h')=>some (.lst es',hset h' a (.arr t s true es'))
    | none=>none) else none
   | _=>none
  else some (.own a n,h)
 | .agg cs,h=>match AV.views p cs h with
  | some (cs',h')=>some (.agg cs',h')
  | none=>none
 | .tup cs,h=>match AV.views p cs h with
  | some (cs',h')=>some (.tup cs',h')
  | none=>none
 | .iface t v,h=>match v.view p h with
  | some (v',h')=>some (.iface t v',h')
  | none=>none
 | v,h=>some (v,h)
def AV.views (p:Loc→Bool):List AV→Heap→Option (List AV×Heap)
 | [],h=>some ([],h)
 | c :: cs,h=>match c.view p h with
  | some (c',h')=>(match AV.views p cs h' with
   | some (cs',h'')=>some (c' :: cs',h'')
   | none=>none)
  | none=>none
end
def getE (ag:Bool) (sz:Nat) (e:AV) (o:Nat):Option AV:=
 if o=0∧e.isAgg=ag∧e.cells.length=sz then some e
 else if ag then (if o+sz≤e.cells.length then some (.agg ((e.cells.drop o).take sz)) else none)
 else e.cells[o]?
def setE (e:AV) (o:Nat) (v:AV):Option AV:=
 if o=0∧v.isAgg=e.isAgg∧v.cells.length=e.cells.length then some v
 else match e with
  | .agg cs=>if o+v.cells.length≤cs.length then some (.agg (cs.take o++v.cells++cs.drop (o+v.cells.length))) else none
  | _=>none
abbrev Env:=List (Nat×AV)
def get:Env→Nat→AV
 | [],_=>.top
 | (j,v) :: r,i=>if j=i then v else get r i
def set (e:Env) (i:Nat) (v:AV):Env:=(i,v) :: e
def put (e:Env) (d:Option Nat) (v:AV):Env:=match d with
 | some i=>set e i v
 | none=>e
def envOf:Nat→List AV→Env
 | _,[]=>[]
 | i,a :: r=>(i,a) :: envOf (i+1) r
def keep (live:List Nat) (e:Env):Env:=live.map fun t=>(t,get e t)
inductive Opd where
 | t (i:Nat)
 | c (v:AV)
 deriving Inhabited
def Opd.ev (e:Env):Opd→AV
 | .t i=>get e i
 | .c v=>v
def oev (e:Env):Option Opd→Option AV
 | some x=>some (x.ev e)
 | none=>none
inductive FK where
 | bool | int | str
 deriving Inhabited,DecidableEq
def eqF:FK→AV→AV→Option Bool
 | .bool,.bool a,.bool b=>some (decide (a=b))
 | .int,.int k a,.int k' b=>if k=k' then some (decide (a=b)) else none
 | .str,.str a,.str b=>some (decide (a=b))
 | _,_,_=>none
def eqFs:List FK→List AV→List AV→Option Bool
 | [],[],[]=>some true
 | k :: ks,a :: as,b :: bs=>match eqF k a b,eqFs ks as bs with
  | some p,some q=>some (p && q)
  | _,_=>none
 | _,_,_=>none
inductive KK where
 | one (k:FK)
 | st (ks:List FK)
 deriving Inhabited
def eqK:KK→AV→AV→Option Bool
 | .one k,a,b=>eqF k a b
 | .st ks,.agg as,.agg bs=>eqFs ks as bs
 | _,_,_=>none
def lookK (kk:KK) (k:AV):List (AV×AV)→Option (Option AV)
 | []=>some none
 | (a,v) :: r=>match eqK kk k a with
  | some true=>some (some v)
  | some false=>lookK kk k r
  | none=>none
def updK (kk:KK) (k v:AV):List (AV×AV)→Option (List (AV×AV))
 | []=>some [(k,v)]
 | (a,u) :: r=>match eqK kk k a with
  | some true=>some ((a,v) :: r)
  | some false=>(match updK kk k v r with
   | some r'=>some ((a,u) :: r')
   | none=>none)
  | none=>none
inductive NK where
 | slice | ptr | func | iface | map
 deriving Inhabited
inductive POp where
 | mv (x:Opd)
 | pick (c a b:Opd)
 | bld (z:List AV) (ps:List (Nat×Nat×Opd))
 | fa (off:Nat) (x:Opd)
 | fld (ag:Bool) (off sz:Nat) (x:Opd)
 | iaA (n sz:Nat) (x i:Opd)
 | iaS (sz:Nat) (x i:Opd)
 | ixA (ag:Bool) (n sz:Nat) (x i:Opd)
 | ixS (x i:Opd)
 | bin (b:BinOp) (x y:Opd)
 | eqB (neg:Bool) (x y:Opd)
 | eqN (k:NK) (neg:Bool) (x:Opd)
 | eqP (neg:Bool) (x y:Opd)
 | eqA (neg:Bool) (ks:List FK) (x y:Opd)
 | not (x:Opd)
 | neg (x:Opd)
 | cvI (k:IntKind) (x:Opd)
 | cvS (x:Opd)
 | mkI (t:TypeId) (x:Opd)
 | mkF (f:Fn) (a b:List Opd)
 | ext (x:Opd) (i:Nat)
 | nilck (x:Opd)
 | slS (x:Opd) (lo hi:Option Opd)
 | len (sl:Bool) (x:Opd)
 | mm (mx:Bool) (xs:List Opd)
 | tyA (t:TypeId) (ok:Bool) (z:AV) (x:Opd)
 | nilckM (nm:String) (ts:List TypeId) (x:Opd)
 deriving Inhabited
inductive MOp where
 | mat (x:Opd)
 | alloc (t:TypeId) (z:AV) (mat:Bool)
 | box (t:TypeId) (sz:Nat) (x:Opd)
 | boxK (t:TypeId) (sz k:Nat) (x:Opd)
 | bldS (t:TypeId) (sz n:Nat) (z:AV) (ps:List (Nat×Opd)) (own:Bool)
 | load (ag:Bool) (sz:Nat) (x:Opd)
 | store (sz:Nat) (mat:Bool) (a v:Opd)
 | al0 (t:TypeId)
 | st0 (a v:Opd)
 | b2s (x:Opd)
 | s2b (x:Opd)
 | slL (sz:Nat) (x:Opd) (lo hi mx:Option Opd)
 | slA (n sz:Nat) (x:Opd) (lo hi:Option Opd)
 | app (t:TypeId) (sz bytes:Nat) (s x:Opd)
 | appS (t:TypeId) (bytes:Nat) (s x:Opd)
 | cvU (x:Opd)
 | cvP (t:TypeId) (n:Nat) (x:Opd)
 | usd (x:Opd)
 | ustr (t:TypeId) (x n:Opd)
 | mkS (t:TypeId) (sz bytes:Nat) (z:AV) (l c:Opd)
 | call (f:Opd) (args:List Opd)
 | inv (tbl:List (TypeId×FuncId)) (x:Opd) (args:List Opd)
 | pan (x:Opd)
 | mkM
 | lkp (kk:KK) (z:AV) (ok:Bool) (x k:Opd)
 | mup (kk:KK) (x k v:Opd)
 | lenM (x:Opd)
 | ldQ (x:Opd)
 | stQ (a v:Opd)
 | appQ (t:TypeId) (sz bytes k:Nat) (ti:TypeId) (si:Nat) (s x:Opd)
 | mkSQ (t:TypeId) (sz bytes:Nat) (z:AV) (l c:Opd) (ti:TypeId) (si:Nat)
 | boxV (t:TypeId) (sz k:Nat) (x:Opd)
 | stV (sz:Nat) (a v:Opd)
 | mkSV (t:TypeId) (sz bytes:Nat) (z:AV) (l c:Opd)
 | appV (t:TypeId) (sz bytes:Nat) (s x:Opd)
 deriving Inhabited
inductive COp where
 | p (o:POp)
 | m (o:MOp)
 | bad
 deriving Inhabited
structure CO where
 dst:Option Nat
 gd:Option (Nat×Bool)
 op:COp
 deriving Inhabited
structure DO where
 co:CO
 ix:Nat
 looks:List Nat
 anc:List Nat
 re:List Nat
 deriving Inhabited
inductive CC where
 | skip
 | reg (ops:List CO)
 | draw (ops:List DO)
 | seq (a b:CC)
 | cond (x:Opd) (a b:CC)
 | block (id:Nat) (a:CC)
 | loop (live:List Nat) (a:CC)
 | loopAt (n:Nat) (live:List Nat) (a:CC)
 | exit (id:Nat)
 | ret
 | scope (a:CC)
 | bad
 deriving Inhabited
inductive CRes where
  | tmp (t:Nat)
  | own (t:Nat)
  | cell (t:Nat) (ag:Bool) (sz:Nat)
  deriving Inhabited
inductive CB where
 | code (c:CC)
 | seq (c:CC) (b:CB)
 | dfr (d:Nat) (q:POp) (c:CC)
 deriving Inhabited
structure DFun where
 d1:Nat
 d2:Nat
 rest:CC
 nt:Nat
 deriving Inhabited
structure CFun where
 body:CB
 res:List CRes
 np:Nat
 nt:Nat
 deriving Inhabited
def evInt (op:BinOp) (k:IntKind) (a b:Int):Option AV:=
 match op with
 | .add=>some (.int k (k.wrap (a+b)))
 | .sub=>some (.int k (k.wrap (a - b)))
 | .mul=>some (.int k (k.wrap (a * b)))
 | .quo=>if b=0 then none else some (.int k (k.wrap (a.tdiv b)))
 | .rem=>if b=0 then none else some (.int k (a.tmod b))
 | .and=>some (.int k (k.wrap ((BitVec.ofInt k.bits a &&& BitVec.ofInt k.bits b).toNat:Int)))
 | .or=>some (.int k (k.wrap ((BitVec.ofInt k.bits a ||| BitVec.ofInt k.bits b).toNat:Int)))
 | .xor=>some (.int k (k.wrap ((BitVec.ofInt k.bits a ^^^ BitVec.ofInt k.bits b).toNat:Int)))
 | .andNot=>some (.int k (k.wrap ((BitVec.ofInt k.bits a &&& ~~~(BitVec.ofInt k.bits b)).toNat:Int)))
 | .eql=>some (.bool (a == b))
 | .neq=>some (.bool (a != b))
 | .lss=>some (.bool (decide (a < b)))
 | .leq=>some (.bool (decide (a≤b)))
 | .gtr=>some (.bool (decide (b < a)))
 | .geq=>some (.bool (decide (b≤a)))
 | .shl=>if b < 0 then none else some (.int k (k.wrap (a * 2 ^ (min b.toNat k.bits))))
 | .shr=>if b < 0 then none else some (.int k (a.fdiv (2 ^ (min b.toNat k.bits))))
def strBound:Nat:=9223372036854775807
def evStr (op:BinOp) (a b:List UInt8):Option AV:=
 match op with
 | .add=>if a.length+b.length≤strBound then some (.str (a++b)) else none
 | .eql=>some (.bool (a == b))
 | .neq=>some (.bool (!(a == b)))
 | .lss=>some (.bool (Op.bytesLess a b))
 | .leq=>some (.bool (Op.bytesLess a b || a == b))
 | .gtr=>some (.bool (!(Op.bytesLess a b || a == b)))
 | .geq=>some (.bool (!(Op.bytesLess a b)))
 | _=>none
def BinOp.shifts:BinOp→Bool
 | .shl | .shr=>true
 | _=>false
def evBin (op:BinOp) (x y:AV):Option AV:=
 match x,y with
 | .int k a,.int k' b=>if k=k'∨BinOp.shifts op=true then evInt op k a b else none
 | .str a,.str b=>evStr op a b
 | _,_=>none
def fillC:List AV→List (Nat×Nat×AV)→Option (List AV)
 | z,[]=>some z
 | z,(o,s,v) :: r=>if v.cells.length=s∧0 < s∧o+s≤z.length then fillC (z.take o++v.cells++z.drop (o+s)) r else none
def fillS (sz:Nat):List AV→List (Nat×AV)→Option (List AV)
 | z,[]=>some z
 | z,(i,v) :: r=>if i < z.length∧v.pure=true∧v.cells.length=sz then fillS sz (z.set i v) r else none
def bHi (n:Nat):Option AV→Option Nat
 | none=>some n
 | some (.int _ h)=>if 0≤h∧h≤n then some h.toNat else none
 | _=>none
def bLo (h:Nat):Option AV→Option Nat
 | none=>some 0
 | some (.int _ l)=>if 0≤l∧l≤h then some l.toNat else none
 | _=>none
def bnds (n:Nat) (lo hi:Option AV):Option (Nat×Nat):=
 match bHi n hi with
 | none=>none
 | some h=>match bLo h lo with
  | none=>none
  | some l=>some (l,h)
def isNil:NK→AV→Option Bool
 | .slice,.nils=>some true
 | .slice,.lst (_ :: _)=>some false
 | .slice,.own _ (_+1)=>some false
 | .ptr,.nilp=>some true
 | .ptr,.ptr _ _=>some false
 | .ptr,.eptr _ _ _ _ _=>some false
 | .ptr,.iptr _ _=>some false
 | .func,.nilf=>some true
 | .func,.fn _ _ _=>some false
 | .iface,.nili=>some true
 | .iface,.iface _ _=>some false
 | .map,.nilm=>some true
 | .map,.mp _=>some false
 | _,_=>none
def slLen:AV→Option Nat
 | .lst es=>some es.length
 | .nils=>some 0
 | .emp=>some 0
 | .own _ n=>some n
 | _=>none
def mmList (mx:Bool):AV→List AV→Option AV
 | x,[]=>some x
 | .int k a,.int _ b :: r=>mmList mx (.int k (if mx then (if b > a then b else a) else (if b < a then b else a))) r
 | _,_=>none
def evP (o:POp) (e:Env):Option AV:=
 match o with
 | .mv x=>some (x.ev e)
 | .pick c a b=>match c.ev e with
  | .bool t=>some (if t then a.ev e else b.ev e)
  | _=>none
 | .bld z ps=>match fillC z (ps.map fun (o,s,x)=>(o,s,x.ev e)) with
  | some cs=>some (.agg cs)
  | none=>none
 | .fa off x=>match x.ev e with
  | .ptr a o=>some (.ptr a (o+off))
  | .eptr a n sz i o=>some (.eptr a n sz i (o+off))
  | .iptr v o=>some (.iptr v (o+off))
  | _=>none
 | .fld ag off sz x=>match x.ev e with
  | .agg cs=>if ag then (if off+sz≤cs.length then some (.agg ((cs.drop off).take sz)) else none) else cs[off]?
  | _=>none
 | .iaA n sz x i=>match x.ev e,i.ev e with
  | .ptr a o,.int _ j=>if 0≤j∧j < n then some (.ptr a (o+j.toNat * sz)) else none
  | .iptr v o,.int _ j=>if 0≤j∧j < n then some (.iptr v (o+j.toNat * sz)) else none
  | _,_=>none
 | .iaS sz x i=>match x.ev e,i.ev e with
  | .lst es,.int _ j=>if 0≤j then (match es[j.toNat]? with
   | some v=>if v.cells.length=sz then some (.iptr v 0) else none
   | none=>none) else none
  | .own a n,.int _ j=>if 0≤j∧j < n then some (.eptr a n sz j.toNat 0) else none
  | _,_=>none
 | .ixA ag n sz x i=>match x.ev e,i.ev e with
  | .agg cs,.int _ j=>if 0≤j∧j < n then
    (if ag then (if j.toNat * sz+sz≤cs.length then some (.agg ((cs.drop (j.toNat * sz)).take sz)) else none) else cs[j.toNat * sz]?) else none
  | _,_=>none
 | .ixS x i=>match x.ev e,i.ev e with
  | .str s,.int _ j=>if 0≤j then (match s[j.toNat]? with
   | some b=>some (.int .u8 (b.toNat:Int))
   | none=>none) else none
  | _,_=>none
 | .bin b x y=>evBin b (x.ev e) (y.ev e)
 | .eqB ng x y=>match x.ev e,y.ev e with
  | .bool a,.bool b=>some (.bool (if ng then !(a == b) else a == b))
  | _,_=>none
 | .eqN k ng x=>match isNil k (x.ev e) with
  | some b=>some (.bool (if ng then !b else b))
  | none=>none
 | .eqA ng ks x y=>match x.ev e,y.ev e with
  | .agg as,.agg bs=>(match eqFs ks as bs with
   | some r=>some (.bool (if ng then !r else r))
   | none=>none)
  | _,_=>none
 | .eqP ng x y=>match x.ev e,y.ev e with
  | .ptr a o,.ptr b o'=>if a=b∧o=o' then some (.bool (!ng)) else none
  | _,_=>none
 | .not x=>match x.ev e with
  | .bool b=>some (.bool (!b))
  | _=>none
 | .neg x=>match x.ev e with
  | .int k n=>some (.int k (k.wrap (0 - n)))
  | _=>none
 | .cvI k x=>match x.ev e with
  | .int _ n=>some (.int k (k.wrap n))
  | _=>none
 | .cvS x=>match x.ev e with
  | .str s=>some (.str s)
  | _=>none
 | .mkI t x=>some (.iface t (x.ev e))
 | .mkF f a b=>some (.fn f (a.map (·.ev e)) (b.map (·.ev e)))
 | .ext x i=>match x.ev e with
  | .tup vs=>vs[i]?
  | _=>none
 | .nilck x=>match x.ev e with
  | .ptr a o=>some (.ptr a o)
  | .iptr v o=>some (.iptr v o)
  | .eptr a n sz i o=>some (.eptr a n sz i o)
  | .fn (.func f) x y=>some (.fn (.func f) x y)
  | _=>none
 | .slS x lo hi=>match x.ev e with
  | .str s=>(match bnds s.length (oev e lo) (oev e hi) with
   | some (l,h)=>some (.str ((s.take h).drop l))
   | none=>none)
  | _=>none
 | .len sl x=>if sl then (match slLen (x.ev e) with
   | some n=>some (.int .i64 (n:Int))
   | none=>none)
  else (match x.ev e with
   | .str s=>some (.int .i64 (s.length:Int))
   | _=>none)
 | .mm mx xs=>match (List.map (Opd.ev e) xs:List AV) with
  | .int k a :: r=>mmList mx (.int k a) r
  | _=>none
 | .tyA t ok z x=>match x.ev e with
  | .iface u v=>if u=t then some (if ok then .tup [v,.bool true] else v) else if ok then some (.tup [z,.bool false]) else none
  | .nili=>if ok then some (.tup [z,.bool false]) else none
  | _=>none
 | .nilckM nm ts x=>match x.ev e with
  | .fn (.method m) (.iface t v :: r) c=>if m=nm∧ts.contains t=true then some (.fn (.method m) (.iface t v :: r) c) else none
  | _=>none
inductive Out where
 | val (v:AV) (h:Heap)
 | pan (v:AV) (h:Heap)
 deriving Inhabited
structure St where
 env:Env
 h:Heap
 deriving Inhabited
inductive Ex where
 | norm
 | exit (id:Nat)
 | ret
 | pan (v:AV)
 deriving Inhabited
structure Orc where
 fn:FuncId→List AV→Heap→Option Out
 code:CC→St→Option (Ex×St)
def matL:List AV→Heap→List AV×Heap
 | [],h=>([],h)
 | .nils :: r,h=>match matL r (hnew h (.arr 0 0 false [])) with
  | (r',h')=>(.own (hnext h) 0 :: r',h')
 | v :: r,h=>match matL r h with
  | (r',h')=>(v :: r',h')
def matV:AV→Heap→AV×Heap
 | .agg cs,h=>match matL cs h with
  | (cs',h')=>(.agg cs',h')
 | .nils,h=>(.own (hnext h) 0,hnew h (.arr 0 0 false []))
 | v,h=>(v,h)
def mat1 (k:Nat) (v:AV) (h:Heap):AV×Heap:=match v with
 | .agg cs=>(match cs[k]? with
  | some .nils=>(.agg (cs.set k (.own (hnext h) 0)),hnew h (.arr 0 0 false []))
  | _=>(v,h))
 | _=>(v,h)
def matKs:Nat→Nat→AV→Heap→AV×Heap
 | 0,k,v,h=>mat1 k v h
 | n+1,k,v,h=>if k < 100 then mat1 k v h else matKs n (k / 100) (mat1 (k % 100) v h).1 (mat1 (k % 100) v h).2
def matK (k:Nat) (v:AV) (h:Heap):AV×Heap:=matKs 8 k v h
def bytesOf:List AV→Option (List UInt8)
 | []=>some []
 | .int .u8 n :: r=>match bytesOf r with
  | some l=>some (UInt8.ofNat n.toNat :: l)
  | none=>none
 | _=>none
def ofBytes (s:List UInt8):List AV:=s.map fun b=>.int .u8 (b.toNat:Int)
def elemsOf (v:AV) (h:Heap):Option (List AV):=
 match v with
 | .lst es=>some es
 | .nils=>some []
 | .emp=>some []
 | .own a n=>match hget h a with
  | some (.arr _ _ _ es)=>if es.length=n then some es else none
  | _=>none
 | _=>none
def room:Nat:=1099511627776
def sized (sz:Nat) (es:List AV):Bool:=es.all fun e=>e.cells.length == sz
def storeTo (h:Heap) (p v:AV):Option Heap:=
 match p with
 | .ptr a o=>match hget h a with
  | some (.box t fz w)=>
   if fz=false∧v.refOk (fun b=>decide (b.1≤a.1))=true then
    (match setE w o v with
     | some w'=>some (hset h a (.box t false w'))
     | none=>none)
   else none
  | _=>none
 | .eptr a n sz i o=>match hget h a with
  | some (.arr t s vw es)=>
   if vw=false∧es.length=n∧sz=s∧v.pure=true then
    (match es[i]? with
     | some w=>(match setE w o v with
      | some w'=>some (hset h a (.arr t s false (es.set i w')))
      | none=>none)
     | none=>none)
   else none
  | _=>none
 | _=>none
def loadFrom (ag:Bool) (sz:Nat) (h:Heap) (p:AV):Option AV:=
 match p with
 | .ptr a o=>match hget h a with
  | some (.box _ _ w)=>getE ag sz w o
  | _=>none
 | .eptr a n sz' i o=>match hget h a with
  | some (.arr _ s _ es)=>if es.length=n∧sz'=s then (match es[i]? with
   | some w=>getE ag sz w o
   | none=>none) else none
  | some (.arq _ s _ _ _ _ es)=>if es.length=n∧sz'=s then (match es[i]? with
   | some w=>getE ag sz w o
   | none=>none) else none
  | some (.arv _ s es)=>if es.length=n∧sz'=s then (match es[i]? with
   | some w=>getE ag sz w o
   | none=>none) else none
  | _=>none
 | .iptr w o=>getE ag sz w o
 | _=>none
def appTo (t:TypeId) (sz bytes:Nat) (s:AV) (news:List AV) (h:Heap):Option Out:=
 match s with
 | .own a n=>(match hget h a with
  | some (.arr t' sz' vw es)=>
   if es.length=n∧(n+news.length) * bytes≤room∧n+news.length≤room∧(sz'=0∨(t'=t∧sz'=sz)) then
    some (.val (.own a (n+news.length)) (hset h a (.arr t sz vw (es++news))))
   else none
  | _=>none)
 | .nils=>if news=[] then some (.val .nils h)
  else if news.length * bytes≤room∧news.length≤room then some (.val (.own (hnext h) news.length) (hnew h (.arr t sz false news))) else none
 | .emp=>if news=[] then some (.val .emp h)
  else if news.length * bytes≤room∧news.length≤room then some (.val (.own (hnext h) news.length) (hnew h (.arr t sz false news))) else none
 | _=>none
def bareK (k:Nat) (es:List AV):Bool:=es.all fun e=>match e.cells.getD k .top with
 | .nils=>true
 | _=>false
def toQ (k:Nat) (ti:TypeId) (si:Nat):Option Out→Option Out
 | some (.val (.own a n) h)=>(match hget h a with
  | some (.arr t s false es)=>if 0 < si∧k < s∧es.length=n∧bareK k es=true then some (.val (.own a n) (hset h a (.arq t s k ti si [] es))) else none
  | _=>none)
 | _=>none
def appToQ (t:TypeId) (sz bytes k:Nat) (ti:TypeId) (si:Nat) (s:AV) (news:List AV) (h:Heap):Option Out:=
 match s with
 | .own a n=>(match hget h a with
  | some (.arq t' sz' k' ti' si' out es)=>
   if es.length=n∧(n+news.length) * bytes≤room∧n+news.length≤room∧t'=t∧sz'=sz∧k'=k∧ti'=ti∧si'=si∧0 < n∧0 < news.length∧bareK k news=true then
    some (.val (.own a (n+news.length)) (hset h a (.arq t sz k ti si out (es++news))))
   else none
  | _=>none)
 | .nils=>toQ k ti si (appTo t sz bytes .nils news h)
 | _=>none
def ldQ (p:AV) (h:Heap):Option Out:=match p with
 | .eptr a n sz i o=>(match hget h a with
  | some (.arq t s k ti si out es)=>
   if es.length=n∧sz=s∧o=k then (match es[i]? with
    | some u=>(match u.cells.getD k .top with
     | .nils=>some (.val .nils h)
     | .lst (q :: ks)=>if out.contains i=false then
       some (.val (.own (hnext h) (ks.length+1)) (hnew (hset h a (.arq t s k ti si (i :: out) es)) (.arr ti si true (q :: ks)))) else none
     | _=>none)
    | none=>none)
   else none
  | _=>none)
 | _=>none
def stQ (p v:AV) (h:Heap):Option Heap:=match p,v with
 | .eptr a n sz i o,.own b m=>(match hget h a,hget h b with
  | some (.arq t s k ti si out es),some (.arr t' s' _ ks)=>
   if es.length=n∧sz=s∧o=k∧ks.length=m∧0 < m∧t'=ti∧s'=si then (match es[i]? with
    | some u=>(match setE u k (.lst ks) with
     | some u'=>some (hset (hset h a (.arq t s k ti si (out.filter fun j=>!(j == i)) (es.set i u'))) b .dead)
     | none=>none)
    | none=>none)
   else none
  | _,_=>none)
 | _,_=>none
def asV:Option Blk→Option (TypeId×Nat×List AV)
 | some (.arv t s es)=>some (t,s,es)
 | some (.arr t s false es)=>some (t,s,es)
 | _=>none
def storeToV (h:Heap) (p v:AV):Option Heap:=
 match p with
 | .eptr a n sz i o=>(match asV (hget h a) with
  | some (t,s,es)=>if es.length=n∧sz=s∧v.refOk (fun b=>decide (b.1≤a.1))=true then
    (match es[i]? with
     | some w=>(match setE w o v with
      | some w'=>some (hset h a (.arv t s (es.set i w')))
      | none=>none)
     | none=>none) else none
  | none=>none)
 | _=>none
def toV:Option Out→Option Out
 | some (.val (.own a n) h)=>(match hget h a with
  | some (.arr t s false es)=>if es.length=n then some (.val (.own a n) (hset h a (.arv t s es))) else none
  | _=>none)
 | _=>none
def appToV (t:TypeId) (sz bytes:Nat) (s:AV) (news:List AV) (h:Heap):Option Out:=
 match s with
 | .own a n=>(match asV (hget h a) with
  | some (t',sz',es)=>if es.length=n∧0 < n∧t'=t∧sz'=sz∧(n+news.length) * bytes≤room∧n+news.length≤room∧0 < news.length then
    some (.val (.own a (n+news.length)) (hset h a (.arv t sz (es++news)))) else none
  | none=>none)
 | .nils=>toV (appTo t sz bytes .nils news h)
 | _=>none
def viewK (k:Nat) (v:AV) (h:Heap):Option (AV×Heap):=match v with
 | .agg cs=>(match cs[k]? with
  | some c=>(match c.view (fun _=>true) h with
   | some (c',h')=>some (.agg (cs.set k c'),h')
   | none=>none)
  | none=>none)
 | _=>none
structure Cfg where
 X:FuncId→List AV→Heap→Option Out
 fns:FuncId→Option CFun
 dfn:FuncId→Option DFun:=fun _=>none
 lend:FuncId→Bool
def isE:AV→Bool
 | .eptr _ _ _ _ _=>true
 | _=>false
def evM (K:Cfg) (O:Orc) (o:MOp) (e:Env) (h:Heap):Option Out:=
 match o with
 | .mat x=>match matV (x.ev e) h with
  | (v,h')=>some (.val v h')
 | .alloc t z mat=>match (if mat then matV z h else (z,h)) with
  | (z',h')=>some (.val (.ptr (hnext h') 0) (hnew h' (.box t false z')))
 | .box t sz x=>if (x.ev e).cells.length=sz then some (.val (.ptr (hnext h) 0) (hnew h (.box t false (x.ev e)))) else none
 | .boxK t sz k x=>if (x.ev e).cells.length=sz then (match matK k (x.ev e) h with
  | (v,h')=>some (.val (.ptr (hnext h') 0) (hnew h' (.box t false v)))) else none
 | .bldS t sz n z ps own=>match AV.views (fun _=>true) (ps.map fun (_,x)=>x.ev e) h with
  | none=>none
  | some (vs,h')=>match fillS sz (List.replicate n z) ((ps.map (·.1)).zip vs) with
   | none=>none
   | some es=>
    if z.cells.length=sz∧z.pure=true then
     (if own then some (.val (.own (hnext h') n) (hnew h' (.arr t sz false es))) else some (.val (.lst es) h'))
    else none
 | .load ag sz x=>match loadFrom ag sz h (x.ev e) with
  | some v=>some (.val v h)
  | none=>none
 | .store sz mat a v=>
  if (v.ev e).cells.length=sz then
   (match (if mat then matV (v.ev e) h else (v.ev e,h)) with
    | (w,h')=>match (if isE (a.ev e)=true then w.view (fun _=>true) h' else some (w,h')) with
     | some (u,h1)=>(match storeTo h1 (a.ev e) u with
      | some h''=>some (.val (.tup []) h'')
      | none=>none)
     | none=>none)
  else none
 | .al0 t=>some (.val (.ptr (hnext h) 0) (hnew h (.box t false (.agg []))))
 | .st0 a v=>match a.ev e,v.ev e with
  | .ptr _ _,.agg []=>some (.val (.tup []) h)
  | _,_=>none
 | .b2s x=>match elemsOf (x.ev e) h with
  | some es=>(match bytesOf es with
   | some s=>some (.val (.str s) h)
   | none=>none)
  | none=>none
 | .s2b x=>match x.ev e with
  | .str s=>some (.val (.lst (ofBytes s)) h)
  | _=>none
 | .slL sz x lo hi mx=>match mx with
  | none=>(match (x.ev e).view (fun _=>true) h with
   | some (.lst es,h')=>if sized sz es=true then (match bnds es.length (oev e lo) (oev e hi) with
    | some (l,r)=>some (.val (.lst ((es.take r).drop l)) h')
    | none=>none) else none
   | some (.nils,h')=>(match bnds 0 (oev e lo) (oev e hi) with
    | some _=>some (.val .nils h')
    | none=>none)
   | _=>none)
  | some m=>match m.ev e,oev e lo,oev e hi with
   | .int _ 0,none,some (.int _ 0)=>(match x.ev e with
    | .lst _ | .own _ _ | .nils | .emp=>some (.val .emp h)
    | _=>none)
   | _,_,_=>none
 | .slA n sz x lo hi=>match x.ev e with
  | .ptr a 0=>(match hget h a with
   | some (.box t _ (.agg cs))=>
    if cs.length=n∧sz=1∧sized 1 cs=true∧(AV.agg cs).pure=true then
     (match bnds n (oev e lo) (oev e hi) with
      | some (l,r)=>some (.val (.lst ((cs.take r).drop l)) (hset h a (.box t true (.agg cs))))
      | none=>none)
    else none
   | _=>none)
  | _=>none
 | .app t sz bytes s x=>match elemsOf (x.ev e) h with
  | none=>none
  | some news=>if sized sz news=true then appTo t sz bytes (s.ev e) news h else none
 | .appS t bytes s x=>match x.ev e with
  | .str q=>appTo t 1 bytes (s.ev e) (ofBytes q) h
  | _=>none
 | .cvU x=>match x.ev e with
  | .ptr a o=>(match hget h a with
   | some (.box _ _ v)=>if o < v.cells.length then some (.val (.ptr a o) h) else none
   | _=>none)
  | _=>none
 | .cvP t n x=>match x.ev e with
  | .ptr a 0=>(match hget h a with
   | some (.box u _ v)=>if u=t∧v.cells.length=n then some (.val (.ptr a 0) h) else none
   | _=>none)
  | _=>none
 | .usd x=>match x.ev e with
  | .nils=>some (.val .nilp h)
  | .own a 0=>(match hget h a with
   | some (.arr _ _ _ [])=>some (.val .anyp h)
   | _=>none)
  | .own a (n+1)=>(match hget h a with
   | some (.arr _ sz _ es)=>if es.length=n+1∧sz=1 then some (.val (.eptr a (n+1) 1 0 0) h) else none
   | _=>none)
  | _=>none
 | .ustr t x k=>match x.ev e,k.ev e with
  | .nilp,.int .i64 0=>some (.val (.str []) h)
  | .anyp,.int .i64 0=>some (.val (.str []) h)
  | .eptr a n 1 0 0,.int .i64 m=>if m=n∧0 < n then (match hget h a with
   | some (.arr u 1 _ es)=>if u=t∧es.length=n then (match bytesOf es with
    | some s=>if AV.beqs (ofBytes s) es=true then some (.val (.str s) (hset h a .dead)) else none
    | none=>none) else none
   | _=>none) else none
  | _,_=>none
 | .mkS t sz bytes z l c=>match l.ev e,c.ev e with
  | .int _ n,.int _ m=>
   if n=m∧0≤n∧n.toNat * bytes≤room∧n.toNat≤room∧z.cells.length=sz∧z.pure=true then
    some (.val (.own (hnext h) n.toNat) (hnew h (.arr t sz false (List.replicate n.toNat z))))
   else none
  | _,_=>none
 | .call f args=>match f.ev e with
  | .fn (.func g) first captured=>
   (match AV.views (fun _=>K.lend g) (first++args.map (·.ev e)++captured) h with
    | some (vs,h')=>O.fn g vs h'
    | none=>none)
  | _=>none
 | .inv tbl x args=>match x.ev e with
  | .iface t v=>(match tbl.lookup t with
   | some g=>(match AV.views (fun _=>K.lend g) (v :: args.map (·.ev e)) h with
    | some (vs,h')=>O.fn g vs h'
    | none=>none)
   | none=>none)
  | _=>none
 | .pan x=>match x.ev e with
  | .iface t v=>some (.pan (.iface t v) h)
  | _=>none
 | .mkM=>some (.val (.mp (hnext h)) (hnew h (.map [])))
 | .lkp kk z ok x k=>match x.ev e with
  | .mp a=>(match hget h a with
   | some (.map es)=>(match eqK kk (k.ev e) (k.ev e) with
    | some _=>(match lookK kk (k.ev e) es with
     | some (some v)=>some (.val (if ok then .tup [v,.bool true] else v) h)
     | some none=>some (.val (if ok then .tup [z,.bool false] else z) h)
     | none=>none)
    | none=>none)
   | _=>none)
  | .nilm=>(match eqK kk (k.ev e) (k.ev e) with
   | some _=>some (.val (if ok then .tup [z,.bool false] else z) h)
   | none=>none)
  | _=>none
 | .mup kk x k v=>match x.ev e with
  | .mp a=>(match hget h a with
   | some (.map es)=>if (k.ev e).pure=true∧(v.ev e).refOk (fun b=>decide (b.1≤a.1))=true then
     (match eqK kk (k.ev e) (k.ev e),updK kk (k.ev e) (v.ev e) es with
     | some _,some es'=>some (.val (.tup []) (hset h a (.map es')))
     | _,_=>none)
    else none
   | _=>none)
  | _=>none
 | .lenM x=>match x.ev e with
  | .mp a=>(match hget h a with
   | some (.map es)=>some (.val (.int .i64 (es.length:Int)) h)
   | _=>none)
  | .nilm=>some (.val (.int .i64 0) h)
  | _=>none
 | .ldQ x=>ldQ (x.ev e) h
 | .stQ a v=>match stQ (a.ev e) (v.ev e) h with
  | some h'=>some (.val (.tup []) h')
  | none=>none
 | .appQ t sz bytes k ti si s x=>match elemsOf (x.ev e) h with
  | none=>none
  | some news=>if sized sz news=true then appToQ t sz bytes k ti si (s.ev e) news h else none
 | .mkSQ t sz bytes z l c ti si=>match l.ev e,c.ev e with
  | .int _ n,.int _ m=>
   if n=m∧0≤n∧n.toNat * bytes≤room∧n.toNat≤room∧z.cells.length=sz∧z.pure=true then
    toQ 0 ti si (some (.val (.own (hnext h) n.toNat) (hnew h (.arr t sz false (List.replicate n.toNat z)))))
   else none
  | _,_=>none
 | .boxV t sz k x=>if (x.ev e).cells.length=sz then (match viewK k (x.ev e) h with
  | some (v,h')=>if v.cells.length=sz then some (.val (.ptr (hnext h') 0) (hnew h' (.box t false v))) else none
  | none=>none) else none
 | .stV sz a v=>if (v.ev e).cells.length=sz then (match storeToV h (a.ev e) (v.ev e) with
  | some h'=>some (.val (.tup []) h')
  | none=>none) else none
 | .mkSV t sz bytes z l c=>match l.ev e,c.ev e with
  | .int _ n,.int _ m=>
   if n=m∧0≤n∧n.toNat * bytes≤room∧n.toNat≤room∧z.cells.length=sz∧z.pure=true then
    toV (some (.val (.own (hnext h) n.toNat) (hnew h (.arr t sz false (List.replicate n.toNat z)))))
   else none
  | _,_=>none
 | .appV t sz bytes s x=>match elemsOf (x.ev e) h with
  | none=>none
  | some news=>if sized sz news=true then appToV t sz bytes (s.ev e) news h else none
def wanted (g:Option (Nat×Bool)) (e:Env):Option Bool:=
 match g with
 | none=>some true
 | some (t,b)=>match get e t with
  | .bool c=>some (c == b)
  | .tup []=>some false
  | _=>none
def evOps (K:Cfg) (O:Orc):List CO→St→Option (Ex×St)
 | [],s=>some (.norm,s)
 | o :: r,s=>match wanted o.gd s.env with
  | none=>none
  | some false=>evOps K O r { s with env:=put s.env o.dst (.tup []) }
  | some true=>match o.op with
   | .p q=>(match evP q s.env with
    | some v=>evOps K O r { s with env:=put s.env o.dst v }
    | none=>none)
   | .m q=>(match evM K O q s.env s.h with
    | some (.val v h)=>evOps K O r { env:=put s.env o.dst v,h:=h }
    | some (.pan v h)=>some (.pan v,{ s with h:=h })
    | none=>none)
   | .bad=>none
def isCall:MOp→Bool
 | .call _ _=>true
 | .inv _ _ _=>true
 | _=>false
def quietM:MOp→Bool
 | .load _ _ _=>true
 | .b2s _=>true
 | .s2b _=>true
 | .slL _ _ _ _ _=>true
 | .cvU _=>true
 | .cvP _ _ _=>true
 | .usd _=>true
 | .lkp _ _ _ _ _=>true
 | .lenM _=>true
 | .bldS _ _ _ _ _ own=>!own
 | _=>false
def loud (c:CO):Bool:=match c.op with
 | .m q=>!(quietM q)
 | _=>false
def quietC (c:CO):Bool:=match c.op with
 | .m q=>quietM q
 | _=>false
def outVal:Option Out→Option AV
 | some (.val v _)=>some v
 | _=>none
def evQ (K:Cfg) (O:Orc) (q:MOp) (e:Env) (h:Heap):Option AV:=
 match q with
 | .load ag sz x=>outVal (evM K O (.load ag sz x) e h)
 | .b2s x=>outVal (evM K O (.b2s x) e h)
 | .s2b x=>outVal (evM K O (.s2b x) e h)
 | .cvU x=>outVal (evM K O (.cvU x) e h)
 | .cvP t n x=>outVal (evM K O (.cvP t n x) e h)
 | .usd x=>outVal (evM K O (.usd x) e h)
 | .lkp kk z ok x k=>outVal (evM K O (.lkp kk z ok x k) e h)
 | .lenM x=>outVal (evM K O (.lenM x) e h)
 | .slL sz x lo hi mx=>(match x.ev e with
  | .lst _=>outVal (evM K O (.slL sz x lo hi mx) e h)
  | .nils=>outVal (evM K O (.slL sz x lo hi mx) e h)
  | _=>none)
 | .bldS t sz n z ps false=>if AV.refOks (fun _=>false) (ps.map fun (_,x)=>x.ev e)=true then outVal (evM K O (.bldS t sz n z ps false) e h) else none
 | _=>none
abbrev Pend:=List (Nat×MOp×Env×AV)
def same1 (v:AV):Option AV→Bool
 | some u=>u.beq v
 | none=>false
def recheck (K:Cfg) (O:Orc) (re:List Nat) (pd:Pend) (h:Heap):Bool:=
 pd.all fun x=>!(re.contains x.1) || same1 x.2.2.2 (evQ K O x.2.1 x.2.2.1 h)
def evD (K:Cfg) (O:Orc):List DO→Pend→St→Option (Ex×St)
 | [],_,s=>some (.norm,s)
 | d :: r,pd,s=>match wanted d.co.gd (keep d.looks s.env) with
  | none=>none
  | some false=>if loud d.co=true∧recheck K O d.re pd s.h=false then none else evD K O r pd { s with env:=put s.env d.co.dst (.tup []) }
  | some true=>match d.co.op with
   | .p q=>(match evP q (keep d.looks s.env) with
    | some v=>evD K O r pd { s with env:=put s.env d.co.dst v }
    | none=>none)
   | .m q=>if quietM q=true then (match evQ K O q (keep d.looks s.env) s.h with
     | some v=>evD K O r ((d.ix,q,keep d.looks s.env,v) :: pd) { s with env:=put s.env d.co.dst v }
     | none=>none)
    else (match evM K O q (keep d.looks s.env) s.h with
     | some (.val v h)=>if recheck K O d.re pd h=true then evD K O r pd { env:=put s.env d.co.dst v,h:=h } else none
     | some (.pan v h)=>some (.pan v,{ env:=[],h:=h })
     | none=>none)
   | .bad=>none
def Blk.refOk (p:Loc→Bool):Blk→Bool
 | .box _ _ v=>v.refOk p
 | .arr _ _ _ _=>true
 | .map es=>es.all fun x=>x.2.refOk p
 | .dead=>true
 | .arq _ _ _ _ _ _ _=>true
 | .arv _ _ es=>AV.refOks p es
def cutE (p:Loc→Bool) (e:Env):Bool:=e.all fun x=>x.2.refOk p
def cut (n:Nat) (live:List Nat) (s:St):Option St:=
 match s.h with
 | []=>none
 | f :: o=>
  if f.length=n then some { env:=keep live s.env,h:=s.h }
  else if n≤f.length∧cutE (fun a=>!(a.1 == o.length) || decide (a.2 < n)) (keep live s.env)=true ∧
    (f.take n).all (Blk.refOk fun a=>!(a.1 == o.length) || decide (a.2 < n))=true then
   some { env:=keep live s.env,h:=f.take n :: o }
  else some { env:=keep live s.env,h:=s.h }
def evC (K:Cfg) (O:Orc):CC→St→Option (Ex×St)
 | .skip,s=>some (.norm,s)
 | .reg ops,s=>evOps K O ops s
 | .draw ds,s=>evD K O ds [] s
 | .seq a b,s=>match evC K O a s with
  | some (.norm,s1)=>evC K O b s1
  | r=>r
 | .cond x a b,s=>match x.ev s.env with
  | .bool t=>if t then evC K O a s else evC K O b s
  | _=>none
 | .block id a,s=>match evC K O a s with
  | some (.exit j,s1)=>if j=id then some (.norm,s1) else some (.exit j,s1)
  | r=>r
 | .loop live a,s=>O.code (.loopAt (hlen s.h) live a) { s with env:=keep live s.env }
 | .loopAt n live a,s=>match evC K O a s with
  | some (.norm,s1)=>(match cut n live s1 with
   | some s2=>O.code (.loopAt n live a) s2
   | none=>none)
  | r=>r
 | .exit id,s=>some (.exit id,s)
 | .ret,s=>some (.ret,s)
 | .scope a,s=>evC K O a s
 | .bad,_=>none
def evRes1 (s:St):CRes→Option AV
 | .tmp t=>some (get s.env t)
 | .own t=>some (get s.env t)
 | .cell t ag sz=>loadFrom ag sz s.h (get s.env t)
def evResL (s:St):List CRes→Option (List AV)
 | []=>some []
 | r :: rs=>match evRes1 s r with
  | some v=>(match evResL s rs with
   | some vs=>some (v :: vs)
   | none=>none)
  | none=>none
def evRes (s:St) (rs:List CRes):Option AV:=
 match evResL s rs with
 | some [v]=>some v
 | some vs=>some (.tup vs)
 | none=>none
mutual
def AV.ren (r:Loc→Loc):AV→AV
 | .agg cs=>.agg (AV.rens r cs)
 | .tup cs=>.tup (AV.rens r cs)
 | .own a n=>.own (r a) n
 | .ptr a o=>.ptr (r a) o
 | .eptr a n s i o=>.eptr (r a) n s i o
 | .mp a=>.mp (r a)
 | .fn f x y=>.fn f (AV.rens r x) (AV.rens r y)
 | .iface t v=>.iface t (v.ren r)
 | v=>v
def AV.rens (r:Loc→Loc):List AV→List AV
 | []=>[]
 | c :: cs=>c.ren r :: AV.rens r cs
end
def Blk.ren (r:Loc→Loc):Blk→Blk
 | .box t fz v=>.box t fz (v.ren r)
 | .map es=>.map (es.map fun x=>(x.1,x.2.ren r))
 | .arv t s es=>.arv t s (AV.rens r es)
 | b=>b
def moved (l n:Nat) (a:Loc):Loc:=if a.1=l+1 then (l,n+a.2) else a
def merge (v:AV) (f:List Blk):Heap→Option (AV×Heap)
 | []=>none
 | g :: o=>some (v.ren (moved o.length g.length),(g++f.map (Blk.ren (moved o.length g.length))) :: o)
def pop (v:AV) (h:Heap):Option (AV×Heap):=
 match v.view (fun a=>a.1 == h.length - 1) h with
 | some (v',f :: o)=>if v'.refOk (fun a=>decide (a.1 < o.length))=true then some (v',o) else merge v' f o
 | _=>none
def evB (K:Cfg) (O:Orc):CB→St→Option (Ex×St×Option (FuncId×List AV))
 | .code c,s=>match evC K O c s with
  | some (ex,s')=>some (ex,s',none)
  | none=>none
 | .seq c b,s=>match evC K O c s with
  | some (.norm,s1)=>evB K O b s1
  | some (ex,s1)=>some (ex,s1,none)
  | none=>none
 | .dfr d q c,s=>match evP q s.env with
  | some (.fn (.func g) [] cap)=>(match evC K O c { s with env:=set s.env d (.fn (.func g) [] cap) } with
   | some (ex,s')=>some (ex,s',some (g,cap))
   | none=>none)
  | _=>none
def evDef (K:Cfg) (O:Orc) (g:FuncId) (cap:List AV) (pv:Option AV) (h:Heap):Option Heap:=
 match K.dfn g with
 | none=>none
 | some df=>if cap.length≤df.nt then (match evC K O df.rest { env:=set (set (envOf 0 cap) df.d1 (pv.getD .nili)) df.d2 (pv.getD .nili),h:=[] :: h } with
  | some (.norm,s)=>(match pop (.tup []) s.h with
   | some (_,h')=>some h'
   | none=>none)
  | some (.ret,s)=>(match pop (.tup []) s.h with
   | some (_,h')=>some h'
   | none=>none)
  | _=>none) else none
def CRes.keep:CRes→CRes
 | .tmp t=>.own t
 | r=>r
def keepR:List CRes→Bool
 | .own _ :: _=>true
 | _=>false
def keptR (k:Bool) (rs:List CRes):List CRes:=if k then rs.map CRes.keep else rs
def popK (k:Bool) (v:AV) (h:Heap):Option (AV×Heap):=
 if k=true then (match h with
  | f :: o=>merge v f o
  | []=>none) else pop v h
def finish (rs:List CRes) (s:St):Option Out:=
 match evRes s rs with
 | some v=>(match popK (keepR rs) v s.h with
  | some (v',h')=>some (.val v' h')
  | none=>none)
 | none=>none
def finD (K:Cfg) (O:Orc) (rs:List CRes) (g:FuncId) (cap:List AV) (pv:Option AV) (s:St):Option Out:=
 match evDef K O g cap pv s.h with
 | some h2=>finish rs { s with h:=h2 }
 | none=>none
def stepFn (K:Cfg) (O:Orc) (f:FuncId) (args:List AV) (h:Heap):Option Out:=
 match K.X f args h with
 | some r=>some r
 | none=>match K.fns f with
  | none=>none
  | some cf=>if args.length≤cf.nt then match evB K O cf.body { env:=envOf 0 args,h:=[] :: h } with
   | some (.norm,s,none)=>finish cf.res s
   | some (.ret,s,none)=>finish cf.res s
   | some (.pan v,s,none)=>(match pop v s.h with
    | some (v',h')=>some (.pan v' h')
    | none=>none)
   | some (.norm,s,some (g,cap))=>finD K O cf.res g cap none s
   | some (.ret,s,some (g,cap))=>finD K O cf.res g cap none s
   | some (.pan v,s,some (g,cap))=>finD K O cf.res g cap (some v) s
   | _=>none
   else none
def step (K:Cfg) (O:Orc):Orc:={ fn:=stepFn K O,code:=evC K O }
def evF (K:Cfg):Nat→Orc
 | 0=>{ fn:=fun _ _ _=>none,code:=fun _ _=>none }
 | n+1=>step K (evF K n)
end Go.Ab
/-
  What abstract values and abstract memory say of the model's values and worlds;how that is kept while a world goes on.
-/
namespace Go.Ab
structure Gm where
  blk:Loc→Option Nat
  len:Loc→Option Nat
  cap:Loc→Nat
  imm:Nat→Nat→Prop
  tl:Nat→Option (Loc×Nat):=fun _=>none
def NoLoc:Loc→Prop:=fun _=>False
def ownVal (G:Gm) (a:Loc) (n:Nat):Value:=
 match G.blk a with
 | none=>.slice none 0 0
 | some b=>.slice (some ⟨b,0,none⟩) n (G.cap a)
inductive VRel (w:World) (G:Gm):(Loc→Prop)→AV→Value→Prop
 | top (L:Loc→Prop) (x:Value):VRel w G L .top x
 | bool (L:Loc→Prop) (b:Bool):VRel w G L (.bool b) (.bool b)
 | int (L:Loc→Prop) (k:IntKind) (n:Int):VRel w G L (.int k n) (.int k n)
 | str (L:Loc→Prop) (s:List UInt8):VRel w G L (.str s) (.string ⟨s.toArray⟩)
 | agg (L:Loc→Prop) (cs:List AV) (vs:Array Value) (hl:vs.size=cs.length) (ho:∀ i,i < cs.length→(vs.getD i undef).oneCell'=true)
   (h:∀ i,i < cs.length→VRel w G L (cs.getD i .top) (vs.getD i undef)):VRel w G L (.agg cs) (.agg vs)
 | tup (L:Loc→Prop) (cs:List AV) (vs:Array Value) (hl:vs.size=cs.length)
   (h:∀ i,i < cs.length→VRel w G L (cs.getD i .top) (vs.getD i undef)):VRel w G L (.tup cs) (.tuple vs)
 | nils (L:Loc→Prop):VRel w G L .nils (.slice none 0 0)
 | emp (L:Loc→Prop) (a:Option Addr):VRel w G L .emp (.slice a 0 0)
 | lst0 (L:Loc→Prop) (a:Option Addr) (c:Nat):VRel w G L (.lst []) (.slice a 0 c)
 | lst (L:Loc→Prop) (es:List AV) (b off c sz:Nat) (vf:Nat→Nat→Value) (hle:es.length≤c)
   (hs:∀ i,i < es.length→(es.getD i .top).cells.length=sz)
   (hc:∀ i j,i < es.length→j < sz→w.cell? ⟨b,off+i * sz+j,none⟩=some (vf i j)∧G.imm b (off+i * sz+j)∧(vf i j).oneCell'=true)
   (hv:∀ i j,i < es.length→j < sz→VRel w G NoLoc ((es.getD i .top).cells.getD j .top) (vf i j)) :
   VRel w G L (.lst es) (.slice (some ⟨b,off,none⟩) es.length c)
 | own (L:Loc→Prop) (a:Loc) (n m:Nat) (x:Value) (hL:L a) (hm:G.len a=some m) (hle:n≤m)
   (ho:(n=0∧x=.slice none 0 0)∨∃ b c,x=.slice (some ⟨b,0,none⟩) n c) (h:m=n→x=ownVal G a n):VRel w G L (.own a n) x
 | ptr (L:Loc→Prop) (a:Loc) (o b:Nat) (hL:L a) (hm:G.len a=none) (h:G.blk a=some b):VRel w G L (.ptr a o) (.pointer (some ⟨b,o,none⟩))
 | eptr (L:Loc→Prop) (a:Loc) (n sz i o m b:Nat) (hL:L a) (hm:G.len a=some m) (hle:n≤m)
   (h:m=n→G.blk a=some b):VRel w G L (.eptr a n sz i o) (.pointer (some ⟨b,i * sz+o,none⟩))
 | iptr (L:Loc→Prop) (e:AV) (o b off:Nat) (vf:Nat→Value)
   (hc:∀ j,j < e.cells.length→w.cell? ⟨b,off+j,none⟩=some (vf j)∧G.imm b (off+j)∧(vf j).oneCell'=true)
   (hv:∀ j,j < e.cells.length→VRel w G NoLoc (e.cells.getD j .top) (vf j)):VRel w G L (.iptr e o) (.pointer (some ⟨b,off+o,none⟩))
 | nilp (L:Loc→Prop):VRel w G L .nilp (.pointer none)
 | fn (L:Loc→Prop) (f:Fn) (a b:List AV) (va vb:Array Value) (hla:va.size=a.length) (hlb:vb.size=b.length)
   (ha:∀ i,i < a.length→VRel w G L (a.getD i .top) (va.getD i undef)) (hb:∀ i,i < b.length→VRel w G L (b.getD i .top) (vb.getD i undef)) :
   VRel w G L (.fn f a b) (.func f va vb)
 | nilf (L:Loc→Prop):VRel w G L .nilf .nilFunc
 | iface (L:Loc→Prop) (t:TypeId) (v:AV) (x:Value) (h:VRel w G L v x):VRel w G L (.iface t v) (.iface t x)
 | nili (L:Loc→Prop):VRel w G L .nili .nilIface
 | mp (L:Loc→Prop) (a:Loc) (b:Nat) (hL:L a) (hm:G.len a=none) (h:G.blk a=some b):VRel w G L (.mp a) (.map (some b))
 | nilm (L:Loc→Prop):VRel w G L .nilm (.map none)
 | anyp (L:Loc→Prop) (p:Option Addr):VRel w G L .anyp (.pointer p)
def Agree (G G':Gm) (a:Loc):Prop:=
 (G'.blk a=G.blk a∧G'.len a=G.len a∧G'.cap a=G.cap a)∨∃ m m',G.len a=some m∧G'.len a=some m'∧m < m'
theorem Agree.refl (G:Gm) (a:Loc):Agree G G a:=.inl ⟨rfl,rfl,rfl⟩
theorem Agree.trans {G G' G'':Gm} {a:Loc} (h:Agree G G' a) (k:Agree G' G'' a):Agree G G'' a:=by
 rcases h with ⟨h1,h2,h3⟩ | ⟨m,m',h1,h2,h3⟩
 ·rcases k with ⟨k1,k2,k3⟩ | ⟨n,n',k1,k2,k3⟩
  ·exact .inl ⟨k1.trans h1,k2.trans h2,k3.trans h3⟩
  ·exact .inr ⟨n,n',h2▸k1,k2,k3⟩
 ·rcases k with ⟨k1,k2,k3⟩ | ⟨n,n',k1,k2,k3⟩
  ·exact .inr ⟨m,m',h1,k2.trans h2,h3⟩
  ·rw [h2] at k1
   injection k1 with k1
   exact .inr ⟨m,n',h1,k2,by omega⟩
theorem Agree.none_ {G G':Gm} {a:Loc} (h:Agree G G' a) (hn:G.len a=none):G'.blk a=G.blk a∧G'.len a=none:=by
 rcases h with ⟨h1,h2,h3⟩ | ⟨m,m',h1,h2,h3⟩
 ·exact ⟨h1,h2.trans hn⟩
 ·rw [hn] at h1;cases h1
def ImmKept (w:World) (G:Gm) (w':World) (G':Gm):Prop:=∀ b o,G.imm b o→G'.imm b o∧w'.cell? ⟨b,o,none⟩=w.cell? ⟨b,o,none⟩
theorem refOks_get {p:Loc→Bool}:∀ {cs:List AV},AV.refOks p cs=true→∀ i,i < cs.length→(cs.getD i .top).refOk p=true
 | [],_,i,hi=>by simp at hi
 | c :: cs,h,i,hi=>by
  simp only [AV.refOks,Bool.and_eq_true] at h
  cases i with
  | zero=>simpa using h.1
  | succ i=>simpa using refOks_get h.2 i (by simpa using hi)
theorem refOks_mk {p:Loc→Bool}:∀ {cs:List AV},(∀ i,i < cs.length→(cs.getD i .top).refOk p=true)→AV.refOks p cs=true
 | [],_=>rfl
 | c :: cs,h=>by
  simp only [AV.refOks,Bool.and_eq_true]
  exact ⟨by simpa using h 0 (by simp),refOks_mk fun i hi=>by simpa using h (i+1) (by simpa using hi)⟩
theorem VRel.refs {w:World} {G:Gm} {L:Loc→Prop} {v:AV} {x:Value} (h:VRel w G L v x):∀ {p:Loc→Bool},(∀ a,L a→p a=true)→v.refOk p=true:=by
 induction h with
 | agg L cs vs hl ho h ih=>intro p hp;simp only [AV.refOk];exact refOks_mk fun i hi=>ih i hi hp
 | tup L cs vs hl h ih=>intro p hp;simp only [AV.refOk];exact refOks_mk fun i hi=>ih i hi hp
 | own L a n m x hLa hm hle ho h=>intro p hp;simp only [AV.refOk];exact hp a hLa
 | ptr L a o b hLa hm h=>intro p hp;simp only [AV.refOk];exact hp a hLa
 | eptr L a n sz i o m b hLa hm hle h=>intro p hp;simp only [AV.refOk];exact hp a hLa
 | mp L a b hLa hm h=>intro p hp;simp only [AV.refOk];exact hp a hLa
 | fn L f a b va vb hla hlb ha hb iha ihb=>intro p hp;simp only [AV.refOk,Bool.and_eq_true];exact ⟨refOks_mk fun i hi=>iha i hi hp,refOks_mk fun i hi=>ihb i hi hp⟩
 | iface L t v x h ih=>intro p hp;simp only [AV.refOk];exact ih hp
 | _=>intros;simp only [AV.refOk]
theorem VRel.noRef {w:World} {G:Gm} {v:AV} {x:Value} (h:VRel w G NoLoc v x):v.refOk (fun _=>false)=true:=h.refs fun _ ha=>ha.elim
theorem VRel.goes {w w':World} {G G':Gm} {L:Loc→Prop} {v:AV} {x:Value} (h:VRel w G L v x) (hI:ImmKept w G w' G') :
  ∀ {L':Loc→Prop} {p:Loc→Bool},v.refOk p=true→(∀ a,L a→p a=true→L' a∧Agree G G' a)→VRel w' G' L' v x:=by
 induction h with
 | top L x=>intros;exact .top _ _
 | bool L b=>intros;exact .bool _ _
 | int L k n=>intros;exact .int _ _ _
 | str L s=>intros;exact .str _ _
 | agg L cs vs hl ho h ih=>
  intro L' p hr hL
  simp only [AV.refOk] at hr
  exact .agg _ _ _ hl ho fun i hi=>ih i hi (refOks_get hr i hi) hL
 | tup L cs vs hl h ih=>
  intro L' p hr hL
  simp only [AV.refOk] at hr
  exact .tup _ _ _ hl fun i hi=>ih i hi (refOks_get hr i hi) hL
 | nils L=>intros;exact .nils _
 | emp L a=>intros;exact .emp _ _
 | lst0 L a c=>intros;exact .lst0 _ _ _
 | lst L es b off c sz vf hle hs hc hv ih=>
  intro L' p hr hL
  refine .lst _ es b off c sz vf hle hs (fun i j hi hj=>?_) (fun i j hi hj=>?_)
  ·obtain ⟨h1,h2,h3⟩:=hc i j hi hj
   obtain ⟨k1,k2⟩:=hI _ _ h2
   exact ⟨k2.trans h1,k1,h3⟩
  ·refine ih i j hi hj (p:=fun _=>false) ?_ (fun a ha=>ha.elim)
   exact VRel.noRef (hv i j hi hj)
 | own L a n m x hLa hm hle ho h=>
  intro L' p hr hL
  simp only [AV.refOk] at hr
  obtain ⟨h1,h2⟩:=hL a hLa hr
  rcases h2 with ⟨e1,e2,e3⟩ | ⟨m0,m',e1,e2,e3⟩
  ·refine .own _ a n m x h1 (e2.trans hm) hle ho fun e=>?_
   rw [h e]
   unfold ownVal
   rw [e1,e3]
  ·rw [hm] at e1
   injection e1 with e1
   exact .own _ a n m' x h1 e2 (by omega) ho fun e=>by omega
 | ptr L a o b hLa hm h=>
  intro L' p hr hL
  simp only [AV.refOk] at hr
  obtain ⟨h1,h2⟩:=hL a hLa hr
  obtain ⟨k1,k2⟩:=h2.none_ hm
  exact .ptr _ a o b h1 k2 (k1.trans h)
 | eptr L a n sz i o m b hLa hm hle h=>
  intro L' p hr hL
  simp only [AV.refOk] at hr
  obtain ⟨h1,h2⟩:=hL a hLa hr
  rcases h2 with ⟨e1,e2,e3⟩ | ⟨m0,m',e1,e2,e3⟩
  ·exact .eptr _ a n sz i o m b h1 (e2.trans hm) hle fun e=>e1.trans (h e)
  ·rw [hm] at e1
   injection e1 with e1
   exact .eptr _ a n sz i o m' b h1 e2 (by omega) fun e=>by omega
 | iptr L e o b off vf hc hv ih=>
  intro L' p hr hL
  refine .iptr _ e o b off vf (fun j hj=>?_) (fun j hj=>?_)
  ·obtain ⟨h1,h2,h3⟩:=hc j hj
   obtain ⟨k1,k2⟩:=hI _ _ h2
   exact ⟨k2.trans h1,k1,h3⟩
  ·exact ih j hj (p:=fun _=>false) (VRel.noRef (hv j hj)) (fun a ha=>ha.elim)
 | nilp L=>intros;exact .nilp _
 | fn L f a b va vb hla hlb ha hb iha ihb=>
  intro L' p hr hL
  simp only [AV.refOk,Bool.and_eq_true] at hr
  exact .fn _ f a b va vb hla hlb (fun i hi=>iha i hi (refOks_get hr.1 i hi) hL) (fun i hi=>ihb i hi (refOks_get hr.2 i hi) hL)
 | nilf L=>intros;exact .nilf _
 | iface L t v x h ih=>
  intro L' p hr hL
  simp only [AV.refOk] at hr
  exact .iface _ _ _ _ (ih hr hL)
 | nili L=>intros;exact .nili _
 | mp L a b hLa hm h=>
  intro L' p hr hL
  simp only [AV.refOk] at hr
  obtain ⟨h1,h2⟩:=hL a hLa hr
  obtain ⟨k1,k2⟩:=h2.none_ hm
  exact .mp _ a b h1 k2 (k1.trans h)
 | nilm L=>intros;exact .nilm _
 | anyp L p=>intros;exact .anyp _ _
theorem VRel.mono {w w':World} {G G':Gm} {L L':Loc→Prop} {v:AV} {x:Value} (h:VRel w G L v x) (hI:ImmKept w G w' G')
  (hL:∀ a,L a→L' a∧Agree G G' a):VRel w' G' L' v x:=
 h.goes hI (p:=fun _=>true) (h.refs fun _ _=>rfl) fun a ha _=>hL a ha
theorem ImmKept.refl (w:World) (G:Gm):ImmKept w G w G:=fun _ _ h=>⟨h,rfl⟩
theorem VRel.pure_ {w:World} {G:Gm} {L L':Loc→Prop} {v:AV} {x:Value} (h:VRel w G L v x) (hp:v.pure=true):VRel w G L' v x:=
 h.goes (ImmKept.refl w G) (p:=fun _=>false) hp fun _ _ e=>by cases e
theorem VRel.wider {w:World} {G:Gm} {L L':Loc→Prop} {v:AV} {x:Value} (h:VRel w G L v x) (hL:∀ a,L a→L' a):VRel w G L' v x:=
 h.mono (ImmKept.refl w G) fun a ha=>⟨hL a ha,Agree.refl G a⟩
theorem rens_length (r:Loc→Loc):∀ cs:List AV,(AV.rens r cs).length=cs.length
 | []=>rfl
 | c :: cs=>by simp [AV.rens,rens_length r cs]
theorem rens_get (r:Loc→Loc):∀ (cs:List AV) (i:Nat),(AV.rens r cs).getD i .top=(cs.getD i .top).ren r
 | [],i=>by simp [AV.rens,AV.ren]
 | c :: cs,0=>by simp [AV.rens]
 | c :: cs,i+1=>by simpa [AV.rens] using rens_get r cs i
theorem ren_cells (r:Loc→Loc) (v:AV):(v.ren r).cells.length=v.cells.length∧∀ i,(v.ren r).cells.getD i .top=(v.cells.getD i .top).ren r:=by
 cases v with
 | agg cs=>exact ⟨by simp [AV.ren,AV.cells,rens_length],fun i=>by simp only [AV.ren,AV.cells];exact rens_get r cs i⟩
 | top=>exact ⟨rfl,fun i=>by simp [AV.ren,AV.cells]⟩
 | tup vs=>exact ⟨rfl,fun i=>by simp [AV.ren,AV.cells]⟩
 | _=>
  refine ⟨by simp [AV.ren,AV.cells],fun i=>?_⟩
  cases i<;>simp [AV.ren,AV.cells]
theorem VRel.ren_ {w:World} {G:Gm} {L:Loc→Prop} {v:AV} {x:Value} (h:VRel w G L v x) {G':Gm} {r:Loc→Loc} (hI:∀ b o,G.imm b o→G'.imm b o) :
  ∀ {L':Loc→Prop},(∀ a,L a→L' (r a)∧G'.blk (r a)=G.blk a∧G'.len (r a)=G.len a∧G'.cap (r a)=G.cap a)→VRel w G' L' (v.ren r) x:=by
 have hI':ImmKept w G w G':=fun b o hi=>⟨hI b o hi,rfl⟩
 induction h with
 | top L x=>intros;exact .top _ _
 | bool L b=>intros;exact .bool _ _
 | int L k n=>intros;exact .int _ _ _
 | str L s=>intros;exact .str _ _
 | agg L cs vs hl ho h ih=>
  intro L' hL
  simp only [AV.ren]
  refine .agg _ _ _ (by rw [rens_length];exact hl) (fun i hi=>ho i (by rw [rens_length] at hi;exact hi)) fun i hi=>?_
  rw [rens_length] at hi
  rw [rens_get]
  exact ih i hi hL
 | tup L cs vs hl h ih=>
  intro L' hL
  simp only [AV.ren]
  refine .tup _ _ _ (by rw [rens_length];exact hl) fun i hi=>?_
  rw [rens_length] at hi
  rw [rens_get]
  exact ih i hi hL
 | nils L=>intros;exact .nils _
 | emp L a=>intros;exact .emp _ _
 | lst0 L a c=>intros;exact .lst0 _ _ _
 | lst L es b off c sz vf hle hs hc hv ih=>
  intro L' hL
  refine .lst _ es b off c sz vf hle hs (fun i j hi hj=>?_) (fun i j hi hj=>?_)
  ·obtain ⟨h1,h2,h3⟩:=hc i j hi hj
   exact ⟨h1,hI _ _ h2,h3⟩
  ·exact (hv i j hi hj).mono hI' fun a ha=>ha.elim
 | own L a n m x hLa hm hle ho h=>
  intro L' hL
  obtain ⟨k1,k2,k3,k4⟩:=hL a hLa
  simp only [AV.ren]
  refine .own _ _ n m x k1 (k3.trans hm) hle ho fun e=>?_
  rw [h e]
  unfold ownVal
  rw [k2,k4]
 | ptr L a o b hLa hm h=>
  intro L' hL
  obtain ⟨k1,k2,k3,k4⟩:=hL a hLa
  exact .ptr _ _ o b k1 (k3.trans hm) (k2.trans h)
 | eptr L a n sz i o m b hLa hm hle h=>
  intro L' hL
  obtain ⟨k1,k2,k3,k4⟩:=hL a hLa
  exact .eptr _ _ n sz i o m b k1 (k3.trans hm) hle fun e=>k2.trans (h e)
 | iptr L e o b off vf hc hv ih=>
  intro L' hL
  refine .iptr _ e o b off vf (fun j hj=>?_) (fun j hj=>?_)
  ·obtain ⟨h1,h2,h3⟩:=hc j hj
   exact ⟨h1,hI _ _ h2,h3⟩
  ·exact (hv j hj).mono hI' fun a ha=>ha.elim
 | nilp L=>intros;exact .nilp _
 | fn L f a b va vb hla hlb ha hb iha ihb=>
  intro L' hL
  simp only [AV.ren]
  refine .fn _ f _ _ va vb (by rw [rens_length];exact hla) (by rw [rens_length];exact hlb) (fun i hi=>?_) (fun i hi=>?_)
  ·rw [rens_length] at hi;rw [rens_get];exact iha i hi hL
  ·rw [rens_length] at hi;rw [rens_get];exact ihb i hi hL
 | nilf L=>intros;exact .nilf _
 | iface L t v x h ih=>
  intro L' hL
  simp only [AV.ren]
  exact .iface _ _ _ _ (ih hL)
 | nili L=>intros;exact .nili _
 | mp L a b hLa hm h=>
  intro L' hL
  obtain ⟨k1,k2,k3,k4⟩:=hL a hLa
  exact .mp _ _ b k1 (k3.trans hm) (k2.trans h)
 | nilm L=>intros;exact .nilm _
 | anyp L p=>intros;exact .anyp _ _
mutual
theorem AV.beq_eq:∀ (a b:AV),a.beq b=true→a=b
 | .top,b,h=>by cases b<;>simp_all [AV.beq]
 | .bool a,b,h=>by cases b<;>simp_all [AV.beq]
 | .int k a,b,h=>by cases b<;>simp_all [AV.beq]
 | .str a,b,h=>by cases b<;>simp_all [AV.beq]
 | .agg x,b,h=>by
  cases b<;>simp only [AV.beq] at h<;>try (cases h;done)
  rw [AV.beqs_eq _ _ h]
 | .tup x,b,h=>by
  cases b<;>simp only [AV.beq] at h<;>try (cases h;done)
  rw [AV.beqs_eq _ _ h]
 | .nils,b,h=>by cases b<;>simp_all [AV.beq]
 | .emp,b,h=>by cases b<;>simp_all [AV.beq]
 | .lst x,b,h=>by
  cases b<;>simp only [AV.beq] at h<;>try (cases h;done)
  rw [AV.beqs_eq _ _ h]
 | .own a n,b,h=>by cases b<;>simp_all [AV.beq]
 | .ptr a n,b,h=>by cases b<;>simp_all [AV.beq]
 | .eptr a n sz i o,b,h=>by cases b<;>simp_all [AV.beq]
 | .iptr e o,b,h=>by
  cases b<;>simp only [AV.beq] at h<;>try (cases h;done)
  simp only [Bool.and_eq_true,decide_eq_true_eq] at h
  rw [AV.beq_eq _ _ h.1,h.2]
 | .nilp,b,h=>by cases b<;>simp_all [AV.beq]
 | .fn f x y,b,h=>by
  cases f with
  | func f=>
   cases b with
   | fn g x' y'=>
    cases g with
    | func g=>
     simp only [AV.beq,Bool.and_eq_true,decide_eq_true_eq] at h
     rw [h.1.1,AV.beqs_eq _ _ h.1.2,AV.beqs_eq _ _ h.2]
    | _=>simp [AV.beq] at h
   | _=>simp [AV.beq] at h
  | _=>cases b<;>simp [AV.beq] at h
 | .nilf,b,h=>by cases b<;>simp_all [AV.beq]
 | .iface t v,b,h=>by
  cases b<;>simp only [AV.beq] at h<;>try (cases h;done)
  simp only [Bool.and_eq_true,decide_eq_true_eq] at h
  rw [h.1,AV.beq_eq _ _ h.2]
 | .nili,b,h=>by cases b<;>simp_all [AV.beq]
 | .mp a,b,h=>by cases b<;>simp_all [AV.beq]
 | .nilm,b,h=>by cases b<;>simp_all [AV.beq]
 | .anyp,b,h=>by cases b<;>simp_all [AV.beq]
theorem AV.beqs_eq:∀ (a b:List AV),AV.beqs a b=true→a=b
 | [],b,h=>by cases b<;>simp_all [AV.beqs]
 | c :: cs,b,h=>by
  cases b<;>simp only [AV.beqs] at h<;>try (cases h;done)
  simp only [Bool.and_eq_true] at h
  rw [AV.beq_eq _ _ h.1,AV.beqs_eq _ _ h.2]
end
end Go.Ab
/-
  Abstract memory and the model's: what each place's block holds;how both go on together.
-/
set_option linter.unusedVariables false
set_option linter.unusedSimpArgs false
namespace Go.Ab
def dom (h:Heap) (a:Loc):Prop:=(hget h a).isSome=true
instance (h:Heap) (a:Loc):Decidable (dom h a):=inferInstanceAs (Decidable (_=true))
def domTo (h:Heap) (l:Nat) (a:Loc):Prop:=a.1≤l∧dom h a
theorem dom_of {h:Heap} {a:Loc} {B:Blk} (e:hget h a=some B):dom h a:=by unfold dom;rw [e];rfl
theorem of_dom {h:Heap} {a:Loc} (e:dom h a):∃ B,hget h a=some B:=Option.isSome_iff_exists.1 e
def ASim (w:World) (G:Gm) (a:Loc) (t:TypeId) (sz:Nat) (vw:Bool) (es:List AV):Prop:=
 G.len a=some es.length∧((G.blk a=none∧es=[]) ∨
   ∃ b c,G.blk a=some b∧w.heap[b]?=some (.cells c t (0,0))∧c.size=G.cap a * sz∧0 < sz∧es.length≤G.cap a∧G.cap a≤maxLen ∧
    (∀ i,i < es.length→(es.getD i .top).cells.length=sz∧∀ j,j < sz→(c.getD (i * sz+j) undef).oneCell'=true ∧
     VRel w G NoLoc ((es.getD i .top).cells.getD j .top) (c.getD (i * sz+j) undef)) ∧
    (∀ o,G.imm b o→vw=true∧o < es.length * sz))
def Tails (w:World) (G:Gm) (a:Loc) (t:TypeId) (sz k:Nat) (ti:TypeId) (si:Nat) (out:List Nat) (es:List AV):Prop:=
 k < sz∧0 < si∧∀ b c i q ks,G.blk a=some b→w.heap[b]?=some (.cells c t (0,0))→i < es.length→out.contains i=false→(es.getD i .top).cells.getD k .top=.lst (q :: ks) →
  ∃ b' cap c',c.getD (i * sz+k) undef=.slice (some ⟨b',0,none⟩) (ks.length+1) cap∧G.tl b'=some (a,i)∧w.heap[b']?=some (.cells c' ti (0,0))∧c'.size=cap * si∧ks.length+1≤cap∧cap≤maxLen ∧
   (∀ o,G.imm b' o→o < (ks.length+1) * si)∧(∀ j,j < ks.length+1→((q :: ks).getD j .top).cells.length=si∧∀ j',j' < si→(c'.getD (j * si+j') undef).oneCell'=true ∧
    VRel w G NoLoc (((q :: ks).getD j .top).cells.getD j' .top) (c'.getD (j * si+j') undef))
def VSim (w:World) (G:Gm) (L:Loc→Prop) (a:Loc) (t:TypeId) (sz:Nat) (es:List AV):Prop:=
 G.len a=some es.length∧((G.blk a=none∧es=[]) ∨
   ∃ b c,G.blk a=some b∧w.heap[b]?=some (.cells c t (0,0))∧c.size=G.cap a * sz∧0 < sz∧es.length≤G.cap a∧G.cap a≤maxLen ∧
    (∀ i,i < es.length→(es.getD i .top).cells.length=sz∧∀ j,j < sz→(c.getD (i * sz+j) undef).oneCell'=true ∧
     VRel w G L ((es.getD i .top).cells.getD j .top) (c.getD (i * sz+j) undef)) ∧
    (∀ o,¬ G.imm b o))
def BSim (w:World) (G:Gm) (L:Loc→Prop) (a:Loc):Blk→Prop
 | .box t fz v=>∃ b c,G.len a=none∧G.blk a=some b∧w.heap[b]?=some (.cells c t (0,0))∧c.size=v.cells.length ∧
   (∀ j,j < c.size→(c.getD j undef).oneCell'=true∧VRel w G L (v.cells.getD j .top) (c.getD j undef))∧(∀ o,G.imm b o→fz=true)
 | .arr t sz vw es=>G.len a=some es.length∧((G.blk a=none∧es=[]) ∨
   ∃ b c,G.blk a=some b∧w.heap[b]?=some (.cells c t (0,0))∧c.size=G.cap a * sz∧0 < sz∧es.length≤G.cap a∧G.cap a≤maxLen ∧
    (∀ i,i < es.length→(es.getD i .top).cells.length=sz∧∀ j,j < sz→(c.getD (i * sz+j) undef).oneCell'=true ∧
     VRel w G NoLoc ((es.getD i .top).cells.getD j .top) (c.getD (i * sz+j) undef)) ∧
    (∀ o,G.imm b o→vw=true∧o < es.length * sz))
 | .map es=>∃ b entries clock,G.len a=none∧G.blk a=some b∧w.heap[b]?=some (.map entries clock)∧entries.size=es.length ∧
   (∀ i,i < es.length→VRel w G NoLoc (es.getD i (.top,.top)).1 (entries.getD i default).key∧VRel w G L (es.getD i (.top,.top)).2 (entries.getD i default).val)
 | .dead=>∀ b,G.blk a=some b→b < w.heap.size
 | .arq t sz k ti si out es=>ASim w G a t sz false es∧Tails w G a t sz k ti si out es
 | .arv t sz es=>VSim w G L a t sz es
def Held (G:Gm) (h:Heap) (b:Nat):Prop:=(∃ a,dom h a∧G.blk a=some b)∨G.tl b≠none
theorem Held.of {G:Gm} {h:Heap} {a:Loc} {b:Nat} (ha:dom h a) (e:G.blk a=some b):Held G h b:=.inl ⟨a,ha,e⟩
structure Sim (w:World) (G:Gm) (h:Heap):Prop where
 blk:∀ a B,hget h a=some B→BSim w G (domTo h a.1) a B
 inj:∀ a a' b,dom h a→dom h a'→G.blk a=some b→G.blk a'=some b→a=a'
 imm:∀ b o,G.imm b o→b < w.heap.size
 prv:∀ b x,G.tl b=some x→b < w.heap.size∧∀ a,dom h a→G.blk a≠some b
structure Goes (w:World) (G:Gm) (h:Heap) (w':World) (G':Gm) (h':Heap):Prop where
 os:w'.os=w.os
 tape:w'.tape=w.tape
 output:w'.output=w.output
 size:w.heap.size≤w'.heap.size
 heap:∀ b,b < w.heap.size→¬ Held G h b→w'.heap[b]?=w.heap[b]?
 img:∀ b,Held G' h' b→b < w.heap.size→Held G h b
 imm:ImmKept w G w' G'
 loc:∀ a,dom h a→dom h' a∧Agree G G' a
 depth:h'.length=h.length
 frame:hlen h≤hlen h'
 nimm:∀ b o,b < w.heap.size→¬ Held G h b→G'.imm b o→G.imm b o
theorem Goes.refl (w:World) (G:Gm) (h:Heap):Goes w G h w G h:=
 ⟨rfl,rfl,rfl,Nat.le_refl _,fun _ _ _=>rfl,fun b hb _=>hb,ImmKept.refl w G,fun a ha=>⟨ha,Agree.refl G a⟩,rfl,Nat.le_refl _,fun _ _ _ _ hi=>hi⟩
theorem ImmKept.trans {w w' w'':World} {G G' G'':Gm} (h:ImmKept w G w' G') (k:ImmKept w' G' w'' G''):ImmKept w G w'' G'':=fun b o hi=>by
 obtain ⟨h1,h2⟩:=h b o hi
 obtain ⟨k1,k2⟩:=k b o h1
 exact ⟨k1,k2.trans h2⟩
theorem Goes.trans {w w' w'':World} {G G' G'':Gm} {h h' h'':Heap} (x:Goes w G h w' G' h') (y:Goes w' G' h' w'' G'' h''):Goes w G h w'' G'' h'' where
 os:=y.os.trans x.os
 tape:=y.tape.trans x.tape
 output:=y.output.trans x.output
 size:=Nat.le_trans x.size y.size
 heap b hb hn:=by
  rw [y.heap b (Nat.lt_of_lt_of_le hb x.size) fun k=>hn (x.img b k hb),x.heap b hb hn]
 img b k hb:=x.img b (y.img b k (Nat.lt_of_lt_of_le hb x.size)) hb
 imm:=x.imm.trans y.imm
 loc a ha:=by
  obtain ⟨h1,h2⟩:=x.loc a ha
  obtain ⟨k1,k2⟩:=y.loc a h1
  exact ⟨k1,h2.trans k2⟩
 depth:=y.depth.trans x.depth
 frame:=Nat.le_trans x.frame y.frame
 nimm b o hb hn hi:=x.nimm b o hb hn (y.nimm b o (Nat.lt_of_lt_of_le hb x.size) (fun k=>hn (x.img b k hb)) hi)
theorem VRel.along {w w':World} {G G':Gm} {h h':Heap} {v:AV} {x:Value} (r:VRel w G (dom h) v x) (y:Goes w G h w' G' h'):VRel w' G' (dom h') v x:=
 r.mono y.imm y.loc
/- Places. -/
theorem hget_lt:∀ {h:Heap} {a:Loc} {B:Blk},hget h a=some B→a.1 < h.length
 | [],a,B,e=>by simp [hget] at e
 | f :: o,a,B,e=>by
  unfold hget at e
  split at e
  ·rename_i hl;rw [hl];simp
  ·have:=hget_lt e;simp;omega
theorem hget_hset:∀ (h:Heap) (a a':Loc) (B:Blk),hget (hset h a B) a'=if a'=a∧dom h a then some B else hget h a'
 | [],a,a',B=>by simp [hset,hget,dom]
 | f :: o,a,a',B=>by
  unfold hset
  by_cases hl:a.1=o.length
  ·simp only [hl,if_true,hget,List.length_set,dom]
   by_cases hl':a'.1=o.length
   ·simp only [hl',if_true]
    rw [List.getElem?_set]
    by_cases h2:a.2=a'.2
    ·have e:a'=a:=Prod.ext (hl'.trans hl.symm) h2.symm
     subst e
     by_cases hlt:a'.2 < f.length
     ·simp [hlt,hl']
     ·simp [hlt,hl',List.getElem?_eq_none (Nat.le_of_not_lt hlt)]
    ·rw [if_neg h2,if_neg]
     rintro ⟨e,_⟩
     exact h2 (by rw [e])
   ·have hne:a'≠a:=fun e=>hl' (by rw [e,hl])
    simp [hl',hne]
  ·have ih:=hget_hset o a a' B
   have hlen:(hset o a B).length=o.length:=by
    clear ih hl
    induction o with
    | nil=>rfl
    | cons g o ih=>unfold hset;split<;>simp_all
   simp only [hl,if_false,hget,hlen,dom]
   by_cases hl':a'.1=o.length
   ·have hne:a'≠a:=fun e=>hl (by rw [←e,hl'])
    simp [hl',hne]
   ·have hd:hget (f :: o) a=hget o a:=by rw [hget,if_neg hl]
    simp only [hl',if_false,ih]
    by_cases c:a'=a∧dom o a
    ·rw [if_pos c,if_pos]
     refine ⟨c.1,?_⟩
     have:=c.2
     first | exact this | (unfold dom;rw [hd];exact this)
    ·rw [if_neg c,if_neg]
     intro e
     refine c ⟨e.1,?_⟩
     have:=e.2
     first | exact this | (unfold dom at this;rw [hd] at this;exact this)
theorem hset_length:∀ (h:Heap) (a:Loc) (B:Blk),(hset h a B).length=h.length
 | [],a,B=>rfl
 | f :: o,a,B=>by
  unfold hset
  split
  ·simp
  ·simp [hset_length o a B]
theorem hlen_hset (h:Heap) (a:Loc) (B:Blk):hlen (hset h a B)=hlen h:=by
 cases h with
 | nil=>rfl
 | cons f o=>unfold hset;split<;>simp [hlen]
theorem dom_hset (h:Heap) (a a':Loc) (B:Blk):dom (hset h a B) a'↔dom h a':=by
 unfold dom
 rw [hget_hset]
 by_cases e:a'=a∧dom h a
 ·rw [if_pos e]
  obtain ⟨rfl,hd⟩:=e
  simp only [Option.isSome_some,true_iff]
  exact hd
 ·rw [if_neg e]
theorem hnext_fresh:∀ (h:Heap),hget h (hnext h)=none
 | []=>rfl
 | f :: o=>by simp [hnext,hget]
theorem hget_hnew:∀ (h:Heap) (a:Loc) (B:Blk),h≠[]→hget (hnew h B) a=if a=hnext h then some B else hget h a
 | [],a,B,hn=>absurd rfl hn
 | f :: o,a,B,_=>by
  simp only [hnew,hget,hnext]
  by_cases hl:a.1=o.length
  ·simp only [hl,if_true]
   by_cases h2:a.2=f.length
   ·have e:a=(o.length,f.length):=Prod.ext hl h2
    simp [e]
   ·have hne:a≠(o.length,f.length):=fun e=>h2 (by rw [e])
    rw [if_neg hne,List.getElem?_append]
    split
    ·rfl
    ·rw [List.getElem?_eq_none (by simp;omega),List.getElem?_eq_none (by omega)]
  ·have hne:a≠(o.length,f.length):=fun e=>hl (by rw [e])
   simp [hl,hne]
theorem hnew_length (h:Heap) (B:Blk):(hnew h B).length=h.length:=by cases h<;>rfl
theorem hlen_hnew (h:Heap) (B:Blk):hlen h≤hlen (hnew h B):=by cases h<;>simp [hlen,hnew]
theorem dom_hnew {h:Heap} (hn:h≠[]) (a:Loc) (B:Blk):dom (hnew h B) a↔a=hnext h∨dom h a:=by
 unfold dom
 rw [hget_hnew h a B hn]
 by_cases e:a=hnext h
 ·simp [e]
 ·simp [e]
theorem hnext_level {h:Heap} (hn:h≠[]):(hnext h).1+1=h.length:=by
 cases h with
 | nil=>exact absurd rfl hn
 | cons f o=>simp [hnext]
theorem ASim.kept {w w':World} {G G':Gm} {a:Loc} {t:TypeId} {sz:Nat} {vw:Bool} {es:List AV} (h:ASim w G a t sz vw es) (hI:ImmKept w G w' G')
  (ha:G'.blk a=G.blk a∧G'.len a=G.len a∧G'.cap a=G.cap a) (hb:∀ b,G.blk a=some b→w'.heap[b]?=w.heap[b]?) (hi:∀ b o,G.blk a=some b→G'.imm b o→G.imm b o):ASim w' G' a t sz vw es:=by
 obtain ⟨a1,a2,a3⟩:=ha
 obtain ⟨h0,h⟩:=h
 refine ⟨a2.trans h0,?_⟩
 rcases h with ⟨h1,h2⟩ | ⟨b,c,h1,h2,h3,h4,h5,h6,h7,h8⟩
 ·exact .inl ⟨a1.trans h1,h2⟩
 ·refine .inr ⟨b,c,a1.trans h1,(hb b h1).trans h2,by rw [a3];exact h3,h4,by rw [a3];exact h5,by rw [a3];exact h6,fun i hi'=>⟨(h7 i hi').1,fun j hj=>?_⟩,fun o ho=>h8 o (hi b o h1 ho)⟩
  obtain ⟨k1,k2⟩:=(h7 i hi').2 j hj
  exact ⟨k1,k2.mono hI fun _ e=>e.elim⟩
theorem BSim.kept {w w':World} {G G':Gm} {L L':Loc→Prop} {a:Loc} {B:Blk} (h:BSim w G L a B) (hI:ImmKept w G w' G') (hL:∀ a,L a→L' a∧Agree G G' a)
  (ha:G'.blk a=G.blk a∧G'.len a=G.len a∧G'.cap a=G.cap a) (hb:∀ b,G.blk a=some b→w'.heap[b]?=w.heap[b]?)
  (hi:∀ b o,G.blk a=some b→G'.imm b o→G.imm b o) (ht:∀ b i,G.tl b=some (a,i)→G'.tl b=some (a,i)∧w'.heap[b]?=w.heap[b]?∧∀ o,G'.imm b o→G.imm b o):BSim w' G' L' a B:=by
 obtain ⟨a1,a2,a3⟩:=ha
 have hA:∀ {t:TypeId} {sz:Nat} {vw:Bool} {es:List AV},ASim w G a t sz vw es→ASim w' G' a t sz vw es:=fun k=>k.kept hI ⟨a1,a2,a3⟩ hb hi
 cases B with
 | box t fz v=>
  obtain ⟨b,c,h1,h2,h3,h4,h5,h6⟩:=h
  exact ⟨b,c,a2.trans h1,a1.trans h2,(hb b h2).trans h3,h4,fun j hj=>⟨(h5 j hj).1,(h5 j hj).2.mono hI hL⟩,fun o ho=>h6 o (hi b o h2 ho)⟩
 | arr t sz vw es=>
  obtain ⟨h0,h⟩:=h
  refine ⟨a2.trans h0,?_⟩
  rcases h with ⟨h1,h2⟩ | ⟨b,c,h1,h2,h3,h4,h5,h6,h7,h8⟩
  ·exact .inl ⟨a1.trans h1,h2⟩
  ·refine .inr ⟨b,c,a1.trans h1,(hb b h1).trans h2,by rw [a3];exact h3,h4,by rw [a3];exact h5,by rw [a3];exact h6,fun i hi'=>⟨(h7 i hi').1,fun j hj=>?_⟩,fun o ho=>h8 o (hi b o h1 ho)⟩
   obtain ⟨k1,k2⟩:=(h7 i hi').2 j hj
   exact ⟨k1,k2.mono hI fun _ e=>e.elim⟩
 | map es=>
  obtain ⟨b,en,ck,h1,h2,h3,h4,h5⟩:=h
  exact ⟨b,en,ck,a2.trans h1,a1.trans h2,(hb b h2).trans h3,h4,fun i hi'=>⟨(h5 i hi').1.mono hI fun _ e=>e.elim,(h5 i hi').2.mono hI hL⟩⟩
 | dead=>
  intro b hb'
  rw [a1] at hb'
  have h1:=h b hb'
  have h2:=hb b hb'
  rw [Array.getElem?_eq_getElem h1] at h2
  exact (Array.getElem?_eq_some_iff.1 h2).1
 | arq t sz k ti si out es=>
  obtain ⟨h1,h2,h3,h4⟩:=h
  refine ⟨hA h1,h2,h3,fun b c i q ks e1 e2 e3 e4 e5=>?_⟩
  rw [a1] at e1
  rw [hb b e1] at e2
  obtain ⟨b',cap,c',k1,k2,k3,k4,k5,k6,k7,k8⟩:=h4 b c i q ks e1 e2 e3 e4 e5
  obtain ⟨l1,l2,l3⟩:=ht b' i k2
  exact ⟨b',cap,c',k1,l1,l2.trans k3,k4,k5,k6,fun o ho=>k7 o (l3 o ho),fun j hj=>⟨(k8 j hj).1,fun j' hj'=>⟨((k8 j hj).2 j' hj').1,((k8 j hj).2 j' hj').2.mono hI fun _ e=>e.elim⟩⟩⟩
 | arv t sz es=>
  obtain ⟨h0,h⟩:=h
  refine ⟨a2.trans h0,?_⟩
  rcases h with ⟨h1,h2⟩ | ⟨b,c,h1,h2,h3,h4,h5,h6,h7,h8⟩
  ·exact .inl ⟨a1.trans h1,h2⟩
  ·refine .inr ⟨b,c,a1.trans h1,(hb b h1).trans h2,by rw [a3];exact h3,h4,by rw [a3];exact h5,by rw [a3];exact h6,fun i hi'=>⟨(h7 i hi').1,fun j hj=>?_⟩,fun o ho=>h8 o (hi b o h1 ho)⟩
   obtain ⟨k1,k2⟩:=(h7 i hi').2 j hj
   exact ⟨k1,k2.mono hI hL⟩
theorem BSim.ren_ {w:World} {G G':Gm} {L L':Loc→Prop} {a a':Loc} {B:Blk} (h:BSim w G L a B) {r:Loc→Loc} (hI:∀ b o,G'.imm b o↔G.imm b o)
  (hL:∀ q,L q→L' (r q)∧G'.blk (r q)=G.blk q∧G'.len (r q)=G.len q∧G'.cap (r q)=G.cap q)
  (ha:G'.blk a'=G.blk a∧G'.len a'=G.len a∧G'.cap a'=G.cap a) (ht:∀ b i,G.tl b=some (a,i)→G'.tl b=some (a',i)):BSim w G' L' a' (B.ren r):=by
 obtain ⟨a1,a2,a3⟩:=ha
 have hI1:∀ b o,G.imm b o→G'.imm b o:=fun b o=>(hI b o).2
 have hK:ImmKept w G w G':=fun b o hi=>⟨hI1 b o hi,rfl⟩
 have hA:∀ {t:TypeId} {sz:Nat} {vw:Bool} {es:List AV},ASim w G a t sz vw es→ASim w G' a' t sz vw es:=fun {t sz vw es} ⟨h0,h⟩=>by
  refine ⟨a2.trans h0,?_⟩
  rcases h with ⟨h1,h2⟩ | ⟨b,c,h1,h2,h3,h4,h5,h6,h7,h8⟩
  ·exact .inl ⟨a1.trans h1,h2⟩
  ·refine .inr ⟨b,c,a1.trans h1,h2,by rw [a3];exact h3,h4,by rw [a3];exact h5,by rw [a3];exact h6,fun i hi'=>⟨(h7 i hi').1,fun j hj=>?_⟩,fun o ho=>h8 o ((hI b o).1 ho)⟩
   obtain ⟨k1,k2⟩:=(h7 i hi').2 j hj
   exact ⟨k1,k2.mono hK fun _ e=>e.elim⟩
 cases B with
 | box t fz v=>
  obtain ⟨b,c,h1,h2,h3,h4,h5,h6⟩:=h
  obtain ⟨e1,e2⟩:=ren_cells r v
  exact ⟨b,c,a2.trans h1,a1.trans h2,h3,by rw [e1];exact h4,fun j hj=>⟨(h5 j hj).1,by rw [e2];exact (h5 j hj).2.ren_ hI1 hL⟩,fun o ho=>h6 o ((hI b o).1 ho)⟩
 | arr t sz vw es=>
  obtain ⟨h0,h⟩:=h
  refine ⟨a2.trans h0,?_⟩
  rcases h with ⟨h1,h2⟩ | ⟨b,c,h1,h2,h3,h4,h5,h6,h7,h8⟩
  ·exact .inl ⟨a1.trans h1,h2⟩
  ·refine .inr ⟨b,c,a1.trans h1,h2,by rw [a3];exact h3,h4,by rw [a3];exact h5,by rw [a3];exact h6,fun i hi'=>⟨(h7 i hi').1,fun j hj=>?_⟩,fun o ho=>h8 o ((hI b o).1 ho)⟩
   obtain ⟨k1,k2⟩:=(h7 i hi').2 j hj
   exact ⟨k1,k2.mono hK fun _ e=>e.elim⟩
 | map es=>
  obtain ⟨b,en,ck,h1,h2,h3,h4,h5⟩:=h
  refine ⟨b,en,ck,a2.trans h1,a1.trans h2,h3,by simpa using h4,fun i hi'=>?_⟩
  have hi:i < es.length:=by simpa using hi'
  have e:(es.map fun x=>(x.1,x.2.ren r)).getD i (.top,.top)=((es.getD i (.top,.top)).1,(es.getD i (.top,.top)).2.ren r):=by
   simp [List.getD_eq_getElem?_getD,hi]
  rw [e]
  exact ⟨(h5 i hi).1.mono hK fun _ e=>e.elim,(h5 i hi).2.ren_ hI1 hL⟩
 | dead=>
  intro b hb'
  rw [a1] at hb'
  exact h b hb'
 | arq t sz k ti si out es=>
  obtain ⟨h1,h2,h3,h4⟩:=h
  refine ⟨hA h1,h2,h3,fun b c i q ks e1 e2 e3 e4 e5=>?_⟩
  rw [a1] at e1
  obtain ⟨b',cap,c',k1,k2,k3,k4,k5,k6,k7,k8⟩:=h4 b c i q ks e1 e2 e3 e4 e5
  exact ⟨b',cap,c',k1,ht b' i k2,k3,k4,k5,k6,fun o ho=>k7 o ((hI b' o).1 ho),fun j hj=>⟨(k8 j hj).1,fun j' hj'=>⟨((k8 j hj).2 j' hj').1,((k8 j hj).2 j' hj').2.mono hK fun _ e=>e.elim⟩⟩⟩
 | arv t sz es=>
  obtain ⟨h0,h⟩:=h
  have hl:=rens_length r es
  refine ⟨by rw [hl];exact a2.trans h0,?_⟩
  rcases h with ⟨h1,h2⟩ | ⟨b,c,h1,h2,h3,h4,h5,h6,h7,h8⟩
  ·exact .inl ⟨a1.trans h1,by rw [h2];rfl⟩
  ·refine .inr ⟨b,c,a1.trans h1,h2,by rw [a3];exact h3,h4,by rw [a3,hl];exact h5,by rw [a3];exact h6,fun i hi'=>?_,fun o ho=>h8 o ((hI b o).1 ho)⟩
   rw [hl] at hi'
   rw [rens_get]
   obtain ⟨e1,e2⟩:=ren_cells r (es.getD i .top)
   refine ⟨by rw [e1];exact (h7 i hi').1,fun j hj=>?_⟩
   obtain ⟨k1,k2⟩:=(h7 i hi').2 j hj
   exact ⟨k1,by rw [e2];exact k2.ren_ hI1 hL⟩
theorem Sim.world {w w':World} {G:Gm} {h:Heap} (s:Sim w G h) (hs:w.heap.size≤w'.heap.size) (hb:∀ b,b < w.heap.size→w'.heap[b]?=w.heap[b]?):Sim w' G h where
 blk a B e:=by
  have hlt:∀ b,G.blk a=some b→b < w.heap.size:=fun b hb'=>by
   have hB:=s.blk a B e
   have key:∀ o,w.heap[b]?=some o→b < w.heap.size:=fun o ho=>(Array.getElem?_eq_some_iff.1 ho).1
   cases B with
   | box t fz v=>obtain ⟨b',c,_,h2,h3,_⟩:=hB;rw [hb'] at h2;injection h2 with h2;subst h2;exact key _ h3
   | arr t sz vw es=>
    obtain ⟨_,h⟩:=hB
    rcases h with ⟨h1,_⟩ | ⟨b',c,h1,h2,_⟩
    ·rw [hb'] at h1;cases h1
    ·rw [hb'] at h1;injection h1 with h1;subst h1;exact key _ h2
   | map es=>obtain ⟨b',en,ck,_,h2,h3,_⟩:=hB;rw [hb'] at h2;injection h2 with h2;subst h2;exact key _ h3
   | dead=>exact hB b hb'
   | arq t sz k ti si out es=>
    obtain ⟨_,h⟩:=hB.1
    rcases h with ⟨h1,_⟩ | ⟨b',c,h1,h2,_⟩
    ·rw [hb'] at h1;cases h1
    ·rw [hb'] at h1;injection h1 with h1;subst h1;exact key _ h2
   | arv t sz es=>
    obtain ⟨_,h⟩:=hB
    rcases h with ⟨h1,_⟩ | ⟨b',c,h1,h2,_⟩
    ·rw [hb'] at h1;cases h1
    ·rw [hb'] at h1;injection h1 with h1;subst h1;exact key _ h2
  refine (s.blk a B e).kept (fun b o hi=>⟨hi,?_⟩) (fun a ha=>⟨ha,Agree.refl G a⟩) ⟨rfl,rfl,rfl⟩ (fun b hb'=>hb b (hlt b hb')) (fun _ _ _ h=>h) fun b i ht=>⟨ht,hb b (s.prv b _ ht).1,fun _ ho=>ho⟩
  exact World.cell?_of_block (hb b (s.imm b o hi))
 inj:=s.inj
 imm b o hi:=Nat.lt_of_lt_of_le (s.imm b o hi) hs
 prv b x hx:=⟨Nat.lt_of_lt_of_le (s.prv b x hx).1 hs,(s.prv b x hx).2⟩
theorem Sim.lt {w:World} {G:Gm} {h:Heap} (s:Sim w G h) {a:Loc} {b:Nat} (ha:dom h a) (hb:G.blk a=some b):b < w.heap.size:=by
 obtain ⟨B,e⟩:=of_dom ha
 ·have hB:=s.blk a B e
  have key:∀ o,w.heap[b]?=some o→b < w.heap.size:=fun o ho=>(Array.getElem?_eq_some_iff.1 ho).1
  cases B with
  | box t fz v=>obtain ⟨b',c,_,h2,h3,_⟩:=hB;rw [hb] at h2;injection h2 with h2;subst h2;exact key _ h3
  | arr t sz vw es=>
   obtain ⟨_,h⟩:=hB
   rcases h with ⟨h1,_⟩ | ⟨b',c,h1,h2,_⟩
   ·rw [hb] at h1;cases h1
   ·rw [hb] at h1;injection h1 with h1;subst h1;exact key _ h2
  | map es=>obtain ⟨b',en,ck,_,h2,h3,_⟩:=hB;rw [hb] at h2;injection h2 with h2;subst h2;exact key _ h3
  | dead=>exact hB b hb
  | arq t sz k ti si out es=>
   obtain ⟨_,h⟩:=hB.1
   rcases h with ⟨h1,_⟩ | ⟨b',c,h1,h2,_⟩
   ·rw [hb] at h1;cases h1
   ·rw [hb] at h1;injection h1 with h1;subst h1;exact key _ h2
  | arv t sz es=>
   obtain ⟨_,h⟩:=hB
   rcases h with ⟨h1,_⟩ | ⟨b',c,h1,h2,_⟩
   ·rw [hb] at h1;cases h1
   ·rw [hb] at h1;injection h1 with h1;subst h1;exact key _ h2
theorem Sim.held {w:World} {G:Gm} {h:Heap} (s:Sim w G h) {b:Nat} (hb:Held G h b):b < w.heap.size:=by
 rcases hb with ⟨a,ha,e⟩ | e
 ·exact s.lt ha e
 ·cases hx:G.tl b with
  | none=>exact absurd hx e
  | some x=>exact (s.prv b x hx).1
theorem Goes.world {w w':World} {G:Gm} {h:Heap} (s:Sim w G h) (h1:w'.os=w.os) (h2:w'.tape=w.tape) (h3:w'.output=w.output) (hs:w.heap.size≤w'.heap.size)
  (hb:∀ b,b < w.heap.size→w'.heap[b]?=w.heap[b]?):Goes w G h w' G h:=
 ⟨h1,h2,h3,hs,fun b hlt _=>hb b hlt,fun b k _=>k,fun b o hi=>⟨hi,World.cell?_of_block (hb b (s.imm b o hi))⟩,
  fun a ha=>⟨ha,Agree.refl G a⟩,rfl,Nat.le_refl _,fun _ _ _ _ hi=>hi⟩
theorem Sim.update {w w':World} {G G':Gm} {h:Heap} {a:Loc} {B:Blk} (s:Sim w G h) (hda:dom h a)
  (hs:w.heap.size≤w'.heap.size) (hb:∀ b,b < w.heap.size→G.blk a≠some b→w'.heap[b]?=w.heap[b]?)
  (hG:∀ a',a'≠a→G'.blk a'=G.blk a'∧G'.len a'=G.len a'∧G'.cap a'=G.cap a') (hA:Agree G G' a)
  (hI:ImmKept w G w' G') (hIn:∀ b o,G'.imm b o→G.imm b o∨(G'.blk a=some b∧b < w'.heap.size))
  (hnw:∀ b,G'.blk a=some b→G.blk a=some b∨w.heap.size≤b)
  (hB:BSim w' G' (domTo (hset h a B) a.1) a B) (ht:G'.tl=G.tl:=by rfl):Sim w' G' (hset h a B) where
 blk a' B' e:=by
  rw [hget_hset] at e
  by_cases c:a'=a∧dom h a
  ·rw [if_pos c] at e
   injection e with e
   subst e
   rw [c.1]
   exact hB
  ·rw [if_neg c] at e
   have hne:a'≠a:=fun e=>c ⟨e,hda⟩
   have hda':dom h a':=dom_of e
   refine (s.blk a' B' e).kept hI (fun x hx=>⟨⟨hx.1,?_⟩,?_⟩) (hG a' hne) (fun b hb'=>?_) (fun b o hb' hi=>?_) fun b i hx=>⟨by rw [ht];exact hx,hb b (s.prv b _ hx).1 ((s.prv b _ hx).2 a hda),fun o hi=>?_⟩
   rotate_left 4
   ·rcases hIn b o hi with hi | ⟨hi,_⟩
    ·exact hi
    ·rcases hnw b hi with hi | hi
     ·exact absurd hi ((s.prv b _ hx).2 a hda)
     ·have:=(s.prv b _ hx).1;omega
   ·exact (dom_hset h a x B).2 hx.2
   ·by_cases hx:x=a
    ·subst hx;exact hA
    ·exact .inl (hG x hx)
   ·refine hb b (s.lt hda' hb') fun e=>hne (s.inj a' a b hda' hda hb' e)
   ·rcases hIn b o hi with hi | ⟨hi,_⟩
    ·exact hi
    ·rcases hnw b hi with hi | hi
     ·exact absurd (s.inj a' a b hda' hda hb' hi) hne
     ·have:=s.lt hda' hb';omega
 inj x y b hx hy ex ey:=by
  rw [dom_hset] at hx hy
  by_cases hxa:x=a
  ·by_cases hya:y=a
   ·rw [hxa,hya]
   ·subst hxa
    rw [(hG y hya).1] at ey
    rcases hnw b ex with e | e
    ·exact s.inj x y b hx hy e ey
    ·have:=s.lt hy ey;omega
  ·by_cases hya:y=a
   ·subst hya
    rw [(hG x hxa).1] at ex
    rcases hnw b ey with e | e
    ·exact s.inj x y b hx hy ex e
    ·have:=s.lt hx ex;omega
   ·rw [(hG x hxa).1] at ex
    rw [(hG y hya).1] at ey
    exact s.inj x y b hx hy ex ey
 imm b o hi:=by
  rcases hIn b o hi with hi | ⟨_,hi⟩
  ·exact Nat.lt_of_lt_of_le (s.imm b o hi) hs
  ·exact hi
 prv b x hx:=by
  rw [ht] at hx
  obtain ⟨k1,k2⟩:=s.prv b x hx
  refine ⟨Nat.lt_of_lt_of_le k1 hs,fun y hy e=>?_⟩
  rw [dom_hset] at hy
  by_cases c:y=a
  ·subst c
   rcases hnw b e with e | e
   ·exact k2 y hy e
   ·omega
  ·rw [(hG y c).1] at e
   exact k2 y hy e
theorem Goes.update {w w':World} {G G':Gm} {h:Heap} {a:Loc} {B:Blk} (hda:dom h a)
  (h1:w'.os=w.os) (h2:w'.tape=w.tape) (h3:w'.output=w.output)
  (hs:w.heap.size≤w'.heap.size) (hb:∀ b,b < w.heap.size→G.blk a≠some b→w'.heap[b]?=w.heap[b]?)
  (hG:∀ a',a'≠a→G'.blk a'=G.blk a'∧G'.len a'=G.len a'∧G'.cap a'=G.cap a') (hA:Agree G G' a)
  (hI:ImmKept w G w' G') (hnw:∀ b,G'.blk a=some b→G.blk a=some b∨w.heap.size≤b)
  (hni:∀ b o,G'.imm b o→G.imm b o∨G.blk a=some b) (ht:G'.tl=G.tl:=by rfl):Goes w G h w' G' (hset h a B) where
 os:=h1
 tape:=h2
 output:=h3
 size:=hs
 heap b hlt hn:=hb b hlt fun e=>hn (.of hda e)
 img b hk hlt:=by
  rcases hk with ⟨x,hx,e⟩ | hk
  ·rw [dom_hset] at hx
   by_cases c:x=a
   ·subst c
    rcases hnw b e with e | e
    ·exact .of hx e
    ·omega
   ·rw [(hG x c).1] at e
    exact .of hx e
  ·rw [ht] at hk
   exact .inr hk
 imm:=hI
 loc x hx:=by
  refine ⟨(dom_hset h a x B).2 hx,?_⟩
  by_cases c:x=a
  ·subst c;exact hA
  ·exact .inl (hG x c)
 depth:=hset_length h a B
 frame:=by rw [hlen_hset];exact Nat.le_refl _
 nimm b o _ hn hi:=(hni b o hi).resolve_right fun e=>hn (.of hda e)
def Gm.at_ (G:Gm) (a:Loc) (b:Option Nat) (n:Option Nat) (c:Nat):Gm:=
 { G with blk:=fun x=>if x=a then b else G.blk x,len:=fun x=>if x=a then n else G.len x,cap:=fun x=>if x=a then c else G.cap x }
def Gm.still (G:Gm) (q:Nat→Nat→Prop):Gm:={ G with imm:=fun b o=>G.imm b o∨q b o }
theorem Sim.new_ {w w':World} {G:Gm} {h:Heap} {B:Blk} {b n:Option Nat} {c:Nat} (s:Sim w G h) (hn:h≠[])
  (hs:w.heap.size≤w'.heap.size) (hb:∀ k,k < w.heap.size→w'.heap[k]?=w.heap[k]?) (hnw:∀ k,b=some k→¬ Held G h k)
  (hB:BSim w' (G.at_ (hnext h) b n c) (domTo (hnew h B) (hnext h).1) (hnext h) B):Sim w' (G.at_ (hnext h) b n c) (Ab.hnew h B):=by
 have hfresh:=hnext_fresh h
 have hne:∀ a,dom h a→a≠hnext h:=fun a ha e=>by rw [e] at ha;unfold dom at ha;rw [hfresh] at ha;cases ha
 have hG:∀ a',a'≠hnext h→(G.at_ (hnext h) b n c).blk a'=G.blk a'∧(G.at_ (hnext h) b n c).len a'=G.len a'∧(G.at_ (hnext h) b n c).cap a'=G.cap a':=fun a' e=>by
  simp [Gm.at_,e]
 have hI:ImmKept w G w' (G.at_ (hnext h) b n c):=fun k o hi=>⟨hi,World.cell?_of_block (hb k (s.imm k o hi))⟩
 refine ⟨fun a' B' e=>?_,fun x y k hx hy ex ey=>?_,fun k o hi=>Nat.lt_of_lt_of_le (s.imm k o hi) hs,fun k x hx=>⟨Nat.lt_of_lt_of_le (s.prv k x hx).1 hs,fun q hq e=>?_⟩⟩
 rotate_left 2
 ·rw [dom_hnew hn] at hq
  by_cases ca:q=hnext h
  ·refine hnw k (by simpa [Gm.at_,ca] using e) (.inr ?_)
   have:G.tl k=some x:=hx
   rw [this];simp
  ·rw [(hG q ca).1] at e
   exact (s.prv k x hx).2 q (hq.resolve_left ca) e
 ·rw [hget_hnew h a' B hn] at e
  by_cases ha:a'=hnext h
  ·rw [if_pos ha] at e
   injection e with e
   subst e
   rw [ha]
   exact hB
  ·rw [if_neg ha] at e
   have hda':dom h a':=dom_of e
   refine (s.blk a' B' e).kept hI (fun x hx=>⟨⟨hx.1,?_⟩,.inl (hG x (hne x hx.2))⟩) (hG a' ha) (fun k hk=>hb k (s.lt hda' hk)) (fun k o _ hi=>hi) fun k i hk=>⟨hk,hb k (s.prv k _ hk).1,fun _ ho=>ho⟩
   exact (dom_hnew hn x B).2 (.inr hx.2)
 ·rw [dom_hnew hn] at hx hy
  by_cases ca:x=hnext h
  ·by_cases cb:y=hnext h
   ·rw [ca,cb]
   ·have hy':=hy.resolve_left cb
    rw [(hG y cb).1] at ey
    exact absurd (.of hy' ey) (hnw k (by simpa [Gm.at_,ca] using ex))
  ·have hx':=hx.resolve_left ca
   rw [(hG x ca).1] at ex
   by_cases cb:y=hnext h
   ·exact absurd (.of hx' ex) (hnw k (by simpa [Gm.at_,cb] using ey))
   ·rw [(hG y cb).1] at ey
    exact s.inj x y k hx' (hy.resolve_left cb) ex ey
theorem Sim.new {w w':World} {G:Gm} {h:Heap} {B:Blk} {b n:Option Nat} {c:Nat} (s:Sim w G h) (hn:h≠[])
  (hs:w.heap.size≤w'.heap.size) (hb:∀ k,k < w.heap.size→w'.heap[k]?=w.heap[k]?) (hnw:∀ k,b=some k→w.heap.size≤k)
  (hB:BSim w' (G.at_ (hnext h) b n c) (domTo (hnew h B) (hnext h).1) (hnext h) B):Sim w' (G.at_ (hnext h) b n c) (Ab.hnew h B):=
 s.new_ hn hs hb (fun k hk e=>by have h1:=s.held e;have h2:=hnw k hk;omega) hB
theorem Goes.name {w0 w:World} {G0 G:Gm} {h0 h:Heap} {B:Blk} {b:Nat} {n:Option Nat} {c:Nat} (g:Goes w0 G0 h0 w G h) (hn:h≠[]) (hb:w0.heap.size≤b):Goes w0 G0 h0 w (G.at_ (hnext h) (some b) n c) (Ab.hnew h B) where
 os:=g.os
 tape:=g.tape
 output:=g.output
 size:=g.size
 heap:=g.heap
 img k hh hk:=by
  rcases hh with ⟨x,hx,e⟩ | hh
  ·rw [dom_hnew hn] at hx
   by_cases ca:x=hnext h
   ·simp [Gm.at_,ca] at e
    omega
   ·exact g.img k (.of (hx.resolve_left ca) (by simpa [Gm.at_,ca] using e)) hk
  ·exact g.img k (.inr hh) hk
 imm:=g.imm
 loc x hx:=by
  obtain ⟨k1,k2⟩:=g.loc x hx
  refine ⟨(dom_hnew hn x B).2 (.inr k1),k2.trans (.inl ?_)⟩
  have:x≠hnext h:=fun e=>by rw [e] at k1;unfold dom at k1;rw [hnext_fresh h] at k1;cases k1
  simp [Gm.at_,this]
 depth:=(hnew_length h B).trans g.depth
 frame:=Nat.le_trans g.frame (hlen_hnew h B)
 nimm:=g.nimm
theorem Goes.new {w w':World} {G:Gm} {h:Heap} {B:Blk} {b n:Option Nat} {c:Nat} (s:Sim w G h) (hn:h≠[])
  (h1:w'.os=w.os) (h2:w'.tape=w.tape) (h3:w'.output=w.output)
  (hs:w.heap.size≤w'.heap.size) (hb:∀ k,k < w.heap.size→w'.heap[k]?=w.heap[k]?) (hnw:∀ k,b=some k→w.heap.size≤k) :
  Goes w G h w' (G.at_ (hnext h) b n c) (Ab.hnew h B):=by
 have hfresh:=hnext_fresh h
 have hne:∀ a,dom h a→a≠hnext h:=fun a ha e=>by rw [e] at ha;unfold dom at ha;rw [hfresh] at ha;cases ha
 refine ⟨h1,h2,h3,hs,fun k hlt _=>hb k hlt,fun k hh hlt=>?_,fun k o hi=>⟨hi,World.cell?_of_block (hb k (s.imm k o hi))⟩,fun x hx=>⟨(dom_hnew hn x B).2 (.inr hx),?_⟩,
  hnew_length h B,hlen_hnew h B,fun _ _ _ _ hi=>hi⟩
 ·rcases hh with ⟨x,hx,e⟩ | hh
  ·rw [dom_hnew hn] at hx
   by_cases ca:x=hnext h
   ·have h3:=hnw k (by simpa [Gm.at_,ca] using e)
    omega
   ·exact .of (hx.resolve_left ca) (by simpa [Gm.at_,ca] using e)
  ·exact .inr hh
 ·have:=hne x hx
  exact .inl (by simp [Gm.at_,this])
theorem Sim.still {w:World} {G:Gm} {h:Heap} (s:Sim w G h) {q:Nat→Nat→Prop} (hq:∀ b o,q b o→b < w.heap.size∧¬ Held G h b):Sim w (G.still q) h where
 blk a B e:=by
  have hda:dom h a:=dom_of e
  refine (s.blk a B e).kept (fun b o hi=>⟨.inl hi,rfl⟩) (fun x hx=>⟨hx,.inl ⟨rfl,rfl,rfl⟩⟩) ⟨rfl,rfl,rfl⟩ (fun _ _=>rfl) (fun b o hb hi=>?_) fun b i hb=>⟨hb,rfl,fun o hi=>?_⟩
  ·rcases hi with hi | hi
   ·exact hi
   ·exact absurd (.of hda hb) (hq b o hi).2
  ·rcases hi with hi | hi
   ·exact hi
   ·exact absurd (.inr (by rw [hb];simp)) (hq b o hi).2
 inj:=s.inj
 imm b o hi:=hi.elim (s.imm b o) fun hi=>(hq b o hi).1
 prv:=s.prv
theorem Goes.still {w w':World} {G:Gm} {h:Heap} (g:Goes w G h w' G h) {q:Nat→Nat→Prop} (hq:∀ b o,q b o→w.heap.size≤b):Goes w G h w' (G.still q) h where
 os:=g.os
 tape:=g.tape
 output:=g.output
 size:=g.size
 heap:=g.heap
 img:=g.img
 imm b o hi:=⟨.inl (g.imm b o hi).1,(g.imm b o hi).2⟩
 loc a ha:=⟨ha,.inl ⟨rfl,rfl,rfl⟩⟩
 depth:=rfl
 frame:=Nat.le_refl _
 nimm b o hb _ hi:=hi.elim id fun hi=>by have:=hq b o hi;omega
end Go.Ab
/-
  From the model's code to the compact code.
-/
namespace Go.Ab
def ofV1:Value→AV
 | .bool b=>.bool b
 | .int k n=>.int k n
 | .string s=>.str s.data.toList
 | .pointer none=>.nilp
 | .slice none 0 0=>.nils
 | .map none=>.nilm
 | .nilFunc=>.nilf
 | .nilIface=>.nili
 | _=>.top
def ofV:Value→AV
 | .agg cs=>if cs.all Value.oneCell' then .agg (cs.toList.map ofV1) else .top
 | v=>ofV1 v
def cOpd:Operand→Option Opd
 | .tmp t=>some (.t t)
 | .const v=>some (.c (ofV v))
 | .func f=>some (.c (.fn (.func f) [] []))
 | .global _=>none
def cOpds:List Operand→Option (List Opd)
 | []=>some []
 | x :: r=>match cOpd x,cOpds r with
  | some y,some s=>some (y :: s)
  | _,_=>none
def cOpdO:Option Operand→Option (Option Opd)
 | none=>some none
 | some x=>match cOpd x with
  | some y=>some (some y)
  | none=>none
def shapeOf (P:Program) (t:TypeId):Option (Bool×Nat):=
 match P.underlying t,P.info? t with
 | some d,some i=>some (match d with | .struct _ | .array _ _=>true | _=>false,i.size)
 | _,_=>none
def zeroOf (P:Program) (t:TypeId):Option AV:=
 match P.info? t with
 | some i=>match i.zero with
  | some z=>if (ofV z).cells.length=i.size then some (ofV z) else none
  | none=>none
 | none=>none
def fieldOf (P:Program) (t:TypeId) (i:Nat):Option (Nat×TypeId):=
 match P.underlying t with
 | some (.struct fs)=>match fs[i]? with
  | some f=>some (f.offset,f.type)
  | none=>none
 | _=>none
def NoEsc (s : String) : Prop := Extern.allGenericRows.lookup s = none ∧ Extern.allTypedRows.lookup s = none ∧ Extern.allRows.lookup s = some Extern.AbiNoEscape.same ∧ Extern.allNextRows.lookup s = none ∧ (s == "runtime.NumGoroutine") = false
structure Hints where
  mat:FuncId→Nat→Bool
  own:FuncId→Nat→Bool
  quiet:FuncId→Bool
  live:FuncId→Nat→List Nat
  draw:FuncId→Nat→List (Nat×List Nat×List Nat):=fun _ _=>[]
  noEsc:Option String:=none
  noEscOk:∀ s, noEsc=some s→NoEsc s:=by simp
  boxk:FuncId→Nat→Option Nat:=fun _ _=>none
  ldq:FuncId→Nat→Bool:=fun _ _=>false
  stq:FuncId→Nat→Bool:=fun _ _=>false
  mkq:FuncId→Nat→Option (Nat×TypeId×Nat):=fun _ _=>none
  mkv:FuncId→Nat→Bool:=fun _ _=>false
  stv:FuncId→Nat→Bool:=fun _ _=>false
  boxv:FuncId→Nat→Option Nat:=fun _ _=>none
  inv:List TypeId:=[]
  nilm:FuncId→Nat→Option String:=fun _ _=>none
  kept:FuncId→Bool:=fun _=>false
  dfr:FuncId→Bool:=fun _=>false
def hintAt (m:FuncId→Nat→Bool) (f:FuncId):Option Nat→Bool
 | some d=>m f d
 | none=>false
def tmpOf:Operand→Option Nat
 | .tmp d=>some d
 | _=>none
def nilKind:TypeDesc→Operand→Option NK
 | .slice _,.const (.slice none 0 0)=>some .slice
 | .pointer _,.const (.pointer none)=>some .ptr
 | .func _ _ _,.const .nilFunc=>some .func
 | .interface _,.const .nilIface=>some .iface
 | .map _ _,.const (.map none)=>some .map
 | _,_=>none
def placesOf (P:Program) (t:TypeId):Option (Nat→Option (Nat×Nat)):=
 match P.info? t,P.underlying t with
 | some _,some (.array _ e)=>match P.info? e with
  | some ie=>some fun i=>some (i * ie.size,ie.size)
  | none=>none
 | some _,some (.struct fields)=>match fields.toList.mapM (fun f=>(P.info? f.type).map fun i=>(f.offset,i.size)) with
  | some places=>some fun i=>places.toArray[i]?
  | none=>none
 | _,_=>none
def partsOf (pl:Nat→Option (Nat×Nat)):List (Nat×Operand)→Option (List (Nat×Nat×Opd))
 | []=>some []
 | (i,x) :: r=>match cOpd x,partsOf pl r,pl i with
  | some y,some s,some (off,sz)=>some ((off,sz,y) :: s)
  | _,_,_=>none
def partsS:List (Nat×Operand)→Option (List (Nat×Opd))
 | []=>some []
 | (i,x) :: r=>match cOpd x,partsS r with
  | some y,some s=>some ((i,y) :: s)
  | _,_=>none
def fKind (P:Program) (t:TypeId):Option FK:=match P.underlying t with
 | some .bool=>some .bool
 | some (.int _)=>some .int
 | some .string=>some .str
 | _=>none
def fKinds (P:Program):Nat→List Field→Option (List FK)
 | _,[]=>some []
 | i, f :: r => if f.offset = i ∧ f.name ≠ "_" ∧ shapeOf P f.type = some (false, 1) then (match fKind P f.type, fKinds P (i + 1) r with
  | some k,some s=>some (k :: s)
  | _,_=>none) else none
def flatEq (P:Program) (t:TypeId):Option (List FK):=match P.underlying t with
 | some (.struct fs)=>if P.stoodInHeld t=false∧P.eqGuardType P.depth t=false then fKinds P 0 fs.toList else none
 | _=>none
def keyK (P:Program) (t:TypeId):Option KK:=match fKind P t with
 | some k=>if shapeOf P t=some (false,1) then some (.one k) else none
 | none=>match flatEq P t with
  | some ks=>some (.st ks)
  | none=>none
def isSame (P:Program) (noEsc:Option String):Operand→Bool
 | .func f=>match P.funcs[f]? with
  | some fn => fn.body.isNone && some fn.name == noEsc && fn.origin == ""
  | none=>false
 | _=>false
def rowOf (P:Program) (name:String) (t:TypeId):Option FuncId:=match P.info? t,P.underlying t with
 | some i,some d=>(match d with
  | .pointer _=>none
  | _=>match i.methods.find? (·.name == name) with
   | some m=>if m.path=#[] then (match m.func with
    | some (g,false)=>some g
    | _=>none) else none
   | none=>none)
 | _,_=>none
def hintName (m:FuncId→Nat→Option String) (f:FuncId) (d:Option Nat):Option String:=match d with
 | some d=>m f d
 | none=>none
def tblOf (P:Program) (name:String) (ts:List TypeId):List (TypeId×FuncId):=ts.filterMap fun t=>(rowOf P name t).map fun g=>(t,g)
def cOp (P:Program) (H:Hints) (f:FuncId) (o:Oper):COp:=
 match o.op with
 | .move x=>match cOpd x with
  | some y=>.p (.mv y)
  | none=>.bad
 | .assign x=>match cOpd x with
  | some y=>if hintAt H.mat f o.dst then .m (.mat y) else .p (.mv y)
  | none=>.bad
 | .pick c a b=>match cOpd c,cOpd a,cOpd b with
  | some c,some a,some b=>.p (.pick c a b)
  | _,_,_=>.bad
 | .alloc t=>match shapeOf P t,zeroOf P t with
  | some (_,sz),some z=>if 0 < sz then .m (.alloc t z (hintAt H.own f o.dst)) else (match z with
   | .agg []=>.m (.al0 t)
   | _=>.bad)
  | _,_=>.bad
 | .box t x=>match cOpd x,shapeOf P t with
  | some y,some (_,sz)=>if 0 < sz then .m (match o.dst.bind (H.boxv f) with
   | some k=>.boxV t sz k y
   | none=>match o.dst.bind (H.boxk f) with
   | some k=>.boxK t sz k y
   | none=>.box t sz y) else .bad
  | _,_=>.bad
 | .build t ps=>match zeroOf P t,placesOf P t with
  | some (.agg z),some pl=>(match partsOf pl ps.toList with
   | some s=>.p (.bld z s)
   | none=>.bad)
  | _,_=>.bad
 | .buildSlice t n ps=>match P.underlying t with
  | some (.slice e)=>(match shapeOf P e,zeroOf P e,partsS ps.toList with
   | some (_,sz),some z,some s=>if n * sz≤2 ^ 24∧0 < sz then .m (.bldS e sz n z s (hintAt H.own f o.dst)) else .bad
   | _,_,_=>.bad)
  | _=>.bad
 | .load t x=>match cOpd x,shapeOf P t with
  | some y,some (ag,sz)=>if hintAt H.ldq f o.dst then (if ag=false∧sz=1 then .m (.ldQ y) else .bad) else if 0 < sz then .m (.load ag sz y) else .bad
  | _,_=>.bad
 | .store t a x=>match cOpd a,cOpd x,shapeOf P t with
  | some b,some y,some (ag,sz)=>if hintAt H.stv f (tmpOf a) then (if 0 < sz then .m (.stV sz b y) else .bad) else if hintAt H.stq f (tmpOf a) then (if ag=false∧sz=1 then .m (.stQ b y) else .bad) else if 0 < sz then .m (.store sz (hintAt H.mat f (tmpOf a)) b y) else if sz=0 then .m (.st0 b y) else .bad
  | _,_,_=>.bad
 | .nilCheck x=>match cOpd x with
  | some y=>(match hintName H.nilm f o.dst with
   | some nm=>.p (.nilckM nm (H.inv.filter fun t=>(rowOf P nm t).isSome) y)
   | none=>.p (.nilck y))
  | none=>.bad
 | .binOp b t x y _=>
  match cOpd x,cOpd y with
  | some x',some y'=>
   (match P.underlying t with
    | some (.int _)=>.p (.bin b x' y')
    | some .string=>.p (.bin b x' y')
    | some .bool=>(match b with
     | .eql=>.p (.eqB false x' y')
     | .neq=>.p (.eqB true x' y')
     | _=>.bad)
    | some d=>(match nilKind d y with
     | some k=>(match b with
      | .eql=>.p (.eqN k false x')
      | .neq=>.p (.eqN k true x')
      | _=>.bad)
     | none=>(match d with
      | .pointer te=>(match P.info? te with
       | some _=>(match b with
        | .eql=>.p (.eqP false x' y')
        | .neq=>.p (.eqP true x' y')
        | _=>.bad)
       | none=>.bad)
      | .struct _=>(match flatEq P t with
       | some ks=>(match b with
        | .eql=>.p (.eqA false ks x' y')
        | .neq=>.p (.eqA true ks x' y')
        | _=>.bad)
       | none=>.bad)
      | _=>.bad))
    | _=>.bad)
  | _,_=>.bad
 | .unOp u _ x=>match cOpd x,u with
  | some y,.not=>.p (.not y)
  | some y,.neg=>.p (.neg y)
  | _,_=>.bad
 | .convert s d x=>match cOpd x,P.underlying s,P.underlying d with
  | some y,some (.int _),some (.int k)=>.p (.cvI k y)
  | some y,some .string,some .string=>.p (.cvS y)
  | some y,some (.slice e),some .string=>(match P.underlying e with
   | some (.int .u8)=>.m (.b2s y)
   | _=>.bad)
  | some y,some .string,some (.slice e)=>(match P.underlying e with
   | some (.int .u8)=>.m (.s2b y)
   | _=>.bad)
  | some y,some (.pointer t),some .unsafePointer=>(match P.info? t with
   | some j=>if 0 < j.size then .m (.cvU y) else .bad
   | none=>.bad)
  | some y,some .unsafePointer,some (.pointer u)=>(match P.info? u with
   | some j=>if liesAt P P.depth u 1 0 u 1=true∧P.cellsOf u=j.size∧0 < j.size then .m (.cvP u j.size y) else .bad
   | none=>.bad)
  | _,_,_=>.bad
 | .makeInterface t x=>match cOpd x,P.underlying t with
  | some _,some (.interface _)=>.bad
  | some y,some _=>.p (.mkI t y)
  | _,_=>.bad
 | .makeFunc fn a b=>match cOpds a.toList,cOpds b.toList with
  | some a,some b=>.p (.mkF fn a b)
  | _,_=>.bad
 | .makeMap t r=>match r with
  | none=>.m .mkM
  | some (.const (.int _ _))=>(match P.underlying t with
   | some (.map _ _)=>.m .mkM
   | _=>.bad)
  | _=>.bad
 | .lookup t x k ok=>match cOpd x,cOpd k,P.underlying t with
  | some x,some k,some (.map kt et)=>(match keyK P kt,zeroOf P et with
   | some kk,some z=>.m (.lkp kk z ok x k)
   | _,_=>.bad)
  | _,_,_=>.bad
 | .mapUpdate t x k v=>match cOpd x,cOpd k,cOpd v,P.underlying t with
  | some x,some k,some v,some (.map kt _)=>(match keyK P kt with
   | some kk=>.m (.mup kk x k v)
   | none=>.bad)
  | _,_,_,_=>.bad
 | .insert t x k v=>match cOpd x,cOpd k,cOpd v,P.underlying t with
  | some x,some k,some v,some (.map kt _)=>(match keyK P kt with
   | some kk=>.m (.mup kk x k v)
   | none=>.bad)
  | _,_,_,_=>.bad
 | .makeSlice t l c=>match P.underlying t,cOpd l,cOpd c with
  | some (.slice e),some l,some c=>(match P.info? e,zeroOf P e with
   | some i,some z=>if 0 < i.size then .m (if hintAt H.mkv f o.dst then .mkSV e i.size i.bytes z l c else match o.dst.bind (H.mkq f) with
    | some (_,ti,si)=>.mkSQ e i.size i.bytes z l c ti si
    | none=>.mkS e i.size i.bytes z l c) else .bad
   | _,_=>.bad)
  | _,_,_=>.bad
 | .slice t x lo hi mx=>match P.underlying t,cOpd x,cOpdO lo,cOpdO hi,cOpdO mx with
  | some .string,some y,some lo,some hi,some none=>.p (.slS y lo hi)
  | some (.slice e),some y,some lo,some hi,some mx=>(match shapeOf P e with
   | some (_,sz)=>.m (.slL sz y lo hi mx)
   | none=>.bad)
  | some (.array n e),some y,some lo,some hi,some none=>(match shapeOf P e with
   | some (_,sz)=>.m (.slA n sz y lo hi)
   | none=>.bad)
  | _,_,_,_,_=>.bad
 | .fieldAddr t x i=>match cOpd x,fieldOf P t i with
  | some y,some (off,ft)=>(match shapeOf P ft with
   | some (_,sz)=>if 0 < sz then .p (.fa off y) else .bad
   | none=>.bad)
  | _,_=>.bad
 | .field t x i=>match cOpd x,fieldOf P t i with
  | some y,some (off,ft)=>(match shapeOf P ft with
   | some (ag,sz)=>.p (.fld ag off sz y)
   | none=>.bad)
  | _,_=>.bad
 | .indexAddr t x i=>match cOpd x,cOpd i,P.underlying t with
  | some y,some j,some (.array n e)=>(match shapeOf P e with
   | some (_,sz)=>.p (.iaA n sz y j)
   | none=>.bad)
  | some y,some j,some (.slice e)=>(match shapeOf P e with
   | some (_,sz)=>.p (.iaS sz y j)
   | none=>.bad)
  | _,_,_=>.bad
 | .index t x i=>match cOpd x,cOpd i,P.underlying t with
  | some y,some j,some (.array n e)=>(match shapeOf P e with
   | some (ag,sz)=>.p (.ixA ag n sz y j)
   | none=>.bad)
  | some y,some j,some .string=>.p (.ixS y j)
  | _,_,_=>.bad
 | .typeAssert x _ t ok=>match cOpd x,P.underlying t,zeroOf P t with
  | some _,some (.interface _),_=>.bad
  | some y,some _,some z=>.p (.tyA t ok z y)
  | _,_,_=>.bad
 | .extract x i=>match cOpd x with
  | some y=>.p (.ext y i)
  | none=>.bad
 | .call c=>match c.callee,cOpds c.args.toList with
  | .value g,some xs=>if isSame P H.noEsc g=true then (match xs with
    | [x]=>.p (.mv x)
    | _=>.bad)
   else (match cOpd g with
   | some g=>.m (.call g xs)
   | none=>.bad)
  | .invoke r name,some xs=>(match cOpd r with
   | some r=>.m (.inv (tblOf P name H.inv) r xs)
   | none=>.bad)
  | .builtin .unsafeSliceData,some [x]=>(match P.underlying o.type with
   | some (.pointer _)=>.m (.usd x)
   | _=>.bad)
  | .builtin .unsafeString,some [x,k]=>(match c.argTypes.toList with
   | [pt,_]=>(match P.underlying pt with
    | some (.pointer e)=>if P.cellsOf e=1 then .m (.ustr e x k) else .bad
    | _=>.bad)
   | _=>.bad)
  | .builtin .len,some [x]=>(match c.argTypes[0]? with
   | some t=>(match P.underlying t with
    | some .string=>.p (.len false x)
    | some (.slice _)=>.p (.len true x)
    | some (.map _ _)=>.m (.lenM x)
    | _=>.bad)
   | none=>.bad)
  | .builtin .max,some xs=>.p (.mm true xs)
  | .builtin .min,some xs=>.p (.mm false xs)
  | .builtin .append,some [s,x]=>(match c.argTypes[0]?,c.argTypes[1]? with
   | some t,some u=>(match P.underlying t,P.underlying u with
    | some (.slice e),some (.slice e')=>(match P.info? e,zeroOf P e with
     | some i,some _=>if 0 < i.size∧t=u then .m (if hintAt H.mkv f o.dst then .appV e i.size i.bytes s x else match o.dst.bind (H.mkq f) with
      | some (k,ti,si)=>.appQ e i.size i.bytes k ti si s x
      | none=>.app e i.size i.bytes s x) else .bad
     | _,_=>.bad)
    | some (.slice e),some .string=>(match P.info? e,zeroOf P e with
     | some i,some _=>if i.size=1 then .m (.appS e i.bytes s x) else .bad
     | _,_=>.bad)
    | _,_=>.bad)
   | _,_=>.bad)
  | _,_=>.bad
 | .panic x=>match cOpd x with
  | some y=>.m (.pan y)
  | none=>.bad
 | _=>.bad
def cGuard (ops:Array Oper):Option (Nat×Bool)→Option (Option (Nat×Bool))
 | none=>some none
 | some (j,b)=>match (ops[j]?).bind (·.dst) with
  | some t=>some (some (t,b))
  | none=>none
def inN (N:Nat):Option Nat→Bool
 | some d=>decide (d < N)
 | none=>true
def cOper (P:Program) (H:Hints) (f:FuncId) (N:Nat) (ops:Array Oper) (o:Oper):CO:=
 match cGuard ops o.guard with
 | none=>{ dst:=o.dst,gd:=none,op:=.bad }
 | some g=>if inN N o.dst then { dst:=o.dst,gd:=g,op:=cOp P H f o } else { dst:=o.dst,gd:=none,op:=.bad }
def isAl (c:CO):Bool:=match c with
 | { dst:=some _,gd:=none,op:=.m (.alloc _ _ false) }=>true
 | _=>false
def pairOk (q p:DO):Bool:=
 p.ix != q.ix &&
 (q.anc.contains p.ix ||
  ((match p.co.dst with
   | some t=>!(q.looks.contains t)
   | none=>true) &&
  (match q.co.dst with
   | some t=>!(p.looks.contains t)
   | none=>true) &&
  (!(loud p.co) || isAl q.co) && (!(loud q.co && quietC p.co) || q.re.contains p.ix))) &&
 (match p.co.dst,q.co.dst with
  | some t,some u=>t != u
  | _,_=>true)
def looksOk (d:DO):List DO→Bool
 | []=>true
 | c :: r=>(!(isAl c.co) || (match c.co.dst with
   | some t=>!(d.looks.contains t) || r.all (fun b=>!(loud b.co) || d.anc.contains b.ix)
   | none=>true)) && looksOk d r
def okD (ops:Array Oper):List DO→List DO→Bool
 | [],seen=>(List.range ops.size).all fun i=>seen.any fun s=>s.ix == i
 | d :: r,seen=>(match ops[d.ix]? with
  | none=>false
  | some o=>o.after.toList.all (fun e=>!(Region.binds .any e) || seen.any (fun s=>s.ix == e.on)) &&
    d.anc.all (fun i=>o.after.toList.any (fun e=>Region.binds .any e && (e.on == i || seen.any (fun s=>s.ix == e.on && s.anc.contains i))))) &&
   seen.all (pairOk d) && (looksOk d seen && okD ops r (d :: seen))
def cDO (P:Program) (H:Hints) (f:FuncId) (N:Nat) (ops:Array Oper) (x:Nat×List Nat×List Nat):DO:=
 match ops[x.1]? with
 | some o=>{ co:=cOper P H f N ops o,ix:=x.1,looks:=o.looksAt ops,anc:=x.2.1,re:=x.2.2 }
 | none=>{ co:={ dst:=none,gd:=none,op:=.bad },ix:=x.1,looks:=[],anc:=[],re:=[] }
def bare (d:DO):DO:={ d with anc:=[] }
def cDraw (P:Program) (H:Hints) (f:FuncId) (N:Nat) (ops:Array Oper) (hs:List (Nat×List Nat×List Nat)):CC:=
 if P.follows .mixedOrders=true∧okD ops (hs.map (cDO P H f N ops)) []=true then .draw ((hs.map (cDO P H f N ops)).map bare) else .bad
def firstReg:Code→Nat
 | .region id _ _=>id
 | .seq a _=>firstReg a
 | .block _ a=>firstReg a
 | .loop a=>firstReg a
 | .scope a=>firstReg a
 | .cond _ a _=>firstReg a
 | _=>0
def cCode (P:Program) (H:Hints) (f:FuncId) (N:Nat):Code→CC
 | .skip=>.skip
 | .region id ops draw=>if draw then cDraw P H f N ops (H.draw f id) else .reg (ops.toList.map (cOper P H f N ops))
 | .seq a b=>.seq (cCode P H f N a) (cCode P H f N b)
 | .cond x a b=>match cOpd x with
  | some y=>.cond y (cCode P H f N a) (cCode P H f N b)
  | none=>.bad
 | .block id a=>.block id (cCode P H f N a)
 | .loop a=>.loop (H.live f (firstReg a)) (cCode P H f N a)
 | .exit id=>.exit id
 | .scope a=>.scope (cCode P H f N a)
 | .label _=>.skip
 | .ret=>.ret
 | _=>.bad
def cRes (P:Program) (N:Nat):List ResultVar→Option (List CRes)
 | []=>some []
 | .tmp t :: r=>match cRes P N r with
  | some s=>some (.tmp t :: s)
  | none=>none
 | .cell t ty :: r=>match shapeOf P ty,cRes P N r with
  | some (ag,sz),some s=>if 0 < sz then some (.cell t ag sz :: s) else none
  | _,_=>none
def isDefer (P:Program) (H:Hints) (f:FuncId) (N:Nat) (ops:Array Oper):Option (Nat×POp):=
 match ops.toList with
 | [o1,o2]=>(match o1.dst,o1.guard,cOp P H f o1,o2.op,o2.guard,o2.dst with
  | some d,none,.p q,.defer c,none,none=>(match c.callee,c.args.toList with
   | .value (.tmp d'),[]=>if d=d'∧d < N then some (d,q) else none
   | _,_=>none)
  | _,_,_,_,_,_=>none)
 | _=>none
def cSpine (P:Program) (H:Hints) (f:FuncId) (N:Nat):Code→CB
 | .seq (.region id ops false) y=>match isDefer P H f N ops with
  | some (d,q)=>.dfr d q (cCode P H f N y)
  | none=>.seq (cCode P H f N (.region id ops false)) (cSpine P H f N y)
 | .seq x y=>.seq (cCode P H f N x) (cSpine P H f N y)
 | c=>.code (cCode P H f N c)
def dFun (P:Program) (H:Hints) (g:FuncId):Option DFun:=
 match P.funcs[g]? with
 | none=>none
 | some fn=>(match fn.body,fn.results.toList with
  | some (.seq (.region _ ops false) y),[]=>(match ops.toList with
   | [o1,o2]=>(match o1.dst,o1.guard,o1.op,o2.dst,o2.guard,o2.op with
    | some d1,none,.call c,some d2,none,.assign (.tmp d)=>(match c.callee,c.args.toList with
     | .builtin .recover, [] => if d = d1 ∧ d1 < fn.ntmps ∧ d2 < fn.ntmps ∧ (fn.name == "runtime.NumGoroutine") = false then some { d1 := d1, d2 := d2, rest := cCode P H g fn.ntmps y, nt := fn.ntmps } else none
     | _,_=>none)
    | _,_,_,_,_,_=>none)
   | _=>none)
  | _,_=>none)
def cFun (P:Program) (H:Hints) (f:FuncId):Option CFun:=
 match P.funcs[f]? with
 | none=>none
 | some fn=>match fn.body,cRes P fn.ntmps fn.results.toList with
  | some c, some r => if fn.name == "runtime.NumGoroutine" then none else some { body := if H.dfr f then cSpine P H f fn.ntmps c else .code (cCode P H f fn.ntmps c), res := keptR (H.kept f) r, np := fn.params.size + fn.nfree, nt := fn.ntmps }
  | _,_=>none
end Go.Ab

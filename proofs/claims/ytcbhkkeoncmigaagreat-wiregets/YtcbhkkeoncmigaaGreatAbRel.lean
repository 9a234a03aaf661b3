/-
  The abstract evaluator: its values, its memory, its compact code, and the evaluator itself. No theorem here speaks of the model.
-/
import Derived.WalkKit
namespace Go.Ab
abbrev Loc:=Nat×Nat
inductive AV where
 | top
 | bool (b:Bool)
 | int (k:IntKind) (n:Int)
 | str (s:List UInt8)
 | agg (cs:List AV)
 | tup (vs:List AV)
 | nils
 | emp
 | lst (es:List AV)
 | own (a:Loc) (n:Nat)
 | ptr (a:Loc) (off:Nat)
 | eptr (a:Loc) (n sz i off:Nat)
 | iptr (e:AV) (off:Nat)
 | nilp
 | fn (f:Fn) (first captured:List AV)
 | nilf
 | iface (t:TypeId) (v:AV)
 | nili
 | mp (a:Loc)
 | nilm
 | anyp
 deriving Inhabited
def AV.cells:AV→List AV
 | .agg cs=>cs
 | .top=>[]
 | .tup _=>[]
 | v=>[v]
def AV.isAgg:AV→Bool
 | .agg _=>true
 | _=>false
mutual
def AV.refOk (p:Loc→Bool):AV→Bool
 | .agg cs=>AV.refOks p cs
 | .tup cs=>AV.refOks p cs
 | .own a _=>p a
 | .ptr a _=>p a
 | .eptr a _ _ _ _=>p a
 | .mp a=>p a
 | .fn _ x y=>AV.refOks p x && AV.refOks p y
 | .iface _ v=>v.refOk p
 | _=>true
def AV.refOks (p:Loc→Bool):List AV→Bool
 | []=>true
 | c :: cs=>c.refOk p && AV.refOks p cs
end
def AV.pure (v:AV):Bool:=v.refOk fun _=>false
mutual
def AV.beq:AV→AV→Bool
 | .top,.top=>true
 | .bool a,.bool b=>a == b
 | .int k a,.int j b=>decide (k=j) && decide (a=b)
 | .str a,.str b=>a == b
 | .agg x,.agg y=>AV.beqs x y
 | .tup x,.tup y=>AV.beqs x y
 | .nils,.nils=>true
 | .emp,.emp=>true
 | .lst x,.lst y=>AV.beqs x y
 | .own a n,.own b m=>decide (a=b) && decide (n=m)
 | .ptr a n,.ptr b m=>decide (a=b) && decide (n=m)
 | .eptr a n s i o,.eptr a' n' s' i' o'=>decide (a=a') && decide (n=n') && decide (s=s') && decide (i=i') && decide (o=o')
 | .iptr e o,.iptr e' o'=>e.beq e' && decide (o=o')
 | .nilp,.nilp=>true
 | .fn (.func f) x y,.fn (.func g) x' y'=>decide (f=g) && AV.beqs x x' && AV.beqs y y'
 | .nilf,.nilf=>true
 | .iface t v,.iface u w=>decide (t=u) && v.beq w
 | .nili,.nili=>true
 | .mp a,.mp b=>decide (a=b)
 | .nilm,.nilm=>true
 | .anyp,.anyp=>true
 | _,_=>false
def AV.beqs:List AV→List AV→Bool
 | [],[]=>true
 | c :: cs,d :: ds=>c.beq d && AV.beqs cs ds
 | _,_=>false
end
inductive Blk where
  | box (t:TypeId) (fz:Bool) (v:AV)
  | arr (t:TypeId) (size:Nat) (vw:Bool) (es:List AV)
  | map (es:List (AV×AV))
  | dead
  | arq (t:TypeId) (size k:Nat) (ti:TypeId) (si:Nat) (out:List Nat) (es:List AV)
  | arv (t:TypeId) (size:Nat) (es:List AV)
  deriving Inhabited
abbrev Heap:=List (List Blk)
def hget:Heap→Loc→Option Blk
 | [],_=>none
 | f :: o,l=>if l.1=o.length then f[l.2]? else hget o l
def hset:Heap→Loc→Blk→Heap
 | [],_,_=>[]
 | f :: o,l,b=>if l.1=o.length then f.set l.2 b :: o else f :: hset o l b
def hnext:Heap→Loc
 | []=>(0,0)
 | f :: o=>(o.length,f.length)
def hnew:Heap→Blk→Heap
 | [],_=>[]
 | f :: o,b=>(f++[b]) :: o
def hlen:Heap→Nat
 | []=>0
 | f :: _=>f.length
def viewF1:AV→Heap→Option (AV×Heap)
 | .own b m,h=>match hget h b with
  | some (.arr t s _ es)=>if es.length=m then some (.lst es,hset h b (.arr t s true es)) else none
  | _=>none
 | v,h=>if v.pure=true∧v.isAgg=false then some (v,h) else none
def viewC:List AV→Heap→Option (List AV×Heap)
 | [],h=>some ([],h)
 | c :: cs,h=>match viewF1 c h with
  | some (c',h')=>(match viewC cs h' with
   | some (cs',h'')=>some (c' :: cs',h'')
   | none=>none)
  | none=>none
def viewE:AV→Heap→Option (AV×Heap)
 | .agg cs,h=>match viewC cs h with
  | some (cs',h')=>some (.agg cs',h')
  | none=>none
 | v,h=>viewF1 v h
def viewF:List AV→Heap→Option (List AV×Heap)
 | [],h=>some ([],h)
 | c :: cs,h=>match viewE c h with
  | some (c',h')=>(match viewF cs h' with
   | some (cs',h'')=>some (c' :: cs',h'')
   | none=>none)
  | none=>none
mutual
def AV.view (p:Loc→Bool):AV→Heap→Option (AV×Heap)
 | .own a n,h=>
  if p a then
   match hget h a with
   | some (.arr t s _ es)=>if es.length=n then some (.lst es,hset h a (.arr t s true es)) else none
   | some (.arq t s _ _ _ _ es)=>if es.length=n then some (.lst es,hset h a (.arr t s true es)) else none
   | some (.arv t s es)=>if es.length=n then (match viewF es h with
    | some (es',h')=>some (.lst es',hset h' a (.arr t s true es'))
    | none=>none) else none
   | _=>none
  else some (.own a n,h)
 | .agg cs,h=>match AV.views p cs h with
  | some (cs',h')=>some (.agg cs',h')
  | none=>none
 | .tup cs,h=>match AV.views p cs h with
  | some (cs',h')=>some (.tup cs',h')
  | none=>none
 | .iface t v,h=>match v.view p h with
  | some (v',h')=>some (.iface t v',h')
  | none=>none
 | v,h=>some (v,h)
def AV.views (p:Loc→Bool):List AV→Heap→Option (List AV×Heap)
 | [],h=>some ([],h)
 | c :: cs,h=>match c.view p h with
  | some (c',h')=>(match AV.views p cs h' with
   | some (cs',h'')=>some (c' :: cs',h'')
   | none=>none)
  | none=>none
end
def getE (ag:Bool) (sz:Nat) (e:AV) (o:Nat):Option AV:=
 if o=0∧e.isAgg=ag∧e.cells.length=sz then some e
 else if ag then (if o+sz≤e.cells.length then some (.agg ((e.cells.drop o).take sz)) else none)
 else e.cells[o]?
def setE (e:AV) (o:Nat) (v:AV):Option AV:=
 if o=0∧v.isAgg=e.isAgg∧v.cells.length=e.cells.length then some v
 else match e with
  | .agg cs=>if o+v.cells.length≤cs.length then some (.agg (cs.take o++v.cells++cs.drop (o+v.cells.length))) else none
  | _=>none
abbrev Env:=List (Nat×AV)
def get:Env→Nat→AV
 | [],_=>.top
 | (j,v) :: r,i=>if j=i then v else get r i
def set (e:Env) (i:Nat) (v:AV):Env:=(i,v) :: e
def put (e:Env) (d:Option Nat) (v:AV):Env:=match d with
 | some i=>set e i v
 | none=>e
def envOf:Nat→List AV→Env
 | _,[]=>[]
 | i,a :: r=>(i,a) :: envOf (i+1) r
def keep (live:List Nat) (e:Env):Env:=live.map fun t=>(t,get e t)
inductive Opd where
 | t (i:Nat)
 | c (v:AV)
 deriving Inhabited
def Opd.ev (e:Env):Opd→AV
 | .t i=>get e i
 | .c v=>v
def oev (e:Env):Option Opd→Option AV
 | some x=>some (x.ev e)
 | none=>none
inductive FK where
 | bool | int | str
 deriving Inhabited,DecidableEq
def eqF:FK→AV→AV→Option Bool
 | .bool,.bool a,.bool b=>some (decide (a=b))
 | .int,.int k a,.int k' b=>if k=k' then some (decide (a=b)) else none
 | .str,.str a,.str b=>some (decide (a=b))
 | _,_,_=>none
def eqFs:List FK→List AV→List AV→Option Bool
 | [],[],[]=>some true
 | k :: ks,a :: as,b :: bs=>match eqF k a b,eqFs ks as bs with
  | some p,some q=>some (p && q)
  | _,_=>none
 | _,_,_=>none
inductive KK where
 | one (k:FK)
 | st (ks:List FK)
 deriving Inhabited
def eqK:KK→AV→AV→Option Bool
 | .one k,a,b=>eqF k a b
 | .st ks,.agg as,.agg bs=>eqFs ks as bs
 | _,_,_=>none
def lookK (kk:KK) (k:AV):List (AV×AV)→Option (Option AV)
 | []=>some none
 | (a,v) :: r=>match eqK kk k a with
  | some true=>some (some v)
  | some false=>lookK kk k r
  | none=>none
def updK (kk:KK) (k v:AV):List (AV×AV)→Option (List (AV×AV))
 | []=>some [(k,v)]
 | (a,u) :: r=>match eqK kk k a with
  | some true=>some ((a,v) :: r)
  | some false=>(match updK kk k v r with
   | some r'=>some ((a,u) :: r')
   | none=>none)
  | none=>none
inductive NK where
 | slice | ptr | func | iface | map
 deriving Inhabited
inductive POp where
 | mv (x:Opd)
 | pick (c a b:Opd)
 | bld (z:List AV) (ps:List (Nat×Nat×Opd))
 | fa (off:Nat) (x:Opd)
 | fld (ag:Bool) (off sz:Nat) (x:Opd)
 | iaA (n sz:Nat) (x i:Opd)
 | iaS (sz:Nat) (x i:Opd)
 | ixA (ag:Bool) (n sz:Nat) (x i:Opd)
 | ixS (x i:Opd)
 | bin (b:BinOp) (x y:Opd)
 | eqB (neg:Bool) (x y:Opd)
 | eqN (k:NK) (neg:Bool) (x:Opd)
 | eqP (neg:Bool) (x y:Opd)
 | eqA (neg:Bool) (ks:List FK) (x y:Opd)
 | not (x:Opd)
 | neg (x:Opd)
 | cvI (k:IntKind) (x:Opd)
 | cvS (x:Opd)
 | mkI (t:TypeId) (x:Opd)
 | mkF (f:Fn) (a b:List Opd)
 | ext (x:Opd) (i:Nat)
 | nilck (x:Opd)
 | slS (x:Opd) (lo hi:Option Opd)
 | len (sl:Bool) (x:Opd)
 | mm (mx:Bool) (xs:List Opd)
 | tyA (t:TypeId) (ok:Bool) (z:AV) (x:Opd)
 | nilckM (nm:String) (ts:List TypeId) (x:Opd)
 deriving Inhabited
inductive MOp where
 | mat (x:Opd)
 | alloc (t:TypeId) (z:AV) (mat:Bool)
 | box (t:TypeId) (sz:Nat) (x:Opd)
 | boxK (t:TypeId) (sz k:Nat) (x:Opd)
 | bldS (t:TypeId) (sz n:Nat) (z:AV) (ps:List (Nat×Opd)) (own:Bool)
 | load (ag:Bool) (sz:Nat) (x:Opd)
 | store (sz:Nat) (mat:Bool) (a v:Opd)
 | al0 (t:TypeId)
 | st0 (a v:Opd)
 | b2s (x:Opd)
 | s2b (x:Opd)
 | slL (sz:Nat) (x:Opd) (lo hi mx:Option Opd)
 | slA (n sz:Nat) (x:Opd) (lo hi:Option Opd)
 | app (t:TypeId) (sz bytes:Nat) (s x:Opd)
 | appS (t:TypeId) (bytes:Nat) (s x:Opd)
 | cvU (x:Opd)
 | cvP (t:TypeId) (n:Nat) (x:Opd)
 | usd (x:Opd)
 | ustr (t:TypeId) (x n:Opd)
 | mkS (t:TypeId) (sz bytes:Nat) (z:AV) (l c:Opd)
 | call (f:Opd) (args:List Opd)
 | inv (tbl:List (TypeId×FuncId)) (x:Opd) (args:List Opd)
 | pan (x:Opd)
 | mkM
 | lkp (kk:KK) (z:AV) (ok:Bool) (x k:Opd)
 | mup (kk:KK) (x k v:Opd)
 | lenM (x:Opd)
 | ldQ (x:Opd)
 | stQ (a v:Opd)
 | appQ (t:TypeId) (sz bytes k:Nat) (ti:TypeId) (si:Nat) (s x:Opd)
 | mkSQ (t:TypeId) (sz bytes:Nat) (z:AV) (l c:Opd) (ti:TypeId) (si:Nat)
 | boxV (t:TypeId) (sz k:Nat) (x:Opd)
 | stV (sz:Nat) (a v:Opd)
 | mkSV (t:TypeId) (sz bytes:Nat) (z:AV) (l c:Opd)
 | appV (t:TypeId) (sz bytes:Nat) (s x:Opd)
 deriving Inhabited
inductive COp where
 | p (o:POp)
 | m (o:MOp)
 | bad
 deriving Inhabited
structure CO where
 dst:Option Nat
 gd:Option (Nat×Bool)
 op:COp
 deriving Inhabited
structure DO where
 co:CO
 ix:Nat
 looks:List Nat
 anc:List Nat
 re:List Nat
 deriving Inhabited
inductive CC where
 | skip
 | reg (ops:List CO)
 | draw (ops:List DO)
 | seq (a b:CC)
 | cond (x:Opd) (a b:CC)
 | block (id:Nat) (a:CC)
 | loop (live:List Nat) (a:CC)
 | loopAt (n:Nat) (live:List Nat) (a:CC)
 | exit (id:Nat)
 | ret
 | scope (a:CC)
 | bad
 deriving Inhabited
inductive CRes where
  | tmp (t:Nat)
  | own (t:Nat)
  | cell (t:Nat) (ag:Bool) (sz:Nat)
  deriving Inhabited
inductive CB where
 | code (c:CC)
 | seq (c:CC) (b:CB)
 | dfr (d:Nat) (q:POp) (c:CC)
 deriving Inhabited
structure DFun where
 d1:Nat
 d2:Nat
 rest:CC
 nt:Nat
 deriving Inhabited
structure CFun where
 body:CB
 res:List CRes
 np:Nat
 nt:Nat
 deriving Inhabited
def evInt (op:BinOp) (k:IntKind) (a b:Int):Option AV:=
 match op with
 | .add=>some (.int k (k.wrap (a+b)))
 | .sub=>some (.int k (k.wrap (a - b)))
 | .mul=>some (.int k (k.wrap (a * b)))
 | .quo=>if b=0 then none else some (.int k (k.wrap (a.tdiv b)))
 | .rem=>if b=0 then none else some (.int k (a.tmod b))
 | .and=>some (.int k (k.wrap ((BitVec.ofInt k.bits a &&& BitVec.ofInt k.bits b).toNat:Int)))
 | .or=>some (.int k (k.wrap ((BitVec.ofInt k.bits a ||| BitVec.ofInt k.bits b).toNat:Int)))
 | .xor=>some (.int k (k.wrap ((BitVec.ofInt k.bits a ^^^ BitVec.ofInt k.bits b).toNat:Int)))
 | .andNot=>some (.int k (k.wrap ((BitVec.ofInt k.bits a &&& ~~~(BitVec.ofInt k.bits b)).toNat:Int)))
 | .eql=>some (.bool (a == b))
 | .neq=>some (.bool (a != b))
 | .lss=>some (.bool (decide (a < b)))
 | .leq=>some (.bool (decide (a≤b)))
 | .gtr=>some (.bool (decide (b < a)))
 | .geq=>some (.bool (decide (b≤a)))
 | .shl=>if b < 0 then none else some (.int k (k.wrap (a * 2 ^ (min b.toNat k.bits))))
 | .shr=>if b < 0 then none else some (.int k (a.fdiv (2 ^ (min b.toNat k.bits))))
def strBound:Nat:=9223372036854775807
def evStr (op:BinOp) (a b:List UInt8):Option AV:=
 match op with
 | .add=>if a.length+b.length≤strBound then some (.str (a++b)) else none
 | .eql=>some (.bool (a == b))
 | .neq=>some (.bool (!(a == b)))
 | .lss=>some (.bool (Op.bytesLess a b))
 | .leq=>some (.bool (Op.bytesLess a b || a == b))
 | .gtr=>some (.bool (!(Op.bytesLess a b || a == b)))
 | .geq=>some (.bool (!(Op.bytesLess a b)))
 | _=>none
def BinOp.shifts:BinOp→Bool
 | .shl | .shr=>true
 | _=>false
def evBin (op:BinOp) (x y:AV):Option AV:=
 match x,y with
 | .int k a,.int k' b=>if k=k'∨BinOp.shifts op=true then evInt op k a b else none
 | .str a,.str b=>evStr op a b
 | _,_=>none
def fillC:List AV→List (Nat×Nat×AV)→Option (List AV)
 | z,[]=>some z
 | z,(o,s,v) :: r=>if v.cells.length=s∧0 < s∧o+s≤z.length then fillC (z.take o++v.cells++z.drop (o+s)) r else none
def fillS (sz:Nat):List AV→List (Nat×AV)→Option (List AV)
 | z,[]=>some z
 | z,(i,v) :: r=>if i < z.length∧v.pure=true∧v.cells.length=sz then fillS sz (z.set i v) r else none
def bHi (n:Nat):Option AV→Option Nat
 | none=>some n
 | some (.int _ h)=>if 0≤h∧h≤n then some h.toNat else none
 | _=>none
def bLo (h:Nat):Option AV→Option Nat
 | none=>some 0
 | some (.int _ l)=>if 0≤l∧l≤h then some l.toNat else none
 | _=>none
def bnds (n:Nat) (lo hi:Option AV):Option (Nat×Nat):=
 match bHi n hi with
 | none=>none
 | some h=>match bLo h lo with
  | none=>none
  | some l=>some (l,h)
def isNil:NK→AV→Option Bool
 | .slice,.nils=>some true
 | .slice,.lst (_ :: _)=>some false
 | .slice,.own _ (_+1)=>some false
 | .ptr,.nilp=>some true
 | .ptr,.ptr _ _=>some false
 | .ptr,.eptr _ _ _ _ _=>some false
 | .ptr,.iptr _ _=>some false
 | .func,.nilf=>some true
 | .func,.fn _ _ _=>some false
 | .iface,.nili=>some true
 | .iface,.iface _ _=>some false
 | .map,.nilm=>some true
 | .map,.mp _=>some false
 | _,_=>none
def slLen:AV→Option Nat
 | .lst es=>some es.length
 | .nils=>some 0
 | .emp=>some 0
 | .own _ n=>some n
 | _=>none
def mmList (mx:Bool):AV→List AV→Option AV
 | x,[]=>some x
 | .int k a,.int _ b :: r=>mmList mx (.int k (if mx then (if b > a then b else a) else (if b < a then b else a))) r
 | _,_=>none
def evP (o:POp) (e:Env):Option AV:=
 match o with
 | .mv x=>some (x.ev e)
 | .pick c a b=>match c.ev e with
  | .bool t=>some (if t then a.ev e else b.ev e)
  | _=>none
 | .bld z ps=>match fillC z (ps.map fun (o,s,x)=>(o,s,x.ev e)) with
  | some cs=>some (.agg cs)
  | none=>none
 | .fa off x=>match x.ev e with
  | .ptr a o=>some (.ptr a (o+off))
  | .eptr a n sz i o=>some (.eptr a n sz i (o+off))
  | .iptr v o=>some (.iptr v (o+off))
  | _=>none
 | .fld ag off sz x=>match x.ev e with
  | .agg cs=>if ag then (if off+sz≤cs.length then some (.agg ((cs.drop off).take sz)) else none) else cs[off]?
  | _=>none
 | .iaA n sz x i=>match x.ev e,i.ev e with
  | .ptr a o,.int _ j=>if 0≤j∧j < n then some (.ptr a (o+j.toNat * sz)) else none
  | .iptr v o,.int _ j=>if 0≤j∧j < n then some (.iptr v (o+j.toNat * sz)) else none
  | _,_=>none
 | .iaS sz x i=>match x.ev e,i.ev e with
  | .lst es,.int _ j=>if 0≤j then (match es[j.toNat]? with
   | some v=>if v.cells.length=sz then some (.iptr v 0) else none
   | none=>none) else none
  | .own a n,.int _ j=>if 0≤j∧j < n then some (.eptr a n sz j.toNat 0) else none
  | _,_=>none
 | .ixA ag n sz x i=>match x.ev e,i.ev e with
  | .agg cs,.int _ j=>if 0≤j∧j < n then
    (if ag then (if j.toNat * sz+sz≤cs.length then some (.agg ((cs.drop (j.toNat * sz)).take sz)) else none) else cs[j.toNat * sz]?) else none
  | _,_=>none
 | .ixS x i=>match x.ev e,i.ev e with
  | .str s,.int _ j=>if 0≤j then (match s[j.toNat]? with
   | some b=>some (.int .u8 (b.toNat:Int))
   | none=>none) else none
  | _,_=>none
 | .bin b x y=>evBin b (x.ev e) (y.ev e)
 | .eqB ng x y=>match x.ev e,y.ev e with
  | .bool a,.bool b=>some (.bool (if ng then !(a == b) else a == b))
  | _,_=>none
 | .eqN k ng x=>match isNil k (x.ev e) with
  | some b=>some (.bool (if ng then !b else b))
  | none=>none
 | .eqA ng ks x y=>match x.ev e,y.ev e with
  | .agg as,.agg bs=>(match eqFs ks as bs with
   | some r=>some (.bool (if ng then !r else r))
   | none=>none)
  | _,_=>none
 | .eqP ng x y=>match x.ev e,y.ev e with
  | .ptr a o,.ptr b o'=>if a=b∧o=o' then some (.bool (!ng)) else none
  | _,_=>none
 | .not x=>match x.ev e with
  | .bool b=>some (.bool (!b))
  | _=>none
 | .neg x=>match x.ev e with
  | .int k n=>some (.int k (k.wrap (0 - n)))
  | _=>none
 | .cvI k x=>match x.ev e with
  | .int _ n=>some (.int k (k.wrap n))
  | _=>none
 | .cvS x=>match x.ev e with
  | .str s=>some (.str s)
  | _=>none
 | .mkI t x=>some (.iface t (x.ev e))
 | .mkF f a b=>some (.fn f (a.map (·.ev e)) (b.map (·.ev e)))
 | .ext x i=>match x.ev e with
  | .tup vs=>vs[i]?
  | _=>none
 | .nilck x=>match x.ev e with
  | .ptr a o=>some (.ptr a o)
  | .iptr v o=>some (.iptr v o)
  | .eptr a n sz i o=>some (.eptr a n sz i o)
  | .fn (.func f) x y=>some (.fn (.func f) x y)
  | _=>none
 | .slS x lo hi=>match x.ev e with
  | .str s=>(match bnds s.length (oev e lo) (oev e hi) with
   | some (l,h)=>some (.str ((s.take h).drop l))
   | none=>none)
  | _=>none
 | .len sl x=>if sl then (match slLen (x.ev e) with
   | some n=>some (.int .i64 (n:Int))
   | none=>none)
  else (match x.ev e with
   | .str s=>some (.int .i64 (s.length:Int))
   | _=>none)
 | .mm mx xs=>match (List.map (Opd.ev e) xs:List AV) with
  | .int k a :: r=>mmList mx (.int k a) r
  | _=>none
 | .tyA t ok z x=>match x.ev e with
  | .iface u v=>if u=t then some (if ok then .tup [v,.bool true] else v) else if ok then some (.tup [z,.bool false]) else none
  | .nili=>if ok then some (.tup [z,.bool false]) else none
  | _=>none
 | .nilckM nm ts x=>match x.ev e with
  | .fn (.method m) (.iface t v :: r) c=>if m=nm∧ts.contains t=true then some (.fn (.method m) (.iface t v :: r) c) else none
  | _=>none
inductive Out where
 | val (v:AV) (h:Heap)
 | pan (v:AV) (h:Heap)
 deriving Inhabited
structure St where
 env:Env
 h:Heap
 deriving Inhabited
inductive Ex where
 | norm
 | exit (id:Nat)
 | ret
 | pan (v:AV)
 deriving Inhabited
structure Orc where
 fn:FuncId→List AV→Heap→Option Out
 code:CC→St→Option (Ex×St)
def matL:List AV→Heap→List AV×Heap
 | [],h=>([],h)
 | .nils :: r,h=>match matL r (hnew h (.arr 0 0 false [])) with
  | (r',h')=>(.own (hnext h) 0 :: r',h')
 | v :: r,h=>match matL r h with
  | (r',h')=>(v :: r',h')
def matV:AV→Heap→AV×Heap
 | .agg cs,h=>match matL cs h with
  | (cs',h')=>(.agg cs',h')
 | .nils,h=>(.own (hnext h) 0,hnew h (.arr 0 0 false []))
 | v,h=>(v,h)
def mat1 (k:Nat) (v:AV) (h:Heap):AV×Heap:=match v with
 | .agg cs=>(match cs[k]? with
  | some .nils=>(.agg (cs.set k (.own (hnext h) 0)),hnew h (.arr 0 0 false []))
  | _=>(v,h))
 | _=>(v,h)
def matKs:Nat→Nat→AV→Heap→AV×Heap
 | 0,k,v,h=>mat1 k v h
 | n+1,k,v,h=>if k < 100 then mat1 k v h else matKs n (k / 100) (mat1 (k % 100) v h).1 (mat1 (k % 100) v h).2
def matK (k:Nat) (v:AV) (h:Heap):AV×Heap:=matKs 8 k v h
def bytesOf:List AV→Option (List UInt8)
 | []=>some []
 | .int .u8 n :: r=>match bytesOf r with
  | some l=>some (UInt8.ofNat n.toNat :: l)
  | none=>none
 | _=>none
def ofBytes (s:List UInt8):List AV:=s.map fun b=>.int .u8 (b.toNat:Int)
def elemsOf (v:AV) (h:Heap):Option (List AV):=
 match v with
 | .lst es=>some es
 | .nils=>some []
 | .emp=>some []
 | .own a n=>match hget h a with
  | some (.arr _ _ _ es)=>if es.length=n then some es else none
  | _=>none
 | _=>none
def room:Nat:=1099511627776
def sized (sz:Nat) (es:List AV):Bool:=es.all fun e=>e.cells.length == sz
def storeTo (h:Heap) (p v:AV):Option Heap:=
 match p with
 | .ptr a o=>match hget h a with
  | some (.box t fz w)=>
   if fz=false∧v.refOk (fun b=>decide (b.1≤a.1))=true then
    (match setE w o v with
     | some w'=>some (hset h a (.box t false w'))
     | none=>none)
   else none
  | _=>none
 | .eptr a n sz i o=>match hget h a with
  | some (.arr t s vw es)=>
   if vw=false∧es.length=n∧sz=s∧v.pure=true then
    (match es[i]? with
     | some w=>(match setE w o v with
      | some w'=>some (hset h a (.arr t s false (es.set i w')))
      | none=>none)
     | none=>none)
   else none
  | _=>none
 | _=>none
def loadFrom (ag:Bool) (sz:Nat) (h:Heap) (p:AV):Option AV:=
 match p with
 | .ptr a o=>match hget h a with
  | some (.box _ _ w)=>getE ag sz w o
  | _=>none
 | .eptr a n sz' i o=>match hget h a with
  | some (.arr _ s _ es)=>if es.length=n∧sz'=s then (match es[i]? with
   | some w=>getE ag sz w o
   | none=>none) else none
  | some (.arq _ s _ _ _ _ es)=>if es.length=n∧sz'=s then (match es[i]? with
   | some w=>getE ag sz w o
   | none=>none) else none
  | some (.arv _ s es)=>if es.length=n∧sz'=s then (match es[i]? with
   | some w=>getE ag sz w o
   | none=>none) else none
  | _=>none
 | .iptr w o=>getE ag sz w o
 | _=>none
def appTo (t:TypeId) (sz bytes:Nat) (s:AV) (news:List AV) (h:Heap):Option Out:=
 match s with
 | .own a n=>(match hget h a with
  | some (.arr t' sz' vw es)=>
   if es.length=n∧(n+news.length) * bytes≤room∧n+news.length≤room∧(sz'=0∨(t'=t∧sz'=sz)) then
    some (.val (.own a (n+news.length)) (hset h a (.arr t sz vw (es++news))))
   else none
  | _=>none)
 | .nils=>if news=[] then some (.val .nils h)
  else if news.length * bytes≤room∧news.length≤room then some (.val (.own (hnext h) news.length) (hnew h (.arr t sz false news))) else none
 | .emp=>if news=[] then some (.val .emp h)
  else if news.length * bytes≤room∧news.length≤room then some (.val (.own (hnext h) news.length) (hnew h (.arr t sz false news))) else none
 | _=>none
def bareK (k:Nat) (es:List AV):Bool:=es.all fun e=>match e.cells.getD k .top with
 | .nils=>true
 | _=>false
def toQ (k:Nat) (ti:TypeId) (si:Nat):Option Out→Option Out
 | some (.val (.own a n) h)=>(match hget h a with
  | some (.arr t s false es)=>if 0 < si∧k < s∧es.length=n∧bareK k es=true then some (.val (.own a n) (hset h a (.arq t s k ti si [] es))) else none
  | _=>none)
 | _=>none
def appToQ (t:TypeId) (sz bytes k:Nat) (ti:TypeId) (si:Nat) (s:AV) (news:List AV) (h:Heap):Option Out:=
 match s with
 | .own a n=>(match hget h a with
  | some (.arq t' sz' k' ti' si' out es)=>
   if es.length=n∧(n+news.length) * bytes≤room∧n+news.length≤room∧t'=t∧sz'=sz∧k'=k∧ti'=ti∧si'=si∧0 < n∧0 < news.length∧bareK k news=true then
    some (.val (.own a (n+news.length)) (hset h a (.arq t sz k ti si out (es++news))))
   else none
  | _=>none)
 | .nils=>toQ k ti si (appTo t sz bytes .nils news h)
 | _=>none
def ldQ (p:AV) (h:Heap):Option Out:=match p with
 | .eptr a n sz i o=>(match hget h a with
  | some (.arq t s k ti si out es)=>
   if es.length=n∧sz=s∧o=k then (match es[i]? with
    | some u=>(match u.cells.getD k .top with
     | .nils=>some (.val .nils h)
     | .lst (q :: ks)=>if out.contains i=false then
       some (.val (.own (hnext h) (ks.length+1)) (hnew (hset h a (.arq t s k ti si (i :: out) es)) (.arr ti si true (q :: ks)))) else none
     | _=>none)
    | none=>none)
   else none
  | _=>none)
 | _=>none
def stQ (p v:AV) (h:Heap):Option Heap:=match p,v with
 | .eptr a n sz i o,.own b m=>(match hget h a,hget h b with
  | some (.arq t s k ti si out es),some (.arr t' s' _ ks)=>
   if es.length=n∧sz=s∧o=k∧ks.length=m∧0 < m∧t'=ti∧s'=si then (match es[i]? with
    | some u=>(match setE u k (.lst ks) with
     | some u'=>some (hset (hset h a (.arq t s k ti si (out.filter fun j=>!(j == i)) (es.set i u'))) b .dead)
     | none=>none)
    | none=>none)
   else none
  | _,_=>none)
 | _,_=>none
def asV:Option Blk→Option (TypeId×Nat×List AV)
 | some (.arv t s es)=>some (t,s,es)
 | some (.arr t s false es)=>some (t,s,es)
 | _=>none
def storeToV (h:Heap) (p v:AV):Option Heap:=
 match p with
 | .eptr a n sz i o=>(match asV (hget h a) with
  | some (t,s,es)=>if es.length=n∧sz=s∧v.refOk (fun b=>decide (b.1≤a.1))=true then
    (match es[i]? with
     | some w=>(match setE w o v with
      | some w'=>some (hset h a (.arv t s (es.set i w')))
      | none=>none)
     | none=>none) else none
  | none=>none)
 | _=>none
def toV:Option Out→Option Out
 | some (.val (.own a n) h)=>(match hget h a with
  | some (.arr t s false es)=>if es.length=n then some (.val (.own a n) (hset h a (.arv t s es))) else none
  | _=>none)
 | _=>none
def appToV (t:TypeId) (sz bytes:Nat) (s:AV) (news:List AV) (h:Heap):Option Out:=
 match s with
 | .own a n=>(match asV (hget h a) with
  | some (t',sz',es)=>if es.length=n∧0 < n∧t'=t∧sz'=sz∧(n+news.length) * bytes≤room∧n+news.length≤room∧0 < news.length then
    some (.val (.own a (n+news.length)) (hset h a (.arv t sz (es++news)))) else none
  | none=>none)
 | .nils=>toV (appTo t sz bytes .nils news h)
 | _=>none
def viewK (k:Nat) (v:AV) (h:Heap):Option (AV×Heap):=match v with
 | .agg cs=>(match cs[k]? with
  | some c=>(match c.view (fun _=>true) h with
   | some (c',h')=>some (.agg (cs.set k c'),h')
   | none=>none)
  | none=>none)
 | _=>none
structure Cfg where
 X:FuncId→List AV→Heap→Option Out
 fns:FuncId→Option CFun
 dfn:FuncId→Option DFun:=fun _=>none
 lend:FuncId→Bool
def isE:AV→Bool
 | .eptr _ _ _ _ _=>true
 | _=>false
def evM (K:Cfg) (O:Orc) (o:MOp) (e:Env) (h:Heap):Option Out:=
 match o with
 | .mat x=>match matV (x.ev e) h with
  | (v,h')=>some (.val v h')
 | .alloc t z mat=>match (if mat then matV z h else (z,h)) with
  | (z',h')=>some (.val (.ptr (hnext h') 0) (hnew h' (.box t false z')))
 | .box t sz x=>if (x.ev e).cells.length=sz then some (.val (.ptr (hnext h) 0) (hnew h (.box t false (x.ev e)))) else none
 | .boxK t sz k x=>if (x.ev e).cells.length=sz then (match matK k (x.ev e) h with
  | (v,h')=>some (.val (.ptr (hnext h') 0) (hnew h' (.box t false v)))) else none
 | .bldS t sz n z ps own=>match AV.views (fun _=>true) (ps.map fun (_,x)=>x.ev e) h with
  | none=>none
  | some (vs,h')=>match fillS sz (List.replicate n z) ((ps.map (·.1)).zip vs) with
   | none=>none
   | some es=>
    if z.cells.length=sz∧z.pure=true then
     (if own then some (.val (.own (hnext h') n) (hnew h' (.arr t sz false es))) else some (.val (.lst es) h'))
    else none
 | .load ag sz x=>match loadFrom ag sz h (x.ev e) with
  | some v=>some (.val v h)
  | none=>none
 | .store sz mat a v=>
  if (v.ev e).cells.length=sz then
   (match (if mat then matV (v.ev e) h else (v.ev e,h)) with
    | (w,h')=>match (if isE (a.ev e)=true then w.view (fun _=>true) h' else some (w,h')) with
     | some (u,h1)=>(match storeTo h1 (a.ev e) u with
      | some h''=>some (.val (.tup []) h'')
      | none=>none)
     | none=>none)
  else none
 | .al0 t=>some (.val (.ptr (hnext h) 0) (hnew h (.box t false (.agg []))))
 | .st0 a v=>match a.ev e,v.ev e with
  | .ptr _ _,.agg []=>some (.val (.tup []) h)
  | _,_=>none
 | .b2s x=>match elemsOf (x.ev e) h with
  | some es=>(match bytesOf es with
   | some s=>some (.val (.str s) h)
   | none=>none)
  | none=>none
 | .s2b x=>match x.ev e with
  | .str s=>some (.val (.lst (ofBytes s)) h)
  | _=>none
 | .slL sz x lo hi mx=>match mx with
  | none=>(match (x.ev e).view (fun _=>true) h with
   | some (.lst es,h')=>if sized sz es=true then (match bnds es.length (oev e lo) (oev e hi) with
    | some (l,r)=>some (.val (.lst ((es.take r).drop l)) h')
    | none=>none) else none
   | some (.nils,h')=>(match bnds 0 (oev e lo) (oev e hi) with
    | some _=>some (.val .nils h')
    | none=>none)
   | _=>none)
  | some m=>match m.ev e,oev e lo,oev e hi with
   | .int _ 0,none,some (.int _ 0)=>(match x.ev e with
    | .lst _ | .own _ _ | .nils | .emp=>some (.val .emp h)
    | _=>none)
   | _,_,_=>none
 | .slA n sz x lo hi=>match x.ev e with
  | .ptr a 0=>(match hget h a with
   | some (.box t _ (.agg cs))=>
    if cs.length=n∧sz=1∧sized 1 cs=true∧(AV.agg cs).pure=true then
     (match bnds n (oev e lo) (oev e hi) with
      | some (l,r)=>some (.val (.lst ((cs.take r).drop l)) (hset h a (.box t true (.agg cs))))
      | none=>none)
    else none
   | _=>none)
  | _=>none
 | .app t sz bytes s x=>match elemsOf (x.ev e) h with
  | none=>none
  | some news=>if sized sz news=true then appTo t sz bytes (s.ev e) news h else none
 | .appS t bytes s x=>match x.ev e with
  | .str q=>appTo t 1 bytes (s.ev e) (ofBytes q) h
  | _=>none
 | .cvU x=>match x.ev e with
  | .ptr a o=>(match hget h a with
   | some (.box _ _ v)=>if o < v.cells.length then some (.val (.ptr a o) h) else none
   | _=>none)
  | _=>none
 | .cvP t n x=>match x.ev e with
  | .ptr a 0=>(match hget h a with
   | some (.box u _ v)=>if u=t∧v.cells.length=n then some (.val (.ptr a 0) h) else none
   | _=>none)
  | _=>none
 | .usd x=>match x.ev e with
  | .nils=>some (.val .nilp h)
  | .own a 0=>(match hget h a with
   | some (.arr _ _ _ [])=>some (.val .anyp h)
   | _=>none)
  | .own a (n+1)=>(match hget h a with
   | some (.arr _ sz _ es)=>if es.length=n+1∧sz=1 then some (.val (.eptr a (n+1) 1 0 0) h) else none
   | _=>none)
  | _=>none
 | .ustr t x k=>match x.ev e,k.ev e with
  | .nilp,.int .i64 0=>some (.val (.str []) h)
  | .anyp,.int .i64 0=>some (.val (.str []) h)
  | .eptr a n 1 0 0,.int .i64 m=>if m=n∧0 < n then (match hget h a with
   | some (.arr u 1 _ es)=>if u=t∧es.length=n then (match bytesOf es with
    | some s=>if AV.beqs (ofBytes s) es=true then some (.val (.str s) (hset h a .dead)) else none
    | none=>none) else none
   | _=>none) else none
  | _,_=>none
 | .mkS t sz bytes z l c=>match l.ev e,c.ev e with
  | .int _ n,.int _ m=>
   if n=m∧0≤n∧n.toNat * bytes≤room∧n.toNat≤room∧z.cells.length=sz∧z.pure=true then
    some (.val (.own (hnext h) n.toNat) (hnew h (.arr t sz false (List.replicate n.toNat z))))
   else none
  | _,_=>none
 | .call f args=>match f.ev e with
  | .fn (.func g) first captured=>
   (match AV.views (fun _=>K.lend g) (first++args.map (·.ev e)++captured) h with
    | some (vs,h')=>O.fn g vs h'
    | none=>none)
  | _=>none
 | .inv tbl x args=>match x.ev e with
  | .iface t v=>(match tbl.lookup t with
   | some g=>(match AV.views (fun _=>K.lend g) (v :: args.map (·.ev e)) h with
    | some (vs,h')=>O.fn g vs h'
    | none=>none)
   | none=>none)
  | _=>none
 | .pan x=>match x.ev e with
  | .iface t v=>some (.pan (.iface t v) h)
  | _=>none
 | .mkM=>some (.val (.mp (hnext h)) (hnew h (.map [])))
 | .lkp kk z ok x k=>match x.ev e with
  | .mp a=>(match hget h a with
   | some (.map es)=>(match eqK kk (k.ev e) (k.ev e) with
    | some _=>(match lookK kk (k.ev e) es with
     | some (some v)=>some (.val (if ok then .tup [v,.bool true] else v) h)
     | some none=>some (.val (if ok then .tup [z,.bool false] else z) h)
     | none=>none)
    | none=>none)
   | _=>none)
  | .nilm=>(match eqK kk (k.ev e) (k.ev e) with
   | some _=>some (.val (if ok then .tup [z,.bool false] else z) h)
   | none=>none)
  | _=>none
 | .mup kk x k v=>match x.ev e with
  | .mp a=>(match hget h a with
   | some (.map es)=>if (k.ev e).pure=true∧(v.ev e).refOk (fun b=>decide (b.1≤a.1))=true then
     (match eqK kk (k.ev e) (k.ev e),updK kk (k.ev e) (v.ev e) es with
     | some _,some es'=>some (.val (.tup []) (hset h a (.map es')))
     | _,_=>none)
    else none
   | _=>none)
  | _=>none
 | .lenM x=>match x.ev e with
  | .mp a=>(match hget h a with
   | some (.map es)=>some (.val (.int .i64 (es.length:Int)) h)
   | _=>none)
  | .nilm=>some (.val (.int .i64 0) h)
  | _=>none
 | .ldQ x=>ldQ (x.ev e) h
 | .stQ a v=>match stQ (a.ev e) (v.ev e) h with
  | some h'=>some (.val (.tup []) h')
  | none=>none
 | .appQ t sz bytes k ti si s x=>match elemsOf (x.ev e) h with
  | none=>none
  | some news=>if sized sz news=true then appToQ t sz bytes k ti si (s.ev e) news h else none
 | .mkSQ t sz bytes z l c ti si=>match l.ev e,c.ev e with
  | .int _ n,.int _ m=>
   if n=m∧0≤n∧n.toNat * bytes≤room∧n.toNat≤room∧z.cells.length=sz∧z.pure=true then
    toQ 0 ti si (some (.val (.own (hnext h) n.toNat) (hnew h (.arr t sz false (List.replicate n.toNat z)))))
   else none
  | _,_=>none
 | .boxV t sz k x=>if (x.ev e).cells.length=sz then (match viewK k (x.ev e) h with
  | some (v,h')=>if v.cells.length=sz then some (.val (.ptr (hnext h') 0) (hnew h' (.box t false v))) else none
  | none=>none) else none
 | .stV sz a v=>if (v.ev e).cells.length=sz then (match storeToV h (a.ev e) (v.ev e) with
  | some h'=>some (.val (.tup []) h')
  | none=>none) else none
 | .mkSV t sz bytes z l c=>match l.ev e,c.ev e with
  | .int _ n,.int _ m=>
   if n=m∧0≤n∧n.toNat * bytes≤room∧n.toNat≤room∧z.cells.length=sz∧z.pure=true then
    toV (some (.val (.own (hnext h) n.toNat) (hnew h (.arr t sz false (List.replicate n.toNat z)))))
   else none
  | _,_=>none
 | .appV t sz bytes s x=>match elemsOf (x.ev e) h with
  | none=>none
  | some news=>if sized sz news=true then appToV t sz bytes (s.ev e) news h else none
def wanted (g:Option (Nat×Bool)) (e:Env):Option Bool:=
 match g with
 | none=>some true
 | some (t,b)=>match get e t with
  | .bool c=>some (c == b)
  | .tup []=>some false
  | _=>none
def evOps (K:Cfg) (O:Orc):List CO→St→Option (Ex×St)
 | [],s=>some (.norm,s)
 | o :: r,s=>match wanted o.gd s.env with
  | none=>none
  | some false=>evOps K O r { s with env:=put s.env o.dst (.tup []) }
  | some true=>match o.op with
   | .p q=>(match evP q s.env with
    | some v=>evOps K O r { s with env:=put s.env o.dst v }
    | none=>none)
   | .m q=>(match evM K O q s.env s.h with
    | some (.val v h)=>evOps K O r { env:=put s.env o.dst v,h:=h }
    | some (.pan v h)=>some (.pan v,{ s with h:=h })
    | none=>none)
   | .bad=>none
def isCall:MOp→Bool
 | .call _ _=>true
 | .inv _ _ _=>true
 | _=>false
def quietM:MOp→Bool
 | .load _ _ _=>true
 | .b2s _=>true
 | .s2b _=>true
 | .slL _ _ _ _ _=>true
 | .cvU _=>true
 | .cvP _ _ _=>true
 | .usd _=>true
 | .lkp _ _ _ _ _=>true
 | .lenM _=>true
 | .bldS _ _ _ _ _ own=>!own
 | _=>false
def loud (c:CO):Bool:=match c.op with
 | .m q=>!(quietM q)
 | _=>false
def quietC (c:CO):Bool:=match c.op with
 | .m q=>quietM q
 | _=>false
def outVal:Option Out→Option AV
 | some (.val v _)=>some v
 | _=>none
def evQ (K:Cfg) (O:Orc) (q:MOp) (e:Env) (h:Heap):Option AV:=
 match q with
 | .load ag sz x=>outVal (evM K O (.load ag sz x) e h)
 | .b2s x=>outVal (evM K O (.b2s x) e h)
 | .s2b x=>outVal (evM K O (.s2b x) e h)
 | .cvU x=>outVal (evM K O (.cvU x) e h)
 | .cvP t n x=>outVal (evM K O (.cvP t n x) e h)
 | .usd x=>outVal (evM K O (.usd x) e h)
 | .lkp kk z ok x k=>outVal (evM K O (.lkp kk z ok x k) e h)
 | .lenM x=>outVal (evM K O (.lenM x) e h)
 | .slL sz x lo hi mx=>(match x.ev e with
  | .lst _=>outVal (evM K O (.slL sz x lo hi mx) e h)
  | .nils=>outVal (evM K O (.slL sz x lo hi mx) e h)
  | _=>none)
 | .bldS t sz n z ps false=>if AV.refOks (fun _=>false) (ps.map fun (_,x)=>x.ev e)=true then outVal (evM K O (.bldS t sz n z ps false) e h) else none
 | _=>none
abbrev Pend:=List (Nat×MOp×Env×AV)
def same1 (v:AV):Option AV→Bool
 | some u=>u.beq v
 | none=>false
def recheck (K:Cfg) (O:Orc) (re:List Nat) (pd:Pend) (h:Heap):Bool:=
 pd.all fun x=>!(re.contains x.1) || same1 x.2.2.2 (evQ K O x.2.1 x.2.2.1 h)
def evD (K:Cfg) (O:Orc):List DO→Pend→St→Option (Ex×St)
 | [],_,s=>some (.norm,s)
 | d :: r,pd,s=>match wanted d.co.gd (keep d.looks s.env) with
  | none=>none
  | some false=>if loud d.co=true∧recheck K O d.re pd s.h=false then none else evD K O r pd { s with env:=put s.env d.co.dst (.tup []) }
  | some true=>match d.co.op with
   | .p q=>(match evP q (keep d.looks s.env) with
    | some v=>evD K O r pd { s with env:=put s.env d.co.dst v }
    | none=>none)
   | .m q=>if quietM q=true then (match evQ K O q (keep d.looks s.env) s.h with
     | some v=>evD K O r ((d.ix,q,keep d.looks s.env,v) :: pd) { s with env:=put s.env d.co.dst v }
     | none=>none)
    else (match evM K O q (keep d.looks s.env) s.h with
     | some (.val v h)=>if recheck K O d.re pd h=true then evD K O r pd { env:=put s.env d.co.dst v,h:=h } else none
     | some (.pan v h)=>some (.pan v,{ env:=[],h:=h })
     | none=>none)
   | .bad=>none
def Blk.refOk (p:Loc→Bool):Blk→Bool
 | .box _ _ v=>v.refOk p
 | .arr _ _ _ _=>true
 | .map es=>es.all fun x=>x.2.refOk p
 | .dead=>true
 | .arq _ _ _ _ _ _ _=>true
 | .arv _ _ es=>AV.refOks p es
def cutE (p:Loc→Bool) (e:Env):Bool:=e.all fun x=>x.2.refOk p
def cut (n:Nat) (live:List Nat) (s:St):Option St:=
 match s.h with
 | []=>none
 | f :: o=>
  if f.length=n then some { env:=keep live s.env,h:=s.h }
  else if n≤f.length∧cutE (fun a=>!(a.1 == o.length) || decide (a.2 < n)) (keep live s.env)=true ∧
    (f.take n).all (Blk.refOk fun a=>!(a.1 == o.length) || decide (a.2 < n))=true then
   some { env:=keep live s.env,h:=f.take n :: o }
  else some { env:=keep live s.env,h:=s.h }
def evC (K:Cfg) (O:Orc):CC→St→Option (Ex×St)
 | .skip,s=>some (.norm,s)
 | .reg ops,s=>evOps K O ops s
 | .draw ds,s=>evD K O ds [] s
 | .seq a b,s=>match evC K O a s with
  | some (.norm,s1)=>evC K O b s1
  | r=>r
 | .cond x a b,s=>match x.ev s.env with
  | .bool t=>if t then evC K O a s else evC K O b s
  | _=>none
 | .block id a,s=>match evC K O a s with
  | some (.exit j,s1)=>if j=id then some (.norm,s1) else some (.exit j,s1)
  | r=>r
 | .loop live a,s=>O.code (.loopAt (hlen s.h) live a) { s with env:=keep live s.env }
 | .loopAt n live a,s=>match evC K O a s with
  | some (.norm,s1)=>(match cut n live s1 with
   | some s2=>O.code (.loopAt n live a) s2
   | none=>none)
  | r=>r
 | .exit id,s=>some (.exit id,s)
 | .ret,s=>some (.ret,s)
 | .scope a,s=>evC K O a s
 | .bad,_=>none
def evRes1 (s:St):CRes→Option AV
 | .tmp t=>some (get s.env t)
 | .own t=>some (get s.env t)
 | .cell t ag sz=>loadFrom ag sz s.h (get s.env t)
def evResL (s:St):List CRes→Option (List AV)
 | []=>some []
 | r :: rs=>match evRes1 s r with
  | some v=>(match evResL s rs with
   | some vs=>some (v :: vs)
   | none=>none)
  | none=>none
def evRes (s:St) (rs:List CRes):Option AV:=
 match evResL s rs with
 | some [v]=>some v
 | some vs=>some (.tup vs)
 | none=>none
mutual
def AV.ren (r:Loc→Loc):AV→AV
 | .agg cs=>.agg (AV.rens r cs)
 | .tup cs=>.tup (AV.rens r cs)
 | .own a n=>.own (r a) n
 | .ptr a o=>.ptr (r a) o
 | .eptr a n s i o=>.eptr (r a) n s i o
 | .mp a=>.mp (r a)
 | .fn f x y=>.fn f (AV.rens r x) (AV.rens r y)
 | .iface t v=>.iface t (v.ren r)
 | v=>v
def AV.rens (r:Loc→Loc):List AV→List AV
 | []=>[]
 | c :: cs=>c.ren r :: AV.rens r cs
end
def Blk.ren (r:Loc→Loc):Blk→Blk
 | .box t fz v=>.box t fz (v.ren r)
 | .map es=>.map (es.map fun x=>(x.1,x.2.ren r))
 | .arv t s es=>.arv t s (AV.rens r es)
 | b=>b
def moved (l n:Nat) (a:Loc):Loc:=if a.1=l+1 then (l,n+a.2) else a
def merge (v:AV) (f:List Blk):Heap→Option (AV×Heap)
 | []=>none
 | g :: o=>some (v.ren (moved o.length g.length),(g++f.map (Blk.ren (moved o.length g.length))) :: o)
def pop (v:AV) (h:Heap):Option (AV×Heap):=
 match v.view (fun a=>a.1 == h.length - 1) h with
 | some (v',f :: o)=>if v'.refOk (fun a=>decide (a.1 < o.length))=true then some (v',o) else merge v' f o
 | _=>none
def evB (K:Cfg) (O:Orc):CB→St→Option (Ex×St×Option (FuncId×List AV))
 | .code c,s=>match evC K O c s with
  | some (ex,s')=>some (ex,s',none)
  | none=>none
 | .seq c b,s=>match evC K O c s with
  | some (.norm,s1)=>evB K O b s1
  | some (ex,s1)=>some (ex,s1,none)
  | none=>none
 | .dfr d q c,s=>match evP q s.env with
  | some (.fn (.func g) [] cap)=>(match evC K O c { s with env:=set s.env d (.fn (.func g) [] cap) } with
   | some (ex,s')=>some (ex,s',some (g,cap))
   | none=>none)
  | _=>none
def evDef (K:Cfg) (O:Orc) (g:FuncId) (cap:List AV) (pv:Option AV) (h:Heap):Option Heap:=
 match K.dfn g with
 | none=>none
 | some df=>if cap.length≤df.nt then (match evC K O df.rest { env:=set (set (envOf 0 cap) df.d1 (pv.getD .nili)) df.d2 (pv.getD .nili),h:=[] :: h } with
  | some (.norm,s)=>(match pop (.tup []) s.h with
   | some (_,h')=>some h'
   | none=>none)
  | some (.ret,s)=>(match pop (.tup []) s.h with
   | some (_,h')=>some h'
   | none=>none)
  | _=>none) else none
def CRes.keep:CRes→CRes
 | .tmp t=>.own t
 | r=>r
def keepR:List CRes→Bool
 | .own _ :: _=>true
 | _=>false
def keptR (k:Bool) (rs:List CRes):List CRes:=if k then rs.map CRes.keep else rs
def popK (k:Bool) (v:AV) (h:Heap):Option (AV×Heap):=
 if k=true then (match h with
  | f :: o=>merge v f o
  | []=>none) else pop v h
def finish (rs:List CRes) (s:St):Option Out:=
 match evRes s rs with
 | some v=>(match popK (keepR rs) v s.h with
  | some (v',h')=>some (.val v' h')
  | none=>none)
 | none=>none
def finD (K:Cfg) (O:Orc) (rs:List CRes) (g:FuncId) (cap:List AV) (pv:Option AV) (s:St):Option Out:=
 match evDef K O g cap pv s.h with
 | some h2=>finish rs { s with h:=h2 }
 | none=>none
def stepFn (K:Cfg) (O:Orc) (f:FuncId) (args:List AV) (h:Heap):Option Out:=
 match K.X f args h with
 | some r=>some r
 | none=>match K.fns f with
  | none=>none
  | some cf=>if args.length≤cf.nt then match evB K O cf.body { env:=envOf 0 args,h:=[] :: h } with
   | some (.norm,s,none)=>finish cf.res s
   | some (.ret,s,none)=>finish cf.res s
   | some (.pan v,s,none)=>(match pop v s.h with
    | some (v',h')=>some (.pan v' h')
    | none=>none)
   | some (.norm,s,some (g,cap))=>finD K O cf.res g cap none s
   | some (.ret,s,some (g,cap))=>finD K O cf.res g cap none s
   | some (.pan v,s,some (g,cap))=>finD K O cf.res g cap (some v) s
   | _=>none
   else none
def step (K:Cfg) (O:Orc):Orc:={ fn:=stepFn K O,code:=evC K O }
def evF (K:Cfg):Nat→Orc
 | 0=>{ fn:=fun _ _ _=>none,code:=fun _ _=>none }
 | n+1=>step K (evF K n)
end Go.Ab
/-
  What abstract values and abstract memory say of the model's values and worlds;how that is kept while a world goes on.
-/
namespace Go.Ab
structure Gm where
  blk:Loc→Option Nat
  len:Loc→Option Nat
  cap:Loc→Nat
  imm:Nat→Nat→Prop
  tl:Nat→Option (Loc×Nat):=fun _=>none
def NoLoc:Loc→Prop:=fun _=>False
def ownVal (G:Gm) (a:Loc) (n:Nat):Value:=
 match G.blk a with
 | none=>.slice none 0 0
 | some b=>.slice (some ⟨b,0,none⟩) n (G.cap a)
inductive VRel (w:World) (G:Gm):(Loc→Prop)→AV→Value→Prop
 | top (L:Loc→Prop) (x:Value):VRel w G L .top x
 | bool (L:Loc→Prop) (b:Bool):VRel w G L (.bool b) (.bool b)
 | int (L:Loc→Prop) (k:IntKind) (n:Int):VRel w G L (.int k n) (.int k n)
 | str (L:Loc→Prop) (s:List UInt8):VRel w G L (.str s) (.string ⟨s.toArray⟩)
 | agg (L:Loc→Prop) (cs:List AV) (vs:Array Value) (hl:vs.size=cs.length) (ho:∀ i,i < cs.length→(vs.getD i undef).oneCell'=true)
   (h:∀ i,i < cs.length→VRel w G L (cs.getD i .top) (vs.getD i undef)):VRel w G L (.agg cs) (.agg vs)
 | tup (L:Loc→Prop) (cs:List AV) (vs:Array Value) (hl:vs.size=cs.length)
   (h:∀ i,i < cs.length→VRel w G L (cs.getD i .top) (vs.getD i undef)):VRel w G L (.tup cs) (.tuple vs)
 | nils (L:Loc→Prop):VRel w G L .nils (.slice none 0 0)
 | emp (L:Loc→Prop) (a:Option Addr):VRel w G L .emp (.slice a 0 0)
 | lst0 (L:Loc→Prop) (a:Option Addr) (c:Nat):VRel w G L (.lst []) (.slice a 0 c)
 | lst (L:Loc→Prop) (es:List AV) (b off c sz:Nat) (vf:Nat→Nat→Value) (hle:es.length≤c)
   (hs:∀ i,i < es.length→(es.getD i .top).cells.length=sz)
   (hc:∀ i j,i < es.length→j < sz→w.cell? ⟨b,off+i * sz+j,none⟩=some (vf i j)∧G.imm b (off+i * sz+j)∧(vf i j).oneCell'=true)
   (hv:∀ i j,i < es.length→j < sz→VRel w G NoLoc ((es.getD i .top).cells.getD j .top) (vf i j)) :
   VRel w G L (.lst es) (.slice (some ⟨b,off,none⟩) es.length c)
 | own (L:Loc→Prop) (a:Loc) (n m:Nat) (x:Value) (hL:L a) (hm:G.len a=some m) (hle:n≤m)
   (ho:(n=0∧x=.slice none 0 0)∨∃ b c,x=.slice (some ⟨b,0,none⟩) n c) (h:m=n→x=ownVal G a n):VRel w G L (.own a n) x
 | ptr (L:Loc→Prop) (a:Loc) (o b:Nat) (hL:L a) (hm:G.len a=none) (h:G.blk a=some b):VRel w G L (.ptr a o) (.pointer (some ⟨b,o,none⟩))
 | eptr (L:Loc→Prop) (a:Loc) (n sz i o m b:Nat) (hL:L a) (hm:G.len a=some m) (hle:n≤m)
   (h:m=n→G.blk a=some b):VRel w G L (.eptr a n sz i o) (.pointer (some ⟨b,i * sz+o,none⟩))
 | iptr (L:Loc→Prop) (e:AV) (o b off:Nat) (vf:Nat→Value)
   (hc:∀ j,j < e.cells.length→w.cell? ⟨b,off+j,none⟩=some (vf j)∧G.imm b (off+j)∧(vf j).oneCell'=true)
   (hv:∀ j,j < e.cells.length→VRel w G NoLoc (e.cells.getD j .top) (vf j)):VRel w G L (.iptr e o) (.pointer (some ⟨b,off+o,none⟩))
 | nilp (L:Loc→Prop):VRel w G L .nilp (.pointer none)
 | fn (L:Loc→Prop) (f:Fn) (a b:List AV) (va vb:Array Value) (hla:va.size=a.length) (hlb:vb.size=b.length)
   (ha:∀ i,i < a.length→VRel w G L (a.getD i .top) (va.getD i undef)) (hb:∀ i,i < b.length→VRel w G L (b.getD i .top) (vb.getD i undef)) :
   VRel w G L (.fn f a b) (.func f va vb)
 | nilf (L:Loc→Prop):VRel w G L .nilf .nilFunc
 | iface (L:Loc→Prop) (t:TypeId) (v:AV) (x:Value) (h:VRel w G L v x):VRel w G L (.iface t v) (.iface t x)
 | nili (L:Loc→Prop):VRel w G L .nili .nilIface
 | mp (L:Loc→Prop) (a:Loc) (b:Nat) (hL:L a) (hm:G.len a=none) (h:G.blk a=some b):VRel w G L (.mp a) (.map (some b))
 | nilm (L:Loc→Prop):VRel w G L .nilm (.map none)
 | anyp (L:Loc→Prop) (p:Option Addr):VRel w G L .anyp (.pointer p)
def Agree (G G':Gm) (a:Loc):Prop:=
 (G'.blk a=G.blk a∧G'.len a=G.len a∧G'.cap a=G.cap a)∨∃ m m',G.len a=some m∧G'.len a=some m'∧m < m'
theorem Agree.refl (G:Gm) (a:Loc):Agree G G a:=.inl ⟨rfl,rfl,rfl⟩
theorem Agree.trans {G G' G'':Gm} {a:Loc} (h:Agree G G' a) (k:Agree G' G'' a):Agree G G'' a:=by
 rcases h with ⟨h1,h2,h3⟩ | ⟨m,m',h1,h2,h3⟩
 ·rcases k with ⟨k1,k2,k3⟩ | ⟨n,n',k1,k2,k3⟩
  ·exact .inl ⟨k1.trans h1,k2.trans h2,k3.trans h3⟩
  ·exact .inr ⟨n,n',h2▸k1,k2,k3⟩
 ·rcases k with ⟨k1,k2,k3⟩ | ⟨n,n',k1,k2,k3⟩
  ·exact .inr ⟨m,m',h1,k2.trans h2,h3⟩
  ·rw [h2] at k1
   injection k1 with k1
   exact .inr ⟨m,n',h1,k2,by omega⟩
theorem Agree.none_ {G G':Gm} {a:Loc} (h:Agree G G' a) (hn:G.len a=none):G'.blk a=G.blk a∧G'.len a=none:=by
 rcases h with ⟨h1,h2,h3⟩ | ⟨m,m',h1,h2,h3⟩
 ·exact ⟨h1,h2.trans hn⟩
 ·rw [hn] at h1;cases h1
def ImmKept (w:World) (G:Gm) (w':World) (G':Gm):Prop:=∀ b o,G.imm b o→G'.imm b o∧w'.cell? ⟨b,o,none⟩=w.cell? ⟨b,o,none⟩
theorem refOks_get {p:Loc→Bool}:∀ {cs:List AV},AV.refOks p cs=true→∀ i,i < cs.length→(cs.getD i .top).refOk p=true
 | [],_,i,hi=>by simp at hi
 | c :: cs,h,i,hi=>by
  simp only [AV.refOks,Bool.and_eq_true] at h
  cases i with
  | zero=>simpa using h.1
  | succ i=>simpa using refOks_get h.2 i (by simpa using hi)
theorem refOks_mk {p:Loc→Bool}:∀ {cs:List AV},(∀ i,i < cs.length→(cs.getD i .top).refOk p=true)→AV.refOks p cs=true
 | [],_=>rfl
 | c :: cs,h=>by
  simp only [AV.refOks,Bool.and_eq_true]
  exact ⟨by simpa using h 0 (by simp),refOks_mk fun i hi=>by simpa using h (i+1) (by simpa using hi)⟩
theorem VRel.refs {w:World} {G:Gm} {L:Loc→Prop} {v:AV} {x:Value} (h:VRel w G L v x):∀ {p:Loc→Bool},(∀ a,L a→p a=true)→v.refOk p=true:=by
 induction h with
 | agg L cs vs hl ho h ih=>intro p hp;simp only [AV.refOk];exact refOks_mk fun i hi=>ih i hi hp
 | tup L cs vs hl h ih=>intro p hp;simp only [AV.refOk];exact refOks_mk fun i hi=>ih i hi hp
 | own L a n m x hLa hm hle ho h=>intro p hp;simp only [AV.refOk];exact hp a hLa
 | ptr L a o b hLa hm h=>intro p hp;simp only [AV.refOk];exact hp a hLa
 | eptr L a n sz i o m b hLa hm hle h=>intro p hp;simp only [AV.refOk];exact hp a hLa
 | mp L a b hLa hm h=>intro p hp;simp only [AV.refOk];exact hp a hLa
 | fn L f a b va vb hla hlb ha hb iha ihb=>intro p hp;simp only [AV.refOk,Bool.and_eq_true];exact ⟨refOks_mk fun i hi=>iha i hi hp,refOks_mk fun i hi=>ihb i hi hp⟩
 | iface L t v x h ih=>intro p hp;simp only [AV.refOk];exact ih hp
 | _=>intros;simp only [AV.refOk]
theorem VRel.noRef {w:World} {G:Gm} {v:AV} {x:Value} (h:VRel w G NoLoc v x):v.refOk (fun _=>false)=true:=h.refs fun _ ha=>ha.elim
theorem VRel.goes {w w':World} {G G':Gm} {L:Loc→Prop} {v:AV} {x:Value} (h:VRel w G L v x) (hI:ImmKept w G w' G') :
  ∀ {L':Loc→Prop} {p:Loc→Bool},v.refOk p=true→(∀ a,L a→p a=true→L' a∧Agree G G' a)→VRel w' G' L' v x:=by
 induction h with
 | top L x=>intros;exact .top _ _
 | bool L b=>intros;exact .bool _ _
 | int L k n=>intros;exact .int _ _ _
 | str L s=>intros;exact .str _ _
 | agg L cs vs hl ho h ih=>
  intro L' p hr hL
  simp only [AV.refOk] at hr
  exact .agg _ _ _ hl ho fun i hi=>ih i hi (refOks_get hr i hi) hL
 | tup L cs vs hl h ih=>
  intro L' p hr hL
  simp only [AV.refOk] at hr
  exact .tup _ _ _ hl fun i hi=>ih i hi (refOks_get hr i hi) hL
 | nils L=>intros;exact .nils _
 | emp L a=>intros;exact .emp _ _
 | lst0 L a c=>intros;exact .lst0 _ _ _
 | lst L es b off c sz vf hle hs hc hv ih=>
  intro L' p hr hL
  refine .lst _ es b off c sz vf hle hs (fun i j hi hj=>?_) (fun i j hi hj=>?_)
  ·obtain ⟨h1,h2,h3⟩:=hc i j hi hj
   obtain ⟨k1,k2⟩:=hI _ _ h2
   exact ⟨k2.trans h1,k1,h3⟩
  ·refine ih i j hi hj (p:=fun _=>false) ?_ (fun a ha=>ha.elim)
   exact VRel.noRef (hv i j hi hj)
 | own L a n m x hLa hm hle ho h=>
  intro L' p hr hL
  simp only [AV.refOk] at hr
  obtain ⟨h1,h2⟩:=hL a hLa hr
  rcases h2 with ⟨e1,e2,e3⟩ | ⟨m0,m',e1,e2,e3⟩
  ·refine .own _ a n m x h1 (e2.trans hm) hle ho fun e=>?_
   rw [h e]
   unfold ownVal
   rw [e1,e3]
  ·rw [hm] at e1
   injection e1 with e1
   exact .own _ a n m' x h1 e2 (by omega) ho fun e=>by omega
 | ptr L a o b hLa hm h=>
  intro L' p hr hL
  simp only [AV.refOk] at hr
  obtain ⟨h1,h2⟩:=hL a hLa hr
  obtain ⟨k1,k2⟩:=h2.none_ hm
  exact .ptr _ a o b h1 k2 (k1.trans h)
 | eptr L a n sz i o m b hLa hm hle h=>
  intro L' p hr hL
  simp only [AV.refOk] at hr
  obtain ⟨h1,h2⟩:=hL a hLa hr
  rcases h2 with ⟨e1,e2,e3⟩ | ⟨m0,m',e1,e2,e3⟩
  ·exact .eptr _ a n sz i o m b h1 (e2.trans hm) hle fun e=>e1.trans (h e)
  ·rw [hm] at e1
   injection e1 with e1
   exact .eptr _ a n sz i o m' b h1 e2 (by omega) fun e=>by omega
 | iptr L e o b off vf hc hv ih=>
  intro L' p hr hL
  refine .iptr _ e o b off vf (fun j hj=>?_) (fun j hj=>?_)
  ·obtain ⟨h1,h2,h3⟩:=hc j hj
   obtain ⟨k1,k2⟩:=hI _ _ h2
   exact ⟨k2.trans h1,k1,h3⟩
  ·exact ih j hj (p:=fun _=>false) (VRel.noRef (hv j hj)) (fun a ha=>ha.elim)
 | nilp L=>intros;exact .nilp _
 | fn L f a b va vb hla hlb ha hb iha ihb=>
  intro L' p hr hL
  simp only [AV.refOk,Bool.and_eq_true] at hr
  exact .fn _ f a b va vb hla hlb (fun i hi=>iha i hi (refOks_get hr.1 i hi) hL) (fun i hi=>ihb i hi (refOks_get hr.2 i hi) hL)
 | nilf L=>intros;exact .nilf _
 | iface L t v x h ih=>
  intro L' p hr hL
  simp only [AV.refOk] at hr
  exact .iface _ _ _ _ (ih hr hL)
 | nili L=>intros;exact .nili _
 | mp L a b hLa hm h=>
  intro L' p hr hL
  simp only [AV.refOk] at hr
  obtain ⟨h1,h2⟩:=hL a hLa hr
  obtain ⟨k1,k2⟩:=h2.none_ hm
  exact .mp _ a b h1 k2 (k1.trans h)
 | nilm L=>intros;exact .nilm _
 | anyp L p=>intros;exact .anyp _ _
theorem VRel.mono {w w':World} {G G':Gm} {L L':Loc→Prop} {v:AV} {x:Value} (h:VRel w G L v x) (hI:ImmKept w G w' G')
  (hL:∀ a,L a→L' a∧Agree G G' a):VRel w' G' L' v x:=
 h.goes hI (p:=fun _=>true) (h.refs fun _ _=>rfl) fun a ha _=>hL a ha
theorem ImmKept.refl (w:World) (G:Gm):ImmKept w G w G:=fun _ _ h=>⟨h,rfl⟩
theorem VRel.pure_ {w:World} {G:Gm} {L L':Loc→Prop} {v:AV} {x:Value} (h:VRel w G L v x) (hp:v.pure=true):VRel w G L' v x:=
 h.goes (ImmKept.refl w G) (p:=fun _=>false) hp fun _ _ e=>by cases e
theorem VRel.wider {w:World} {G:Gm} {L L':Loc→Prop} {v:AV} {x:Value} (h:VRel w G L v x) (hL:∀ a,L a→L' a):VRel w G L' v x:=
 h.mono (ImmKept.refl w G) fun a ha=>⟨hL a ha,Agree.refl G a⟩
theorem rens_length (r:Loc→Loc):∀ cs:List AV,(AV.rens r cs).length=cs.length
 | []=>rfl
 | c :: cs=>by simp [AV.rens,rens_length r cs]
theorem rens_get (r:Loc→Loc):∀ (cs:List AV) (i:Nat),(AV.rens r cs).getD i .top=(cs.getD i .top).ren r
 | [],i=>by simp [AV.rens,AV.ren]
 | c :: cs,0=>by simp [AV.rens]
 | c :: cs,i+1=>by simpa [AV.rens] using rens_get r cs i
theorem ren_cells (r:Loc→Loc) (v:AV):(v.ren r).cells.length=v.cells.length∧∀ i,(v.ren r).cells.getD i .top=(v.cells.getD i .top).ren r:=by
 cases v with
 | agg cs=>exact ⟨by simp [AV.ren,AV.cells,rens_length],fun i=>by simp only [AV.ren,AV.cells];exact rens_get r cs i⟩
 | top=>exact ⟨rfl,fun i=>by simp [AV.ren,AV.cells]⟩
 | tup vs=>exact ⟨rfl,fun i=>by simp [AV.ren,AV.cells]⟩
 | _=>
  refine ⟨by simp [AV.ren,AV.cells],fun i=>?_⟩
  cases i<;>simp [AV.ren,AV.cells]
theorem VRel.ren_ {w:World} {G:Gm} {L:Loc→Prop} {v:AV} {x:Value} (h:VRel w G L v x) {G':Gm} {r:Loc→Loc} (hI:∀ b o,G.imm b o→G'.imm b o) :
  ∀ {L':Loc→Prop},(∀ a,L a→L' (r a)∧G'.blk (r a)=G.blk a∧G'.len (r a)=G.len a∧G'.cap (r a)=G.cap a)→VRel w G' L' (v.ren r) x:=by
 have hI':ImmKept w G w G':=fun b o hi=>⟨hI b o hi,rfl⟩
 induction h with
 | top L x=>intros;exact .top _ _
 | bool L b=>intros;exact .bool _ _
 | int L k n=>intros;exact .int _ _ _
 | str L s=>intros;exact .str _ _
 | agg L cs vs hl ho h ih=>
  intro L' hL
  simp only [AV.ren]
  refine .agg _ _ _ (by rw [rens_length];exact hl) (fun i hi=>ho i (by rw [rens_length] at hi;exact hi)) fun i hi=>?_
  rw [rens_length] at hi
  rw [rens_get]
  exact ih i hi hL
 | tup L cs vs hl h ih=>
  intro L' hL
  simp only [AV.ren]
  refine .tup _ _ _ (by rw [rens_length];exact hl) fun i hi=>?_
  rw [rens_length] at hi
  rw [rens_get]
  exact ih i hi hL
 | nils L=>intros;exact .nils _
 | emp L a=>intros;exact .emp _ _
 | lst0 L a c=>intros;exact .lst0 _ _ _
 | lst L es b off c sz vf hle hs hc hv ih=>
  intro L' hL
  refine .lst _ es b off c sz vf hle hs (fun i j hi hj=>?_) (fun i j hi hj=>?_)
  ·obtain ⟨h1,h2,h3⟩:=hc i j hi hj
   exact ⟨h1,hI _ _ h2,h3⟩
  ·exact (hv i j hi hj).mono hI' fun a ha=>ha.elim
 | own L a n m x hLa hm hle ho h=>
  intro L' hL
  obtain ⟨k1,k2,k3,k4⟩:=hL a hLa
  simp only [AV.ren]
  refine .own _ _ n m x k1 (k3.trans hm) hle ho fun e=>?_
  rw [h e]
  unfold ownVal
  rw [k2,k4]
 | ptr L a o b hLa hm h=>
  intro L' hL
  obtain ⟨k1,k2,k3,k4⟩:=hL a hLa
  exact .ptr _ _ o b k1 (k3.trans hm) (k2.trans h)
 | eptr L a n sz i o m b hLa hm hle h=>
  intro L' hL
  obtain ⟨k1,k2,k3,k4⟩:=hL a hLa
  exact .eptr _ _ n sz i o m b k1 (k3.trans hm) hle fun e=>k2.trans (h e)
 | iptr L e o b off vf hc hv ih=>
  intro L' hL
  refine .iptr _ e o b off vf (fun j hj=>?_) (fun j hj=>?_)
  ·obtain ⟨h1,h2,h3⟩:=hc j hj
   exact ⟨h1,hI _ _ h2,h3⟩
  ·exact (hv j hj).mono hI' fun a ha=>ha.elim
 | nilp L=>intros;exact .nilp _
 | fn L f a b va vb hla hlb ha hb iha ihb=>
  intro L' hL
  simp only [AV.ren]
  refine .fn _ f _ _ va vb (by rw [rens_length];exact hla) (by rw [rens_length];exact hlb) (fun i hi=>?_) (fun i hi=>?_)
  ·rw [rens_length] at hi;rw [rens_get];exact iha i hi hL
  ·rw [rens_length] at hi;rw [rens_get];exact ihb i hi hL
 | nilf L=>intros;exact .nilf _
 | iface L t v x h ih=>
  intro L' hL
  simp only [AV.ren]
  exact .iface _ _ _ _ (ih hL)
 | nili L=>intros;exact .nili _
 | mp L a b hLa hm h=>
  intro L' hL
  obtain ⟨k1,k2,k3,k4⟩:=hL a hLa
  exact .mp _ _ b k1 (k3.trans hm) (k2.trans h)
 | nilm L=>intros;exact .nilm _
 | anyp L p=>intros;exact .anyp _ _
mutual
theorem AV.beq_eq:∀ (a b:AV),a.beq b=true→a=b
 | .top,b,h=>by cases b<;>simp_all [AV.beq]
 | .bool a,b,h=>by cases b<;>simp_all [AV.beq]
 | .int k a,b,h=>by cases b<;>simp_all [AV.beq]
 | .str a,b,h=>by cases b<;>simp_all [AV.beq]
 | .agg x,b,h=>by
  cases b<;>simp only [AV.beq] at h<;>try (cases h;done)
  rw [AV.beqs_eq _ _ h]
 | .tup x,b,h=>by
  cases b<;>simp only [AV.beq] at h<;>try (cases h;done)
  rw [AV.beqs_eq _ _ h]
 | .nils,b,h=>by cases b<;>simp_all [AV.beq]
 | .emp,b,h=>by cases b<;>simp_all [AV.beq]
 | .lst x,b,h=>by
  cases b<;>simp only [AV.beq] at h<;>try (cases h;done)
  rw [AV.beqs_eq _ _ h]
 | .own a n,b,h=>by cases b<;>simp_all [AV.beq]
 | .ptr a n,b,h=>by cases b<;>simp_all [AV.beq]
 | .eptr a n sz i o,b,h=>by cases b<;>simp_all [AV.beq]
 | .iptr e o,b,h=>by
  cases b<;>simp only [AV.beq] at h<;>try (cases h;done)
  simp only [Bool.and_eq_true,decide_eq_true_eq] at h
  rw [AV.beq_eq _ _ h.1,h.2]
 | .nilp,b,h=>by cases b<;>simp_all [AV.beq]
 | .fn f x y,b,h=>by
  cases f with
  | func f=>
   cases b with
   | fn g x' y'=>
    cases g with
    | func g=>
     simp only [AV.beq,Bool.and_eq_true,decide_eq_true_eq] at h
     rw [h.1.1,AV.beqs_eq _ _ h.1.2,AV.beqs_eq _ _ h.2]
    | _=>simp [AV.beq] at h
   | _=>simp [AV.beq] at h
  | _=>cases b<;>simp [AV.beq] at h
 | .nilf,b,h=>by cases b<;>simp_all [AV.beq]
 | .iface t v,b,h=>by
  cases b<;>simp only [AV.beq] at h<;>try (cases h;done)
  simp only [Bool.and_eq_true,decide_eq_true_eq] at h
  rw [h.1,AV.beq_eq _ _ h.2]
 | .nili,b,h=>by cases b<;>simp_all [AV.beq]
 | .mp a,b,h=>by cases b<;>simp_all [AV.beq]
 | .nilm,b,h=>by cases b<;>simp_all [AV.beq]
 | .anyp,b,h=>by cases b<;>simp_all [AV.beq]
theorem AV.beqs_eq:∀ (a b:List AV),AV.beqs a b=true→a=b
 | [],b,h=>by cases b<;>simp_all [AV.beqs]
 | c :: cs,b,h=>by
  cases b<;>simp only [AV.beqs] at h<;>try (cases h;done)
  simp only [Bool.and_eq_true] at h
  rw [AV.beq_eq _ _ h.1,AV.beqs_eq _ _ h.2]
end
end Go.Ab

/-
  The abstract evaluator: its values, its memory, its compact code, and the evaluator itself. No theorem here speaks of the model.
-/
import Derived.WalkKit
set_option linter.all false
namespace Go.Ab
abbrev fS:=@_root_.Option.some.injEq
abbrev iO:=@_root_.List.length_nil
abbrev Io:=@_root_.List.length_cons
abbrev afj:=@_root_.List.map_cons
abbrev afk:=@_root_.List.getD_eq_getElem?_getD
abbrev afl:=@_root_.Int.natCast_zero
abbrev afm:=@_root_.Nat.le_refl
abbrev afn:=@_root_.Prod.mk.injEq
abbrev afo:=@_root_.List.cons_append
abbrev afp:=@_root_.List.mem_cons
abbrev afq:=@_root_.List.nil_append
abbrev afr:=@_root_.List.length_append
abbrev afs:=@_root_.Go.Sem.run_bind
abbrev aft:=@_root_.List.getElem?_eq_some_iff
abbrev afu:=@_root_.Nat.zero_add
abbrev afv:=@_root_.List.length_map
abbrev afw:=@_root_.List.map_nil
abbrev afx:=@_root_.Array.getD_eq_getD_getElem?
abbrev afy:=@_root_.List.getElem?_map
abbrev afz:=@_root_.List.append_nil
abbrev afA:=@_root_.Bool.false_eq_true
abbrev afB:=@_root_.List.mem_of_getElem?
abbrev afC:=@_root_.Bool.and_eq_true
abbrev afD:=@_root_.List.getElem?_eq_getElem
abbrev afE:=@_root_.List.map_append
abbrev afF:=@_root_.List.getElem?_append_left
abbrev afG:=@_root_.List.mem_map
abbrev afH:=@_root_.List.cons.injEq
abbrev afI:=@_root_.Go.Result.andThen_ok
abbrev afJ:=@_root_.List.eq_nil_of_length_eq_zero
abbrev afK:=@_root_.Nat.mul_le_mul_right
abbrev afL:=@_root_.List.all_eq_true
abbrev afM:=@_root_.Int.toNat_natCast
abbrev afN:=@_root_.Array.getElem?_eq_some_iff
abbrev afO:=@_root_.List.mem_singleton
abbrev afP:=@_root_.Array.length_toList
abbrev afQ:=@_root_.Nat.add_mul
abbrev afR:=@_root_.List.mem_append
abbrev afS:=@_root_.Bool.true_and
abbrev afT:=@_root_.List.getElem?_append_right
abbrev afU:=@_root_.List.length_singleton
abbrev afV:=@_root_.Go.Sem.run_pure
abbrev afW:=@_root_.Array.getElem?_eq_getElem
abbrev afX:=@_root_.List.append_assoc
abbrev afY:=@_root_.List.length_set
abbrev afZ:=@_root_.List.not_mem_nil
abbrev af0:=@_root_.List.map_map
abbrev af1:=@_root_.Nat.add_zero
abbrev af2:=@_root_.List.getElem?_take_of_lt
abbrev af3:=@_root_.Nat.le_trans
abbrev af4:=@_root_.Nat.lt_of_lt_of_le
abbrev af5:=@_root_.Nat.add_assoc
abbrev af6:=@_root_.List.getD_cons_zero
abbrev af7:=@_root_.Option.map_some
abbrev af8:=@_root_.List.size_toArray
abbrev af9:=@_root_.List.all_cons
abbrev aga:=@_root_.List.nodup_append
abbrev agb:=@_root_.Nat.mul_one
abbrev agc:=@_root_.List.getElem?_eq_none
abbrev agd:=@_root_.Nat.lt_or_ge
abbrev age:=@_root_.Nat.one_mul
abbrev agf:=@_root_.Go.World.cell?_of_block
abbrev agh:=@_root_.Ne.symm
abbrev agi:=@_root_.Nat.mul_comm
abbrev agj:=@_root_.Option.getD_some
abbrev agk:=@_root_.Int.natCast_one
abbrev agl:=@_root_.Nat.not_lt_zero
abbrev agm:=@_root_.Int.natCast_add
abbrev agn:=@_root_.List.findIdx?_cons
abbrev ago:=@_root_.List.getElem?_cons_zero
abbrev agp:=@_root_.Bool.or_eq_true
abbrev agq:=@_root_.List.foldl_cons
abbrev ags:=@_root_.List.getElem?_drop
abbrev agt:=@_root_.Bool.eq_iff_iff
abbrev agu:=@_root_.List.contains_iff_mem
abbrev agv:=@_root_.List.map_toArray
abbrev agw:=@_root_.List.length_take
abbrev agx:=@_root_.List.findIdx?_eq_some_iff_getElem
abbrev agy:=@_root_.Bool.false_or
abbrev agz:=@_root_.List.length_pos_iff
abbrev agA:=@_root_.Bool.and_true
abbrev agB:=@_root_.List.getElem_of_mem
abbrev agC:=@_root_.List.mem_filter
abbrev agD:=@_root_.List.mem_of_mem_drop
abbrev agE:=@_root_.Int.zero_add
abbrev agG:=@_root_.List.take_of_length_le
abbrev agH:=@_root_.Bool.false_and
abbrev agI:=@_root_.Classical.choose_spec
abbrev agJ:=@_root_.List.getD_cons_succ
abbrev agK:=@_root_.List.range_succ
abbrev agL:=@_root_.Option.isSome_none
abbrev agM:=@_root_.List.getElem?_cons_succ
abbrev agN:=@_root_.Option.isSome_iff_exists
abbrev agO:=@_root_.List.length_eq_zero_iff
abbrev agP:=@_root_.List.take_left
abbrev agQ:=@_root_.Bool.not_eq_true'
abbrev agR:=@_root_.Nat.lt_or_gt_of_ne
abbrev agS:=@_root_.List.getElem?_set
abbrev agT:=@_root_.List.getElem_mem
abbrev agU:=@_root_.Go.MapKept.run_getObj_map
abbrev agV:=@_root_.Array.getElem?_modify
abbrev agW:=@_root_.Go.World.size_alloc
abbrev agX:=@_root_.List.length_erase_of_mem
abbrev agY:=@_root_.List.map_congr_left
abbrev agZ:=@_root_.List.set_append_right
abbrev ag0:=@_root_.List.length_filter_le
abbrev ag1:=@_root_.Classical.axiomOfChoice
abbrev ag2:=@_root_.Array.getElem?_append_left
abbrev ag3:=@_root_.List.getElem?_range
abbrev ag4:=@_root_.List.length_replicate
abbrev ag5:=@_root_.Array.replicate_succ
abbrev ag6:=@_root_.Array.replicate_zero
abbrev ag7:=@_root_.List.append_toArray
abbrev ag8:=@_root_.Array.getElem?_setIfInBounds
abbrev ag9:=@_root_.Array.eq_empty_of_size_eq_zero
abbrev Loc:=Nat×Nat
inductive AV where
 |top
 |bool (b:Bool)
 |int (k:IntKind) (n:Int)
 |str (s:List UInt8)
 |agg (cs:List AV)
 |tup (vs:List AV)
 |ay
 |emp
 |lst (es:List AV)
 |own (a:Loc) (n:Nat)
 |ptr (a:Loc) (off:Nat)
 |dN (a:Loc) (n sz i off:Nat)
 |eF (e:AV) (off:Nat)
 |mI
 |fn (f:Fn) (first captured:List AV)
 |iP
 |iface (t:TypeId) (v:AV)
 |jg
 |mp (a:Loc)
 |iM
 |ou
 deriving Inhabited
def AV.cells:AV->List AV
 |.agg cs=>cs
 |.top=>[]
 |.tup _=>[]
 |v=>[v]
def AV.isAgg:AV->Bool
 |.agg _=>true
 |_=>false
mutual
def AV.aO(p:Loc->Bool):AV->Bool
 |.agg cs=>AV.cD p cs
 |.tup cs=>AV.cD p cs
 |.own a _=>p a
 |.ptr a _=>p a
 |.dN a _ _ _ _=>p a
 |.mp a=>p a
 |.fn _ x y=>AV.cD p x&&AV.cD p y
 |.iface _ v=>v.aO p
 |_=>true
def AV.cD(p:Loc->Bool):List AV->Bool
 | []=>true
 |c::cs=>c.aO p&&AV.cD p cs
end
def AV.pure(v:AV):Bool:=v.aO λ_=>false
mutual
def AV.beq:AV->AV->Bool
 |.top,.top=>true
 |.bool a,.bool b=>a==b
 |.int k a,.int j b=>decide (k=j)&&decide (a=b)
 |.str a,.str b=>a==b
 |.agg x,.agg y=>AV.dh x y
 |.tup x,.tup y=>AV.dh x y
 |.ay,.ay=>true
 |.emp,.emp=>true
 |.lst x,.lst y=>AV.dh x y
 |.own a n,.own b m=>decide (a=b)&&decide (n=m)
 |.ptr a n,.ptr b m=>decide (a=b)&&decide (n=m)
 |.dN a n s i o,.dN a' n' s' i' o'=>decide (a=a')&&decide (n=n')&&decide (s=s')&&decide (i=i')&&decide (o=o')
 |.eF e o,.eF e' o'=>e.beq e'&&decide (o=o')
 |.mI,.mI=>true
 |.fn (.func f) x y,.fn (.func g) x' y'=>decide (f=g)&&AV.dh x x'&&AV.dh y y'
 |.iP,.iP=>true
 |.iface t v,.iface u w=>decide (t=u)&&v.beq w
 |.jg,.jg=>true
 |.mp a,.mp b=>decide (a=b)
 |.iM,.iM=>true
 |.ou,.ou=>true
 |_,_=>false
def AV.dh:List AV->List AV->Bool
 | [],[]=>true
 |c::cs,d::ds=>c.beq d&&AV.dh cs ds
 |_,_=>false
end
inductive Blk where
  |box (t:TypeId) (fz:Bool) (v:AV)
  |arr (t:TypeId) (size:Nat) (vw:Bool) (es:List AV)
  |map (es:List (AV×AV))
  |dead
  |arq (t:TypeId) (size k:Nat) (ti:TypeId) (si:Nat) (out:List Nat) (es:List AV)
  |arv (t:TypeId) (size:Nat) (es:List AV)
  deriving Inhabited
abbrev Heap:=List (List Blk)
def hget:Heap->Loc->Option Blk
 | [],_=>none
 |f::o,l=>if l.1=o.length then f[l.2]? else hget o l
def aQ:Heap->Loc->Blk->Heap
 | [],_,_=>[]
 |f::o,l,b=>if l.1=o.length then f.set l.2 b::o else f::aQ o l b
def hnext:Heap->Loc
 | []=>(0,0)
 |f::o=>(o.length,f.length)
def hnew:Heap->Blk->Heap
 | [],_=>[]
 |f::o,b=>(f++[b])::o
def hlen:Heap->Nat
 | []=>0
 |f::_=>f.length
def vk:AV->Heap->Option (AV×Heap)
 |.own b m,h=>match hget h b with
  |some (.arr t s _ es)=>if es.length=m then some (.lst es,aQ h b (.arr t s true es)) else none
  |_=>none
 |v,h=>if v.pure=true∧v.isAgg=false then some (v,h) else none
def Cz:List AV->Heap->Option (List AV×Heap)
 | [],h=>some ([],h)
 |c::cs,h=>match vk c h with
  |some (c',h')=>(match Cz cs h' with
   |some (cs',h'')=>some (c'::cs',h'')
   |none=>none)
  |none=>none
def CD:AV->Heap->Option (AV×Heap)
 |.agg cs,h=>match Cz cs h with
  |some (cs',h')=>some (.agg cs',h')
  |none=>none
 |v,h=>vk v h
def tK:List AV->Heap->Option (List AV×Heap)
 | [],h=>some ([],h)
 |c::cs,h=>match CD c h with
  |some (c',h')=>(match tK cs h' with
   |some (cs',h'')=>some (c'::cs',h'')
   |none=>none)
  |none=>none
mutual
def AV.view(p:Loc->Bool):AV->Heap->Option (AV×Heap)
 |.own a n,h=>
  if p a then
   match hget h a with
   |some (.arr t s _ es)=>if es.length=n then some (.lst es,aQ h a (.arr t s true es)) else none
   |some (.arq t s _ _ _ _ es)=>if es.length=n then some (.lst es,aQ h a (.arr t s true es)) else none
   |some (.arv t s es)=>if es.length=n then (match tK es h with
    |some (es',h')=>some (.lst es',aQ h' a (.arr t s true es'))
    |none=>none) else none
   |_=>none
  else some (.own a n,h)
 |.agg cs,h=>match AV.views p cs h with
  |some (cs',h')=>some (.agg cs',h')
  |none=>none
 |.tup cs,h=>match AV.views p cs h with
  |some (cs',h')=>some (.tup cs',h')
  |none=>none
 |.iface t v,h=>match v.view p h with
  |some (v',h')=>some (.iface t v',h')
  |none=>none
 |v,h=>some (v,h)
def AV.views(p:Loc->Bool):List AV->Heap->Option (List AV×Heap)
 | [],h=>some ([],h)
 |c::cs,h=>match c.view p h with
  |some (c',h')=>(match AV.views p cs h' with
   |some (cs',h'')=>some (c'::cs',h'')
   |none=>none)
  |none=>none
end
def AG(ag:Bool)(sz:Nat)(e:AV)(o:Nat):Option AV:=
 if o=0∧e.isAgg=ag∧e.cells.length=sz then some e
 else if ag then (if o+sz<=e.cells.length then some (.agg ((e.cells.drop o).take sz)) else none)
 else e.cells[o]?
def Kj(e:AV)(o:Nat)(v:AV):Option AV:=
 if o=0∧v.isAgg=e.isAgg∧v.cells.length=e.cells.length then some v
 else match e with
  |.agg cs=>if o+v.cells.length<=cs.length then some (.agg (cs.take o++v.cells++cs.drop (o+v.cells.length))) else none
  |_=>none
abbrev Env:=List (Nat×AV)
def get:Env->Nat->AV
 | [],_=>.top
 |(j,v)::r,i=>if j=i then v else get r i
def set(e:Env)(i:Nat)(v:AV):Env:=(i,v)::e
def put(e:Env)(d:Option Nat)(v:AV):Env:=match d with
 |some i=>set e i v
 |none=>e
def cI:Nat->List AV->Env
 |_,[]=>[]
 |i,a::r=>(i,a)::cI (i+1) r
def keep(live:List Nat)(e:Env):Env:=live.map λt=>(t,get e t)
inductive Opd where
 |t (i:Nat)
 |c (v:AV)
 deriving Inhabited
def Opd.ev(e:Env):Opd->AV
 |.t i=>get e i
 |.c v=>v
def oev(e:Env):Option Opd->Option AV
 |some x=>some (x.ev e)
 |none=>none
inductive FK where
 |bool|int|str
 deriving Inhabited,DecidableEq
def eqF:FK->AV->AV->Option Bool
 |.bool,.bool a,.bool b=>some (decide (a=b))
 |.int,.int k a,.int k' b=>if k=k' then some (decide (a=b)) else none
 |.str,.str a,.str b=>some (decide (a=b))
 |_,_,_=>none
def dZ:List FK->List AV->List AV->Option Bool
 | [],[],[]=>some true
 |k::ks,a::as,b::bs=>match eqF k a b,dZ ks as bs with
  |some p,some q=>some (p&&q)
  |_,_=>none
 |_,_,_=>none
inductive KK where
 |one (k:FK)
 |st (ks:List FK)
 deriving Inhabited
def eqK:KK->AV->AV->Option Bool
 |.one k,a,b=>eqF k a b
 |.st ks,.agg as,.agg bs=>dZ ks as bs
 |_,_,_=>none
def gI(kk:KK)(k:AV):List (AV×AV)->Option (Option AV)
 | []=>some none
 |(a,v)::r=>match eqK kk k a with
  |some true=>some (some v)
  |some false=>gI kk k r
  |none=>none
def uS(kk:KK)(k v:AV):List (AV×AV)->Option (List (AV×AV))
 | []=>some [(k,v)]
 |(a,u)::r=>match eqK kk k a with
  |some true=>some ((a,v)::r)
  |some false=>(match uS kk k v r with
   |some r'=>some ((a,u)::r')
   |none=>none)
  |none=>none
inductive NK where
 |slice|ptr|func|iface|map
 deriving Inhabited
inductive POp where
 |mv (x:Opd)
 |pick (c a b:Opd)
 |bld (z:List AV) (ps:List (Nat×Nat×Opd))
 |fa (off:Nat) (x:Opd)
 |fld (ag:Bool) (off sz:Nat) (x:Opd)
 |iaA (n sz:Nat) (x i:Opd)
 |iaS (sz:Nat) (x i:Opd)
 |ixA (ag:Bool) (n sz:Nat) (x i:Opd)
 |ixS (x i:Opd)
 |bin (b:BinOp) (x y:Opd)
 |eqB (neg:Bool) (x y:Opd)
 |eqN (k:NK) (neg:Bool) (x:Opd)
 |eqP (neg:Bool) (x y:Opd)
 |eqA (neg:Bool) (ks:List FK) (x y:Opd)
 |not (x:Opd)
 |neg (x:Opd)
 |cvI (k:IntKind) (x:Opd)
 |cvS (x:Opd)
 |mkI (t:TypeId) (x:Opd)
 |mkF (f:Fn) (a b:List Opd)
 |ext (x:Opd) (i:Nat)
 |GP (x:Opd)
 |slS (x:Opd) (lo hi:Option Opd)
 |len (sl:Bool) (x:Opd)
 |mm (mx:Bool) (xs:List Opd)
 |tyA (t:TypeId) (ok:Bool) (z:AV) (x:Opd)
 |Kk (nm:String) (ts:List TypeId) (x:Opd)
 deriving Inhabited
inductive MOp where
 |mat (x:Opd)
 |alloc (t:TypeId) (z:AV) (mat:Bool)
 |box (t:TypeId) (sz:Nat) (x:Opd)
 |OH (t:TypeId) (sz k:Nat) (x:Opd)
 |Bg (t:TypeId) (sz n:Nat) (z:AV) (ps:List (Nat×Opd)) (own:Bool)
 |load (ag:Bool) (sz:Nat) (x:Opd)
 |store (sz:Nat) (mat:Bool) (a v:Opd)
 |al0 (t:TypeId)
 |st0 (a v:Opd)
 |b2s (x:Opd)
 |s2b (x:Opd)
 |slL (sz:Nat) (x:Opd) (lo hi mx:Option Opd)
 |slA (n sz:Nat) (x:Opd) (lo hi:Option Opd)
 |app (t:TypeId) (sz bytes:Nat) (s x:Opd)
 |XJ (t:TypeId) (bytes:Nat) (s x:Opd)
 |cvU (x:Opd)
 |cvP (t:TypeId) (n:Nat) (x:Opd)
 |usd (x:Opd)
 |XK (t:TypeId) (x n:Opd)
 |mkS (t:TypeId) (sz bytes:Nat) (z:AV) (l c:Opd)
 |call (f:Opd) (args:List Opd)
 |inv (tbl:List (TypeId×FuncId)) (x:Opd) (args:List Opd)
 |pan (x:Opd)
 |mkM
 |lkp (kk:KK) (z:AV) (ok:Bool) (x k:Opd)
 |mup (kk:KK) (x k v:Opd)
 |Oc (x:Opd)
 |ldQ (x:Opd)
 |stQ (a v:Opd)
 |XL (t:TypeId) (sz bytes k:Nat) (ti:TypeId) (si:Nat) (s x:Opd)
 |XM (t:TypeId) (sz bytes:Nat) (z:AV) (l c:Opd) (ti:TypeId) (si:Nat)
 |XN (t:TypeId) (sz k:Nat) (x:Opd)
 |stV (sz:Nat) (a v:Opd)
 |XO (t:TypeId) (sz bytes:Nat) (z:AV) (l c:Opd)
 |XP (t:TypeId) (sz bytes:Nat) (s x:Opd)
 deriving Inhabited
inductive COp where
 |p (o:POp)
 |m (o:MOp)
 |bad
 deriving Inhabited
structure CO where
 dst:Option Nat
 gd:Option (Nat×Bool)
 op:COp
 deriving Inhabited
structure DO where
 co:CO
 ix:Nat
 looks:List Nat
 anc:List Nat
 re:List Nat
 deriving Inhabited
inductive CC where
 |skip
 |reg (ops:List CO)
 |draw (ops:List DO)
 |seq (a b:CC)
 |cond (x:Opd) (a b:CC)
 |block (id:Nat) (a:CC)
 |loop (live:List Nat) (a:CC)
 |af (n:Nat) (live:List Nat) (a:CC)
 |exit (id:Nat)
 |ret
 |scope (a:CC)
 |bad
 deriving Inhabited
inductive jm where
  |tmp (t:Nat)
  |own (t:Nat)
  |cell (t:Nat) (ag:Bool) (sz:Nat)
  deriving Inhabited
inductive CB where
 |code (c:CC)
 |seq (c:CC) (b:CB)
 |dfr (d:Nat) (q:POp) (c:CC)
 deriving Inhabited
structure S7 where
 d1:Nat
 d2:Nat
 rest:CC
 nt:Nat
 deriving Inhabited
structure aK where
 body:CB
 res:List jm
 np:Nat
 nt:Nat
 deriving Inhabited
def Rg(op:BinOp)(k:IntKind)(a b:Int):Option AV:=
 match op with
 |.add=>some (.int k (k.wrap (a+b)))
 |.sub=>some (.int k (k.wrap (a-b)))
 |.mul=>some (.int k (k.wrap (a*b)))
 |.quo=>if b=0 then none else some (.int k (k.wrap (a.tdiv b)))
 |.rem=>if b=0 then none else some (.int k (a.tmod b))
 |.and=>some (.int k (k.wrap ((BitVec.ofInt k.bits a &&& BitVec.ofInt k.bits b).toNat:Int)))
 |.or=>some (.int k (k.wrap ((BitVec.ofInt k.bits a |||BitVec.ofInt k.bits b).toNat:Int)))
 |.xor=>some (.int k (k.wrap ((BitVec.ofInt k.bits a ^^^ BitVec.ofInt k.bits b).toNat:Int)))
 |.andNot=>some (.int k (k.wrap ((BitVec.ofInt k.bits a &&& ~~~(BitVec.ofInt k.bits b)).toNat:Int)))
 |.eql=>some (.bool (a==b))
 |.neq=>some (.bool (a != b))
 |.lss=>some (.bool (decide (a<b)))
 |.leq=>some (.bool (decide (a<=b)))
 |.gtr=>some (.bool (decide (b<a)))
 |.geq=>some (.bool (decide (b<=a)))
 |.shl=>if b<0 then none else some (.int k (k.wrap (a*2 ^ (min b.toNat k.bits))))
 |.shr=>if b<0 then none else some (.int k (a.fdiv (2 ^ (min b.toNat k.bits))))
def IP:Nat:=9223372036854775807
def CW(op:BinOp)(a b:List UInt8):Option AV:=
 match op with
 |.add=>if a.length+b.length<=IP then some (.str (a++b)) else none
 |.eql=>some (.bool (a==b))
 |.neq=>some (.bool (!(a==b)))
 |.lss=>some (.bool (Op.bytesLess a b))
 |.leq=>some (.bool (Op.bytesLess a b ||a==b))
 |.gtr=>some (.bool (!(Op.bytesLess a b ||a==b)))
 |.geq=>some (.bool (!(Op.bytesLess a b)))
 |_=>none
def BinOp.gh:BinOp->Bool
 |.shl|.shr=>true
 |_=>false
def Rh(op:BinOp)(x y:AV):Option AV:=
 match x,y with
 |.int k a,.int k' b=>if k=k'∨BinOp.gh op=true then Rg op k a b else none
 |.str a,.str b=>CW op a b
 |_,_=>none
def EM:List AV->List (Nat×Nat×AV)->Option (List AV)
 |z,[]=>some z
 |z,(o,s,v)::r=>if v.cells.length=s∧0<s∧o+s<=z.length then EM (z.take o++v.cells++z.drop (o+s)) r else none
def EN(sz:Nat):List AV->List (Nat×AV)->Option (List AV)
 |z,[]=>some z
 |z,(i,v)::r=>if i<z.length∧v.pure=true∧v.cells.length=sz then EN sz (z.set i v) r else none
def bHi(n:Nat):Option AV->Option Nat
 |none=>some n
 |some (.int _ h)=>if 0<=h∧h<=n then some h.toNat else none
 |_=>none
def bLo(h:Nat):Option AV->Option Nat
 |none=>some 0
 |some (.int _ l)=>if 0<=l∧l<=h then some l.toNat else none
 |_=>none
def Kl(n:Nat)(lo hi:Option AV):Option (Nat×Nat):=
 match bHi n hi with
 |none=>none
 |some h=>match bLo h lo with
  |none=>none
  |some l=>some (l,h)
def isNil:NK->AV->Option Bool
 |.slice,.ay=>some true
 |.slice,.lst (_::_)=>some false
 |.slice,.own _ (_+1)=>some false
 |.ptr,.mI=>some true
 |.ptr,.ptr _ _=>some false
 |.ptr,.dN _ _ _ _ _=>some false
 |.ptr,.eF _ _=>some false
 |.func,.iP=>some true
 |.func,.fn _ _ _=>some false
 |.iface,.jg=>some true
 |.iface,.iface _ _=>some false
 |.map,.iM=>some true
 |.map,.mp _=>some false
 |_,_=>none
def rC:AV->Option Nat
 |.lst es=>some es.length
 |.ay=>some 0
 |.emp=>some 0
 |.own _ n=>some n
 |_=>none
def iw(mx:Bool):AV->List AV->Option AV
 |x,[]=>some x
 |.int k a,.int _ b::r=>iw mx (.int k (if mx then (if b > a then b else a) else (if b<a then b else a))) r
 |_,_=>none
def evP(o:POp)(e:Env):Option AV:=
 match o with
 |.mv x=>some (x.ev e)
 |.pick c a b=>match c.ev e with
  |.bool t=>some (if t then a.ev e else b.ev e)
  |_=>none
 |.bld z ps=>match EM z (ps.map λ(o,s,x)=>(o,s,x.ev e)) with
  |some cs=>some (.agg cs)
  |none=>none
 |.fa off x=>match x.ev e with
  |.ptr a o=>some (.ptr a (o+off))
  |.dN a n sz i o=>some (.dN a n sz i (o+off))
  |.eF v o=>some (.eF v (o+off))
  |_=>none
 |.fld ag off sz x=>match x.ev e with
  |.agg cs=>if ag then (if off+sz<=cs.length then some (.agg ((cs.drop off).take sz)) else none) else cs[off]?
  |_=>none
 |.iaA n sz x i=>match x.ev e,i.ev e with
  |.ptr a o,.int _ j=>if 0<=j∧j<n then some (.ptr a (o+j.toNat*sz)) else none
  |.eF v o,.int _ j=>if 0<=j∧j<n then some (.eF v (o+j.toNat*sz)) else none
  |_,_=>none
 |.iaS sz x i=>match x.ev e,i.ev e with
  |.lst es,.int _ j=>if 0<=j then (match es[j.toNat]? with
   |some v=>if v.cells.length=sz then some (.eF v 0) else none
   |none=>none) else none
  |.own a n,.int _ j=>if 0<=j∧j<n then some (.dN a n sz j.toNat 0) else none
  |_,_=>none
 |.ixA ag n sz x i=>match x.ev e,i.ev e with
  |.agg cs,.int _ j=>if 0<=j∧j<n then
    (if ag then (if j.toNat*sz+sz<=cs.length then some (.agg ((cs.drop (j.toNat*sz)).take sz)) else none) else cs[j.toNat*sz]?) else none
  |_,_=>none
 |.ixS x i=>match x.ev e,i.ev e with
  |.str s,.int _ j=>if 0<=j then (match s[j.toNat]? with
   |some b=>some (.int .u8 (b.toNat:Int))
   |none=>none) else none
  |_,_=>none
 |.bin b x y=>Rh b (x.ev e) (y.ev e)
 |.eqB ng x y=>match x.ev e,y.ev e with
  |.bool a,.bool b=>some (.bool (if ng then !(a==b) else a==b))
  |_,_=>none
 |.eqN k ng x=>match isNil k (x.ev e) with
  |some b=>some (.bool (if ng then !b else b))
  |none=>none
 |.eqA ng ks x y=>match x.ev e,y.ev e with
  |.agg as,.agg bs=>(match dZ ks as bs with
   |some r=>some (.bool (if ng then !r else r))
   |none=>none)
  |_,_=>none
 |.eqP ng x y=>match x.ev e,y.ev e with
  |.ptr a o,.ptr b o'=>if a=b∧o=o' then some (.bool (!ng)) else none
  |_,_=>none
 |.not x=>match x.ev e with
  |.bool b=>some (.bool (!b))
  |_=>none
 |.neg x=>match x.ev e with
  |.int k n=>some (.int k (k.wrap (0-n)))
  |_=>none
 |.cvI k x=>match x.ev e with
  |.int _ n=>some (.int k (k.wrap n))
  |_=>none
 |.cvS x=>match x.ev e with
  |.str s=>some (.str s)
  |_=>none
 |.mkI t x=>some (.iface t (x.ev e))
 |.mkF f a b=>some (.fn f (a.map (·.ev e)) (b.map (·.ev e)))
 |.ext x i=>match x.ev e with
  |.tup vs=>vs[i]?
  |_=>none
 |.GP x=>match x.ev e with
  |.ptr a o=>some (.ptr a o)
  |.eF v o=>some (.eF v o)
  |.dN a n sz i o=>some (.dN a n sz i o)
  |.fn (.func f) x y=>some (.fn (.func f) x y)
  |_=>none
 |.slS x lo hi=>match x.ev e with
  |.str s=>(match Kl s.length (oev e lo) (oev e hi) with
   |some (l,h)=>some (.str ((s.take h).drop l))
   |none=>none)
  |_=>none
 |.len sl x=>if sl then (match rC (x.ev e) with
   |some n=>some (.int .i64 (n:Int))
   |none=>none)
  else (match x.ev e with
   |.str s=>some (.int .i64 (s.length:Int))
   |_=>none)
 |.mm mx xs=>match (List.map (Opd.ev e) xs:List AV) with
  |.int k a::r=>iw mx (.int k a) r
  |_=>none
 |.tyA t ok z x=>match x.ev e with
  |.iface u v=>if u=t then some (if ok then .tup [v,.bool true] else v) else if ok then some (.tup [z,.bool false]) else none
  |.jg=>if ok then some (.tup [z,.bool false]) else none
  |_=>none
 |.Kk nm ts x=>match x.ev e with
  |.fn (.method m) (.iface t v::r) c=>if m=nm∧ts.contains t=true then some (.fn (.method m) (.iface t v::r) c) else none
  |_=>none
inductive Out where
 |val (v:AV) (h:Heap)
 |pan (v:AV) (h:Heap)
 deriving Inhabited
structure St where
 env:Env
 h:Heap
 deriving Inhabited
inductive Ex where
 |norm
 |exit (id:Nat)
 |ret
 |pan (v:AV)
 deriving Inhabited
structure Orc where
 fn:FuncId->List AV->Heap->Option Out
 code:CC->St->Option (Ex×St)
def kU:List AV->Heap->List AV×Heap
 | [],h=>([],h)
 |.ay::r,h=>match kU r (hnew h (.arr 0 0 false [])) with
  |(r',h')=>(.own (hnext h) 0::r',h')
 |v::r,h=>match kU r h with
  |(r',h')=>(v::r',h')
def jh:AV->Heap->AV×Heap
 |.agg cs,h=>match kU cs h with
  |(cs',h')=>(.agg cs',h')
 |.ay,h=>(.own (hnext h) 0,hnew h (.arr 0 0 false []))
 |v,h=>(v,h)
def xX(k:Nat)(v:AV)(h:Heap):AV×Heap:=match v with
 |.agg cs=>(match cs[k]? with
  |some .ay=>(.agg (cs.set k (.own (hnext h) 0)),hnew h (.arr 0 0 false []))
  |_=>(v,h))
 |_=>(v,h)
def tM:Nat->Nat->AV->Heap->AV×Heap
 | 0,k,v,h=>xX k v h
 |n+1,k,v,h=>if k<100 then xX k v h else tM n (k / 100) (xX (k % 100) v h).1 (xX (k % 100) v h).2
def xW(k:Nat)(v:AV)(h:Heap):AV×Heap:=tM 8 k v h
def bytesOf:List AV->Option (List UInt8)
 | []=>some []
 |.int .u8 n::r=>match bytesOf r with
  |some l=>some (UInt8.ofNat n.toNat::l)
  |none=>none
 |_=>none
def ofBytes(s:List UInt8):List AV:=s.map λb=>.int .u8 (b.toNat:Int)
def dW(v:AV)(h:Heap):Option (List AV):=
 match v with
 |.lst es=>some es
 |.ay=>some []
 |.emp=>some []
 |.own a n=>match hget h a with
  |some (.arr _ _ _ es)=>if es.length=n then some es else none
  |_=>none
 |_=>none
def room:Nat:=1099511627776
def sized(sz:Nat)(es:List AV):Bool:=es.all λe=>e.cells.length==sz
def A7(h:Heap)(p v:AV):Option Heap:=
 match p with
 |.ptr a o=>match hget h a with
  |some (.box t fz w)=>
   if fz=false∧v.aO (λb=>decide (b.1<=a.1))=true then
    (match Kj w o v with
     |some w'=>some (aQ h a (.box t false w'))
     |none=>none)
   else none
  |_=>none
 |.dN a n sz i o=>match hget h a with
  |some (.arr t s vw es)=>
   if vw=false∧es.length=n∧sz=s∧v.pure=true then
    (match es[i]? with
     |some w=>(match Kj w o v with
      |some w'=>some (aQ h a (.arr t s false (es.set i w')))
      |none=>none)
     |none=>none)
   else none
  |_=>none
 |_=>none
def ow(ag:Bool)(sz:Nat)(h:Heap)(p:AV):Option AV:=
 match p with
 |.ptr a o=>match hget h a with
  |some (.box _ _ w)=>AG ag sz w o
  |_=>none
 |.dN a n sz' i o=>match hget h a with
  |some (.arr _ s _ es)=>if es.length=n∧sz'=s then (match es[i]? with
   |some w=>AG ag sz w o
   |none=>none) else none
  |some (.arq _ s _ _ _ _ es)=>if es.length=n∧sz'=s then (match es[i]? with
   |some w=>AG ag sz w o
   |none=>none) else none
  |some (.arv _ s es)=>if es.length=n∧sz'=s then (match es[i]? with
   |some w=>AG ag sz w o
   |none=>none) else none
  |_=>none
 |.eF w o=>AG ag sz w o
 |_=>none
def wS(t:TypeId)(sz bytes:Nat)(s:AV)(news:List AV)(h:Heap):Option Out:=
 match s with
 |.own a n=>(match hget h a with
  |some (.arr t' sz' vw es)=>
   if es.length=n∧(n+news.length)*bytes<=room∧n+news.length<=room∧(sz'=0∨(t'=t∧sz'=sz)) then
    some (.val (.own a (n+news.length)) (aQ h a (.arr t sz vw (es++news))))
   else none
  |_=>none)
 |.ay=>if news=[] then some (.val .ay h)
  else if news.length*bytes<=room∧news.length<=room then some (.val (.own (hnext h) news.length) (hnew h (.arr t sz false news))) else none
 |.emp=>if news=[] then some (.val .emp h)
  else if news.length*bytes<=room∧news.length<=room then some (.val (.own (hnext h) news.length) (hnew h (.arr t sz false news))) else none
 |_=>none
def EO(k:Nat)(es:List AV):Bool:=es.all λe=>match e.cells.getD k .top with
 |.ay=>true
 |_=>false
def toQ(k:Nat)(ti:TypeId)(si:Nat):Option Out->Option Out
 |some (.val (.own a n) h)=>(match hget h a with
  |some (.arr t s false es)=>if 0<si∧k<s∧es.length=n∧EO k es=true then some (.val (.own a n) (aQ h a (.arq t s k ti si [] es))) else none
  |_=>none)
 |_=>none
def CX(t:TypeId)(sz bytes k:Nat)(ti:TypeId)(si:Nat)(s:AV)(news:List AV)(h:Heap):Option Out:=
 match s with
 |.own a n=>(match hget h a with
  |some (.arq t' sz' k' ti' si' out es)=>
   if es.length=n∧(n+news.length)*bytes<=room∧n+news.length<=room∧t'=t∧sz'=sz∧k'=k∧ti'=ti∧si'=si∧0<n∧0<news.length∧EO k news=true then
    some (.val (.own a (n+news.length)) (aQ h a (.arq t sz k ti si out (es++news))))
   else none
  |_=>none)
 |.ay=>toQ k ti si (wS t sz bytes .ay news h)
 |_=>none
def ldQ(p:AV)(h:Heap):Option Out:=match p with
 |.dN a n sz i o=>(match hget h a with
  |some (.arq t s k ti si out es)=>
   if es.length=n∧sz=s∧o=k then (match es[i]? with
    |some u=>(match u.cells.getD k .top with
     |.ay=>some (.val .ay h)
     |.lst (q::ks)=>if out.contains i=false then
       some (.val (.own (hnext h) (ks.length+1)) (hnew (aQ h a (.arq t s k ti si (i::out) es)) (.arr ti si true (q::ks)))) else none
     |_=>none)
    |none=>none)
   else none
  |_=>none)
 |_=>none
def stQ(p v:AV)(h:Heap):Option Heap:=match p,v with
 |.dN a n sz i o,.own b m=>(match hget h a,hget h b with
  |some (.arq t s k ti si out es),some (.arr t' s' _ ks)=>
   if es.length=n∧sz=s∧o=k∧ks.length=m∧0<m∧t'=ti∧s'=si then (match es[i]? with
    |some u=>(match Kj u k (.lst ks) with
     |some u'=>some (aQ (aQ h a (.arq t s k ti si (out.filter λj=>!(j==i)) (es.set i u'))) b .dead)
     |none=>none)
    |none=>none)
   else none
  |_,_=>none)
 |_,_=>none
def asV:Option Blk->Option (TypeId×Nat×List AV)
 |some (.arv t s es)=>some (t,s,es)
 |some (.arr t s false es)=>some (t,s,es)
 |_=>none
def wT(h:Heap)(p v:AV):Option Heap:=
 match p with
 |.dN a n sz i o=>(match asV (hget h a) with
  |some (t,s,es)=>if es.length=n∧sz=s∧v.aO (λb=>decide (b.1<=a.1))=true then
    (match es[i]? with
     |some w=>(match Kj w o v with
      |some w'=>some (aQ h a (.arv t s (es.set i w')))
      |none=>none)
     |none=>none) else none
  |none=>none)
 |_=>none
def toV:Option Out->Option Out
 |some (.val (.own a n) h)=>(match hget h a with
  |some (.arr t s false es)=>if es.length=n then some (.val (.own a n) (aQ h a (.arv t s es))) else none
  |_=>none)
 |_=>none
def CY(t:TypeId)(sz bytes:Nat)(s:AV)(news:List AV)(h:Heap):Option Out:=
 match s with
 |.own a n=>(match asV (hget h a) with
  |some (t',sz',es)=>if es.length=n∧0<n∧t'=t∧sz'=sz∧(n+news.length)*bytes<=room∧n+news.length<=room∧0<news.length then
    some (.val (.own a (n+news.length)) (aQ h a (.arv t sz (es++news)))) else none
  |none=>none)
 |.ay=>toV (wS t sz bytes .ay news h)
 |_=>none
def Ri(k:Nat)(v:AV)(h:Heap):Option (AV×Heap):=match v with
 |.agg cs=>(match cs[k]? with
  |some c=>(match c.view (λ_=>true) h with
   |some (c',h')=>some (.agg (cs.set k c'),h')
   |none=>none)
  |none=>none)
 |_=>none
structure Cfg where
 X:FuncId->List AV->Heap->Option Out
 fns:FuncId->Option aK
 dfn:FuncId->Option S7:=λ_=>none
 jS:FuncId->Bool
def isE:AV->Bool
 |.dN _ _ _ _ _=>true
 |_=>false
def evM(K:Cfg)(O:Orc)(o:MOp)(e:Env)(h:Heap):Option Out:=
 match o with
 |.mat x=>match jh (x.ev e) h with
  |(v,h')=>some (.val v h')
 |.alloc t z mat=>match (if mat then jh z h else (z,h)) with
  |(z',h')=>some (.val (.ptr (hnext h') 0) (hnew h' (.box t false z')))
 |.box t sz x=>if (x.ev e).cells.length=sz then some (.val (.ptr (hnext h) 0) (hnew h (.box t false (x.ev e)))) else none
 |.OH t sz k x=>if (x.ev e).cells.length=sz then (match xW k (x.ev e) h with
  |(v,h')=>some (.val (.ptr (hnext h') 0) (hnew h' (.box t false v)))) else none
 |.Bg t sz n z ps own=>match AV.views (λ_=>true) (ps.map λ(_,x)=>x.ev e) h with
  |none=>none
  |some (vs,h')=>match EN sz (List.replicate n z) ((ps.map (·.1)).zip vs) with
   |none=>none
   |some es=>
    if z.cells.length=sz∧z.pure=true then
     (if own then some (.val (.own (hnext h') n) (hnew h' (.arr t sz false es))) else some (.val (.lst es) h'))
    else none
 |.load ag sz x=>match ow ag sz h (x.ev e) with
  |some v=>some (.val v h)
  |none=>none
 |.store sz mat a v=>
  if (v.ev e).cells.length=sz then
   (match (if mat then jh (v.ev e) h else (v.ev e,h)) with
    |(w,h')=>match (if isE (a.ev e)=true then w.view (λ_=>true) h' else some (w,h')) with
     |some (u,h1)=>(match A7 h1 (a.ev e) u with
      |some h''=>some (.val (.tup []) h'')
      |none=>none)
     |none=>none)
  else none
 |.al0 t=>some (.val (.ptr (hnext h) 0) (hnew h (.box t false (.agg []))))
 |.st0 a v=>match a.ev e,v.ev e with
  |.ptr _ _,.agg []=>some (.val (.tup []) h)
  |_,_=>none
 |.b2s x=>match dW (x.ev e) h with
  |some es=>(match bytesOf es with
   |some s=>some (.val (.str s) h)
   |none=>none)
  |none=>none
 |.s2b x=>match x.ev e with
  |.str s=>some (.val (.lst (ofBytes s)) h)
  |_=>none
 |.slL sz x lo hi mx=>match mx with
  |none=>(match (x.ev e).view (λ_=>true) h with
   |some (.lst es,h')=>if sized sz es=true then (match Kl es.length (oev e lo) (oev e hi) with
    |some (l,r)=>some (.val (.lst ((es.take r).drop l)) h')
    |none=>none) else none
   |some (.ay,h')=>(match Kl 0 (oev e lo) (oev e hi) with
    |some _=>some (.val .ay h')
    |none=>none)
   |_=>none)
  |some m=>match m.ev e,oev e lo,oev e hi with
   |.int _ 0,none,some (.int _ 0)=>(match x.ev e with
    |.lst _|.own _ _|.ay|.emp=>some (.val .emp h)
    |_=>none)
   |_,_,_=>none
 |.slA n sz x lo hi=>match x.ev e with
  |.ptr a 0=>(match hget h a with
   |some (.box t _ (.agg cs))=>
    if cs.length=n∧sz=1∧sized 1 cs=true∧(AV.agg cs).pure=true then
     (match Kl n (oev e lo) (oev e hi) with
      |some (l,r)=>some (.val (.lst ((cs.take r).drop l)) (aQ h a (.box t true (.agg cs))))
      |none=>none)
    else none
   |_=>none)
  |_=>none
 |.app t sz bytes s x=>match dW (x.ev e) h with
  |none=>none
  |some news=>if sized sz news=true then wS t sz bytes (s.ev e) news h else none
 |.XJ t bytes s x=>match x.ev e with
  |.str q=>wS t 1 bytes (s.ev e) (ofBytes q) h
  |_=>none
 |.cvU x=>match x.ev e with
  |.ptr a o=>(match hget h a with
   |some (.box _ _ v)=>if o<v.cells.length then some (.val (.ptr a o) h) else none
   |_=>none)
  |_=>none
 |.cvP t n x=>match x.ev e with
  |.ptr a 0=>(match hget h a with
   |some (.box u _ v)=>if u=t∧v.cells.length=n then some (.val (.ptr a 0) h) else none
   |_=>none)
  |_=>none
 |.usd x=>match x.ev e with
  |.ay=>some (.val .mI h)
  |.own a 0=>(match hget h a with
   |some (.arr _ _ _ [])=>some (.val .ou h)
   |_=>none)
  |.own a (n+1)=>(match hget h a with
   |some (.arr _ sz _ es)=>if es.length=n+1∧sz=1 then some (.val (.dN a (n+1) 1 0 0) h) else none
   |_=>none)
  |_=>none
 |.XK t x k=>match x.ev e,k.ev e with
  |.mI,.int .i64 0=>some (.val (.str []) h)
  |.ou,.int .i64 0=>some (.val (.str []) h)
  |.dN a n 1 0 0,.int .i64 m=>if m=n∧0<n then (match hget h a with
   |some (.arr u 1 _ es)=>if u=t∧es.length=n then (match bytesOf es with
    |some s=>if AV.dh (ofBytes s) es=true then some (.val (.str s) (aQ h a .dead)) else none
    |none=>none) else none
   |_=>none) else none
  |_,_=>none
 |.mkS t sz bytes z l c=>match l.ev e,c.ev e with
  |.int _ n,.int _ m=>
   if n=m∧0<=n∧n.toNat*bytes<=room∧n.toNat<=room∧z.cells.length=sz∧z.pure=true then
    some (.val (.own (hnext h) n.toNat) (hnew h (.arr t sz false (List.replicate n.toNat z))))
   else none
  |_,_=>none
 |.call f args=>match f.ev e with
  |.fn (.func g) first captured=>
   (match AV.views (λ_=>K.jS g) (first++args.map (·.ev e)++captured) h with
    |some (vs,h')=>O.fn g vs h'
    |none=>none)
  |_=>none
 |.inv tbl x args=>match x.ev e with
  |.iface t v=>(match tbl.lookup t with
   |some g=>(match AV.views (λ_=>K.jS g) (v::args.map (·.ev e)) h with
    |some (vs,h')=>O.fn g vs h'
    |none=>none)
   |none=>none)
  |_=>none
 |.pan x=>match x.ev e with
  |.iface t v=>some (.pan (.iface t v) h)
  |_=>none
 |.mkM=>some (.val (.mp (hnext h)) (hnew h (.map [])))
 |.lkp kk z ok x k=>match x.ev e with
  |.mp a=>(match hget h a with
   |some (.map es)=>(match eqK kk (k.ev e) (k.ev e) with
    |some _=>(match gI kk (k.ev e) es with
     |some (some v)=>some (.val (if ok then .tup [v,.bool true] else v) h)
     |some none=>some (.val (if ok then .tup [z,.bool false] else z) h)
     |none=>none)
    |none=>none)
   |_=>none)
  |.iM=>(match eqK kk (k.ev e) (k.ev e) with
   |some _=>some (.val (if ok then .tup [z,.bool false] else z) h)
   |none=>none)
  |_=>none
 |.mup kk x k v=>match x.ev e with
  |.mp a=>(match hget h a with
   |some (.map es)=>if (k.ev e).pure=true∧(v.ev e).aO (λb=>decide (b.1<=a.1))=true then
     (match eqK kk (k.ev e) (k.ev e),uS kk (k.ev e) (v.ev e) es with
     |some _,some es'=>some (.val (.tup []) (aQ h a (.map es')))
     |_,_=>none)
    else none
   |_=>none)
  |_=>none
 |.Oc x=>match x.ev e with
  |.mp a=>(match hget h a with
   |some (.map es)=>some (.val (.int .i64 (es.length:Int)) h)
   |_=>none)
  |.iM=>some (.val (.int .i64 0) h)
  |_=>none
 |.ldQ x=>ldQ (x.ev e) h
 |.stQ a v=>match stQ (a.ev e) (v.ev e) h with
  |some h'=>some (.val (.tup []) h')
  |none=>none
 |.XL t sz bytes k ti si s x=>match dW (x.ev e) h with
  |none=>none
  |some news=>if sized sz news=true then CX t sz bytes k ti si (s.ev e) news h else none
 |.XM t sz bytes z l c ti si=>match l.ev e,c.ev e with
  |.int _ n,.int _ m=>
   if n=m∧0<=n∧n.toNat*bytes<=room∧n.toNat<=room∧z.cells.length=sz∧z.pure=true then
    toQ 0 ti si (some (.val (.own (hnext h) n.toNat) (hnew h (.arr t sz false (List.replicate n.toNat z)))))
   else none
  |_,_=>none
 |.XN t sz k x=>if (x.ev e).cells.length=sz then (match Ri k (x.ev e) h with
  |some (v,h')=>if v.cells.length=sz then some (.val (.ptr (hnext h') 0) (hnew h' (.box t false v))) else none
  |none=>none) else none
 |.stV sz a v=>if (v.ev e).cells.length=sz then (match wT h (a.ev e) (v.ev e) with
  |some h'=>some (.val (.tup []) h')
  |none=>none) else none
 |.XO t sz bytes z l c=>match l.ev e,c.ev e with
  |.int _ n,.int _ m=>
   if n=m∧0<=n∧n.toNat*bytes<=room∧n.toNat<=room∧z.cells.length=sz∧z.pure=true then
    toV (some (.val (.own (hnext h) n.toNat) (hnew h (.arr t sz false (List.replicate n.toNat z)))))
   else none
  |_,_=>none
 |.XP t sz bytes s x=>match dW (x.ev e) h with
  |none=>none
  |some news=>if sized sz news=true then CY t sz bytes (s.ev e) news h else none
def wanted(g:Option (Nat×Bool))(e:Env):Option Bool:=
 match g with
 |none=>some true
 |some (t,b)=>match get e t with
  |.bool c=>some (c==b)
  |.tup []=>some false
  |_=>none
def dF(K:Cfg)(O:Orc):List CO->St->Option (Ex×St)
 | [],s=>some (.norm,s)
 |o::r,s=>match wanted o.gd s.env with
  |none=>none
  |some false=>dF K O r { s with env:=put s.env o.dst (.tup []) }
  |some true=>match o.op with
   |.p q=>(match evP q s.env with
    |some v=>dF K O r { s with env:=put s.env o.dst v }
    |none=>none)
   |.m q=>(match evM K O q s.env s.h with
    |some (.val v h)=>dF K O r { env:=put s.env o.dst v,h:=h }
    |some (.pan v h)=>some (.pan v,{ s with h:=h })
    |none=>none)
   |.bad=>none
def zh:MOp->Bool
 |.call _ _=>true
 |.inv _ _ _=>true
 |_=>false
def iB:MOp->Bool
 |.load _ _ _=>true
 |.b2s _=>true
 |.s2b _=>true
 |.slL _ _ _ _ _=>true
 |.cvU _=>true
 |.cvP _ _ _=>true
 |.usd _=>true
 |.lkp _ _ _ _ _=>true
 |.Oc _=>true
 |.Bg _ _ _ _ _ own=>!own
 |_=>false
def loud(c:CO):Bool:=match c.op with
 |.m q=>!(iB q)
 |_=>false
def Gh(c:CO):Bool:=match c.op with
 |.m q=>iB q
 |_=>false
def ji:Option Out->Option AV
 |some (.val v _)=>some v
 |_=>none
def evQ(K:Cfg)(O:Orc)(q:MOp)(e:Env)(h:Heap):Option AV:=
 match q with
 |.load ag sz x=>ji (evM K O (.load ag sz x) e h)
 |.b2s x=>ji (evM K O (.b2s x) e h)
 |.s2b x=>ji (evM K O (.s2b x) e h)
 |.cvU x=>ji (evM K O (.cvU x) e h)
 |.cvP t n x=>ji (evM K O (.cvP t n x) e h)
 |.usd x=>ji (evM K O (.usd x) e h)
 |.lkp kk z ok x k=>ji (evM K O (.lkp kk z ok x k) e h)
 |.Oc x=>ji (evM K O (.Oc x) e h)
 |.slL sz x lo hi mx=>(match x.ev e with
  |.lst _=>ji (evM K O (.slL sz x lo hi mx) e h)
  |.ay=>ji (evM K O (.slL sz x lo hi mx) e h)
  |_=>none)
 |.Bg t sz n z ps false=>if AV.cD (λ_=>false) (ps.map λ(_,x)=>x.ev e)=true then ji (evM K O (.Bg t sz n z ps false) e h) else none
 |_=>none
abbrev vo:=List (Nat×MOp×Env×AV)
def Rj(v:AV):Option AV->Bool
 |some u=>u.beq v
 |none=>false
def recheck(K:Cfg)(O:Orc)(re:List Nat)(pd:vo)(h:Heap):Bool:=
 pd.all λx=>!(re.contains x.1) ||Rj x.2.2.2 (evQ K O x.2.1 x.2.2.1 h)
def evD(K:Cfg)(O:Orc):List DO->vo->St->Option (Ex×St)
 | [],_,s=>some (.norm,s)
 |d::r,pd,s=>match wanted d.co.gd (keep d.looks s.env) with
  |none=>none
  |some false=>if loud d.co=true∧recheck K O d.re pd s.h=false then none else evD K O r pd { s with env:=put s.env d.co.dst (.tup []) }
  |some true=>match d.co.op with
   |.p q=>(match evP q (keep d.looks s.env) with
    |some v=>evD K O r pd { s with env:=put s.env d.co.dst v }
    |none=>none)
   |.m q=>if iB q=true then (match evQ K O q (keep d.looks s.env) s.h with
     |some v=>evD K O r ((d.ix,q,keep d.looks s.env,v)::pd) { s with env:=put s.env d.co.dst v }
     |none=>none)
    else (match evM K O q (keep d.looks s.env) s.h with
     |some (.val v h)=>if recheck K O d.re pd h=true then evD K O r pd { env:=put s.env d.co.dst v,h:=h } else none
     |some (.pan v h)=>some (.pan v,{ env:=[],h:=h })
     |none=>none)
   |.bad=>none
def Blk.aO(p:Loc->Bool):Blk->Bool
 |.box _ _ v=>v.aO p
 |.arr _ _ _ _=>true
 |.map es=>es.all λx=>x.2.aO p
 |.dead=>true
 |.arq _ _ _ _ _ _ _=>true
 |.arv _ _ es=>AV.cD p es
def XQ(p:Loc->Bool)(e:Env):Bool:=e.all λx=>x.2.aO p
def cut(n:Nat)(live:List Nat)(s:St):Option St:=
 match s.h with
 | []=>none
 |f::o=>
  if f.length=n then some { env:=keep live s.env,h:=s.h }
  else if n<=f.length∧XQ (λa=>!(a.1==o.length) ||decide (a.2<n)) (keep live s.env)=true ∧
    (f.take n).all (Blk.aO λa=>!(a.1==o.length) ||decide (a.2<n))=true then
   some { env:=keep live s.env,h:=f.take n::o }
  else some { env:=keep live s.env,h:=s.h }
def evC(K:Cfg)(O:Orc):CC->St->Option (Ex×St)
 |.skip,s=>some (.norm,s)
 |.reg ops,s=>dF K O ops s
 |.draw ds,s=>evD K O ds [] s
 |.seq a b,s=>match evC K O a s with
  |some (.norm,s1)=>evC K O b s1
  |r=>r
 |.cond x a b,s=>match x.ev s.env with
  |.bool t=>if t then evC K O a s else evC K O b s
  |_=>none
 |.block id a,s=>match evC K O a s with
  |some (.exit j,s1)=>if j=id then some (.norm,s1) else some (.exit j,s1)
  |r=>r
 |.loop live a,s=>O.code (.af (hlen s.h) live a) { s with env:=keep live s.env }
 |.af n live a,s=>match evC K O a s with
  |some (.norm,s1)=>(match cut n live s1 with
   |some s2=>O.code (.af n live a) s2
   |none=>none)
  |r=>r
 |.exit id,s=>some (.exit id,s)
 |.ret,s=>some (.ret,s)
 |.scope a,s=>evC K O a s
 |.bad,_=>none
def zi(s:St):jm->Option AV
 |.tmp t=>some (get s.env t)
 |.own t=>some (get s.env t)
 |.cell t ag sz=>ow ag sz s.h (get s.env t)
def nL(s:St):List jm->Option (List AV)
 | []=>some []
 |r::rs=>match zi s r with
  |some v=>(match nL s rs with
   |some vs=>some (v::vs)
   |none=>none)
  |none=>none
def CZ(s:St)(rs:List jm):Option AV:=
 match nL s rs with
 |some [v]=>some v
 |some vs=>some (.tup vs)
 |none=>none
mutual
def AV.ren(r:Loc->Loc):AV->AV
 |.agg cs=>.agg (AV.zj r cs)
 |.tup cs=>.tup (AV.zj r cs)
 |.own a n=>.own (r a) n
 |.ptr a o=>.ptr (r a) o
 |.dN a n s i o=>.dN (r a) n s i o
 |.mp a=>.mp (r a)
 |.fn f x y=>.fn f (AV.zj r x) (AV.zj r y)
 |.iface t v=>.iface t (v.ren r)
 |v=>v
def AV.zj(r:Loc->Loc):List AV->List AV
 | []=>[]
 |c::cs=>c.ren r::AV.zj r cs
end
def Blk.ren(r:Loc->Loc):Blk->Blk
 |.box t fz v=>.box t fz (v.ren r)
 |.map es=>.map (es.map λx=>(x.1,x.2.ren r))
 |.arv t s es=>.arv t s (AV.zj r es)
 |b=>b
def moved(l n:Nat)(a:Loc):Loc:=if a.1=l+1 then (l,n+a.2) else a
def merge(v:AV)(f:List Blk):Heap->Option (AV×Heap)
 | []=>none
 |g::o=>some (v.ren (moved o.length g.length),(g++f.map (Blk.ren (moved o.length g.length)))::o)
def pop(v:AV)(h:Heap):Option (AV×Heap):=
 match v.view (λa=>a.1==h.length-1) h with
 |some (v',f::o)=>if v'.aO (λa=>decide (a.1<o.length))=true then some (v',o) else merge v' f o
 |_=>none
def evB(K:Cfg)(O:Orc):CB->St->Option (Ex×St×Option (FuncId×List AV))
 |.code c,s=>match evC K O c s with
  |some (ex,s')=>some (ex,s',none)
  |none=>none
 |.seq c b,s=>match evC K O c s with
  |some (.norm,s1)=>evB K O b s1
  |some (ex,s1)=>some (ex,s1,none)
  |none=>none
 |.dfr d q c,s=>match evP q s.env with
  |some (.fn (.func g) [] cap)=>(match evC K O c { s with env:=set s.env d (.fn (.func g) [] cap) } with
   |some (ex,s')=>some (ex,s',some (g,cap))
   |none=>none)
  |_=>none
def rQ(K:Cfg)(O:Orc)(g:FuncId)(cap:List AV)(pv:Option AV)(h:Heap):Option Heap:=
 match K.dfn g with
 |none=>none
 |some df=>if cap.length<=df.nt then (match evC K O df.rest { env:=set (set (cI 0 cap) df.d1 (pv.getD .jg)) df.d2 (pv.getD .jg),h:=[]::h } with
  |some (.norm,s)=>(match pop (.tup []) s.h with
   |some (_,h')=>some h'
   |none=>none)
  |some (.ret,s)=>(match pop (.tup []) s.h with
   |some (_,h')=>some h'
   |none=>none)
  |_=>none) else none
def jm.keep:jm->jm
 |.tmp t=>.own t
 |r=>r
def Vg:List jm->Bool
 |.own _::_=>true
 |_=>false
def IQ(k:Bool)(rs:List jm):List jm:=if k then rs.map jm.keep else rs
def Um(k:Bool)(v:AV)(h:Heap):Option (AV×Heap):=
 if k=true then (match h with
  |f::o=>merge v f o
  | []=>none) else pop v h
def finish(rs:List jm)(s:St):Option Out:=
 match CZ s rs with
 |some v=>(match Um (Vg rs) v s.h with
  |some (v',h')=>some (.val v' h')
  |none=>none)
 |none=>none
def wN(K:Cfg)(O:Orc)(rs:List jm)(g:FuncId)(cap:List AV)(pv:Option AV)(s:St):Option Out:=
 match rQ K O g cap pv s.h with
 |some h2=>finish rs { s with h:=h2 }
 |none=>none
def iY(K:Cfg)(O:Orc)(f:FuncId)(args:List AV)(h:Heap):Option Out:=
 match K.X f args h with
 |some r=>some r
 |none=>match K.fns f with
  |none=>none
  |some cf=>if args.length<=cf.nt then match evB K O cf.body { env:=cI 0 args,h:=[]::h } with
   |some (.norm,s,none)=>finish cf.res s
   |some (.ret,s,none)=>finish cf.res s
   |some (.pan v,s,none)=>(match pop v s.h with
    |some (v',h')=>some (.pan v' h')
    |none=>none)
   |some (.norm,s,some (g,cap))=>wN K O cf.res g cap none s
   |some (.ret,s,some (g,cap))=>wN K O cf.res g cap none s
   |some (.pan v,s,some (g,cap))=>wN K O cf.res g cap (some v) s
   |_=>none
   else none
def step(K:Cfg)(O:Orc):Orc:={ fn:=iY K O,code:=evC K O }
def evF(K:Cfg):Nat->Orc
 | 0=>{ fn:=λ_ _ _=>none,code:=λ_ _=>none }
 |n+1=>step K (evF K n)

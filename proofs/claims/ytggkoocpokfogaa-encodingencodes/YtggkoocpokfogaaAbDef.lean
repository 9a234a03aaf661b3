/-
  The abstract evaluator: its values, its memory, its compact code, and the evaluator itself. No theorem here speaks of the model.
-/
import Derived.WalkKit
namespace Go.Ab

abbrev Loc := Nat × Nat

/-- Abstract values. `lst`: a slice that nobody writes; `own a n`: the whole slice that lies at a; `emp`: an empty slice without room; `ptr`: a pointer to
a cell of a boxed variable; `eptr`: to a cell of an element of an owned slice; `iptr`: into something that nobody writes. -/
inductive AV where
  | top
  | bool (b : Bool)
  | int (k : IntKind) (n : Int)
  | str (s : List UInt8)
  | agg (cs : List AV)
  | tup (vs : List AV)
  | nils
  | emp
  | lst (es : List AV)
  | own (a : Loc) (n : Nat)
  | ptr (a : Loc) (off : Nat)
  | eptr (a : Loc) (n sz i off : Nat)
  | iptr (e : AV) (off : Nat)
  | nilp
  | fn (f : Fn) (first captured : List AV)
  | nilf
  | iface (t : TypeId) (v : AV)
  | nili
  | mp (a : Loc)
  | nilm
  | anyp
  deriving Inhabited

def AV.cells : AV → List AV
  | .agg cs => cs
  | .top => []
  | .tup _ => []
  | v => [v]
def AV.isAgg : AV → Bool
  | .agg _ => true
  | _ => false

mutual
/-- All places to which a value leads directly pass a test. -/
def AV.refOk (p : Loc → Bool) : AV → Bool
  | .agg cs => AV.refOks p cs
  | .tup cs => AV.refOks p cs
  | .own a _ => p a
  | .ptr a _ => p a
  | .eptr a _ _ _ _ => p a
  | .mp a => p a
  | .fn _ x y => AV.refOks p x && AV.refOks p y
  | .iface _ v => v.refOk p
  | _ => true
def AV.refOks (p : Loc → Bool) : List AV → Bool
  | [] => true
  | c :: cs => c.refOk p && AV.refOks p cs
end
def AV.pure (v : AV) : Bool := v.refOk fun _ => false

mutual
/-- Sameness, as far as it can be told. -/
def AV.beq : AV → AV → Bool
  | .top, .top => true
  | .bool a, .bool b => a == b
  | .int k a, .int j b => decide (k = j) && decide (a = b)
  | .str a, .str b => a == b
  | .agg x, .agg y => AV.beqs x y
  | .tup x, .tup y => AV.beqs x y
  | .nils, .nils => true
  | .emp, .emp => true
  | .lst x, .lst y => AV.beqs x y
  | .own a n, .own b m => decide (a = b) && decide (n = m)
  | .ptr a n, .ptr b m => decide (a = b) && decide (n = m)
  | .eptr a n s i o, .eptr a' n' s' i' o' => decide (a = a') && decide (n = n') && decide (s = s') && decide (i = i') && decide (o = o')
  | .iptr e o, .iptr e' o' => e.beq e' && decide (o = o')
  | .nilp, .nilp => true
  | .fn (.func f) x y, .fn (.func g) x' y' => decide (f = g) && AV.beqs x x' && AV.beqs y y'
  | .nilf, .nilf => true
  | .iface t v, .iface u w => decide (t = u) && v.beq w
  | .nili, .nili => true
  | .mp a, .mp b => decide (a = b)
  | .nilm, .nilm => true
  | .anyp, .anyp => true
  | _, _ => false
def AV.beqs : List AV → List AV → Bool
  | [], [] => true
  | c :: cs, d :: ds => c.beq d && AV.beqs cs ds
  | _, _ => false
end

/-- What lies at a place: a boxed variable, the array behind an owned slice (its elements), a map. -/
inductive Blk where
  | box (t : TypeId) (fz : Bool) (v : AV)
  | arr (t : TypeId) (size : Nat) (vw : Bool) (es : List AV)
  | map (es : List (AV × AV))
  | dead
  deriving Inhabited

abbrev Heap := List (List Blk)

def hget : Heap → Loc → Option Blk
  | [], _ => none
  | f :: o, l => if l.1 = o.length then f[l.2]? else hget o l
def hset : Heap → Loc → Blk → Heap
  | [], _, _ => []
  | f :: o, l, b => if l.1 = o.length then f.set l.2 b :: o else f :: hset o l b
def hnext : Heap → Loc
  | [] => (0, 0)
  | f :: o => (o.length, f.length)
def hnew : Heap → Blk → Heap
  | [], _ => []
  | f :: o, b => (f ++ [b]) :: o
def hlen : Heap → Nat
  | [] => 0
  | f :: _ => f.length
def hdepth (h : Heap) : Nat := h.length - 1

mutual
/-- Owned slices (those whose place passes the test) are turned into slices that nobody writes. -/
def AV.view (p : Loc → Bool) : AV → Heap → Option (AV × Heap)
  | .own a n, h =>
    if p a then
      match hget h a with
      | some (.arr t s _ es) => if es.length = n then some (.lst es, hset h a (.arr t s true es)) else none
      | _ => none
    else some (.own a n, h)
  | .agg cs, h => match AV.views p cs h with
    | some (cs', h') => some (.agg cs', h')
    | none => none
  | .tup cs, h => match AV.views p cs h with
    | some (cs', h') => some (.tup cs', h')
    | none => none
  | .iface t v, h => match v.view p h with
    | some (v', h') => some (.iface t v', h')
    | none => none
  | v, h => some (v, h)
def AV.views (p : Loc → Bool) : List AV → Heap → Option (List AV × Heap)
  | [], h => some ([], h)
  | c :: cs, h => match c.view p h with
    | some (c', h') => (match AV.views p cs h' with
      | some (cs', h'') => some (c' :: cs', h'')
      | none => none)
    | none => none
end

/-- The value of a type (an aggregate or not, of so many cells) in cells from an offset on. -/
def getE (ag : Bool) (sz : Nat) (e : AV) (o : Nat) : Option AV :=
  if o = 0 ∧ e.isAgg = ag ∧ e.cells.length = sz then some e
  else if ag then (if o + sz ≤ e.cells.length then some (.agg ((e.cells.drop o).take sz)) else none)
  else e.cells[o]?
def setE (e : AV) (o : Nat) (v : AV) : Option AV :=
  if o = 0 ∧ v.isAgg = e.isAgg ∧ v.cells.length = e.cells.length then some v
  else match e with
    | .agg cs => if o + v.cells.length ≤ cs.length then some (.agg (cs.take o ++ v.cells ++ cs.drop (o + v.cells.length))) else none
    | _ => none

abbrev Env := List (Nat × AV)
def get : Env → Nat → AV
  | [], _ => .top
  | (j, v) :: r, i => if j = i then v else get r i
def set : Env → Nat → AV → Env
  | [], i, v => [(i, v)]
  | (j, u) :: r, i, v => if j = i then (i, v) :: r else (j, u) :: set r i v
def put (e : Env) (d : Option Nat) (v : AV) : Env := match d with
  | some i => set e i v
  | none => e
def envOf : Nat → List AV → Env
  | _, [] => []
  | i, a :: r => (i, a) :: envOf (i + 1) r
def keep (live : List Nat) (e : Env) : Env := live.map fun t => (t, get e t)

inductive Opd where
  | t (i : Nat)
  | c (v : AV)
  deriving Inhabited
def Opd.ev (e : Env) : Opd → AV
  | .t i => get e i
  | .c v => v
def oev (e : Env) : Option Opd → Option AV
  | some x => some (x.ev e)
  | none => none

/-- Kinds of a struct's fields that can be compared at once. -/
inductive FK where
  | bool | int | str
  deriving Inhabited, DecidableEq
def eqF : FK → AV → AV → Option Bool
  | .bool, .bool a, .bool b => some (decide (a = b))
  | .int, .int k a, .int k' b => if k = k' then some (decide (a = b)) else none
  | .str, .str a, .str b => some (decide (a = b))
  | _, _, _ => none
def eqFs : List FK → List AV → List AV → Option Bool
  | [], [], [] => some true
  | k :: ks, a :: as, b :: bs => match eqF k a b, eqFs ks as bs with
    | some p, some q => some (p && q)
    | _, _ => none
  | _, _, _ => none
/-- Kinds of types that have a nil. -/
inductive NK where
  | slice | ptr | func | iface | map
  deriving Inhabited
/-- Operations that read no memory. -/
inductive POp where
  | mv (x : Opd)
  | pick (c a b : Opd)
  | bld (z : List AV) (ps : List (Nat × Nat × Opd))
  | fa (off : Nat) (x : Opd)
  | fld (ag : Bool) (off sz : Nat) (x : Opd)
  | iaA (n sz : Nat) (x i : Opd)
  | iaS (sz : Nat) (x i : Opd)
  | ixA (ag : Bool) (n sz : Nat) (x i : Opd)
  | ixS (x i : Opd)
  | bin (b : BinOp) (x y : Opd)
  | eqB (neg : Bool) (x y : Opd)
  | eqN (k : NK) (neg : Bool) (x : Opd)
  | eqP (neg : Bool) (x y : Opd)
  | eqA (neg : Bool) (ks : List FK) (x y : Opd)
  | not (x : Opd)
  | neg (x : Opd)
  | cvI (k : IntKind) (x : Opd)
  | cvS (x : Opd)
  | mkI (t : TypeId) (x : Opd)
  | mkF (f : Fn) (a b : List Opd)
  | ext (x : Opd) (i : Nat)
  | nilck (x : Opd)
  | slS (x : Opd) (lo hi : Option Opd)
  | len (sl : Bool) (x : Opd)
  | mm (mx : Bool) (xs : List Opd)
  | tyA (t : TypeId) (ok : Bool) (z : AV) (x : Opd)
  deriving Inhabited
/-- Operations that read or write memory, or call. -/
inductive MOp where
  | mat (x : Opd)
  | alloc (t : TypeId) (z : AV) (mat : Bool)
  | box (t : TypeId) (sz : Nat) (x : Opd)
  | bldS (t : TypeId) (sz n : Nat) (z : AV) (ps : List (Nat × Opd)) (own : Bool)
  | load (ag : Bool) (sz : Nat) (x : Opd)
  | store (sz : Nat) (mat : Bool) (a v : Opd)
  | b2s (x : Opd)
  | s2b (x : Opd)
  | slL (sz : Nat) (x : Opd) (lo hi mx : Option Opd)
  | slA (n sz : Nat) (x : Opd) (lo hi : Option Opd)
  | app (t : TypeId) (sz bytes : Nat) (s x : Opd)
  | appS (t : TypeId) (bytes : Nat) (s x : Opd)
  | cvU (x : Opd)
  | cvP (t : TypeId) (n : Nat) (x : Opd)
  | usd (x : Opd)
  | ustr (t : TypeId) (x n : Opd)
  | mkS (t : TypeId) (sz bytes : Nat) (z : AV) (l c : Opd)
  | call (f : Opd) (args : List Opd)
  | pan (x : Opd)
  deriving Inhabited
inductive COp where
  | p (o : POp)
  | m (o : MOp)
  | bad
  deriving Inhabited
structure CO where
  dst : Option Nat
  gd : Option (Nat × Bool)
  op : COp
  deriving Inhabited
/-- An operation of a region that draws its order: its number, the slots that it sees, the operations that always run before it, and those before it in
our order that are asked again behind it. -/
structure DO where
  co : CO
  ix : Nat
  looks : List Nat
  anc : List Nat
  re : List Nat
  deriving Inhabited

inductive CC where
  | skip
  | reg (ops : List CO)
  | draw (ops : List DO)
  | seq (a b : CC)
  | cond (x : Opd) (a b : CC)
  | block (id : Nat) (a : CC)
  | loop (live : List Nat) (a : CC)
  | loopAt (n : Nat) (live : List Nat) (a : CC)
  | exit (id : Nat)
  | ret
  | scope (a : CC)
  | bad
  deriving Inhabited

inductive CRes where
  | tmp (t : Nat)
  | cell (t : Nat) (ag : Bool) (sz : Nat)
  deriving Inhabited
/-- A function's body: pieces one behind the other; where a call is deferred: its function value. -/
inductive CB where
  | code (c : CC)
  | seq (c : CC) (b : CB)
  | dfr (d : Nat) (q : POp) (c : CC)
  deriving Inhabited
/-- A deferred function: where the recovered value goes; what follows. -/
structure DFun where
  d1 : Nat
  d2 : Nat
  rest : CC
  nt : Nat
  deriving Inhabited
structure CFun where
  body : CB
  res : List CRes
  np : Nat
  nt : Nat
  deriving Inhabited

def evInt (op : BinOp) (k : IntKind) (a b : Int) : Option AV :=
  match op with
  | .add => some (.int k (k.wrap (a + b)))
  | .sub => some (.int k (k.wrap (a - b)))
  | .mul => some (.int k (k.wrap (a * b)))
  | .quo => if b = 0 then none else some (.int k (k.wrap (a.tdiv b)))
  | .rem => if b = 0 then none else some (.int k (a.tmod b))
  | .and => some (.int k (k.wrap ((BitVec.ofInt k.bits a &&& BitVec.ofInt k.bits b).toNat : Int)))
  | .or => some (.int k (k.wrap ((BitVec.ofInt k.bits a ||| BitVec.ofInt k.bits b).toNat : Int)))
  | .xor => some (.int k (k.wrap ((BitVec.ofInt k.bits a ^^^ BitVec.ofInt k.bits b).toNat : Int)))
  | .andNot => some (.int k (k.wrap ((BitVec.ofInt k.bits a &&& ~~~(BitVec.ofInt k.bits b)).toNat : Int)))
  | .eql => some (.bool (a == b))
  | .neq => some (.bool (a != b))
  | .lss => some (.bool (decide (a < b)))
  | .leq => some (.bool (decide (a ≤ b)))
  | .gtr => some (.bool (decide (b < a)))
  | .geq => some (.bool (decide (b ≤ a)))
  | .shl => if b < 0 then none else some (.int k (k.wrap (a * 2 ^ (min b.toNat k.bits))))
  | .shr => if b < 0 then none else some (.int k (a.fdiv (2 ^ (min b.toNat k.bits))))
def strBound : Nat := 9223372036854775807
def evStr (op : BinOp) (a b : List UInt8) : Option AV :=
  match op with
  | .add => if a.length + b.length ≤ strBound then some (.str (a ++ b)) else none
  | .eql => some (.bool (a == b))
  | .neq => some (.bool (!(a == b)))
  | .lss => some (.bool (Op.bytesLess a b))
  | .leq => some (.bool (Op.bytesLess a b || a == b))
  | .gtr => some (.bool (!(Op.bytesLess a b || a == b)))
  | .geq => some (.bool (!(Op.bytesLess a b)))
  | _ => none
def BinOp.shifts : BinOp → Bool
  | .shl | .shr => true
  | _ => false
def evBin (op : BinOp) (x y : AV) : Option AV :=
  match x, y with
  | .int k a, .int k' b => if k = k' ∨ BinOp.shifts op = true then evInt op k a b else none
  | .str a, .str b => evStr op a b
  | _, _ => none

def fillC : List AV → List (Nat × Nat × AV) → Option (List AV)
  | z, [] => some z
  | z, (o, s, v) :: r => if v.cells.length = s ∧ 0 < s ∧ o + s ≤ z.length then fillC (z.take o ++ v.cells ++ z.drop (o + s)) r else none
def fillS (sz : Nat) : List AV → List (Nat × AV) → Option (List AV)
  | z, [] => some z
  | z, (i, v) :: r => if i < z.length ∧ v.pure = true ∧ v.cells.length = sz then fillS sz (z.set i v) r else none

/-- The bounds of a slice expression over something of a length. -/
def bHi (n : Nat) : Option AV → Option Nat
  | none => some n
  | some (.int _ h) => if 0 ≤ h ∧ h ≤ n then some h.toNat else none
  | _ => none
def bLo (h : Nat) : Option AV → Option Nat
  | none => some 0
  | some (.int _ l) => if 0 ≤ l ∧ l ≤ h then some l.toNat else none
  | _ => none
def bnds (n : Nat) (lo hi : Option AV) : Option (Nat × Nat) :=
  match bHi n hi with
  | none => none
  | some h => match bLo h lo with
    | none => none
    | some l => some (l, h)

def isNil : NK → AV → Option Bool
  | .slice, .nils => some true
  | .slice, .lst (_ :: _) => some false
  | .slice, .own _ (_ + 1) => some false
  | .ptr, .nilp => some true
  | .ptr, .ptr _ _ => some false
  | .ptr, .eptr _ _ _ _ _ => some false
  | .ptr, .iptr _ _ => some false
  | .func, .nilf => some true
  | .func, .fn _ _ _ => some false
  | .iface, .nili => some true
  | .iface, .iface _ _ => some false
  | .map, .nilm => some true
  | .map, .mp _ => some false
  | _, _ => none

def slLen : AV → Option Nat
  | .lst es => some es.length
  | .nils => some 0
  | .emp => some 0
  | .own _ n => some n
  | _ => none

def mmList (mx : Bool) : AV → List AV → Option AV
  | x, [] => some x
  | .int k a, .int _ b :: r => mmList mx (.int k (if mx then (if b > a then b else a) else (if b < a then b else a))) r
  | _, _ => none

def evP (o : POp) (e : Env) : Option AV :=
  match o with
  | .mv x => some (x.ev e)
  | .pick c a b => match c.ev e with
    | .bool t => some (if t then a.ev e else b.ev e)
    | _ => none
  | .bld z ps => match fillC z (ps.map fun (o, s, x) => (o, s, x.ev e)) with
    | some cs => some (.agg cs)
    | none => none
  | .fa off x => match x.ev e with
    | .ptr a o => some (.ptr a (o + off))
    | .eptr a n sz i o => some (.eptr a n sz i (o + off))
    | .iptr v o => some (.iptr v (o + off))
    | _ => none
  | .fld ag off sz x => match x.ev e with
    | .agg cs => if ag then (if off + sz ≤ cs.length then some (.agg ((cs.drop off).take sz)) else none) else cs[off]?
    | _ => none
  | .iaA n sz x i => match x.ev e, i.ev e with
    | .ptr a o, .int _ j => if 0 ≤ j ∧ j < n then some (.ptr a (o + j.toNat * sz)) else none
    | .iptr v o, .int _ j => if 0 ≤ j ∧ j < n then some (.iptr v (o + j.toNat * sz)) else none
    | _, _ => none
  | .iaS sz x i => match x.ev e, i.ev e with
    | .lst es, .int _ j => if 0 ≤ j then (match es[j.toNat]? with
      | some v => if v.cells.length = sz then some (.iptr v 0) else none
      | none => none) else none
    | .own a n, .int _ j => if 0 ≤ j ∧ j < n then some (.eptr a n sz j.toNat 0) else none
    | _, _ => none
  | .ixA ag n sz x i => match x.ev e, i.ev e with
    | .agg cs, .int _ j => if 0 ≤ j ∧ j < n then
        (if ag then (if j.toNat * sz + sz ≤ cs.length then some (.agg ((cs.drop (j.toNat * sz)).take sz)) else none) else cs[j.toNat * sz]?) else none
    | _, _ => none
  | .ixS x i => match x.ev e, i.ev e with
    | .str s, .int _ j => if 0 ≤ j then (match s[j.toNat]? with
      | some b => some (.int .u8 (b.toNat : Int))
      | none => none) else none
    | _, _ => none
  | .bin b x y => evBin b (x.ev e) (y.ev e)
  | .eqB ng x y => match x.ev e, y.ev e with
    | .bool a, .bool b => some (.bool (if ng then !(a == b) else a == b))
    | _, _ => none
  | .eqN k ng x => match isNil k (x.ev e) with
    | some b => some (.bool (if ng then !b else b))
    | none => none
  | .eqA ng ks x y => match x.ev e, y.ev e with
    | .agg as, .agg bs => (match eqFs ks as bs with
      | some r => some (.bool (if ng then !r else r))
      | none => none)
    | _, _ => none
  | .eqP ng x y => match x.ev e, y.ev e with
    | .ptr a o, .ptr b o' => if a = b ∧ o = o' then some (.bool (!ng)) else none
    | _, _ => none
  | .not x => match x.ev e with
    | .bool b => some (.bool (!b))
    | _ => none
  | .neg x => match x.ev e with
    | .int k n => some (.int k (k.wrap (0 - n)))
    | _ => none
  | .cvI k x => match x.ev e with
    | .int _ n => some (.int k (k.wrap n))
    | _ => none
  | .cvS x => match x.ev e with
    | .str s => some (.str s)
    | _ => none
  | .mkI t x => some (.iface t (x.ev e))
  | .mkF f a b => some (.fn f (a.map (·.ev e)) (b.map (·.ev e)))
  | .ext x i => match x.ev e with
    | .tup vs => vs[i]?
    | _ => none
  | .nilck x => match x.ev e with
    | .ptr a o => some (.ptr a o)
    | .iptr v o => some (.iptr v o)
    | .fn (.func f) x y => some (.fn (.func f) x y)
    | _ => none
  | .slS x lo hi => match x.ev e with
    | .str s => (match bnds s.length (oev e lo) (oev e hi) with
      | some (l, h) => some (.str ((s.take h).drop l))
      | none => none)
    | _ => none
  | .len sl x => if sl then (match slLen (x.ev e) with
      | some n => some (.int .i64 (n : Int))
      | none => none)
    else (match x.ev e with
      | .str s => some (.int .i64 (s.length : Int))
      | _ => none)
  | .mm mx xs => match (List.map (Opd.ev e) xs : List AV) with
    | .int k a :: r => mmList mx (.int k a) r
    | _ => none
  | .tyA t ok z x => match x.ev e with
    | .iface u v => if u = t then some (if ok then .tup [v, .bool true] else v) else if ok then some (.tup [z, .bool false]) else none
    | .nili => if ok then some (.tup [z, .bool false]) else none
    | _ => none

inductive Out where
  | val (v : AV) (h : Heap)
  | pan (v : AV) (h : Heap)
  deriving Inhabited

structure St where
  env : Env
  h : Heap
  deriving Inhabited
inductive Ex where
  | norm
  | exit (id : Nat)
  | ret
  | pan (v : AV)
  deriving Inhabited

structure Orc where
  fn : FuncId → List AV → Heap → Option Out
  code : CC → St → Option (Ex × St)

/-- New owned slices, empty, for the nil slices of a value. -/
def matL : List AV → Heap → List AV × Heap
  | [], h => ([], h)
  | .nils :: r, h => match matL r (hnew h (.arr 0 0 false [])) with
    | (r', h') => (.own (hnext h) 0 :: r', h')
  | v :: r, h => match matL r h with
    | (r', h') => (v :: r', h')
def matV : AV → Heap → AV × Heap
  | .agg cs, h => match matL cs h with
    | (cs', h') => (.agg cs', h')
  | .nils, h => (.own (hnext h) 0, hnew h (.arr 0 0 false []))
  | v, h => (v, h)

def bytesOf : List AV → Option (List UInt8)
  | [] => some []
  | .int .u8 n :: r => match bytesOf r with
    | some l => some (UInt8.ofNat n.toNat :: l)
    | none => none
  | _ => none
def ofBytes (s : List UInt8) : List AV := s.map fun b => .int .u8 (b.toNat : Int)

/-- The elements of a slice that is read. -/
def elemsOf (v : AV) (h : Heap) : Option (List AV) :=
  match v with
  | .lst es => some es
  | .nils => some []
  | .emp => some []
  | .own a n => match hget h a with
    | some (.arr _ _ _ es) => if es.length = n then some es else none
    | _ => none
  | _ => none

/-- No list is longer, in bytes. -/
def room : Nat := 1099511627776
def sized (sz : Nat) (es : List AV) : Bool := es.all fun e => e.cells.length == sz

def storeTo (h : Heap) (p v : AV) : Option Heap :=
  match p with
  | .ptr a o => match hget h a with
    | some (.box t fz w) =>
      if fz = false ∧ v.refOk (fun b => decide (b.1 ≤ a.1)) = true then
        (match setE w o v with
          | some w' => some (hset h a (.box t false w'))
          | none => none)
      else none
    | _ => none
  | .eptr a n sz i o => match hget h a with
    | some (.arr t s vw es) =>
      if vw = false ∧ es.length = n ∧ sz = s ∧ v.pure = true then
        (match es[i]? with
          | some w => (match setE w o v with
            | some w' => some (hset h a (.arr t s false (es.set i w')))
            | none => none)
          | none => none)
      else none
    | _ => none
  | _ => none

def loadFrom (ag : Bool) (sz : Nat) (h : Heap) (p : AV) : Option AV :=
  match p with
  | .ptr a o => match hget h a with
    | some (.box _ _ w) => getE ag sz w o
    | _ => none
  | .eptr a n sz' i o => match hget h a with
    | some (.arr _ s _ es) => if es.length = n ∧ sz' = s then (match es[i]? with
      | some w => getE ag sz w o
      | none => none) else none
    | _ => none
  | .iptr w o => getE ag sz w o
  | _ => none

/-- Elements are appended. -/
def appTo (t : TypeId) (sz bytes : Nat) (s : AV) (news : List AV) (h : Heap) : Option Out :=
  match s with
  | .own a n => (match hget h a with
    | some (.arr t' sz' vw es) =>
      if es.length = n ∧ (n + news.length) * bytes ≤ room ∧ n + news.length ≤ room ∧ (sz' = 0 ∨ (t' = t ∧ sz' = sz)) then
        some (.val (.own a (n + news.length)) (hset h a (.arr t sz vw (es ++ news))))
      else none
    | _ => none)
  | .nils => if news = [] then some (.val .nils h)
    else if news.length * bytes ≤ room ∧ news.length ≤ room then some (.val (.own (hnext h) news.length) (hnew h (.arr t sz false news))) else none
  | .emp => if news = [] then some (.val .emp h)
    else if news.length * bytes ≤ room ∧ news.length ≤ room then some (.val (.own (hnext h) news.length) (hnew h (.arr t sz false news))) else none
  | _ => none

structure Cfg where
  X : FuncId → List AV → Heap → Option Out
  fns : FuncId → Option CFun
  dfn : FuncId → Option DFun := fun _ => none
  lend : FuncId → Bool

def evM (K : Cfg) (O : Orc) (o : MOp) (e : Env) (h : Heap) : Option Out :=
  match o with
  | .mat x => match matV (x.ev e) h with
    | (v, h') => some (.val v h')
  | .alloc t z mat => match (if mat then matV z h else (z, h)) with
    | (z', h') => some (.val (.ptr (hnext h') 0) (hnew h' (.box t false z')))
  | .box t sz x => if (x.ev e).cells.length = sz then some (.val (.ptr (hnext h) 0) (hnew h (.box t false (x.ev e)))) else none
  | .bldS t sz n z ps own => match AV.views (fun _ => true) (ps.map fun (_, x) => x.ev e) h with
    | none => none
    | some (vs, h') => match fillS sz (List.replicate n z) ((ps.map (·.1)).zip vs) with
      | none => none
      | some es =>
        if z.cells.length = sz ∧ z.pure = true then
          (if own then some (.val (.own (hnext h') n) (hnew h' (.arr t sz false es))) else some (.val (.lst es) h'))
        else none
  | .load ag sz x => match loadFrom ag sz h (x.ev e) with
    | some v => some (.val v h)
    | none => none
  | .store sz mat a v =>
    if (v.ev e).cells.length = sz then
      (match (if mat then matV (v.ev e) h else (v.ev e, h)) with
        | (w, h') => match storeTo h' (a.ev e) w with
          | some h'' => some (.val (.tup []) h'')
          | none => none)
    else none
  | .b2s x => match elemsOf (x.ev e) h with
    | some es => (match bytesOf es with
      | some s => some (.val (.str s) h)
      | none => none)
    | none => none
  | .s2b x => match x.ev e with
    | .str s => some (.val (.lst (ofBytes s)) h)
    | _ => none
  | .slL sz x lo hi mx => match mx with
    | none => (match (x.ev e).view (fun _ => true) h with
      | some (.lst es, h') => if sized sz es = true then (match bnds es.length (oev e lo) (oev e hi) with
        | some (l, r) => some (.val (.lst ((es.take r).drop l)) h')
        | none => none) else none
      | some (.nils, h') => (match bnds 0 (oev e lo) (oev e hi) with
        | some _ => some (.val .nils h')
        | none => none)
      | _ => none)
    | some m => match m.ev e, oev e lo, oev e hi with
      | .int _ 0, none, some (.int _ 0) => (match x.ev e with
        | .lst _ | .own _ _ | .nils | .emp => some (.val .emp h)
        | _ => none)
      | _, _, _ => none
  | .slA n sz x lo hi => match x.ev e with
    | .ptr a 0 => (match hget h a with
      | some (.box t _ (.agg cs)) =>
        if cs.length = n ∧ sz = 1 ∧ sized 1 cs = true ∧ (AV.agg cs).pure = true then
          (match bnds n (oev e lo) (oev e hi) with
            | some (l, r) => some (.val (.lst ((cs.take r).drop l)) (hset h a (.box t true (.agg cs))))
            | none => none)
        else none
      | _ => none)
    | _ => none
  | .app t sz bytes s x => match elemsOf (x.ev e) h with
    | none => none
    | some news => if sized sz news = true then appTo t sz bytes (s.ev e) news h else none
  | .appS t bytes s x => match x.ev e with
    | .str q => appTo t 1 bytes (s.ev e) (ofBytes q) h
    | _ => none
  | .cvU x => match x.ev e with
    | .ptr a o => (match hget h a with
      | some (.box _ _ v) => if o < v.cells.length then some (.val (.ptr a o) h) else none
      | _ => none)
    | _ => none
  | .cvP t n x => match x.ev e with
    | .ptr a 0 => (match hget h a with
      | some (.box u _ v) => if u = t ∧ v.cells.length = n then some (.val (.ptr a 0) h) else none
      | _ => none)
    | _ => none
  | .usd x => match x.ev e with
    | .nils => some (.val .nilp h)
    | .own a 0 => (match hget h a with
      | some (.arr _ _ _ []) => some (.val .anyp h)
      | _ => none)
    | .own a (n + 1) => (match hget h a with
      | some (.arr _ sz _ es) => if es.length = n + 1 ∧ sz = 1 then some (.val (.eptr a (n + 1) 1 0 0) h) else none
      | _ => none)
    | _ => none
  | .ustr t x k => match x.ev e, k.ev e with
    | .nilp, .int .i64 0 => some (.val (.str []) h)
    | .anyp, .int .i64 0 => some (.val (.str []) h)
    | .eptr a n 1 0 0, .int .i64 m => if m = n ∧ 0 < n then (match hget h a with
      | some (.arr u 1 _ es) => if u = t ∧ es.length = n then (match bytesOf es with
        | some s => if AV.beqs (ofBytes s) es = true then some (.val (.str s) (hset h a .dead)) else none
        | none => none) else none
      | _ => none) else none
    | _, _ => none
  | .mkS t sz bytes z l c => match l.ev e, c.ev e with
    | .int _ n, .int _ m =>
      if n = m ∧ 0 ≤ n ∧ n.toNat * bytes ≤ room ∧ n.toNat ≤ room ∧ z.cells.length = sz ∧ z.pure = true then
        some (.val (.own (hnext h) n.toNat) (hnew h (.arr t sz false (List.replicate n.toNat z))))
      else none
    | _, _ => none
  | .call f args => match f.ev e with
    | .fn (.func g) first captured =>
      (match AV.views (fun _ => K.lend g) (first ++ args.map (·.ev e) ++ captured) h with
        | some (vs, h') => O.fn g vs h'
        | none => none)
    | _ => none
  | .pan x => match x.ev e with
    | .iface t v => some (.pan (.iface t v) h)
    | _ => none

def wanted (g : Option (Nat × Bool)) (e : Env) : Option Bool :=
  match g with
  | none => some true
  | some (t, b) => match get e t with
    | .bool c => some (c == b)
    | .tup [] => some false
    | _ => none

def evOps (K : Cfg) (O : Orc) : List CO → St → Option (Ex × St)
  | [], s => some (.norm, s)
  | o :: r, s => match wanted o.gd s.env with
    | none => none
    | some false => evOps K O r { s with env := put s.env o.dst (.tup []) }
    | some true => match o.op with
      | .p q => (match evP q s.env with
        | some v => evOps K O r { s with env := put s.env o.dst v }
        | none => none)
      | .m q => (match evM K O q s.env s.h with
        | some (.val v h) => evOps K O r { env := put s.env o.dst v, h := h }
        | some (.pan v h) => some (.pan v, { s with h := h })
        | none => none)
      | .bad => none

/-- Operations that leave the memory alone. -/
def quietM : MOp → Bool
  | .load _ _ _ => true
  | .b2s _ => true
  | .s2b _ => true
  | .slL _ _ _ _ _ => true
  | .cvU _ => true
  | .cvP _ _ _ => true
  | .usd _ => true
  | .bldS _ _ _ _ _ own => !own
  | _ => false
def loud (c : CO) : Bool := match c.op with
  | .m q => !(quietM q)
  | _ => false
def quietC (c : CO) : Bool := match c.op with
  | .m q => quietM q
  | _ => false
def outVal : Option Out → Option AV
  | some (.val v _) => some v
  | _ => none
def evQ (K : Cfg) (O : Orc) (q : MOp) (e : Env) (h : Heap) : Option AV :=
  match q with
  | .load ag sz x => outVal (evM K O (.load ag sz x) e h)
  | .b2s x => outVal (evM K O (.b2s x) e h)
  | .s2b x => outVal (evM K O (.s2b x) e h)
  | .cvU x => outVal (evM K O (.cvU x) e h)
  | .cvP t n x => outVal (evM K O (.cvP t n x) e h)
  | .usd x => outVal (evM K O (.usd x) e h)
  | .slL sz x lo hi mx => (match x.ev e with
    | .lst _ => outVal (evM K O (.slL sz x lo hi mx) e h)
    | .nils => outVal (evM K O (.slL sz x lo hi mx) e h)
    | _ => none)
  | .bldS t sz n z ps false => if AV.refOks (fun _ => false) (ps.map fun (_, x) => x.ev e) = true then outVal (evM K O (.bldS t sz n z ps false) e h) else none
  | _ => none
abbrev Pend := List (Nat × MOp × Env × AV)
def same1 (v : AV) : Option AV → Bool
  | some u => u.beq v
  | none => false
def recheck (K : Cfg) (O : Orc) (re : List Nat) (pd : Pend) (h : Heap) : Bool :=
  pd.all fun x => !(re.contains x.1) || same1 x.2.2.2 (evQ K O x.2.1 x.2.2.1 h)
/-- A region that draws its order: one order stands for all. -/
def evD (K : Cfg) (O : Orc) : List DO → Pend → St → Option (Ex × St)
  | [], _, s => some (.norm, s)
  | d :: r, pd, s => match wanted d.co.gd (keep d.looks s.env) with
    | none => none
    | some false => if loud d.co = true ∧ recheck K O d.re pd s.h = false then none else evD K O r pd { s with env := put s.env d.co.dst (.tup []) }
    | some true => match d.co.op with
      | .p q => (match evP q (keep d.looks s.env) with
        | some v => evD K O r pd { s with env := put s.env d.co.dst v }
        | none => none)
      | .m q => if quietM q = true then (match evQ K O q (keep d.looks s.env) s.h with
          | some v => evD K O r ((d.ix, q, keep d.looks s.env, v) :: pd) { s with env := put s.env d.co.dst v }
          | none => none)
        else (match evM K O q (keep d.looks s.env) s.h with
          | some (.val v h) => if recheck K O d.re pd h = true then evD K O r pd { env := put s.env d.co.dst v, h := h } else none
          | some (.pan v h) => some (.pan v, { env := [], h := h })
          | none => none)
      | .bad => none

def Blk.refOk (p : Loc → Bool) : Blk → Bool
  | .box _ _ v => v.refOk p
  | .arr _ _ _ _ => true
  | .map es => es.all fun x => x.2.refOk p
  | .dead => true

/-- At a round's end: only the slots that are read again are kept, and what the round made is dropped. -/
def cutE (p : Loc → Bool) (e : Env) : Bool := e.all fun x => x.2.refOk p
def cut (n : Nat) (live : List Nat) (s : St) : Option St :=
  match s.h with
  | [] => none
  | f :: o =>
    if f.length = n then some { env := keep live s.env, h := s.h }
    else if n ≤ f.length ∧ cutE (fun a => !(a.1 == o.length) || decide (a.2 < n)) (keep live s.env) = true ∧
        (f.take n).all (Blk.refOk fun a => !(a.1 == o.length) || decide (a.2 < n)) = true then
      some { env := keep live s.env, h := f.take n :: o }
    else some { env := keep live s.env, h := s.h }

def evC (K : Cfg) (O : Orc) : CC → St → Option (Ex × St)
  | .skip, s => some (.norm, s)
  | .reg ops, s => evOps K O ops s
  | .draw ds, s => evD K O ds [] s
  | .seq a b, s => match evC K O a s with
    | some (.norm, s1) => evC K O b s1
    | r => r
  | .cond x a b, s => match x.ev s.env with
    | .bool t => if t then evC K O a s else evC K O b s
    | _ => none
  | .block id a, s => match evC K O a s with
    | some (.exit j, s1) => if j = id then some (.norm, s1) else some (.exit j, s1)
    | r => r
  | .loop live a, s => O.code (.loopAt (hlen s.h) live a) { s with env := keep live s.env }
  | .loopAt n live a, s => match evC K O a s with
    | some (.norm, s1) => (match cut n live s1 with
      | some s2 => O.code (.loopAt n live a) s2
      | none => none)
    | r => r
  | .exit id, s => some (.exit id, s)
  | .ret, s => some (.ret, s)
  | .scope a, s => evC K O a s
  | .bad, _ => none

def evRes1 (s : St) : CRes → Option AV
  | .tmp t => some (get s.env t)
  | .cell t ag sz => loadFrom ag sz s.h (get s.env t)
def evResL (s : St) : List CRes → Option (List AV)
  | [] => some []
  | r :: rs => match evRes1 s r with
    | some v => (match evResL s rs with
      | some vs => some (v :: vs)
      | none => none)
    | none => none
def evRes (s : St) (rs : List CRes) : Option AV :=
  match evResL s rs with
  | some [v] => some v
  | some vs => some (.tup vs)
  | none => none

/-- The frame is dropped: what the result reads of it becomes a value that nobody writes. -/
def pop (v : AV) (h : Heap) : Option (AV × Heap) :=
  match v.view (fun a => a.1 == h.length - 1) h with
  | some (v', _ :: o) => if v'.refOk (fun a => decide (a.1 < o.length)) = true then some (v', o) else none
  | _ => none

def evB (K : Cfg) (O : Orc) : CB → St → Option (Ex × St × Option (FuncId × List AV))
  | .code c, s => match evC K O c s with
    | some (ex, s') => some (ex, s', none)
    | none => none
  | .seq c b, s => match evC K O c s with
    | some (.norm, s1) => evB K O b s1
    | some (ex, s1) => some (ex, s1, none)
    | none => none
  | .dfr d q c, s => match evP q s.env with
    | some (.fn (.func g) [] cap) => (match evC K O c { s with env := set s.env d (.fn (.func g) [] cap) } with
      | some (ex, s') => some (ex, s', some (g, cap))
      | none => none)
    | _ => none
/-- A deferred call, the frame still there. -/
def evDef (K : Cfg) (O : Orc) (g : FuncId) (cap : List AV) (pv : Option AV) (h : Heap) : Option Heap :=
  match K.dfn g with
  | none => none
  | some df => if cap.length ≤ df.nt then (match evC K O df.rest { env := set (set (envOf 0 cap) df.d1 (pv.getD .nili)) df.d2 (pv.getD .nili), h := [] :: h } with
    | some (.norm, s) => (match pop (.tup []) s.h with
      | some (_, h') => some h'
      | none => none)
    | some (.ret, s) => (match pop (.tup []) s.h with
      | some (_, h') => some h'
      | none => none)
    | _ => none) else none
def finish (rs : List CRes) (s : St) : Option Out :=
  match evRes s rs with
  | some v => (match pop v s.h with
    | some (v', h') => some (.val v' h')
    | none => none)
  | none => none
def finD (K : Cfg) (O : Orc) (rs : List CRes) (g : FuncId) (cap : List AV) (pv : Option AV) (s : St) : Option Out :=
  match evDef K O g cap pv s.h with
  | some h2 => finish rs { s with h := h2 }
  | none => none
def stepFn (K : Cfg) (O : Orc) (f : FuncId) (args : List AV) (h : Heap) : Option Out :=
  match K.X f args h with
  | some r => some r
  | none => match K.fns f with
    | none => none
    | some cf => if args.length ≤ cf.nt then match evB K O cf.body { env := envOf 0 args, h := [] :: h } with
      | some (.norm, s, none) => finish cf.res s
      | some (.ret, s, none) => finish cf.res s
      | some (.pan v, s, none) => (match pop v s.h with
        | some (v', h') => some (.pan v' h')
        | none => none)
      | some (.norm, s, some (g, cap)) => finD K O cf.res g cap none s
      | some (.ret, s, some (g, cap)) => finD K O cf.res g cap none s
      | some (.pan v, s, some (g, cap)) => finD K O cf.res g cap (some v) s
      | _ => none
      else none

def step (K : Cfg) (O : Orc) : Orc := { fn := stepFn K O, code := evC K O }

/-- The evaluator with fuel: it runs. -/
def evF (K : Cfg) : Nat → Orc
  | 0 => { fn := fun _ _ _ => none, code := fun _ _ => none }
  | n + 1 => step K (evF K n)

end Go.Ab

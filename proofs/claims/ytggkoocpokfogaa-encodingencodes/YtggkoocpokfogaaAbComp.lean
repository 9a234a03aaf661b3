/-
  From the model's code to the compact code.
-/
import Derived.Test.YtggkoocpokfogaaAbSim
import Derived.Orders
set_option linter.unusedVariables false
namespace Go.Ab

def ofV1 : Value → AV
  | .bool b => .bool b
  | .int k n => .int k n
  | .string s => .str s.data.toList
  | .pointer none => .nilp
  | .slice none 0 0 => .nils
  | .map none => .nilm
  | .nilFunc => .nilf
  | .nilIface => .nili
  | _ => .top
def ofV : Value → AV
  | .agg cs => if cs.all Value.oneCell' then .agg (cs.toList.map ofV1) else .top
  | v => ofV1 v

def cOpd : Operand → Option Opd
  | .tmp t => some (.t t)
  | .const v => some (.c (ofV v))
  | .func f => some (.c (.fn (.func f) [] []))
  | .global _ => none
def cOpds : List Operand → Option (List Opd)
  | [] => some []
  | x :: r => match cOpd x, cOpds r with
    | some y, some s => some (y :: s)
    | _, _ => none
def cOpdO : Option Operand → Option (Option Opd)
  | none => some none
  | some x => match cOpd x with
    | some y => some (some y)
    | none => none

/-- The size of a type's values in cells, and whether they are aggregates. -/
def shapeOf (P : Program) (t : TypeId) : Option (Bool × Nat) :=
  match P.underlying t, P.info? t with
  | some d, some i => some (match d with | .struct _ | .array _ _ => true | _ => false, i.size)
  | _, _ => none
def zeroOf (P : Program) (t : TypeId) : Option AV :=
  match P.info? t with
  | some i => match i.zero with
    | some z => if (ofV z).cells.length = i.size then some (ofV z) else none
    | none => none
  | none => none
def fieldOf (P : Program) (t : TypeId) (i : Nat) : Option (Nat × TypeId) :=
  match P.underlying t with
  | some (.struct fs) => match fs[i]? with
    | some f => some (f.offset, f.type)
    | none => none
  | _ => none

/-- The library knows this name: of a function that hands back its argument. -/
def NoEsc (s : String) : Prop := Extern.allGenericRows.lookup s = none ∧ Extern.allTypedRows.lookup s = none ∧ Extern.allRows.lookup s = some Extern.AbiNoEscape.same ∧ Extern.allNextRows.lookup s = none ∧ (s == "runtime.NumGoroutine") = false
structure Hints where
  mat : FuncId → Nat → Bool
  own : FuncId → Nat → Bool
  quiet : FuncId → Bool
  live : FuncId → Nat → List Nat
  /-- For a region that draws its order: an order, each with what always runs before it, and what is asked again behind it. -/
  draw : FuncId → Nat → List (Nat × List Nat × List Nat) := fun _ _ => []
  /-- The name of the function without a body that hands back its argument. -/
  noEsc : Option String := none
  noEscOk : ∀ s, noEsc = some s → NoEsc s := by simp
  /-- Does the function defer a call? -/
  dfr : FuncId → Bool := fun _ => false

def hintAt (m : FuncId → Nat → Bool) (f : FuncId) : Option Nat → Bool
  | some d => m f d
  | none => false
def nilKind : TypeDesc → Operand → Option NK
  | .slice _, .const (.slice none 0 0) => some .slice
  | .pointer _, .const (.pointer none) => some .ptr
  | .func _ _ _, .const .nilFunc => some .func
  | .interface _, .const .nilIface => some .iface
  | .map _ _, .const (.map none) => some .map
  | _, _ => none

/-- The places of a struct's or an array's parts in an aggregate. -/
def placesOf (P : Program) (t : TypeId) : Option (Nat → Option (Nat × Nat)) :=
  match P.info? t, P.underlying t with
  | some _, some (.array _ e) => match P.info? e with
    | some ie => some fun i => some (i * ie.size, ie.size)
    | none => none
  | some _, some (.struct fields) => match fields.toList.mapM (fun f => (P.info? f.type).map fun i => (f.offset, i.size)) with
    | some places => some fun i => places.toArray[i]?
    | none => none
  | _, _ => none
def partsOf (pl : Nat → Option (Nat × Nat)) : List (Nat × Operand) → Option (List (Nat × Nat × Opd))
  | [] => some []
  | (i, x) :: r => match cOpd x, partsOf pl r, pl i with
    | some y, some s, some (off, sz) => some ((off, sz, y) :: s)
    | _, _, _ => none
def partsS : List (Nat × Operand) → Option (List (Nat × Opd))
  | [] => some []
  | (i, x) :: r => match cOpd x, partsS r with
    | some y, some s => some ((i, y) :: s)
    | _, _ => none

/-- A struct whose fields are numbers, bools and strings. -/
def fKind (P : Program) (t : TypeId) : Option FK := match P.underlying t with
  | some .bool => some .bool
  | some (.int _) => some .int
  | some .string => some .str
  | _ => none
def fKinds (P : Program) : Nat → List Field → Option (List FK)
  | _, [] => some []
  | i, f :: r => if f.offset = i ∧ f.name ≠ "_" ∧ shapeOf P f.type = some (false, 1) then (match fKind P f.type, fKinds P (i + 1) r with
    | some k, some s => some (k :: s)
    | _, _ => none) else none
def flatEq (P : Program) (t : TypeId) : Option (List FK) := match P.underlying t with
  | some (.struct fs) => if P.stoodInHeld t = false ∧ P.eqGuardType P.depth t = false then fKinds P 0 fs.toList else none
  | _ => none
/-- A function without a body that hands back its argument. -/
def isSame (P : Program) (noEsc : Option String) : Operand → Bool
  | .func f => match P.funcs[f]? with
    | some fn => fn.body.isNone && some fn.name == noEsc && fn.origin == ""
    | none => false
  | _ => false
def cOp (P : Program) (H : Hints) (f : FuncId) (o : Oper) : COp :=
  match o.op with
  | .move x => match cOpd x with
    | some y => .p (.mv y)
    | none => .bad
  | .assign x => match cOpd x with
    | some y => if hintAt H.mat f o.dst then .m (.mat y) else .p (.mv y)
    | none => .bad
  | .pick c a b => match cOpd c, cOpd a, cOpd b with
    | some c, some a, some b => .p (.pick c a b)
    | _, _, _ => .bad
  | .alloc t => match shapeOf P t, zeroOf P t with
    | some (_, sz), some z => if 0 < sz then .m (.alloc t z (hintAt H.own f o.dst)) else .bad
    | _, _ => .bad
  | .box t x => match cOpd x, shapeOf P t with
    | some y, some (_, sz) => if 0 < sz then .m (.box t sz y) else .bad
    | _, _ => .bad
  | .build t ps => match zeroOf P t, placesOf P t with
    | some (.agg z), some pl => (match partsOf pl ps.toList with
      | some s => .p (.bld z s)
      | none => .bad)
    | _, _ => .bad
  | .buildSlice t n ps => match P.underlying t with
    | some (.slice e) => (match shapeOf P e, zeroOf P e, partsS ps.toList with
      | some (_, sz), some z, some s => if n * sz ≤ 2 ^ 24 ∧ 0 < sz then .m (.bldS e sz n z s (hintAt H.own f o.dst)) else .bad
      | _, _, _ => .bad)
    | _ => .bad
  | .load t x => match cOpd x, shapeOf P t with
    | some y, some (ag, sz) => if 0 < sz then .m (.load ag sz y) else .bad
    | _, _ => .bad
  | .store t a x => match cOpd a, cOpd x, shapeOf P t with
    | some b, some y, some (_, sz) => if 0 < sz then .m (.store sz (hintAt H.mat f (match a with | .tmp d => some d | _ => none)) b y) else .bad
    | _, _, _ => .bad
  | .nilCheck x => match cOpd x with
    | some y => .p (.nilck y)
    | none => .bad
  | .binOp b t x y _ =>
    match cOpd x, cOpd y with
    | some x', some y' =>
      (match P.underlying t with
        | some (.int _) => .p (.bin b x' y')
        | some .string => .p (.bin b x' y')
        | some .bool => (match b with
          | .eql => .p (.eqB false x' y')
          | .neq => .p (.eqB true x' y')
          | _ => .bad)
        | some d => (match nilKind d y with
          | some k => (match b with
            | .eql => .p (.eqN k false x')
            | .neq => .p (.eqN k true x')
            | _ => .bad)
          | none => (match d with
            | .pointer te => (match P.info? te with
              | some _ => (match b with
                | .eql => .p (.eqP false x' y')
                | .neq => .p (.eqP true x' y')
                | _ => .bad)
              | none => .bad)
            | .struct _ => (match flatEq P t with
              | some ks => (match b with
                | .eql => .p (.eqA false ks x' y')
                | .neq => .p (.eqA true ks x' y')
                | _ => .bad)
              | none => .bad)
            | _ => .bad))
        | _ => .bad)
    | _, _ => .bad
  | .unOp u _ x => match cOpd x, u with
    | some y, .not => .p (.not y)
    | some y, .neg => .p (.neg y)
    | _, _ => .bad
  | .convert s d x => match cOpd x, P.underlying s, P.underlying d with
    | some y, some (.int _), some (.int k) => .p (.cvI k y)
    | some y, some .string, some .string => .p (.cvS y)
    | some y, some (.slice e), some .string => (match P.underlying e with
      | some (.int .u8) => .m (.b2s y)
      | _ => .bad)
    | some y, some .string, some (.slice e) => (match P.underlying e with
      | some (.int .u8) => .m (.s2b y)
      | _ => .bad)
    | some y, some (.pointer t), some .unsafePointer => (match P.info? t with
      | some j => if 0 < j.size then .m (.cvU y) else .bad
      | none => .bad)
    | some y, some .unsafePointer, some (.pointer u) => (match P.info? u with
      | some j => if liesAt P P.depth u 1 0 u 1 = true ∧ P.cellsOf u = j.size ∧ 0 < j.size then .m (.cvP u j.size y) else .bad
      | none => .bad)
    | _, _, _ => .bad
  | .makeInterface t x => match cOpd x, P.underlying t with
    | some _, some (.interface _) => .bad
    | some y, some _ => .p (.mkI t y)
    | _, _ => .bad
  | .makeFunc fn a b => match cOpds a.toList, cOpds b.toList with
    | some a, some b => .p (.mkF fn a b)
    | _, _ => .bad
  | .makeSlice t l c => match P.underlying t, cOpd l, cOpd c with
    | some (.slice e), some l, some c => (match P.info? e, zeroOf P e with
      | some i, some z => if 0 < i.size then .m (.mkS e i.size i.bytes z l c) else .bad
      | _, _ => .bad)
    | _, _, _ => .bad
  | .slice t x lo hi mx => match P.underlying t, cOpd x, cOpdO lo, cOpdO hi, cOpdO mx with
    | some .string, some y, some lo, some hi, some none => .p (.slS y lo hi)
    | some (.slice e), some y, some lo, some hi, some mx => (match shapeOf P e with
      | some (_, sz) => .m (.slL sz y lo hi mx)
      | none => .bad)
    | some (.array n e), some y, some lo, some hi, some none => (match shapeOf P e with
      | some (_, sz) => .m (.slA n sz y lo hi)
      | none => .bad)
    | _, _, _, _, _ => .bad
  | .fieldAddr t x i => match cOpd x, fieldOf P t i with
    | some y, some (off, ft) => (match shapeOf P ft with
      | some (_, sz) => if 0 < sz then .p (.fa off y) else .bad
      | none => .bad)
    | _, _ => .bad
  | .field t x i => match cOpd x, fieldOf P t i with
    | some y, some (off, ft) => (match shapeOf P ft with
      | some (ag, sz) => .p (.fld ag off sz y)
      | none => .bad)
    | _, _ => .bad
  | .indexAddr t x i => match cOpd x, cOpd i, P.underlying t with
    | some y, some j, some (.array n e) => (match shapeOf P e with
      | some (_, sz) => .p (.iaA n sz y j)
      | none => .bad)
    | some y, some j, some (.slice e) => (match shapeOf P e with
      | some (_, sz) => .p (.iaS sz y j)
      | none => .bad)
    | _, _, _ => .bad
  | .index t x i => match cOpd x, cOpd i, P.underlying t with
    | some y, some j, some (.array n e) => (match shapeOf P e with
      | some (ag, sz) => .p (.ixA ag n sz y j)
      | none => .bad)
    | some y, some j, some .string => .p (.ixS y j)
    | _, _, _ => .bad
  | .typeAssert x _ t ok => match cOpd x, P.underlying t, zeroOf P t with
    | some _, some (.interface _), _ => .bad
    | some y, some _, some z => .p (.tyA t ok z y)
    | _, _, _ => .bad
  | .extract x i => match cOpd x with
    | some y => .p (.ext y i)
    | none => .bad
  | .call c => match c.callee, cOpds c.args.toList with
    | .value g, some xs => if isSame P H.noEsc g = true then (match xs with
        | [x] => .p (.mv x)
        | _ => .bad)
      else (match cOpd g with
      | some g => .m (.call g xs)
      | none => .bad)
    | .builtin .unsafeSliceData, some [x] => (match P.underlying o.type with
      | some (.pointer _) => .m (.usd x)
      | _ => .bad)
    | .builtin .unsafeString, some [x, k] => (match c.argTypes.toList with
      | [pt, _] => (match P.underlying pt with
        | some (.pointer e) => if P.cellsOf e = 1 then .m (.ustr e x k) else .bad
        | _ => .bad)
      | _ => .bad)
    | .builtin .len, some [x] => (match c.argTypes[0]? with
      | some t => (match P.underlying t with
        | some .string => .p (.len false x)
        | some (.slice _) => .p (.len true x)
        | _ => .bad)
      | none => .bad)
    | .builtin .max, some xs => .p (.mm true xs)
    | .builtin .min, some xs => .p (.mm false xs)
    | .builtin .append, some [s, x] => (match c.argTypes[0]?, c.argTypes[1]? with
      | some t, some u => (match P.underlying t, P.underlying u with
        | some (.slice e), some (.slice e') => (match P.info? e, zeroOf P e with
          | some i, some _ => if 0 < i.size ∧ t = u then .m (.app e i.size i.bytes s x) else .bad
          | _, _ => .bad)
        | some (.slice e), some .string => (match P.info? e, zeroOf P e with
          | some i, some _ => if i.size = 1 then .m (.appS e i.bytes s x) else .bad
          | _, _ => .bad)
        | _, _ => .bad)
      | _, _ => .bad)
    | _, _ => .bad
  | .panic x => match cOpd x with
    | some y => .m (.pan y)
    | none => .bad
  | _ => .bad

def cGuard (ops : Array Oper) : Option (Nat × Bool) → Option (Option (Nat × Bool))
  | none => some none
  | some (j, b) => match (ops[j]?).bind (·.dst) with
    | some t => some (some (t, b))
    | none => none
def inN (N : Nat) : Option Nat → Bool
  | some d => decide (d < N)
  | none => true
def cOper (P : Program) (H : Hints) (f : FuncId) (N : Nat) (ops : Array Oper) (o : Oper) : CO :=
  match cGuard ops o.guard with
  | none => { dst := o.dst, gd := none, op := .bad }
  | some g => if inN N o.dst then { dst := o.dst, gd := g, op := cOp P H f o } else { dst := o.dst, gd := none, op := .bad }
/-- What must hold of two operations, the second behind the first in our order. -/
def pairOk (q p : DO) : Bool :=
  p.ix != q.ix &&
  (q.anc.contains p.ix ||
    ((match p.co.dst with
      | some t => !(q.looks.contains t)
      | none => true) &&
    (match q.co.dst with
      | some t => !(p.looks.contains t)
      | none => true) &&
    !(loud p.co) && (!(loud q.co && quietC p.co) || q.re.contains p.ix))) &&
  (match p.co.dst, q.co.dst with
    | some t, some u => t != u
    | _, _ => true)
def okD (ops : Array Oper) : List DO → List DO → Bool
  | [], seen => (List.range ops.size).all fun i => seen.any fun s => s.ix == i
  | d :: r, seen => (match ops[d.ix]? with
    | none => false
    | some o => o.after.toList.all (fun e => !(Region.binds .any e) || seen.any (fun s => s.ix == e.on)) &&
        d.anc.all (fun i => o.after.toList.any (fun e => Region.binds .any e && (e.on == i || seen.any (fun s => s.ix == e.on && s.anc.contains i))))) &&
      seen.all (pairOk d) && okD ops r (d :: seen)
def cDO (P : Program) (H : Hints) (f : FuncId) (N : Nat) (ops : Array Oper) (x : Nat × List Nat × List Nat) : DO :=
  match ops[x.1]? with
  | some o => { co := cOper P H f N ops o, ix := x.1, looks := o.looksAt ops, anc := x.2.1, re := x.2.2 }
  | none => { co := { dst := none, gd := none, op := .bad }, ix := x.1, looks := [], anc := [], re := [] }
def cDraw (P : Program) (H : Hints) (f : FuncId) (N : Nat) (ops : Array Oper) (hs : List (Nat × List Nat × List Nat)) : CC :=
  if P.follows .mixedOrders = true ∧ okD ops (hs.map (cDO P H f N ops)) [] = true then .draw (hs.map (cDO P H f N ops)) else .bad
/-- A loop's name: the number of its first region. -/
def firstReg : Code → Nat
  | .region id _ _ => id
  | .seq a _ => firstReg a
  | .block _ a => firstReg a
  | .loop a => firstReg a
  | .scope a => firstReg a
  | .cond _ a _ => firstReg a
  | _ => 0
def cCode (P : Program) (H : Hints) (f : FuncId) (N : Nat) : Code → CC
  | .skip => .skip
  | .region id ops draw => if draw then cDraw P H f N ops (H.draw f id) else .reg (ops.toList.map (cOper P H f N ops))
  | .seq a b => .seq (cCode P H f N a) (cCode P H f N b)
  | .cond x a b => match cOpd x with
    | some y => .cond y (cCode P H f N a) (cCode P H f N b)
    | none => .bad
  | .block id a => .block id (cCode P H f N a)
  | .loop a => .loop (H.live f (firstReg a)) (cCode P H f N a)
  | .exit id => .exit id
  | .scope a => .scope (cCode P H f N a)
  | .label _ => .skip
  | .ret => .ret
  | _ => .bad
def cRes (P : Program) (N : Nat) : List ResultVar → Option (List CRes)
  | [] => some []
  | .tmp t :: r => match cRes P N r with
    | some s => some (.tmp t :: s)
    | none => none
  | .cell t ty :: r => match shapeOf P ty, cRes P N r with
    | some (ag, sz), some s => if 0 < sz then some (.cell t ag sz :: s) else none
    | _, _ => none
/-- A region that does nothing but defer the call of a function value that it has just made. -/
def isDefer (P : Program) (H : Hints) (f : FuncId) (N : Nat) (ops : Array Oper) : Option (Nat × POp) :=
  match ops.toList with
  | [o1, o2] => (match o1.dst, o1.guard, cOp P H f o1, o2.op, o2.guard, o2.dst with
    | some d, none, .p q, .defer c, none, none => (match c.callee, c.args.toList with
      | .value (.tmp d'), [] => if d = d' ∧ d < N then some (d, q) else none
      | _, _ => none)
    | _, _, _, _, _, _ => none)
  | _ => none
def cSpine (P : Program) (H : Hints) (f : FuncId) (N : Nat) : Code → CB
  | .seq (.region id ops false) y => match isDefer P H f N ops with
    | some (d, q) => .dfr d q (cCode P H f N y)
    | none => .seq (cCode P H f N (.region id ops false)) (cSpine P H f N y)
  | .seq x y => .seq (cCode P H f N x) (cSpine P H f N y)
  | c => .code (cCode P H f N c)
/-- A deferred function of the program, compiled. -/
def dFun (P : Program) (H : Hints) (g : FuncId) : Option DFun :=
  match P.funcs[g]? with
  | none => none
  | some fn => (match fn.body, fn.results.toList with
    | some (.seq (.region _ ops false) y), [] => (match ops.toList with
      | [o1, o2] => (match o1.dst, o1.guard, o1.op, o2.dst, o2.guard, o2.op with
        | some d1, none, .call c, some d2, none, .assign (.tmp d) => (match c.callee, c.args.toList with
          | .builtin .recover, [] => if d = d1 ∧ d1 < fn.ntmps ∧ d2 < fn.ntmps ∧ (fn.name == "runtime.NumGoroutine") = false then some { d1 := d1, d2 := d2, rest := cCode P H g fn.ntmps y, nt := fn.ntmps } else none
          | _, _ => none)
        | _, _, _, _, _, _ => none)
      | _ => none)
    | _, _ => none)
/-- A function of the program, compiled. -/
def cFun (P : Program) (H : Hints) (f : FuncId) : Option CFun :=
  match P.funcs[f]? with
  | none => none
  | some fn => match fn.body, cRes P fn.ntmps fn.results.toList with
    | some c, some r => if fn.name == "runtime.NumGoroutine" then none else some { body := if H.dfr f then cSpine P H f fn.ntmps c else .code (cCode P H f fn.ntmps c), res := r, np := fn.params.size + fn.nfree, nt := fn.ntmps }
    | _, _ => none

end Go.Ab

/-
  The evaluator in use: what simp unfolds.
-/
import Derived.Test.YtggkoocpokfogaaAbFix
set_option linter.unusedVariables false
namespace Go.Ab

/-- A function whose body is one piece of code. -/
theorem fn_code {K : Cfg} {f : FuncId} {args : List AV} {h : Heap} {cf : CFun} {c : CC} (hX : K.X f args h = none) (hc : K.fns f = some cf) (hb : cf.body = .code c) (ha : args.length ≤ cf.nt) :
    (mu K).fn f args h = match evC K (mu K) c { env := envOf 0 args, h := [] :: h } with
      | some (.norm, s) => finish cf.res s
      | some (.ret, s) => finish cf.res s
      | some (.pan v, s) => (match pop v s.h with
        | some (v', h') => some (.pan v' h')
        | none => none)
      | _ => none := by
  rw [step_mu_fn]
  simp only [step, stepFn, hX, hc, hb, if_pos ha, evB]
  cases evC K (mu K) c { env := envOf 0 args, h := [] :: h } with
  | none => rfl
  | some r =>
    obtain ⟨ex, s⟩ := r
    cases ex <;> rfl
/-- A loop goes round. -/
theorem loop_at {K : Cfg} {n : Nat} {live : List Nat} {a : CC} {s : St} : (mu K).code (.loopAt n live a) s = match evC K (mu K) a s with
    | some (.norm, s1) => (match cut n live s1 with
      | some s2 => (mu K).code (.loopAt n live a) s2
      | none => none)
    | r => r := by rw [step_mu_code]; rfl

section
variable (k : IntKind) (a b : Int)
@[simp] theorem evInt_add : evInt .add k a b = some (.int k (k.wrap (a + b))) := rfl
@[simp] theorem evInt_sub : evInt .sub k a b = some (.int k (k.wrap (a - b))) := rfl
@[simp] theorem evInt_mul : evInt .mul k a b = some (.int k (k.wrap (a * b))) := rfl
@[simp] theorem evInt_quo : evInt .quo k a b = if b = 0 then none else some (.int k (k.wrap (a.tdiv b))) := rfl
@[simp] theorem evInt_rem : evInt .rem k a b = if b = 0 then none else some (.int k (a.tmod b)) := rfl
@[simp] theorem evInt_and : evInt .and k a b = some (.int k (k.wrap ((BitVec.ofInt k.bits a &&& BitVec.ofInt k.bits b).toNat : Int))) := rfl
@[simp] theorem evInt_or : evInt .or k a b = some (.int k (k.wrap ((BitVec.ofInt k.bits a ||| BitVec.ofInt k.bits b).toNat : Int))) := rfl
@[simp] theorem evInt_eql : evInt .eql k a b = some (.bool (decide (a = b))) := rfl
@[simp] theorem evInt_neq : evInt .neq k a b = some (.bool (!(decide (a = b)))) := rfl
@[simp] theorem evInt_lss : evInt .lss k a b = some (.bool (decide (a < b))) := rfl
@[simp] theorem evInt_leq : evInt .leq k a b = some (.bool (decide (a ≤ b))) := rfl
@[simp] theorem evInt_gtr : evInt .gtr k a b = some (.bool (decide (b < a))) := rfl
@[simp] theorem evInt_geq : evInt .geq k a b = some (.bool (decide (b ≤ a))) := rfl
@[simp] theorem evInt_shl : evInt .shl k a b = if b < 0 then none else some (.int k (k.wrap (a * 2 ^ (min b.toNat k.bits)))) := rfl
@[simp] theorem evInt_shr : evInt .shr k a b = if b < 0 then none else some (.int k (a.fdiv (2 ^ (min b.toNat k.bits)))) := rfl
end
section
variable (a b : List UInt8)
theorem beq_dec : (a == b) = decide (a = b) := by
  by_cases h : a = b
  · simp [h]
  · simp [h]
@[simp] theorem evStr_add : evStr .add a b = if a.length + b.length ≤ strBound then some (.str (a ++ b)) else none := rfl
@[simp] theorem evStr_eql : evStr .eql a b = some (.bool (decide (a = b))) := by simp only [evStr, beq_dec]
@[simp] theorem evStr_neq : evStr .neq a b = some (.bool (!(decide (a = b)))) := by simp only [evStr, beq_dec]
end
@[simp] theorem slLen_lst (es : List AV) : slLen (.lst es) = some es.length := rfl
@[simp] theorem slLen_nils : slLen .nils = some 0 := rfl
@[simp] theorem slLen_own (a : Loc) (n : Nat) : slLen (.own a n) = some n := rfl
theorem wrap64 {n : Int} (h1 : -9223372036854775808 ≤ n) (h2 : n ≤ 9223372036854775807) : IntKind.i64.wrap n = n := by
  have e1 : IntKind.i64.bits = 64 := rfl
  have e2 : IntKind.i64.signed = true := rfl
  unfold IntKind.wrap
  simp only [e1, e2, Bool.true_and, decide_eq_true_eq]
  have e3 : (2 : Int) ^ 64 = 18446744073709551616 := by decide
  have e4 : (2 : Int) ^ (64 - 1) = 9223372036854775808 := by decide
  rw [e3, e4]
  split <;> omega
theorem wrapU8 (n : Int) : IntKind.u8.wrap n = n % 256 := by
  have e1 : IntKind.u8.bits = 8 := rfl
  have e2 : IntKind.u8.signed = false := rfl
  unfold IntKind.wrap
  simp only [e1, e2, Bool.false_and, Bool.false_eq_true, if_false]
  rfl

@[simp] theorem cells_agg (cs : List AV) : (AV.agg cs).cells = cs := rfl
@[simp] theorem isAgg_agg (cs : List AV) : (AV.agg cs).isAgg = true := rfl
@[simp] theorem cells_tup (cs : List AV) : (AV.tup cs).cells = [] := rfl
@[simp] theorem isAgg_tup (cs : List AV) : (AV.tup cs).isAgg = false := rfl
@[simp] theorem cells_top : AV.top.cells = [] := rfl
@[simp] theorem cells_bool (b : Bool) : (AV.bool b).cells = [(AV.bool b)] := rfl
@[simp] theorem isAgg_bool (b : Bool) : (AV.bool b).isAgg = false := rfl
@[simp] theorem cells_int (k : IntKind) (n : Int) : (AV.int k n).cells = [(AV.int k n)] := rfl
@[simp] theorem isAgg_int (k : IntKind) (n : Int) : (AV.int k n).isAgg = false := rfl
@[simp] theorem cells_str (s : List UInt8) : (AV.str s).cells = [(AV.str s)] := rfl
@[simp] theorem isAgg_str (s : List UInt8) : (AV.str s).isAgg = false := rfl
@[simp] theorem cells_nils  : AV.nils.cells = [AV.nils] := rfl
@[simp] theorem isAgg_nils  : AV.nils.isAgg = false := rfl
@[simp] theorem cells_emp  : AV.emp.cells = [AV.emp] := rfl
@[simp] theorem isAgg_emp  : AV.emp.isAgg = false := rfl
@[simp] theorem cells_lst (es : List AV) : (AV.lst es).cells = [(AV.lst es)] := rfl
@[simp] theorem isAgg_lst (es : List AV) : (AV.lst es).isAgg = false := rfl
@[simp] theorem cells_own (a : Loc) (n : Nat) : (AV.own a n).cells = [(AV.own a n)] := rfl
@[simp] theorem isAgg_own (a : Loc) (n : Nat) : (AV.own a n).isAgg = false := rfl
@[simp] theorem cells_ptr (a : Loc) (o : Nat) : (AV.ptr a o).cells = [(AV.ptr a o)] := rfl
@[simp] theorem isAgg_ptr (a : Loc) (o : Nat) : (AV.ptr a o).isAgg = false := rfl
@[simp] theorem cells_eptr (a : Loc) (n s i o : Nat) : (AV.eptr a n s i o).cells = [(AV.eptr a n s i o)] := rfl
@[simp] theorem isAgg_eptr (a : Loc) (n s i o : Nat) : (AV.eptr a n s i o).isAgg = false := rfl
@[simp] theorem cells_iptr (e : AV) (o : Nat) : (AV.iptr e o).cells = [(AV.iptr e o)] := rfl
@[simp] theorem isAgg_iptr (e : AV) (o : Nat) : (AV.iptr e o).isAgg = false := rfl
@[simp] theorem cells_nilp  : AV.nilp.cells = [AV.nilp] := rfl
@[simp] theorem isAgg_nilp  : AV.nilp.isAgg = false := rfl
@[simp] theorem cells_fn (f : Fn) (x y : List AV) : (AV.fn f x y).cells = [(AV.fn f x y)] := rfl
@[simp] theorem isAgg_fn (f : Fn) (x y : List AV) : (AV.fn f x y).isAgg = false := rfl
@[simp] theorem cells_nilf  : AV.nilf.cells = [AV.nilf] := rfl
@[simp] theorem isAgg_nilf  : AV.nilf.isAgg = false := rfl
@[simp] theorem cells_iface (t : TypeId) (v : AV) : (AV.iface t v).cells = [(AV.iface t v)] := rfl
@[simp] theorem isAgg_iface (t : TypeId) (v : AV) : (AV.iface t v).isAgg = false := rfl
@[simp] theorem cells_nili  : AV.nili.cells = [AV.nili] := rfl
@[simp] theorem isAgg_nili  : AV.nili.isAgg = false := rfl
@[simp] theorem cells_mp (a : Loc) : (AV.mp a).cells = [(AV.mp a)] := rfl
@[simp] theorem isAgg_mp (a : Loc) : (AV.mp a).isAgg = false := rfl
@[simp] theorem cells_nilm  : AV.nilm.cells = [AV.nilm] := rfl
@[simp] theorem isAgg_nilm  : AV.nilm.isAgg = false := rfl
@[simp] theorem cells_anyp  : AV.anyp.cells = [AV.anyp] := rfl
@[simp] theorem isAgg_anyp  : AV.anyp.isAgg = false := rfl

attribute [simp] wanted evP evM outVal evQ quietM loud quietC Opd.ev oev get set put envOf keep evBin BinOp.shifts isNil finish evRes evResL evRes1 pop AV.refOk AV.refOks AV.view AV.views hget hset hnext hnew hlen
  getE setE loadFrom storeTo bnds bHi bLo elemsOf recheck same1
theorem get_top (f : List Blk) (o : Heap) (i : Nat) : hget (f :: o) (o.length, i) = f[i]? := by simp [hget]

end Go.Ab

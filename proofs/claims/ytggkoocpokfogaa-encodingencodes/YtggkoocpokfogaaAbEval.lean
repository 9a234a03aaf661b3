/-
  The evaluator, step by step: each step a small term, whatever comes behind it.
-/
import Derived.Test.YtggkoocpokfogaaAbLib
set_option linter.unusedVariables false
set_option linter.unusedSimpArgs false
namespace Go.Ab

section
variable (K : Cfg) (O : Orc)
def goP (d : Option Nat) (r : List CO) (e : Env) (h : Heap) : Option AV → Option (Ex × St)
  | some v => evOps K O r ⟨put e d v, h⟩
  | none => none
def goM (d : Option Nat) (r : List CO) (e : Env) : Option Out → Option (Ex × St)
  | some (.val v h) => evOps K O r ⟨put e d v, h⟩
  | some (.pan v h) => some (.pan v, ⟨e, h⟩)
  | none => none
def goG (b : Bool) (d : Option Nat) (op : COp) (r : List CO) (e : Env) (h : Heap) : AV → Option (Ex × St)
  | .bool c => if c = b then evOps K O (⟨d, none, op⟩ :: r) ⟨e, h⟩ else evOps K O r ⟨put e d (.tup []), h⟩
  | .tup [] => evOps K O r ⟨put e d (.tup []), h⟩
  | _ => none
theorem ops_nil (s : St) : evOps K O [] s = some (.norm, s) := rfl
theorem ops_p (d : Option Nat) (q : POp) (r : List CO) (e : Env) (h : Heap) : evOps K O (⟨d, none, .p q⟩ :: r) ⟨e, h⟩ = goP K O d r e h (evP q e) := by
  simp only [evOps, wanted]
  cases evP q e <;> rfl
theorem ops_m (d : Option Nat) (q : MOp) (r : List CO) (e : Env) (h : Heap) : evOps K O (⟨d, none, .m q⟩ :: r) ⟨e, h⟩ = goM K O d r e (evM K O q e h) := by
  simp only [evOps, wanted]
  cases evM K O q e h with
  | none => rfl
  | some o => cases o <;> rfl
theorem ops_g (d : Option Nat) (t : Nat) (b : Bool) (op : COp) (r : List CO) (e : Env) (h : Heap) : evOps K O (⟨d, some (t, b), op⟩ :: r) ⟨e, h⟩ = goG K O b d op r e h (get e t) := by
  rw [evOps]
  simp only [wanted]
  cases hg : get e t with
  | bool c =>
    by_cases hc : c = b
    · subst hc
      simp only [goG, beq_self_eq_true, if_true, evOps, wanted]
    · have : (c == b) = false := by simp [hc]
      simp only [goG, this, hc, if_false]
  | tup l => cases l <;> rfl
  | _ => rfl
theorem goP_some (d : Option Nat) (r : List CO) (e : Env) (h : Heap) (v : AV) : goP K O d r e h (some v) = evOps K O r ⟨put e d v, h⟩ := rfl
theorem goM_val (d : Option Nat) (r : List CO) (e : Env) (h : Heap) (v : AV) : goM K O d r e (some (.val v h)) = evOps K O r ⟨put e d v, h⟩ := rfl
theorem goM_pan (d : Option Nat) (r : List CO) (e : Env) (h : Heap) (v : AV) : goM K O d r e (some (.pan v h)) = some (.pan v, ⟨e, h⟩) := rfl
theorem goG_tt (d : Option Nat) (op : COp) (r : List CO) (e : Env) (h : Heap) : goG K O true d op r e h (.bool true) = evOps K O (⟨d, none, op⟩ :: r) ⟨e, h⟩ := rfl
theorem goG_ff (d : Option Nat) (op : COp) (r : List CO) (e : Env) (h : Heap) : goG K O false d op r e h (.bool false) = evOps K O (⟨d, none, op⟩ :: r) ⟨e, h⟩ := rfl
theorem goG_tf (d : Option Nat) (op : COp) (r : List CO) (e : Env) (h : Heap) : goG K O true d op r e h (.bool false) = evOps K O r ⟨put e d (.tup []), h⟩ := rfl
theorem goG_ft (d : Option Nat) (op : COp) (r : List CO) (e : Env) (h : Heap) : goG K O false d op r e h (.bool true) = evOps K O r ⟨put e d (.tup []), h⟩ := rfl
theorem goG_no (b : Bool) (d : Option Nat) (op : COp) (r : List CO) (e : Env) (h : Heap) : goG K O b d op r e h (.tup []) = evOps K O r ⟨put e d (.tup []), h⟩ := rfl

/-- Regions that draw their order. -/
def doP (d : Option Nat) (r : List DO) (pd : Pend) (e : Env) (h : Heap) : Option AV → Option (Ex × St)
  | some v => evD K O r pd ⟨put e d v, h⟩
  | none => none
def doQ (x : Nat) (q : MOp) (k : Env) (d : Option Nat) (r : List DO) (pd : Pend) (e : Env) (h : Heap) : Option AV → Option (Ex × St)
  | some v => evD K O r ((x, q, k, v) :: pd) ⟨put e d v, h⟩
  | none => none
def doM (re : List Nat) (d : Option Nat) (r : List DO) (pd : Pend) (e : Env) : Option Out → Option (Ex × St)
  | some (.val v h) => if recheck K O re pd h = true then evD K O r pd ⟨put e d v, h⟩ else none
  | some (.pan v h) => some (.pan v, ⟨[], h⟩)
  | none => none
def doG (d : Option Nat) (b : Bool) (op : COp) (x : Nat) (lk an re : List Nat) (r : List DO) (pd : Pend) (e : Env) (h : Heap) : AV → Option (Ex × St)
  | .bool c => if c = b then evD K O (⟨⟨d, none, op⟩, x, lk, an, re⟩ :: r) pd ⟨e, h⟩
    else if loud ⟨d, some (0, b), op⟩ = true ∧ recheck K O re pd h = false then none else evD K O r pd ⟨put e d (.tup []), h⟩
  | .tup [] => if loud ⟨d, some (0, b), op⟩ = true ∧ recheck K O re pd h = false then none else evD K O r pd ⟨put e d (.tup []), h⟩
  | _ => none
variable (x : Nat) (lk an re : List Nat) (d : Option Nat) (r : List DO) (pd : Pend) (e : Env) (h : Heap)
theorem ds_nil (s : St) : evD K O [] pd s = some (.norm, s) := rfl
theorem ds_p (q : POp) : evD K O (⟨⟨d, none, .p q⟩, x, lk, an, re⟩ :: r) pd ⟨e, h⟩ = doP K O d r pd e h (evP q (keep lk e)) := by
  simp only [evD, wanted]
  cases evP q (keep lk e) <;> rfl
theorem ds_m (q : MOp) : evD K O (⟨⟨d, none, .m q⟩, x, lk, an, re⟩ :: r) pd ⟨e, h⟩ =
    if quietM q = true then doQ K O x q (keep lk e) d r pd e h (evQ K O q (keep lk e) h) else doM K O re d r pd e (evM K O q (keep lk e) h) := by
  simp only [evD, wanted]
  by_cases hq : quietM q = true
  · simp only [hq, if_true]
    cases evQ K O q (keep lk e) h <;> rfl
  · simp only [hq, if_false]
    cases evM K O q (keep lk e) h with
    | none => rfl
    | some o => cases o <;> rfl
theorem ds_g (t : Nat) (b : Bool) (op : COp) : evD K O (⟨⟨d, some (t, b), op⟩, x, lk, an, re⟩ :: r) pd ⟨e, h⟩ = doG K O d b op x lk an re r pd e h (get (keep lk e) t) := by
  rw [evD]
  simp only [wanted]
  have hl : loud ⟨d, some (t, b), op⟩ = loud ⟨d, some (0, b), op⟩ := rfl
  cases hg : get (keep lk e) t with
  | bool c =>
    by_cases hc : c = b
    · subst hc
      simp only [doG, beq_self_eq_true, if_true, evD, wanted]
    · have : (c == b) = false := by simp [hc]
      simp only [doG, this, hc, if_false, hl]
  | tup l =>
    cases l
    · simp only [doG, hl]
    · rfl
  | _ => rfl
theorem doP_some (v : AV) : doP K O d r pd e h (some v) = evD K O r pd ⟨put e d v, h⟩ := rfl
theorem doQ_some (q : MOp) (k : Env) (v : AV) : doQ K O x q k d r pd e h (some v) = evD K O r ((x, q, k, v) :: pd) ⟨put e d v, h⟩ := rfl
theorem doM_val (v : AV) : doM K O re d r pd e (some (.val v h)) = if recheck K O re pd h = true then evD K O r pd ⟨put e d v, h⟩ else none := rfl
theorem doM_pan (v : AV) : doM K O re d r pd e (some (.pan v h)) = some (.pan v, ⟨[], h⟩) := rfl
theorem doG_tt (op : COp) : doG K O d true op x lk an re r pd e h (.bool true) = evD K O (⟨⟨d, none, op⟩, x, lk, an, re⟩ :: r) pd ⟨e, h⟩ := rfl
theorem doG_ff (op : COp) : doG K O d false op x lk an re r pd e h (.bool false) = evD K O (⟨⟨d, none, op⟩, x, lk, an, re⟩ :: r) pd ⟨e, h⟩ := rfl
theorem doG_tf (op : COp) : doG K O d true op x lk an re r pd e h (.bool false) = if loud ⟨d, some (0, true), op⟩ = true ∧ recheck K O re pd h = false then none else evD K O r pd ⟨put e d (.tup []), h⟩ := rfl
theorem doG_ft (op : COp) : doG K O d false op x lk an re r pd e h (.bool true) = if loud ⟨d, some (0, false), op⟩ = true ∧ recheck K O re pd h = false then none else evD K O r pd ⟨put e d (.tup []), h⟩ := rfl
theorem doG_no (b : Bool) (op : COp) : doG K O d b op x lk an re r pd e h (.tup []) = if loud ⟨d, some (0, b), op⟩ = true ∧ recheck K O re pd h = false then none else evD K O r pd ⟨put e d (.tup []), h⟩ := rfl
end

/- Code. -/
section
variable (K : Cfg) (O : Orc)
def goS (b : CC) : Option (Ex × St) → Option (Ex × St)
  | some (.norm, s1) => evC K O b s1
  | r => r
def goC (a b : CC) (s : St) : AV → Option (Ex × St)
  | .bool t => if t then evC K O a s else evC K O b s
  | _ => none
def goB (id : Nat) : Option (Ex × St) → Option (Ex × St)
  | some (.exit j, s1) => if j = id then some (.norm, s1) else some (.exit j, s1)
  | r => r
def goL (F : St → Option (Ex × St)) (n : Nat) (live : List Nat) : Option (Ex × St) → Option (Ex × St)
  | some (.norm, s1) => (match cut n live s1 with
      | some s2 => F s2
      | none => none)
  | r => r
variable (s : St) (a b : CC) (id n : Nat) (live : List Nat)
theorem c_seq : evC K O (.seq a b) s = goS K O b (evC K O a s) := by
  rw [evC]; cases evC K O a s with
  | none => rfl
  | some x => obtain ⟨ex, s1⟩ := x; cases ex <;> rfl
theorem c_cond (x : Opd) (e : Env) (h : Heap) : evC K O (.cond x a b) ⟨e, h⟩ = goC K O a b ⟨e, h⟩ (x.ev e) := by
  rw [evC]; cases x.ev e <;> rfl
theorem c_block : evC K O (.block id a) s = goB id (evC K O a s) := by
  rw [evC]; cases evC K O a s with
  | none => rfl
  | some x => obtain ⟨ex, s1⟩ := x; cases ex <;> rfl
theorem c_loop (e : Env) (h : Heap) : evC K O (.loop live a) ⟨e, h⟩ = O.code (.loopAt (hlen h) live a) ⟨keep live e, h⟩ := rfl
theorem c_skip : evC K O .skip s = some (.norm, s) := rfl
theorem c_reg (l : List CO) : evC K O (.reg l) s = evOps K O l s := rfl
theorem c_draw (l : List DO) : evC K O (.draw l) s = evD K O l [] s := rfl
theorem c_exit : evC K O (.exit id) s = some (.exit id, s) := rfl
theorem c_ret : evC K O .ret s = some (.ret, s) := rfl
theorem c_scope : evC K O (.scope a) s = evC K O a s := rfl
theorem goS_norm : goS K O b (some (.norm, s)) = evC K O b s := rfl
theorem goS_exit (j : Nat) : goS K O b (some (.exit j, s)) = some (.exit j, s) := rfl
theorem goS_ret : goS K O b (some (.ret, s)) = some (.ret, s) := rfl
theorem goS_pan (v : AV) : goS K O b (some (.pan v, s)) = some (.pan v, s) := rfl
theorem goC_true : goC K O a b s (.bool true) = evC K O a s := rfl
theorem goC_false : goC K O a b s (.bool false) = evC K O b s := rfl
theorem goB_norm : goB id (some (.norm, s)) = some (.norm, s) := rfl
theorem goB_exit (j : Nat) : goB id (some (.exit j, s)) = if j = id then some (.norm, s) else some (.exit j, s) := rfl
theorem goB_ret : goB id (some (.ret, s)) = some (.ret, s) := rfl
theorem goB_pan (v : AV) : goB id (some (.pan v, s)) = some (.pan v, s) := rfl
variable (F : St → Option (Ex × St))
theorem goL_norm : goL F n live (some (.norm, s)) = match cut n live s with
      | some s2 => F s2
      | none => none := rfl
theorem goL_exit (j : Nat) : goL F n live (some (.exit j, s)) = some (.exit j, s) := rfl
theorem goL_ret : goL F n live (some (.ret, s)) = some (.ret, s) := rfl
theorem goL_pan (v : AV) : goL F n live (some (.pan v, s)) = some (.pan v, s) := rfl
end
/-- A loop goes round. -/
theorem loop_go {K : Cfg} {n : Nat} {live : List Nat} {a : CC} {s : St} : (mu K).code (.loopAt n live a) s = goL ((mu K).code (.loopAt n live a)) n live (evC K (mu K) a s) := by
  rw [loop_at]; cases evC K (mu K) a s with
  | none => rfl
  | some x => obtain ⟨ex, s1⟩ := x; cases ex <;> rfl
/-- A function's end. -/
def goF (rs : List CRes) : Option (Ex × St) → Option Out
  | some (.norm, s) => finish rs s
  | some (.ret, s) => finish rs s
  | some (.pan v, s) => (match pop v s.h with
    | some (v', h') => some (.pan v' h')
    | none => none)
  | _ => none
theorem goF_norm (rs : List CRes) (s : St) : goF rs (some (.norm, s)) = finish rs s := rfl
theorem goF_ret (rs : List CRes) (s : St) : goF rs (some (.ret, s)) = finish rs s := rfl
theorem goF_pan (rs : List CRes) (v : AV) (s : St) : goF rs (some (.pan v, s)) = match pop v s.h with
    | some (v', h') => some (.pan v' h')
    | none => none := rfl
theorem fn_go {K : Cfg} {f : FuncId} {args : List AV} {h : Heap} {cf : CFun} {c : CC} (hX : K.X f args h = none) (hc : K.fns f = some cf) (hb : cf.body = .code c) (ha : args.length ≤ cf.nt) :
    (mu K).fn f args h = goF cf.res (evC K (mu K) c { env := envOf 0 args, h := [] :: h }) := by
  rw [fn_code hX hc hb ha]
  cases evC K (mu K) c { env := envOf 0 args, h := [] :: h } with
  | none => rfl
  | some x => obtain ⟨ex, s1⟩ := x; cases ex <;> rfl
attribute [simp] c_skip c_reg c_draw c_exit c_ret c_scope ops_nil ops_p ops_m ops_g goP_some goM_val goM_pan goG_tt goG_ff goG_tf goG_ft goG_no ds_nil ds_p ds_m ds_g doP_some doQ_some doM_val doM_pan doG_tt doG_ff doG_tf doG_ft doG_no c_seq c_cond c_block c_loop goS_norm goS_exit goS_ret goS_pan goC_true goC_false goB_norm goB_exit goB_ret goB_pan goL_norm goL_exit goL_ret goL_pan goF_norm goF_ret goF_pan
end Go.Ab

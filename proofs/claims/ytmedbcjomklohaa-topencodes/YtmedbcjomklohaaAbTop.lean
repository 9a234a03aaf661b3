/-
  The evaluator, step by step: each step a small term, whatever comes behind it.
-/
import Derived.Test.YtmedbcjomklohaaAbLib
import Derived.Test.YtmedbcjomklohaaAbUse
import Derived.RowKit
import Derived.RowKit2
import Derived.ChangeShapes
import Derived.ChangeArms
import Derived.ChangeSame
import Derived.ChangeAlike
import Derived.DataReads
import Derived.Below
import Derived.SizedLaws
import Derived.WideShapes
import Derived.WideKeyArgs
import GoSem.ClaimJoined
set_option linter.unusedVariables false
set_option linter.unusedSimpArgs false
namespace Go.Ab
section
variable (K:Cfg) (O:Orc)
def goP (d:Option Nat) (r:List CO) (e:Env) (h:Heap):Option AV→Option (Ex×St)
 | some v=>evOps K O r ⟨put e d v,h⟩
 | none=>none
def goM (d:Option Nat) (r:List CO) (e:Env):Option Out→Option (Ex×St)
 | some (.val v h)=>evOps K O r ⟨put e d v,h⟩
 | some (.pan v h)=>some (.pan v,⟨e,h⟩)
 | none=>none
def goG (b:Bool) (d:Option Nat) (op:COp) (r:List CO) (e:Env) (h:Heap):AV→Option (Ex×St)
 | .bool c=>if c=b then evOps K O (⟨d,none,op⟩ :: r) ⟨e,h⟩ else evOps K O r ⟨put e d (.tup []),h⟩
 | .tup []=>evOps K O r ⟨put e d (.tup []),h⟩
 | _=>none
theorem ops_nil (s:St):evOps K O [] s=some (.norm,s):=rfl
theorem ops_p (d:Option Nat) (q:POp) (r:List CO) (e:Env) (h:Heap):evOps K O (⟨d,none,.p q⟩ :: r) ⟨e,h⟩=goP K O d r e h (evP q e):=by
 simp only [evOps,wanted]
 cases evP q e<;>rfl
theorem ops_m (d:Option Nat) (q:MOp) (r:List CO) (e:Env) (h:Heap):evOps K O (⟨d,none,.m q⟩ :: r) ⟨e,h⟩=goM K O d r e (evM K O q e h):=by
 simp only [evOps,wanted]
 cases evM K O q e h with
 | none=>rfl
 | some o=>cases o<;>rfl
theorem ops_g (d:Option Nat) (t:Nat) (b:Bool) (op:COp) (r:List CO) (e:Env) (h:Heap):evOps K O (⟨d,some (t,b),op⟩ :: r) ⟨e,h⟩=goG K O b d op r e h (get e t):=by
 rw [evOps]
 simp only [wanted]
 cases hg:get e t with
 | bool c=>
  by_cases hc:c=b
  ·subst hc
   simp only [goG,beq_self_eq_true,if_true,evOps,wanted]
  ·have:(c == b)=false:=by simp [hc]
   simp only [goG,this,hc,if_false]
 | tup l=>cases l<;>rfl
 | _=>rfl
theorem goP_some (d:Option Nat) (r:List CO) (e:Env) (h:Heap) (v:AV):goP K O d r e h (some v)=evOps K O r ⟨put e d v,h⟩:=rfl
theorem goM_val (d:Option Nat) (r:List CO) (e:Env) (h:Heap) (v:AV):goM K O d r e (some (.val v h))=evOps K O r ⟨put e d v,h⟩:=rfl
theorem goM_pan (d:Option Nat) (r:List CO) (e:Env) (h:Heap) (v:AV):goM K O d r e (some (.pan v h))=some (.pan v,⟨e,h⟩):=rfl
theorem goG_tt (d:Option Nat) (op:COp) (r:List CO) (e:Env) (h:Heap):goG K O true d op r e h (.bool true)=evOps K O (⟨d,none,op⟩ :: r) ⟨e,h⟩:=rfl
theorem goG_ff (d:Option Nat) (op:COp) (r:List CO) (e:Env) (h:Heap):goG K O false d op r e h (.bool false)=evOps K O (⟨d,none,op⟩ :: r) ⟨e,h⟩:=rfl
theorem goG_tf (d:Option Nat) (op:COp) (r:List CO) (e:Env) (h:Heap):goG K O true d op r e h (.bool false)=evOps K O r ⟨put e d (.tup []),h⟩:=rfl
theorem goG_ft (d:Option Nat) (op:COp) (r:List CO) (e:Env) (h:Heap):goG K O false d op r e h (.bool true)=evOps K O r ⟨put e d (.tup []),h⟩:=rfl
theorem goG_no (b:Bool) (d:Option Nat) (op:COp) (r:List CO) (e:Env) (h:Heap):goG K O b d op r e h (.tup [])=evOps K O r ⟨put e d (.tup []),h⟩:=rfl
def doP (d:Option Nat) (r:List DO) (pd:Pend) (e:Env) (h:Heap):Option AV→Option (Ex×St)
 | some v=>evD K O r pd ⟨put e d v,h⟩
 | none=>none
def doQ (x:Nat) (q:MOp) (k:Env) (d:Option Nat) (r:List DO) (pd:Pend) (e:Env) (h:Heap):Option AV→Option (Ex×St)
 | some v=>evD K O r ((x,q,k,v) :: pd) ⟨put e d v,h⟩
 | none=>none
def doM (re:List Nat) (d:Option Nat) (r:List DO) (pd:Pend) (e:Env):Option Out→Option (Ex×St)
 | some (.val v h)=>if recheck K O re pd h=true then evD K O r pd ⟨put e d v,h⟩ else none
 | some (.pan v h)=>some (.pan v,⟨[],h⟩)
 | none=>none
def doG (d:Option Nat) (b:Bool) (op:COp) (x:Nat) (lk an re:List Nat) (r:List DO) (pd:Pend) (e:Env) (h:Heap):AV→Option (Ex×St)
 | .bool c=>if c=b then evD K O (⟨⟨d,none,op⟩,x,lk,an,re⟩ :: r) pd ⟨e,h⟩
  else if loud ⟨d,some (0,b),op⟩=true∧recheck K O re pd h=false then none else evD K O r pd ⟨put e d (.tup []),h⟩
 | .tup []=>if loud ⟨d,some (0,b),op⟩=true∧recheck K O re pd h=false then none else evD K O r pd ⟨put e d (.tup []),h⟩
 | _=>none
variable (x:Nat) (lk an re:List Nat) (d:Option Nat) (r:List DO) (pd:Pend) (e:Env) (h:Heap)
theorem ds_nil (s:St):evD K O [] pd s=some (.norm,s):=rfl
theorem ds_p (q:POp):evD K O (⟨⟨d,none,.p q⟩,x,lk,an,re⟩ :: r) pd ⟨e,h⟩=doP K O d r pd e h (evP q (keep lk e)):=by
 simp only [evD,wanted]
 cases evP q (keep lk e)<;>rfl
theorem ds_m (q:MOp):evD K O (⟨⟨d,none,.m q⟩,x,lk,an,re⟩ :: r) pd ⟨e,h⟩ =
  if quietM q=true then doQ K O x q (keep lk e) d r pd e h (evQ K O q (keep lk e) h) else doM K O re d r pd e (evM K O q (keep lk e) h):=by
 simp only [evD,wanted]
 by_cases hq:quietM q=true
 ·simp only [hq,if_true]
  cases evQ K O q (keep lk e) h<;>rfl
 ·simp only [hq,if_false]
  cases evM K O q (keep lk e) h with
  | none=>rfl
  | some o=>cases o<;>rfl
theorem ds_g (t:Nat) (b:Bool) (op:COp):evD K O (⟨⟨d,some (t,b),op⟩,x,lk,an,re⟩ :: r) pd ⟨e,h⟩=doG K O d b op x lk an re r pd e h (get (keep lk e) t):=by
 rw [evD]
 simp only [wanted]
 have hl:loud ⟨d,some (t,b),op⟩=loud ⟨d,some (0,b),op⟩:=rfl
 cases hg:get (keep lk e) t with
 | bool c=>
  by_cases hc:c=b
  ·subst hc
   simp only [doG,beq_self_eq_true,if_true,evD,wanted]
  ·have:(c == b)=false:=by simp [hc]
   simp only [doG,this,hc,if_false,hl]
 | tup l=>
  cases l
  ·simp only [doG,hl]
  ·rfl
 | _=>rfl
theorem doP_some (v:AV):doP K O d r pd e h (some v)=evD K O r pd ⟨put e d v,h⟩:=rfl
theorem doQ_some (q:MOp) (k:Env) (v:AV):doQ K O x q k d r pd e h (some v)=evD K O r ((x,q,k,v) :: pd) ⟨put e d v,h⟩:=rfl
theorem doM_val (v:AV):doM K O re d r pd e (some (.val v h))=if recheck K O re pd h=true then evD K O r pd ⟨put e d v,h⟩ else none:=rfl
theorem doM_pan (v:AV):doM K O re d r pd e (some (.pan v h))=some (.pan v,⟨[],h⟩):=rfl
theorem doG_tt (op:COp):doG K O d true op x lk an re r pd e h (.bool true)=evD K O (⟨⟨d,none,op⟩,x,lk,an,re⟩ :: r) pd ⟨e,h⟩:=rfl
theorem doG_ff (op:COp):doG K O d false op x lk an re r pd e h (.bool false)=evD K O (⟨⟨d,none,op⟩,x,lk,an,re⟩ :: r) pd ⟨e,h⟩:=rfl
theorem doG_tf (op:COp):doG K O d true op x lk an re r pd e h (.bool false)=if loud ⟨d,some (0,true),op⟩=true∧recheck K O re pd h=false then none else evD K O r pd ⟨put e d (.tup []),h⟩:=rfl
theorem doG_ft (op:COp):doG K O d false op x lk an re r pd e h (.bool true)=if loud ⟨d,some (0,false),op⟩=true∧recheck K O re pd h=false then none else evD K O r pd ⟨put e d (.tup []),h⟩:=rfl
theorem doG_no (b:Bool) (op:COp):doG K O d b op x lk an re r pd e h (.tup [])=if loud ⟨d,some (0,b),op⟩=true∧recheck K O re pd h=false then none else evD K O r pd ⟨put e d (.tup []),h⟩:=rfl
end
/- Code. -/
section
variable (K:Cfg) (O:Orc)
def goS (b:CC):Option (Ex×St)→Option (Ex×St)
 | some (.norm,s1)=>evC K O b s1
 | r=>r
def goC (a b:CC) (s:St):AV→Option (Ex×St)
 | .bool t=>if t then evC K O a s else evC K O b s
 | _=>none
def goB (id:Nat):Option (Ex×St)→Option (Ex×St)
 | some (.exit j,s1)=>if j=id then some (.norm,s1) else some (.exit j,s1)
 | r=>r
def goL (F:St→Option (Ex×St)) (n:Nat) (live:List Nat):Option (Ex×St)→Option (Ex×St)
 | some (.norm,s1)=>(match cut n live s1 with
   | some s2=>F s2
   | none=>none)
 | r=>r
variable (s:St) (a b:CC) (id n:Nat) (live:List Nat)
theorem c_seq:evC K O (.seq a b) s=goS K O b (evC K O a s):=by
 rw [evC];cases evC K O a s with
 | none=>rfl
 | some x=>obtain ⟨ex,s1⟩:=x;cases ex<;>rfl
theorem c_cond (x:Opd) (e:Env) (h:Heap):evC K O (.cond x a b) ⟨e,h⟩=goC K O a b ⟨e,h⟩ (x.ev e):=by
 rw [evC];cases x.ev e<;>rfl
theorem c_block:evC K O (.block id a) s=goB id (evC K O a s):=by
 rw [evC];cases evC K O a s with
 | none=>rfl
 | some x=>obtain ⟨ex,s1⟩:=x;cases ex<;>rfl
theorem c_loop (e:Env) (h:Heap):evC K O (.loop live a) ⟨e,h⟩=O.code (.loopAt (hlen h) live a) ⟨keep live e,h⟩:=rfl
theorem c_skip:evC K O .skip s=some (.norm,s):=rfl
theorem c_reg (l:List CO):evC K O (.reg l) s=evOps K O l s:=rfl
theorem c_draw (l:List DO):evC K O (.draw l) s=evD K O l [] s:=rfl
theorem c_exit:evC K O (.exit id) s=some (.exit id,s):=rfl
theorem c_ret:evC K O .ret s=some (.ret,s):=rfl
theorem c_scope:evC K O (.scope a) s=evC K O a s:=rfl
theorem goS_norm:goS K O b (some (.norm,s))=evC K O b s:=rfl
theorem goS_exit (j:Nat):goS K O b (some (.exit j,s))=some (.exit j,s):=rfl
theorem goS_ret:goS K O b (some (.ret,s))=some (.ret,s):=rfl
theorem goS_pan (v:AV):goS K O b (some (.pan v,s))=some (.pan v,s):=rfl
theorem goC_true:goC K O a b s (.bool true)=evC K O a s:=rfl
theorem goC_false:goC K O a b s (.bool false)=evC K O b s:=rfl
theorem goB_norm:goB id (some (.norm,s))=some (.norm,s):=rfl
theorem goB_exit (j:Nat):goB id (some (.exit j,s))=if j=id then some (.norm,s) else some (.exit j,s):=rfl
theorem goB_ret:goB id (some (.ret,s))=some (.ret,s):=rfl
theorem goB_pan (v:AV):goB id (some (.pan v,s))=some (.pan v,s):=rfl
variable (F:St→Option (Ex×St))
theorem goL_norm : goL F n live (some (.norm, s)) = match cut n live s with
      | some s2=>F s2
      | none=>none:=rfl
theorem goL_exit (j:Nat):goL F n live (some (.exit j,s))=some (.exit j,s):=rfl
theorem goL_ret:goL F n live (some (.ret,s))=some (.ret,s):=rfl
theorem goL_pan (v:AV):goL F n live (some (.pan v,s))=some (.pan v,s):=rfl
end
theorem loop_go {K:Cfg} {n:Nat} {live:List Nat} {a:CC} {s:St}:(mu K).code (.loopAt n live a) s=goL ((mu K).code (.loopAt n live a)) n live (evC K (mu K) a s):=by
 rw [loop_at];cases evC K (mu K) a s with
 | none=>rfl
 | some x=>obtain ⟨ex,s1⟩:=x;cases ex<;>rfl
def goF (rs:List CRes):Option (Ex×St)→Option Out
 | some (.norm,s)=>finish rs s
 | some (.ret,s)=>finish rs s
 | some (.pan v,s)=>(match pop v s.h with
  | some (v',h')=>some (.pan v' h')
  | none=>none)
 | _=>none
theorem goF_norm (rs:List CRes) (s:St):goF rs (some (.norm,s))=finish rs s:=rfl
theorem goF_ret (rs:List CRes) (s:St):goF rs (some (.ret,s))=finish rs s:=rfl
theorem goF_pan (rs:List CRes) (v:AV) (s:St):goF rs (some (.pan v,s))=match pop v s.h with
  | some (v',h')=>some (.pan v' h')
  | none=>none:=rfl
theorem fn_go {K:Cfg} {f:FuncId} {args:List AV} {h:Heap} {cf:CFun} {c:CC} (hX:K.X f args h=none) (hc:K.fns f=some cf) (hb:cf.body=.code c) (ha:args.length≤cf.nt) :
  (mu K).fn f args h=goF cf.res (evC K (mu K) c { env:=envOf 0 args,h:=[] :: h }):=by
 rw [fn_code hX hc hb ha]
 cases evC K (mu K) c { env:=envOf 0 args,h:=[] :: h } with
 | none=>rfl
 | some x=>obtain ⟨ex,s1⟩:=x;cases ex<;>rfl
attribute [simp] c_skip c_reg c_draw c_exit c_ret c_scope ops_nil ops_p ops_m ops_g goP_some goM_val goM_pan goG_tt goG_ff goG_tf goG_ft goG_no ds_nil ds_p ds_m ds_g doP_some doQ_some doM_val doM_pan doG_tt doG_ff doG_tf doG_ft doG_no c_seq c_cond c_block c_loop goS_norm goS_exit goS_ret goS_pan goC_true goC_false goB_norm goB_exit goB_ret goB_pan goL_norm goL_exit goL_ret goL_pan goF_norm goF_ret goF_pan
end Go.Ab
/-
  From the form's reading to the evaluator and back: the start, what holds behind a call that the evaluator knows.
-/
namespace Go.Ab
open Go.RowKit Go.WideShapes Go.ChangeShapes
def G0 (w:World):Gm:={ blk:=fun _=>none,len:=fun _=>none,cap:=fun _=>0,imm:=fun b _=>b < w.heap.size }
theorem sim0 (w:World):Sim w (G0 w) [] where
 blk a B e:=by simp [hget] at e
 inj a a' b h:=by simp [dom,hget] at h
 imm b o h:=h
 prv b x h:=by cases h
theorem list_of {α:Type} {Q:Nat→α→Prop}:∀ n:Nat,(∀ i,i < n→∃ a,Q i a)→∃ l:List α,l.length=n∧∀ i a,l[i]?=some a→Q i a
 | 0,_=>⟨[],rfl,fun i a h=>by simp at h⟩
 | n+1,h=>by
  obtain ⟨l,h1,h2⟩:=list_of n fun i hi=>h i (by omega)
  obtain ⟨a,ha⟩:=h n (by omega)
  refine ⟨l++[a],by simp [h1],fun i b hb=>?_⟩
  by_cases hi:i < l.length
  ·rw [List.getElem?_append_left hi] at hb;exact h2 i b hb
  ·have:i=n:=by
    have:=(List.getElem?_eq_some_iff.1 hb).1
    simp at this;omega
   subst this
   rw [←h1] at hb
   simp at hb
   subst hb
   exact ha
theorem cell_block {w:World} {a:Addr} {v:Value} (h:w.cell? a=some v):a.spot=none∧a.block < w.heap.size:=by
 unfold World.cell? at h
 split at h
 ·rename_i c t fr hb
  split at h
  ·cases h
  ·rename_i hs
   exact ⟨by simpa using hs,(Array.getElem?_eq_some_iff.1 hb).1⟩
 ·cases h
theorem calls_true {P:Program} {O:Orc} (hs:FnSound P O) {f:FuncId} {avs:List AV} (he:O.fn f avs []=some (.val (.bool true) [])) {W:World} {args:Array Value}
  (hr:ArgsRel W (G0 W) NoLoc avs args):Calls P f args W fun e W'=>e=.returned (.bool true)∧Below W.heap.size W W':=by
 have h0:ArgsRel W (G0 W) (dom []) avs args:=⟨hr.1,fun i hi=>(hr.2 i hi).mono (ImmKept.refl _ _) fun _ h=>h.elim⟩
 refine ((hs f avs [] _ he).2 W (G0 W) args (sim0 W) h0).mono fun e W' h=>?_
 obtain ⟨G',h1,h2,x,h3,h4⟩:=h
 cases h4
 exact ⟨h3,h2.os,h2.tape,h2.output,h2.size,fun k hk=>h2.heap k hk fun hh=>hh.elim (fun ⟨a,ha,_⟩=>by simp [dom,hget] at ha) fun e=>e rfl⟩
section
variable {H:Type} {enc:TypeId×Value→H} {P:Program}
theorem post_of_below {f:Func} {s:ChangeSpec} {apart fresh handsOn again:Bool} {W W':World} {args:Array Value} {v:Value} {ds gs:List (DataW H)} {before pa pv:List MemPlace}
  (hW:DataW.Whole enc P f.params.toList s.vars apart W args.toList ds gs before)
  (hres:∀ (b:Nat) (sp:Nat→Bool) (hd:Bool),DataW.TrodAll enc P W' b sp hd f.resultTypes.toList (v.resultList f.resultTypes.size) (s.fn H (ds++gs)).results [])
  (hargs:∀ sp:Nat→Bool,(∀ p∈before,sp p.block=true)→DataW.TrodAll enc P W' 0 sp true f.params.toList args.toList (s.fn H (ds++gs)).args pa)
  (hvars:∀ sp:Nat→Bool,(∀ p∈before,sp p.block=true)→DataW.TrodVars enc P W' sp s.vars (s.fn H (ds++gs)).vars pv)
  (hps:before=pa++pv) (hb:Below W.heap.size W W')
  (hok:∀ (j:Nat) (t:TypeId) (r:Value),f.resultTypes[j]?=some t→(v.resultList f.resultTypes.size)[j]?=some r→Value.okWide P W' .any 0 t r) :
  s.post enc P f apart fresh handsOn again W args v W':=by
 have hlt:∀ p∈before,p.block < W.heap.size:=fun p hp=>hW.lt p hp
 have hold:∀ p∈before,(fun b=>decide (b < W.heap.size)) p.block=true:=fun p hp=>by simpa using hlt p hp
 refine ⟨ds,gs,before,[],pa,pv,hW,hres _ _ _,hargs _ hold,hvars _ hold,World.keptBut_mono (fun p hp=>⟨hp,?_⟩) (hb.frame (·∈before)),fun _=>?_⟩
 ·rw [hps,List.mem_append] at hp
  exact Or.inr hp
 ·obtain ⟨_,_,_,_,_,hz,hn⟩:=hW
  refine ⟨hok,_,_,([]++pa)++pv,⟨[]++pa,pv,trodAll_append (hargs _ (fun _ _=>rfl)) (hres _ _ _),hvars _ (fun _ _=>rfl),rfl,?_,?_⟩,?_⟩
  ·intro b off hp
   have hin:MemPlace.cell b off∈before:=by rw [hps];simpa using hp
   rw [hb.frozen (hlt _ hin)]
   exact hz b off hin
  ·intro ha
   have:=hn ha
   rw [hps] at this
   simpa using this
  ·intro p hp _
   rw [hps]
   simpa using hp
theorem trodAll_stays (hl:laidOutB P=true) {base:Nat} {W W':World} {sp':Nat→Bool}:∀ {ts:List TypeId} {vs:List Value} {ds:List (DataW H)} {ps:List MemPlace},
  (∀ t∈ts,P.readableRec t=true∧t < P.types.size)→DataW.TrodAll enc P W base (fun _=>true) true ts vs ds ps→(∀ p∈ps,W.sameAt W' p)→(∀ p∈ps,sp' p.block=true)→DataW.TrodAll enc P W' base sp' true ts vs ds ps
 | [],[],[],_,_,h,_,_=>h
 | t :: _,_ :: _,_ :: _,_,hT,⟨p,q,h1,h2,e⟩,hs,hb=>
  ⟨p,q,WideElems.Trod_stays hl (hT t (by simp)).1 (hT t (by simp)).2 h1 (fun x hx=>hs x (by rw [e];exact List.mem_append_left _ hx)) (fun x hx=>hb x (by rw [e];exact List.mem_append_left _ hx)),
   trodAll_stays hl (fun t ht=>hT t (List.mem_cons.2 (Or.inr ht))) h2 (fun x hx=>hs x (by rw [e];exact List.mem_append_right _ hx)) (fun x hx=>hb x (by rw [e];exact List.mem_append_right _ hx)),e⟩
theorem law_calls {O:Orc} (hs:FnSound P O) {f:FuncId} {fn:Func} {s:ChangeSpec} {apart fresh handsOn again:Bool} (hl:laidOutB P=true) (hp:∀ t∈fn.params.toList,P.readableRec t=true∧t < P.types.size)
  {tb:TypeId} (ht:P.underlying tb=some .bool) (hres:fn.resultTypes=#[tb]) (hvars:s.vars=[]) {W:World} {args:Array Value} {ds gs:List (DataW H)} {before:List MemPlace}
  (hW:DataW.Whole enc P fn.params.toList s.vars apart W args.toList ds gs before)
  (hspec:s.fn H (ds++gs)={ results:=[.lit (.bool true)],args:=ds })
  {avs:List AV} (he:O.fn f avs []=some (.val (.bool true) [])) (hr:ArgsRel W (G0 W) NoLoc avs args) :
  Calls P f args W fun e W'=>∃ v,e=.returned v∧s.post enc P fn apart fresh handsOn again W args v W':=by
 refine (calls_true hs he hr).mono fun e W' ⟨h1,h2⟩=>⟨_,h1,?_⟩
 have hlt:∀ p∈before,p.block < W.heap.size:=fun p hp=>hW.lt p hp
 have hW':=hW
 obtain ⟨p,q,hA,hV,e1,_,_⟩:=hW
 rw [hvars] at hV
 obtain ⟨rfl,rfl⟩:=trodVars_none hV
 simp only [List.append_nil] at e1
 subst e1
 refine post_of_below (pa:=before) (pv:=[]) hW' (fun b sp hd=>?_) (fun sp hsp=>?_) (fun sp hsp=>?_) (by simp) h2 (ok_one hres (by simp [Value.resultList]) (okWide_bool_mk ht true))
 ·rw [hspec,hres]
  exact trodAll_mk1 (shut_bool ht true)
 ·rw [hspec]
  exact trodAll_stays hl hp hA (fun p hp=>h2.same (hlt p hp)) hsp
 ·rw [hspec,hvars]
  rfl
end
end Go.Ab

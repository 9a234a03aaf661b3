/-
  Functions: deferred calls, results; the evaluator grows with its oracle.
-/
import Derived.Test.YtcbhkkeoncmigaaGreatAbSound
import Derived.Recover
import Derived.Test.YtcbhkkeoncmigaaGreatProg
import Derived.KernelRfl
set_option linter.unusedVariables false
set_option linter.unusedSimpArgs false
namespace Go.Ab
open Go.RowKit
variable {P:Program}
def DefRel (w:World) (G:Gm) (L:Loc→Prop) (dv:Option (FuncId×List AV)) (ds:List Deferred):Prop:=
 match dv with
 | none=>ds=[]
 | some (g,cap)=>∃ va:Array Value,ArgsRel w G L cap va∧ds=[{ target:=.fn (.func g) va,args:=#[] }]
def ExRel (w:World) (G:Gm) (L:Loc→Prop) (ex:Ex) (e:Exit):Prop:=
 match ex with
 | .norm=>e=.normal
 | .exit id=>e=.exit id
 | .ret=>e=.ret
 | .pan v=>∃ x,e=.panic [{ v:=x,recovered:=false }]∧VRel w G L v x
def PostB (N:Nat) (w:World) (G:Gm) (h:Heap) (ex:Ex) (s:St) (dv:Option (FuncId×List AV)):Exit→Act→World→Prop:=fun e a' w'=>
 ∃ G',Sim w' G' s.h∧Goes w G h w' G' s.h∧EnvRel w' G' (dom s.h) s.env a'∧a'.tmps.size=N∧ExRel w' G' (dom s.h) ex e∧DefRel w' G' (dom s.h) dv a'.defers
theorem PostB.of {N:Nat} {w:World} {G:Gm} {h:Heap} {ex:Ex} {s:St} {e:Exit} {a:Act} {w':World} (p:Post N [] w G h ex s e a w'):PostB N w G h ex s none e a w':=by
 obtain ⟨G',q1,q2,q3,q4,q5,q6⟩:=p
 exact ⟨G',q1,q2,q3,q4,q6,q5⟩
theorem spine_seq {O:Orc} (hO:FnSound P O) {H:Hints} (hL:CodeSound P H O) {K:Cfg} {f:FuncId} {N:Nat} {x y:Code}
  (ih:∀ (st:St) (ex:Ex) (st':St) (dv:Option (FuncId×List AV)),evB K O (cSpine P H f N y) st=some (ex,st',dv)→∀ (w0:World) (G0:Gm) (h0:Heap) (w:World) (G:Gm) (a:Act),Goes w0 G0 h0 w G st.h→Sim w G st.h→st.h≠[] →
   EnvRel w G (dom st.h) st.env a→a.tmps.size=N→a.defers=[]→y.wp P (PostB N w0 G0 h0 ex st' dv) a w)
  {st:St} {ex:Ex} {st':St} {dv:Option (FuncId×List AV)} (he:evB K O (.seq (cCode P H f N x) (cSpine P H f N y)) st=some (ex,st',dv)) {w0:World} {G0:Gm} {h0:Heap} {w:World} {G:Gm} {a:Act} (g:Goes w0 G0 h0 w G st.h) (s:Sim w G st.h)
  (hn:st.h≠[]) (r:EnvRel w G (dom st.h) st.env a) (hN:a.tmps.size=N) (hd:a.defers=[]):(Code.seq x y).wp P (PostB N w0 G0 h0 ex st' dv) a w:=by
 have hx:=evC_ok hO hL (K:=K) (f:=f) (N:=N) (D:=[]) x st
 simp only [evB] at he
 refine wp_seq ?_
 split at he
 ·rename_i s1 h1
  refine wp_mono (hx _ _ h1 w0 G0 h0 w G a g s hn r hN hd) fun e a' w' p=>?_
  have hne:s1.h≠[]:=by
   obtain ⟨G',q1,q2,_⟩:=p
   intro e0
   have h1:=q2.depth;have h2:=g.depth
   rw [e0] at h1
   cases hs:st.h with
   | nil=>exact hn hs
   | cons q t=>rw [hs] at h2;simp at h1 h2;omega
  obtain ⟨G',q1,q2,q3,q4,q5,rfl⟩:=p
  exact ih s1 ex st' dv he w0 G0 h0 w' G' a' q2 q1 hne q3 q4 q5
 ·rename_i ex1 s1 hnn h1
  simp only [Option.some.injEq,Prod.mk.injEq] at he
  obtain ⟨rfl,rfl,rfl⟩:=he
  refine wp_mono (hx _ _ h1 w0 G0 h0 w G a g s hn r hN hd) fun e a' w' p=>?_
  have p':=PostB.of p
  cases ex1 with
  | norm=>exact absurd rfl hnn
  | exit id=>obtain ⟨G',q1,q2,q3,q4,q5,rfl⟩:=p;exact p'
  | ret=>obtain ⟨G',q1,q2,q3,q4,q5,rfl⟩:=p;exact p'
  | pan v=>obtain ⟨G',q1,q2,q3,q4,q5,x,rfl,_⟩:=p;exact p'
 ·cases he
theorem isDefer_parts {H:Hints} {f:FuncId} {N:Nat} {ops:Array Oper} {d:Nat} {q:POp} (h:isDefer P H f N ops=some (d,q)) :
  ∃ o1 o2 c,ops.toList=[o1,o2]∧o1.dst=some d∧o1.guard=none∧cOp P H f o1=.p q∧o2.op=.defer c∧o2.guard=none∧o2.dst=none∧c.callee=.value (.tmp d)∧c.args.toList=[]∧d < N:=by
 unfold isDefer at h
 split at h
 ·rename_i o1 o2 hops
  split at h
  ·rename_i d' q' c h1 h2 h3 h4 h5 h6
   split at h
   ·rename_i d2 h7 h8
    split at h
    ·rename_i hc
     simp only [Option.some.injEq,Prod.mk.injEq] at h
     obtain ⟨rfl,rfl⟩:=h
     obtain ⟨rfl,hc⟩:=hc
     exact ⟨o1,o2,c,hops,h1,h2,h3,h4,h5,h6,h7,h8,hc⟩
    ·cases h
   ·cases h
  ·cases h
 ·cases h
theorem spine_code {O:Orc} (hO:FnSound P O) {H:Hints} (hL:CodeSound P H O) {K:Cfg} {f:FuncId} {N:Nat} {c:Code} {st:St} {ex:Ex} {st':St} {dv:Option (FuncId×List AV)}
  (he:evB K O (.code (cCode P H f N c)) st=some (ex,st',dv)) {w0:World} {G0:Gm} {h0:Heap} {w:World} {G:Gm} {a:Act} (g:Goes w0 G0 h0 w G st.h) (s:Sim w G st.h)
  (hn:st.h≠[]) (r:EnvRel w G (dom st.h) st.env a) (hN:a.tmps.size=N) (hd:a.defers=[]):c.wp P (PostB N w0 G0 h0 ex st' dv) a w:=by
 simp only [evB] at he
 split at he
 ·rename_i ex1 s1 h1
  simp only [Option.some.injEq,Prod.mk.injEq] at he
  obtain ⟨rfl,rfl,rfl⟩:=he
  exact wp_mono (evC_ok hO hL (K:=K) (f:=f) (N:=N) (D:=[]) c st _ _ h1 w0 G0 h0 w G a g s hn r hN hd) fun e a' w' p=>PostB.of p
 ·cases he
theorem spine_ok {O:Orc} (hO:FnSound P O) {H:Hints} (hL:CodeSound P H O) {K:Cfg} {f:FuncId} {N:Nat}:∀ (c:Code) (st:St) (ex:Ex) (st':St) (dv:Option (FuncId×List AV)),evB K O (cSpine P H f N c) st=some (ex,st',dv) →
  ∀ (w0:World) (G0:Gm) (h0:Heap) (w:World) (G:Gm) (a:Act),Goes w0 G0 h0 w G st.h→Sim w G st.h→st.h≠[]→EnvRel w G (dom st.h) st.env a→a.tmps.size=N→a.defers=[]→c.wp P (PostB N w0 G0 h0 ex st' dv) a w
 | .seq x y,st,ex,st',dv,he,w0,G0,h0,w,G,a,g,s,hn,r,hN,hd=>by
  have ih:=spine_ok hO hL (K:=K) (f:=f) (N:=N) y
  have gen:evB K O (.seq (cCode P H f N x) (cSpine P H f N y)) st=some (ex,st',dv)→(Code.seq x y).wp P (PostB N w0 G0 h0 ex st' dv) a w:=fun he=>spine_seq hO hL ih he g s hn r hN hd
  cases x with
  | region id ops draw=>
   cases draw with
   | true=>exact gen he
   | false=>
    simp only [cSpine] at he
    cases hdf:isDefer P H f N ops with
    | none=>rw [hdf] at he;exact gen he
    | some dq=>
     obtain ⟨d,q⟩:=dq
     rw [hdf] at he
     simp only [evB] at he
     obtain ⟨o1,o2,c,hops,h1,h2,h3,h4,h5,h6,h7,h8,hdN⟩:=isDefer_parts hdf
     split at he
     ·rename_i gid cap hv
      split at he
      ·rename_i ex1 s1 hc
       simp only [Option.some.injEq,Prod.mk.injEq] at he
       obtain ⟨rfl,rfl,rfl⟩:=he
       refine wp_seq (wp_region_list ?_)
       rw [hops]
       unfold wpList
       rw [if_pos (by unfold Region.wanted;rw [h2])]
       refine .inl (op_pure h3 r hv fun x hx=>?_)
       have hd':d < a.tmps.size:=by rw [hN];exact hdN
       have hA:c.args=#[]:=by rw [←Array.toArray_toList (xs:=c.args),h8]
       have hev:(a.put o1.dst x).eval (.tmp d)=x:=by rw [h1];simp [Act.put,Act.eval,hd']
       obtain ⟨va,vb,rfl,ha1,hb1,_,hb2⟩:=fn_shape hx
       have hva:va=#[]:=Array.eq_empty_of_size_eq_zero (by simpa using ha1)
       subst hva
       unfold wpList
       rw [if_pos (by unfold Region.wanted;rw [h5])]
       refine .inl ?_
       have hrun:(execOp (a.put o1.dst (.func (.func gid) #[] vb)).eval o2).run P w=.ok (.defer { target:=.fn (.func gid) vb,args:=#[] }) w:=by
        simp only [execOp,h4,resolve,h7,hA,hev,List.map_toArray,List.map_nil,Deferred.ofValue,Sem.run_bind,Sem.run_pure,Result.andThen_ok]
        rfl
       unfold Oper.wp
       rw [hrun,Oper.upon_defer,h6]
       simp only [Act.put]
       unfold wpList
       simp only [Exit.then]
       have hcode:=evC_ok hO hL (K:=K) (f:=f) (N:=N) (D:=[{ target:=.fn (.func gid) vb,args:=#[] }]) y _ _ _ hc
       have r':EnvRel w G (dom st.h) (set st.env d (.fn (.func gid) [] cap)) (a.put (some d) (.func (.func gid) #[] vb)):=r.put_ (d:=some d) hx (by simp [inN,hd'])
       rw [h1]
       refine wp_mono (hcode w G st.h w G _ (Goes.refl _ _ _) s hn r' (by simp [Act.put,hN]) (by simp [Act.put,hd])) fun e a' w' p=>?_
       obtain ⟨G',q1,q2,q3,q4,q5,q6⟩:=p
       exact ⟨G',q1,g.trans q2,q3,q4,q6,vb,⟨hb1,fun i hi=>(hb2 i hi).along q2⟩,q5⟩
      ·cases he
     ·cases he
  | _=>exact gen he
 | .skip,st,ex,st',dv,he,w0,G0,h0,w,G,a,g,s,hn,r,hN,hd=>spine_code hO hL he g s hn r hN hd
 | .label _,st,ex,st',dv,he,w0,G0,h0,w,G,a,g,s,hn,r,hN,hd=>spine_code hO hL he g s hn r hN hd
 | .region _ _ _,st,ex,st',dv,he,w0,G0,h0,w,G,a,g,s,hn,r,hN,hd=>spine_code hO hL he g s hn r hN hd
 | .cond _ _ _,st,ex,st',dv,he,w0,G0,h0,w,G,a,g,s,hn,r,hN,hd=>spine_code hO hL he g s hn r hN hd
 | .block _ _,st,ex,st',dv,he,w0,G0,h0,w,G,a,g,s,hn,r,hN,hd=>spine_code hO hL he g s hn r hN hd
 | .loop _,st,ex,st',dv,he,w0,G0,h0,w,G,a,g,s,hn,r,hN,hd=>spine_code hO hL he g s hn r hN hd
 | .exit _,st,ex,st',dv,he,w0,G0,h0,w,G,a,g,s,hn,r,hN,hd=>spine_code hO hL he g s hn r hN hd
 | .ret,st,ex,st',dv,he,w0,G0,h0,w,G,a,g,s,hn,r,hN,hd=>spine_code hO hL he g s hn r hN hd
 | .scope _,st,ex,st',dv,he,w0,G0,h0,w,G,a,g,s,hn,r,hN,hd=>spine_code hO hL he g s hn r hN hd
 | .rangeFunc _ _ _ _,st,ex,st',dv,he,w0,G0,h0,w,G,a,g,s,hn,r,hN,hd=>spine_code hO hL he g s hn r hN hd
 | .goto _,st,ex,st',dv,he,w0,G0,h0,w,G,a,g,s,hn,r,hN,hd=>spine_code hO hL he g s hn r hN hd
 | .refuse _,st,ex,st',dv,he,w0,G0,h0,w,G,a,g,s,hn,r,hN,hd=>spine_code hO hL he g s hn r hN hd
theorem CallsD.mono' {f:FuncId} {args:Array Value} {u:FrameMode} {w:World} {R R':Ending→FrameMode→World→Prop} (h:CallsD P f args u w R) (k:∀ e u' w',R e u' w'→R' e u' w'):CallsD P f args u w R':=
 fun c cs hc=>let ⟨e,u',w',fr,h1,h2⟩:=h c cs hc;⟨e,u',w',fr,k _ _ _ h1,h2⟩
theorem args_env {w:World} {G:Gm} {h:Heap} {args:List AV} {xs:Array Value} (hargs:ArgsRel w G (dom h) args xs) (n:Nat) (D:List Deferred) :
  EnvRel w G (dom ([] :: h)) (envOf 0 args) { tmps:=xs++Array.replicate (n - xs.size) undef,defers:=D }:=fun t=>by
 rw [get_envOf,if_pos (Nat.zero_le t),Nat.sub_zero]
 by_cases c:t < args.length
 ·have:=hargs.2 t c
  have e1:(xs++Array.replicate (n - xs.size) undef).getD t undef=xs.getD t undef:=by
   simp only [Array.getD_eq_getD_getElem?]
   rw [Array.getElem?_append_left (by rw [hargs.1];exact c)]
  rw [e1]
  exact this.wider fun q hq=>(dom_push q).2 hq
 ·have:args.getD t .top=.top:=by simp [List.getD_eq_getElem?_getD,List.getElem?_eq_none (Nat.le_of_not_lt c)]
  rw [this]
  exact .top _ _
theorem dFun_parts {H:Hints} {g:FuncId} {df:DFun} (h:dFun P H g=some df):∃ fn id ops y o1 o2 c,P.funcs[g]?=some fn∧fn.body=some (.seq (.region id ops false) y)∧fn.results.toList=[]∧ops.toList=[o1,o2] ∧
  o1.dst=some df.d1∧o1.guard=none∧o1.op=.call c∧c.callee=.builtin .recover∧c.args.toList=[]∧o2.dst=some df.d2∧o2.guard=none∧o2.op=.assign (.tmp df.d1)∧df.d1 < fn.ntmps∧df.d2 < fn.ntmps ∧
  (fn.name == "runtime.NumGoroutine") = false ∧ df.rest = cCode P H g fn.ntmps y ∧ df.nt = fn.ntmps := by
 unfold dFun at h
 split at h
 ·cases h
 ·rename_i fn hfn
  split at h
  ·rename_i id ops y hbody hres
   split at h
   ·rename_i o1 o2 hops
    split at h
    ·rename_i d1 c d2 d h1 h2 h3 h4 h5 h6
     split at h
     ·rename_i h7 h8
      split at h
      ·rename_i hc
       obtain ⟨rfl,hc1,hc2,hc3⟩:=hc
       injection h with h
       subst h
       exact ⟨fn,id,ops,y,o1,o2,c,hfn,hbody,hres,hops,h1,h2,h3,h7,h8,h4,h5,h6,hc1,hc2,hc3,rfl,rfl⟩
      ·cases h
     ·cases h
    ·cases h
   ·cases h
  ·cases h
theorem def_ok {O:Orc} (hO:FnSound P O) {H:Hints} (hL:CodeSound P H O) {K:Cfg} (hK:K.dfn=dFun P H) {g:FuncId} {cap:List AV} {pv:Option AV} {h h2:Heap} (he:evDef K O g cap pv h=some h2)
  {w:World} {G:Gm} {xs:Array Value} (s:Sim w G h) (hargs:ArgsRel w G (dom h) cap xs) {u:FrameMode}
  (hu:(pv=none∧u=.returning)∨∃ v x,pv=some v∧VRel w G (dom h) v x∧u=.panicking [{ v:=x,recovered:=false }]) :
  (∀ w,(callFunc g xs).run P w=.ok (.enter g xs) w) ∧
  CallsD P g xs u w (fun e u' w'=>∃ G',Sim w' G' h2∧Goes w G h w' G' h2∧(∃ v,e=.returned v)∧settle u'=.returning):=by
 unfold evDef at he
 rw [hK] at he
 cases hdf:dFun P H g with
 | none=>rw [hdf] at he;cases he
 | some df=>
  rw [hdf] at he
  simp only at he
  obtain ⟨fn,id,ops,y,o1,o2,c,hfn,hbody,hres,hops,h1,h2',h3,h4,h5,h6,h7,h8,hd1,hd2,hnm,hrest,hnt⟩:=dFun_parts hdf
  split at he
  case isFalse=>cases he
  rename_i hle
  refine ⟨fun w=>?_,callsD_of_wpS hfn hbody fun c₀ cs hc=>?_⟩
  ·unfold callFunc
   simp only [Sem.run_bind,run_program,Result.andThen_ok,hfn]
   rw [hnm]
   simp [hbody]
  ·have hN:(xs++Array.replicate (fn.ntmps - xs.size) undef).size=fn.ntmps:=by
    have:=hargs.1
    rw [hnt] at hle
    simp;omega
   obtain ⟨rv,cs1,hrec,hrv,hset⟩:∃ rv cs1,(match recoverD (c₀ :: cs) with | some (v,cs')=>(v,cs') | none=>(Value.nilIface,c₀ :: cs))=(rv,cs1)∧VRel w G (dom ([] :: h)) (pv.getD .nili) rv ∧
     ∃ u',cs1={ c₀ with mode:=u' } :: cs∧settle u'=.returning:=by
    rcases hu with ⟨rfl,rfl⟩ | ⟨v,x,rfl,hx,rfl⟩
    ·refine ⟨.nilIface,c₀ :: cs,by simp [recoverD,hc],.nili _,.returning,?_,rfl⟩
     cases c₀;simp_all
    ·refine ⟨x,{ c₀ with mode:=.panicking [{ v:=x,recovered:=true }] } :: cs,by simp [recoverD,hc],?_,_,rfl,rfl⟩
     exact hx.wider fun q hq=>(dom_push q).2 hq
   obtain ⟨u',hcs1,hset⟩:=hset
   have hsz:ops.size=2:=by rw [←Array.length_toList,hops];rfl
   have hop0:ops[0]?=some o1:=by rw [←Array.getElem?_toList,hops];rfl
   have hop1:ops[1]?=some o2:=by rw [←Array.getElem?_toList,hops];rfl
   have hA:c.args=#[]:=by rw [←Array.toArray_toList (xs:=c.args),h5]
   have hrng:List.range ops.size=[0,1]:=by rw [hsz];rfl
   refine wpS_seq (wpS_region ?_)
   rw [hrng]
   generalize hR:(fun (e:Ending) (u':FrameMode) (w':World)=>∃ G',Sim w' G' h2∧Goes w G h w' G' h2∧(∃ v,e=.returned v)∧settle u'=.returning)=R
   have r0:=args_env (D:=[]) hargs fn.ntmps
   generalize ha:({ tmps:=xs++Array.replicate (fn.ntmps - xs.size) undef,defers:=[] }:Act)=a0 at r0
   have ha1:a0.tmps.size=fn.ntmps:=by rw [←ha];exact hN
   have ha2:a0.defers=[]:=by rw [←ha]
   have hrun0:(execOp a0.eval o1).run P w=.ok .recover w:=by
    simp only [execOp,h3,resolve,h4,hA,List.map_toArray,List.map_nil,Sem.run_bind,Sem.run_pure,Result.andThen_ok,invoke]
    rfl
   have last:∀ cs',cs'=cs1→wpOpsS P ops (Exit.thenS (y.wpS P (bodyPostS P fn c₀ cs R)) (bodyPostS P fn c₀ cs R)) [1] (a0.put o1.dst rv) cs' w:=by
    rintro cs' rfl
    have hd1':df.d1 < a0.tmps.size:=by omega
    have hev:(a0.put o1.dst rv).eval (.tmp df.d1)=rv:=by rw [h1];simp [Act.put,Act.eval,hd1']
    have hrun1:(execOp (a0.put o1.dst rv).eval o2).run P w=.ok (.value rv) w:=by
     simp only [execOp,h8,hev,Sem.run_pure]
    simp only [wpOpsS,hop1]
    rw [if_pos (by unfold Region.wanted;rw [h7])]
    rw [hrun1]
    simp only [Oper.upon_value,Exit.thenS]
    refine wpS_of_wp ?_
    have r2:EnvRel w G (dom ([] :: h)) (set (set (envOf 0 cap) df.d1 (pv.getD .nili)) df.d2 (pv.getD .nili)) ((a0.put o1.dst rv).put o2.dst rv):=by
     rw [h1,h6]
     exact (r0.put_ (d:=some df.d1) hrv (by simp [inN,ha1,hd1])).put_ (d:=some df.d2) hrv (by simp [inN,Act.put,ha1,hd2])
    have hsz2:((a0.put o1.dst rv).put o2.dst rv).tmps.size=fn.ntmps:=by rw [put_size,put_size,ha1]
    have hdd2:((a0.put o1.dst rv).put o2.dst rv).defers=[]:=by rw [put_defers,put_defers,ha2]
    have hcode:=evC_ok hO hL (K:=K) (f:=g) (N:=fn.ntmps) (D:=[]) y { env:=set (set (envOf 0 cap) df.d1 (pv.getD .nili)) df.d2 (pv.getD .nili),h:=[] :: h }
    have res:∀ (tmps:Array Value) (w':World),∃ v,(results fn tmps).run P w'=.ok v w':=fun tmps w'=>by
     have:=run_results (P:=P) (fn:=fn) (tmps:=tmps) (w:=w') (xs:=[]) (by rw [hres];rfl)
     exact ⟨_,this⟩
    rw [hrest] at he
    split at he
    ·rename_i st hst
     refine wp_mono (hcode _ _ hst w G ([] :: h) w G _ (Goes.refl _ _ _) s.push (by simp) r2 hsz2 hdd2) fun e a' w' p=>?_
     obtain ⟨G',q1,q2,q3,q4,q5,rfl⟩:=p
     split at he
     ·rename_i v' h' hpop
      injection he with he;subst he
      obtain ⟨G2,l1,l2,_⟩:=pop_ok q1 q2 (x:=.tuple #[]) (.tup _ _ _ rfl fun i hi=>by simp at hi) hpop
      obtain ⟨v,hv⟩:=res a'.tmps w'
      refine ⟨q5,u',hcs1,v,hv,?_⟩
      rw [←hR]
      exact ⟨G2,l1,l2,⟨v,rfl⟩,hset⟩
     ·cases he
    ·rename_i st hst
     refine wp_mono (hcode _ _ hst w G ([] :: h) w G _ (Goes.refl _ _ _) s.push (by simp) r2 hsz2 hdd2) fun e a' w' p=>?_
     obtain ⟨G',q1,q2,q3,q4,q5,rfl⟩:=p
     split at he
     ·rename_i v' h' hpop
      injection he with he;subst he
      obtain ⟨G2,l1,l2,_⟩:=pop_ok q1 q2 (x:=.tuple #[]) (.tup _ _ _ rfl fun i hi=>by simp at hi) hpop
      obtain ⟨v,hv⟩:=res a'.tmps w'
      refine ⟨q5,u',hcs1,v,hv,?_⟩
      rw [←hR]
      exact ⟨G2,l1,l2,⟨v,rfl⟩,hset⟩
     ·cases he
    ·cases he
   rw [wpOpsS]
   simp only [hop0]
   rw [if_pos (by unfold Region.wanted;rw [h2'])]
   rw [hrun0]
   simp only
   split at hrec
   ·rename_i v cs' hrc
    injection hrec with e1 e2
    subst e1
    rw [hrc]
    exact last _ e2
   ·rename_i hrc
    injection hrec with e1 e2
    subst e1
    rw [hrc]
    exact last _ e2
theorem invoke_fn {g:FuncId} {va:Array Value} {w:World} (h:(callFunc g va).run P w=.ok (.enter g va) w):(invoke (.fn (.func g) va) #[]).run P w=.ok (.enter g va) w:=by
 simpa [invoke] using h
theorem finish_ok {N:Nat} {w0:World} {G0:Gm} {h0:Heap} {w:World} {G:Gm} {s:St} {a:Act} (sm:Sim w G s.h) (g:Goes w0 G0 ([] :: h0) w G s.h) (r:EnvRel w G (dom s.h) s.env a) {fn:Func} {cr:List CRes}
  (hcr:cRes P N fn.results.toList=some cr) {kk:Bool} {out:Out} (he:finish (keptR kk cr) s=some out):∃ v,(results fn a.tmps).run P w=.ok v w∧EndRel w0 G0 h0 out (.returned v) w:=by
 unfold finish at he
 split at he
 ·rename_i v hv
  split at he
  ·rename_i v' h' hpop
   injection he with he;subst he
   rw [evRes_kept] at hv
   obtain ⟨x,k1,k2⟩:=evRes_ok sm r hcr hv
   obtain ⟨G2,l1,l2,l3⟩:=popK_ok sm g k2 hpop
   exact ⟨x,k1,G2,l1,l2,x,rfl,l3⟩
  ·cases he
 ·cases he
theorem fnSound_step {O:Orc} (hO:FnSound P O) {H:Hints} (hL:CodeSound P H O) {K:Cfg} (hK:K.fns=cFun P H) (hKd:K.dfn=dFun P H)
  (hX:∀ f args h out,K.X f args h=some out→Enterable P f∧∀ (w:World) (G:Gm) (xs:Array Value),Sim w G h→ArgsRel w G (dom h) args xs→Calls P f xs w (EndRel w G h out)):FnSound P (step K O):=by
 intro f args h out he
 simp only [step,stepFn] at he
 split at he
 ·rename_i r hr
  injection he with he;subst he
  exact hX f args h _ hr
 ·rw [hK] at he
  split at he
  ·cases he
  ·rename_i cf hcf
   unfold cFun at hcf
   split at hcf
   ·cases hcf
   ·rename_i fn hfn
    split at hcf
    ·rename_i c cr hbody hcr
     split at hcf
     ·cases hcf
     ·rename_i hname
      injection hcf with hcf
      subst hcf
      refine ⟨fun xs w=>?_,fun w G xs s hargs=>?_⟩
      ·unfold callFunc
       simp only [Sem.run_bind,run_program,Result.andThen_ok,hfn]
       rw [if_neg hname]
       simp [hbody]
      ·simp only at he
       generalize hbd:(if H.dfr f=true then cSpine P H f fn.ntmps c else CB.code (cCode P H f fn.ntmps c))=bd at he
       split at he
       case isFalse=>cases he
       rename_i hle
       have hN:(xs++Array.replicate (fn.ntmps - xs.size) undef).size=fn.ntmps:=by
        have:=hargs.1
        simp;omega
       have r0:=args_env (D:=[]) hargs fn.ntmps
       refine calls_of_wp_defers hfn hbody ?_
       have body:∀ ex st dv,evB K O bd { env:=envOf 0 args,h:=[] :: h }=some (ex,st,dv) →
         c.wp P (PostB fn.ntmps w G ([] :: h) ex st dv) { tmps:=xs++Array.replicate (fn.ntmps - xs.size) undef,defers:=[] } w:=fun ex st dv hb=>by
        rw [←hbd] at hb
        split at hb
        ·exact spine_ok hO hL c _ ex st dv hb w G ([] :: h) w G _ (Goes.refl _ _ _) s.push (by simp) r0 hN rfl
        ·exact spine_code hO hL hb (Goes.refl _ _ _) s.push (by simp) r0 hN rfl
       have deferred:∀ {gid:FuncId} {cap:List AV} {pv:Option AV} {st:St} {w1:World} {G1:Gm} {a1:Act} {u:FrameMode},finD K O (keptR (H.kept f) cr) gid cap pv st=some out→Sim w1 G1 st.h→Goes w G ([] :: h) w1 G1 st.h→EnvRel w1 G1 (dom st.h) st.env a1 →
         DefRel w1 G1 (dom st.h) (some (gid,cap)) a1.defers→((pv=none∧u=.returning)∨∃ v x,pv=some v∧VRel w1 G1 (dom st.h) v x∧u=.panicking [{ v:=x,recovered:=false }]) →
         Leaves P fn a1.tmps (EndRel w G h out) a1.defers u w1:=fun {gid cap pv st w1 G1 a1 u} hf q1 q2 q3 q6 hu=>by
        unfold finD at hf
        split at hf
        ·rename_i h2 hdef
         obtain ⟨va,hva,hds⟩:=q6
         rw [hds]
         obtain ⟨k1,k2⟩:=def_ok hO hL hKd hdef q1 hva hu
         refine ⟨by rcases hu with ⟨_,rfl⟩ | ⟨_,_,_,_,rfl⟩<;>simp,.func gid,va,gid,va,rfl,invoke_fn (k1 w1),CallsD.mono' k2 ?_⟩
         rintro e u' w' ⟨G',l1,l2,⟨v,rfl⟩,hset⟩
         simp only
         rw [hset]
         obtain ⟨x,m1,m2⟩:=finish_ok (s:={ st with h:=h2 }) l1 (q2.trans l2) (q3.along l2) hcr hf
         exact ⟨x,m1,m2⟩
        ·cases hf
       split at he
       ·rename_i st hst
        refine wp_mono (body _ _ _ hst) fun e a' w' p=>?_
        obtain ⟨G',q1,q2,q3,q4,rfl,q6⟩:=p
        obtain ⟨v,k1,k2⟩:=finish_ok q1 q2 q3 hcr he
        simp only [DefRel] at q6
        simp only [bodyPostD,q6]
        exact ⟨v,k1,k2⟩
       ·rename_i st hst
        refine wp_mono (body _ _ _ hst) fun e a' w' p=>?_
        obtain ⟨G',q1,q2,q3,q4,rfl,q6⟩:=p
        obtain ⟨v,k1,k2⟩:=finish_ok q1 q2 q3 hcr he
        simp only [DefRel] at q6
        simp only [bodyPostD,q6]
        exact ⟨v,k1,k2⟩
       ·rename_i v st hst
        refine wp_mono (body _ _ _ hst) fun e a' w' p=>?_
        obtain ⟨G',q1,q2,q3,q4,⟨x,rfl,hvx⟩,q6⟩:=p
        split at he
        ·rename_i v' h' hpop
         injection he with he;subst he
         obtain ⟨G2,l1,l2,l3⟩:=pop_ok q1 q2 hvx hpop
         simp only [DefRel] at q6
         simp only [bodyPostD,q6]
         exact ⟨G2,l1,l2,x,rfl,l3⟩
        ·cases he
       ·rename_i st gid cap hst
        refine wp_mono (body _ _ _ hst) fun e a' w' p=>?_
        obtain ⟨G',q1,q2,q3,q4,rfl,q6⟩:=p
        simp only [bodyPostD]
        exact deferred he q1 q2 q3 q6 (.inl ⟨rfl,rfl⟩)
       ·rename_i st gid cap hst
        refine wp_mono (body _ _ _ hst) fun e a' w' p=>?_
        obtain ⟨G',q1,q2,q3,q4,rfl,q6⟩:=p
        simp only [bodyPostD]
        exact deferred he q1 q2 q3 q6 (.inl ⟨rfl,rfl⟩)
       ·rename_i v st gid cap hst
        refine wp_mono (body _ _ _ hst) fun e a' w' p=>?_
        obtain ⟨G',q1,q2,q3,q4,⟨x,rfl,hvx⟩,q6⟩:=p
        simp only [bodyPostD]
        exact deferred he q1 q2 q3 q6 (.inr ⟨v,x,rfl,hvx,rfl⟩)
       ·cases he
    ·cases hcf
/- The evaluator grows with its oracle. -/
structure Orc.le (O O':Orc):Prop where
 fn:∀ f a h r,O.fn f a h=some r→O'.fn f a h=some r
 code:∀ c s r,O.code c s=some r→O'.code c s=some r
theorem evM_mono {K:Cfg} {O O':Orc} (hl:O.le O') {o:MOp} {e:Env} {h:Heap} {r:Out} (he:evM K O o e h=some r):evM K O' o e h=some r:=by
 cases o with
 | call f args=>
  simp only [evM] at he ⊢
  split at he
  ·split at he
   ·exact hl.fn _ _ _ _ he
   ·cases he
  ·cases he
 | inv tbl x args=>
  simp only [evM] at he ⊢
  split at he
  ·split at he
   ·split at he
    ·exact hl.fn _ _ _ _ he
    ·cases he
   ·cases he
  ·cases he
 | _=>exact he
theorem evOps_mono {K:Cfg} {O O':Orc} (hl:O.le O'):∀ (l:List CO) (s:St) (r:Ex×St),evOps K O l s=some r→evOps K O' l s=some r
 | [],s,r,he=>he
 | o :: l,s,r,he=>by
  simp only [evOps] at he ⊢
  split at he
  ·cases he
  ·exact evOps_mono hl l _ r he
  ·split at he
   ·split at he
    ·exact evOps_mono hl l _ r he
    ·cases he
   ·split at he
    ·rename_i v h hev
     rw [evM_mono hl hev]
     exact evOps_mono hl l _ r he
    ·rename_i v h hev
     rw [evM_mono hl hev]
     exact he
    ·cases he
   ·cases he
theorem evD_mono {K:Cfg} {O O':Orc} (hl:O.le O'):∀ (l:List DO) (pd:Pend) (s:St) (r:Ex×St),evD K O l pd s=some r→evD K O' l pd s=some r
 | [],pd,s,r,he=>he
 | d :: l,pd,s,r,he=>by
  have hq:∀ q e h,evQ K O' q e h=evQ K O q e h:=fun q e h=>evQ_mono q e h
  have hr:∀ re pd h,recheck K O' re pd h=recheck K O re pd h:=fun re pd h=>by unfold recheck;simp only [hq]
  simp only [evD,hq,hr] at he ⊢
  split at he
  ·cases he
  ·rename_i hw
   split at he
   ·cases he
   ·rename_i hre
    rw [if_neg hre]
    exact evD_mono hl l pd _ r he
  ·split at he
   ·split at he
    ·exact evD_mono hl l pd _ r he
    ·cases he
   ·split at he
    ·rename_i hqt
     rw [if_pos hqt]
     split at he
     ·exact evD_mono hl l _ _ r he
     ·cases he
    ·rename_i hqt
     rw [if_neg hqt]
     split at he
     ·rename_i v h hev
      rw [evM_mono hl hev]
      simp only
      split at he
      ·rename_i hrc
       rw [if_pos hrc]
       exact evD_mono hl l pd _ r he
      ·cases he
     ·rename_i v h hev
      rw [evM_mono hl hev]
      exact he
     ·cases he
   ·cases he
theorem evC_mono {K:Cfg} {O O':Orc} (hl:O.le O'):∀ (c:CC) (s:St) (r:Ex×St),evC K O c s=some r→evC K O' c s=some r
 | .skip,s,r,he=>he
 | .reg ops,s,r,he=>evOps_mono hl ops s r he
 | .draw ds,s,r,he=>evD_mono hl ds [] s r he
 | .seq a b,s,r,he=>by
  simp only [evC] at he ⊢
  split at he
  ·rename_i s1 h1
   rw [evC_mono hl a s _ h1]
   exact evC_mono hl b s1 r he
  ·rename_i hnn
   rw [evC_mono hl a s r he]
   split
   ·rename_i s1 h1
    injection h1 with h1
    exact absurd (h1▸he) (hnn s1)
   ·rfl
 | .cond x a b,s,r,he=>by
  simp only [evC] at he ⊢
  split at he
  ·rename_i t ht
   cases t with
   | true=>simp only [if_true] at he ⊢;exact evC_mono hl a s r he
   | false=>simp only [Bool.false_eq_true,if_false] at he ⊢;exact evC_mono hl b s r he
  ·cases he
 | .block id a,s,r,he=>by
  simp only [evC] at he ⊢
  split at he
  ·rename_i j s1 h1
   rw [evC_mono hl a s _ h1]
   exact he
  ·rename_i hnn
   rw [evC_mono hl a s r he]
   split
   ·rename_i j s1 h1
    injection h1 with h1
    exact absurd (h1▸he) (hnn j s1)
   ·rfl
 | .loop live a,s,r,he=>by
  simp only [evC] at he ⊢
  exact hl.code _ _ _ he
 | .loopAt n live a,s,r,he=>by
  simp only [evC] at he ⊢
  split at he
  ·rename_i s1 h1
   rw [evC_mono hl a s _ h1]
   simp only
   split at he
   ·exact hl.code _ _ _ he
   ·cases he
  ·rename_i hnn
   rw [evC_mono hl a s r he]
   split
   ·rename_i s1 h1
    injection h1 with h1
    exact absurd (h1▸he) (hnn s1)
   ·rfl
 | .exit id,s,r,he=>he
 | .ret,s,r,he=>he
 | .scope a,s,r,he=>by
  simp only [evC] at he ⊢
  exact evC_mono hl a s r he
 | .bad,s,r,he=>he
theorem evB_mono {K:Cfg} {O O':Orc} (hl:O.le O'):∀ (b:CB) (s:St) (r:Ex×St×Option (FuncId×List AV)),evB K O b s=some r→evB K O' b s=some r
 | .code c,s,r,he=>by
  simp only [evB] at he ⊢
  split at he
  ·rename_i ex s' h1
   rw [evC_mono hl c s _ h1]
   exact he
  ·cases he
 | .seq c b,s,r,he=>by
  simp only [evB] at he ⊢
  split at he
  ·rename_i s1 h1
   rw [evC_mono hl c s _ h1]
   exact evB_mono hl b s1 r he
  ·rename_i ex s1 hn h1
   rw [evC_mono hl c s _ h1]
   cases ex with
   | norm=>exact absurd rfl hn
   | _=>exact he
  ·cases he
 | .dfr d q c,s,r,he=>by
  simp only [evB] at he ⊢
  split at he
  ·split at he
   ·rename_i ex s' h1
    rw [evC_mono hl c _ _ h1]
    exact he
   ·cases he
  ·cases he
theorem evDef_mono {K:Cfg} {O O':Orc} (hl:O.le O') {g:FuncId} {cap:List AV} {pv:Option AV} {h:Heap} {r:Heap} (he:evDef K O g cap pv h=some r):evDef K O' g cap pv h=some r:=by
 unfold evDef at he ⊢
 split at he
 ·cases he
 ·split at he
  ·rename_i hle
   rw [if_pos hle]
   split at he
   ·rename_i s h1
    rw [evC_mono hl _ _ _ h1]
    exact he
   ·rename_i s h1
    rw [evC_mono hl _ _ _ h1]
    exact he
   ·cases he
  ·cases he
theorem finD_mono {K:Cfg} {O O':Orc} (hl:O.le O') {rs:List CRes} {g:FuncId} {cap:List AV} {pv:Option AV} {s:St} {r:Out} (he:finD K O rs g cap pv s=some r):finD K O' rs g cap pv s=some r:=by
 unfold finD at he ⊢
 split at he
 ·rename_i h2 h1
  rw [evDef_mono hl h1]
  exact he
 ·cases he
theorem step_mono {K:Cfg} {O O':Orc} (hl:O.le O'):(step K O).le (step K O'):=by
 refine ⟨fun f a h r he=>?_,fun c s r he=>evC_mono hl c s r he⟩
 simp only [step,stepFn] at he ⊢
 split at he
 ·exact he
 ·split at he
  ·cases he
  ·split at he
   ·rename_i hle
    rw [if_pos hle]
    split at he
    ·rename_i s hs
     rw [evB_mono hl _ _ _ hs]
     exact he
    ·rename_i s hs
     rw [evB_mono hl _ _ _ hs]
     exact he
    ·rename_i v s hs
     rw [evB_mono hl _ _ _ hs]
     exact he
    ·rename_i s g cap hs
     rw [evB_mono hl _ _ _ hs]
     exact finD_mono hl he
    ·rename_i s g cap hs
     rw [evB_mono hl _ _ _ hs]
     exact finD_mono hl he
    ·rename_i v s g cap hs
     rw [evB_mono hl _ _ _ hs]
     exact finD_mono hl he
    ·cases he
   ·cases he
end Go.Ab
/-
  The least evaluator that is its own step: 'mu'. Its equations;it is sound;what runs with fuel is its word.
-/
namespace Go.Ab
structure Rl where
 fn:FuncId→List AV→Heap→Out→Prop
 code:CC→St→Ex×St→Prop
structure Orc.sub (O:Orc) (R:Rl):Prop where
 fn:∀ f a h r,O.fn f a h=some r→R.fn f a h r
 code:∀ c s r,O.code c s=some r→R.code c s r
def stepR (K:Cfg) (R:Rl):Rl where
 fn f a h r:=∃ O:Orc,O.sub R∧(step K O).fn f a h=some r
 code c s r:=∃ O:Orc,O.sub R∧(step K O).code c s=some r
structure Rl.le (R S:Rl):Prop where
 fn:∀ f a h r,R.fn f a h r→S.fn f a h r
 code:∀ c s r,R.code c s r→S.code c s r
theorem Orc.sub.le {O:Orc} {R S:Rl} (h:O.sub R) (k:R.le S):O.sub S:=⟨fun f a g r e=>k.fn _ _ _ _ (h.fn _ _ _ _ e),fun c s r e=>k.code _ _ _ (h.code _ _ _ e)⟩
theorem stepR_mono {K:Cfg} {R S:Rl} (k:R.le S):(stepR K R).le (stepR K S):=
 ⟨fun _ _ _ _ ⟨O,h,e⟩=>⟨O,h.le k,e⟩,fun _ _ _ ⟨O,h,e⟩=>⟨O,h.le k,e⟩⟩
def muR (K:Cfg):Rl where
 fn f a h r:=∀ R:Rl,(stepR K R).le R→R.fn f a h r
 code c s r:=∀ R:Rl,(stepR K R).le R→R.code c s r
theorem muR_least {K:Cfg} {R:Rl} (h:(stepR K R).le R):(muR K).le R:=⟨fun _ _ _ _ k=>k R h,fun _ _ _ k=>k R h⟩
theorem muR_pre (K:Cfg):(stepR K (muR K)).le (muR K):=
 ⟨fun f a h r k R hR=>hR.fn _ _ _ _ ((stepR_mono (muR_least hR)).fn _ _ _ _ k),fun c s r k R hR=>hR.code _ _ _ ((stepR_mono (muR_least hR)).code _ _ _ k)⟩
theorem muR_post (K:Cfg):(muR K).le (stepR K (muR K)):=muR_least (stepR_mono (muR_pre K))
theorem muR_induct {K:Cfg} {R:Rl} (h:(stepR K ⟨fun f a g r=>(muR K).fn f a g r∧R.fn f a g r,fun c s r=>(muR K).code c s r∧R.code c s r⟩).le R):(muR K).le R:=by
 have hsub:Rl.le ⟨fun f a g r=>(muR K).fn f a g r∧R.fn f a g r,fun c s r=>(muR K).code c s r∧R.code c s r⟩ (muR K):=⟨fun _ _ _ _ e=>e.1,fun _ _ _ e=>e.1⟩
 have key:(stepR K ⟨fun f a g r=>(muR K).fn f a g r∧R.fn f a g r,fun c s r=>(muR K).code c s r∧R.code c s r⟩).le ⟨fun f a g r=>(muR K).fn f a g r∧R.fn f a g r,fun c s r=>(muR K).code c s r∧R.code c s r⟩:=
  ⟨fun f a g r k=>⟨(muR_pre K).fn _ _ _ _ ((stepR_mono hsub).fn _ _ _ _ k),h.fn _ _ _ _ k⟩,fun c s r k=>⟨(muR_pre K).code _ _ _ ((stepR_mono hsub).code _ _ _ k),h.code _ _ _ k⟩⟩
 exact ⟨fun f a g r k=>((muR_least key).fn _ _ _ _ k).2,fun c s r k=>((muR_least key).code _ _ _ k).2⟩
theorem joined {O O':Orc} (h:∀ f a g r r',O.fn f a g=some r→O'.fn f a g=some r'→r=r') (k:∀ c s r r',O.code c s=some r→O'.code c s=some r'→r=r'):∃ J:Orc,O.le J∧O'.le J:=by
 refine ⟨⟨fun f a g=>(O.fn f a g).or (O'.fn f a g),fun c s=>(O.code c s).or (O'.code c s)⟩,⟨fun f a g r e=>by simp [e],fun c s r e=>by simp [e]⟩,⟨fun f a g r e=>?_,fun c s r e=>?_⟩⟩
 ·cases e1:O.fn f a g with
  | none=>simp [e1,e]
  | some q=>simp [e1,h f a g q r e1 e]
 ·cases e1:O.code c s with
  | none=>simp [e1,e]
  | some q=>simp [e1,k c s q r e1 e]
theorem muR_one (K:Cfg):(muR K).le ⟨fun f a g r=>∀ r',(muR K).fn f a g r'→r=r',fun c s r=>∀ r',(muR K).code c s r'→r=r'⟩:=by
 refine muR_induct ⟨fun f a g r k r' h'=>?_,fun c s r k r' h'=>?_⟩
 ·obtain ⟨O,hO,e⟩:=k
  obtain ⟨O',hO',e'⟩:=(muR_post K).fn _ _ _ _ h'
  obtain ⟨J,j1,j2⟩:=joined (O:=O) (O':=O') (fun f a g r r' q q'=>(hO.fn _ _ _ _ q).2 r' (hO'.fn _ _ _ _ q')) (fun c s r r' q q'=>(hO.code _ _ _ q).2 r' (hO'.code _ _ _ q'))
  have e1:=(step_mono (K:=K) j1).fn _ _ _ _ e
  have e2:=(step_mono (K:=K) j2).fn _ _ _ _ e'
  rw [e1] at e2
  injection e2
 ·obtain ⟨O,hO,e⟩:=k
  obtain ⟨O',hO',e'⟩:=(muR_post K).code _ _ _ h'
  obtain ⟨J,j1,j2⟩:=joined (O:=O) (O':=O') (fun f a g r r' q q'=>(hO.fn _ _ _ _ q).2 r' (hO'.fn _ _ _ _ q')) (fun c s r r' q q'=>(hO.code _ _ _ q).2 r' (hO'.code _ _ _ q'))
  have e1:=(step_mono (K:=K) j1).code _ _ _ e
  have e2:=(step_mono (K:=K) j2).code _ _ _ e'
  rw [e1] at e2
  injection e2
open Classical in
noncomputable def mu (K:Cfg):Orc where
 fn f a h:=if k:∃ r,(muR K).fn f a h r then some (Classical.choose k) else none
 code c s:=if k:∃ r,(muR K).code c s r then some (Classical.choose k) else none
theorem mu_fn {K:Cfg} {f:FuncId} {a:List AV} {h:Heap} {r:Out}:(mu K).fn f a h=some r↔(muR K).fn f a h r:=by
 constructor
 ·intro e
  unfold mu at e
  simp only at e
  split at e
  ·rename_i k
   injection e with e
   rw [←e]
   exact Classical.choose_spec k
  ·cases e
 ·intro e
  unfold mu
  simp only
  have k:∃ r,(muR K).fn f a h r:=⟨r,e⟩
  rw [dif_pos k,(muR_one K).fn _ _ _ _ (Classical.choose_spec k) r e]
theorem mu_code {K:Cfg} {c:CC} {s:St} {r:Ex×St}:(mu K).code c s=some r↔(muR K).code c s r:=by
 constructor
 ·intro e
  unfold mu at e
  simp only at e
  split at e
  ·rename_i k
   injection e with e
   rw [←e]
   exact Classical.choose_spec k
  ·cases e
 ·intro e
  unfold mu
  simp only
  have k:∃ r,(muR K).code c s r:=⟨r,e⟩
  rw [dif_pos k,(muR_one K).code _ _ _ (Classical.choose_spec k) r e]
theorem mu_sub (K:Cfg):(mu K).sub (muR K):=⟨fun _ _ _ _ e=>mu_fn.1 e,fun _ _ _ e=>mu_code.1 e⟩
theorem sub_mu {K:Cfg} {O:Orc} (h:O.sub (muR K)):O.le (mu K):=⟨fun _ _ _ _ e=>mu_fn.2 (h.fn _ _ _ _ e),fun _ _ _ e=>mu_code.2 (h.code _ _ _ e)⟩
theorem step_mu_fn (K:Cfg) (f:FuncId) (a:List AV) (h:Heap):(mu K).fn f a h=(step K (mu K)).fn f a h:=by
 apply Option.ext
 intro r
 constructor
 ·intro e
  obtain ⟨O,hO,e'⟩:=(muR_post K).fn _ _ _ _ (mu_fn.1 e)
  exact (step_mono (sub_mu hO)).fn _ _ _ _ e'
 ·intro e
  exact mu_fn.2 ((muR_pre K).fn _ _ _ _ ⟨mu K,mu_sub K,e⟩)
theorem step_mu_code (K:Cfg) (c:CC) (s:St):(mu K).code c s=(step K (mu K)).code c s:=by
 apply Option.ext
 intro r
 constructor
 ·intro e
  obtain ⟨O,hO,e'⟩:=(muR_post K).code _ _ _ (mu_code.1 e)
  exact (step_mono (sub_mu hO)).code _ _ _ e'
 ·intro e
  exact mu_code.2 ((muR_pre K).code _ _ _ ⟨mu K,mu_sub K,e⟩)
theorem evF_le (K:Cfg):∀ n,(evF K n).le (mu K)
 | 0=>⟨fun _ _ _ _ e=>by simp [evF] at e,fun _ _ _ e=>by simp [evF] at e⟩
 | n+1=>⟨fun f a h r e=>by rw [step_mu_fn];exact (step_mono (evF_le K n)).fn _ _ _ _ e,fun c s r e=>by rw [step_mu_code];exact (step_mono (evF_le K n)).code _ _ _ e⟩
theorem mu_sound {P:Program} {H:Hints} {K:Cfg} (hK:K.fns=cFun P H) (hKd:K.dfn=dFun P H)
  (hX:∀ f args h out,K.X f args h=some out→Enterable P f∧∀ (w:World) (G:Gm) (xs:Array Value),Sim w G h→ArgsRel w G (dom h) args xs→Calls P f xs w (EndRel w G h out)) :
  FnSound P (mu K)∧CodeSound P H (mu K):=by
 have key:(muR K).le ⟨fun f args h out=>Enterable P f∧∀ (w:World) (G:Gm) (xs:Array Value),Sim w G h→ArgsRel w G (dom h) args xs→Calls P f xs w (EndRel w G h out),
   fun cc st r=>∀ (f:FuncId) (N:Nat) (D:List Deferred) (c:Code) (n:Nat) (live:List Nat),cc=.loopAt n live (cCode P H f N c) →
    ∀ (w0:World) (G0:Gm) (h0:Heap) (w:World) (G:Gm) (a:Act),Goes w0 G0 h0 w G st.h→Sim w G st.h→st.h≠[]→EnvRel w G (dom st.h) st.env a→a.tmps.size=N→a.defers=D→hlen h0≤n →
     LoopW P c (Post N D w0 G0 h0 r.1 r.2) a w⟩:=by
  refine muR_induct ⟨fun f a h r k=>?_,fun cc st r k=>?_⟩
  ·obtain ⟨O,hO,e⟩:=k
   exact fnSound_step (fun f a h r e=>(hO.fn _ _ _ _ e).2) (H:=H) (fun f N D c n live st ex st' e=>(hO.code _ _ _ e).2 f N D c n live rfl) hK hKd hX f a h r e
  ·obtain ⟨O,hO,e⟩:=k
   intro f N D c n live hcc
   subst hcc
   exact codeSound_step (fun f a h r e=>(hO.fn _ _ _ _ e).2) (H:=H) (fun f N D c n live st ex st' e=>(hO.code _ _ _ e).2 f N D c n live rfl) K f N D c n live st r.1 r.2 e
 exact ⟨fun f a h r e=>key.fn _ _ _ _ (mu_fn.1 e),fun f N D c n live st ex st' e=>key.code _ _ _ (mu_code.1 e) f N D c n live rfl⟩
end Go.Ab
/-
  Chapter 54, the second seat: the program's functions, compiled;the evaluator over them is sound.
-/
set_option maxRecDepth 100000
namespace Go.Ab.WireG
open Go.Ab Go.Proofs
def liveH (f r:Nat):List Nat:=
 match f with
 | 23=>if r=6 then [2,4,6,7] else []
 | 24=>if r=4 then [2,3,5] else []
 | 25=>if r=2 then [1,3] else []
 | 26=>if r=2 then [0,3] else []
 | 31=>if r=4 then [1,3] else if r=10 then [1,5] else if r=15 then [1,6] else []
 | 33=>if r=4 then [1,4,5,6] else []
 | 51=>if r=4 then [0,2,3,4,5] else []
 | 52=>if r=4 then [2,3,5] else []
 | 57=>if r=3 then [0,3,4] else []
 | 59=>if r=4 then [0,1,5] else []
 | 73=>if r=3 then [0,3,4] else []
 | 74=>if r=4 then [0,1,5] else []
 | 75=>if r=2 then [0,3] else []
 | 84=>if r=3 then [0,3,4,5,6] else []
 | 89=>if r=3 then [0,1,4,5,6] else []
 | 93=>if r=3 then [1,4,5,8,9,10] else []
 | 95=>if r=3 then [1,4,5,8,9,10] else []
 | 97=>if r=3 then [0,1,4,5,6] else []
 | 106=>if r=5 then [0,4,15,16] else []
 | 117=>if r=3 then [0,3,4] else []
 | 118=>if r=4 then [0,1,5] else []
 | 137=>if r=2 then [0,1,4] else []
 | 141=>if r=2 then [0,1,4] else []
 | 143=>if r=3 then [2,3,7,8,9] else []
 | 147=>if r=3 then [1,4,5,8,9,10] else []
 | 152=>if r=3 then [0,1,4,5,6] else []
 | 153=>if r=3 then [1,4,5,8,9,10] else []
 | 154=>if r=3 then [0,3,5] else []
 | 155=>if r=3 then [0,3,4] else []
 | 158=>if r=3 then [0,3,4] else []
 | 162=>if r=2 then [0,1,4] else []
 | 165=>if r=2 then [0,1,4] else []
 | 166=>if r=8 then [1,37,38,39] else []
 | 167=>if r=5 then [3,10,11,12] else []
 | 168=>if r=5 then [1,3,13,14,15] else []
 | 169=>if r=3 then [2,3,14,15,16] else []
 | 170=>if r=3 then [1,4,5,8,9,10] else []
 | 172=>if r=8 then [1,3] else []
 | 173=>if r=5 then [1,3,4] else []
 | 174=>if r=3 then [1,3,4] else []
 | 177=>if r=1 then [0] else []
 | 178=>if r=2 then [0,3] else []
 | 180=>if r=10 then [0,2,6,7,9] else []
 | 181=>if r=8 then [0,1,2,3,8,11,12,13,14] else if r=22 then [0,1,3,8,11,16] else []
 | 183=>if r=2 then [0,1,4] else []
 | 186=>if r=3 then [0,3,4] else []
 | 192=>if r=2 then [0,3] else []
 | 193=>if r=4 then [0,1,5,6] else []
 | _=>[]
def drawH (f r:Nat):List (Nat×List Nat×List Nat):=
 match f with
 | 17=>if r=5 then [(0,[],[]),(1,[],[]),(3,[],[]),(2,[1],[0]),(4,[1,2,3],[0]),(5,[0,1,2,3,4],[]),(6,[],[0]),(7,[0,1,2,3,4,5,6],[])] else []
 | 18=>if r=1 then [(0,[],[]),(1,[0],[]),(2,[],[]),(3,[2],[]),(4,[],[1,3]),(5,[],[1,3]),(6,[0,1,4,5],[3]),(7,[0,1,2,3,4,5,6],[])] else []
 | 20=>if r=6 then [(0,[],[]),(1,[0],[]),(2,[0,1],[]),(3,[],[]),(4,[3],[]),(5,[3,4],[]),(6,[0,1,2,3,4,5],[]),(7,[0,1,2,3,4,5,6],[]),(8,[0,1,2,3,4,5,6,7],[])] else []
 | 23=>if r=6 then [(0,[],[]),(1,[0],[]),(2,[0,1],[]),(3,[0,1,2],[]),(4,[],[]),(5,[4],[]),(6,[4,5],[]),(7,[4,5,6],[]),(8,[4,5,6,7],[]),(9,[0,1,2,3,4,5,6,7,8],[]),(10,[0,1,2,3,4,5,6,7,8,9],[]),(11,[0,1,2,3,4,5,6,7,8,9,10],[]),(12,[0,1,2,3,4,5,6,7,8,9,10,11],[]),(13,[0,1,2,3,4,5,6,7,8,9,10,11,12],[]),(14,[0,1,2,3,4,5,6,7,8,9,10,11,12,13],[]),(15,[0,1,2,3,4,5,6,7,8,9,10,11,12,13,14],[]),(16,[0,1,2,3,4,5,6,7,8,9,10,11,12,13,14,15],[])] else if r=8 then [(0,[],[]),(1,[0],[]),(2,[],[]),(4,[],[]),(6,[],[]),(8,[],[]),(10,[],[]),(3,[2],[1]),(5,[2,3,4],[1]),(7,[2,3,4,5,6],[1]),(9,[2,3,4,5,6,7,8],[1]),(11,[2,3,4,5,6,7,8,9,10],[1]),(12,[2,3,4,5,6,7,8,9,10,11],[]),(13,[2,3,4,5,6,7,8,9,10,11,12],[]),(14,[0,1,2,3,4,5,6,7,8,9,10,11,12,13],[]),(15,[0,1,2,3,4,5,6,7,8,9,10,11,12,13,14],[]),(16,[0,1,2,3,4,5,6,7,8,9,10,11,12,13,14,15],[])] else if r=14 then [(0,[],[]),(1,[0],[]),(2,[0,1],[]),(3,[],[]),(4,[3],[]),(5,[3,4],[]),(6,[0,1,2,3,4,5],[]),(7,[0,1,2,3,4,5,6],[]),(8,[0,1,2,3,4,5,6,7],[])] else []
 | 24=>if r=6 then [(0,[],[]),(1,[0],[]),(2,[],[]),(3,[0,1,2],[]),(4,[0,1,2,3],[]),(5,[],[]),(6,[5],[]),(7,[],[]),(8,[5,6,7],[]),(9,[5,6,7,8],[]),(10,[],[1,4,6,9]),(11,[],[1,4,6,9]),(12,[0,1,2,3,4,10,11],[6,9]),(13,[0,1,2,3,4,5,6,7,8,9,10,11,12],[])] else []
 | 28=>if r=2 then [(0,[],[]),(2,[],[]),(3,[],[]),(4,[3],[]),(6,[],[]),(7,[6],[]),(9,[],[]),(10,[],[]),(11,[10],[]),(1,[],[4,7,11]),(5,[1,2,3,4],[7,11]),(8,[1,2,3,4,5,6,7],[11]),(12,[1,2,3,4,5,6,7,8,9,10,11],[]),(13,[1,2,3,4,5,6,7,8,9,10,11,12],[]),(14,[0,1,2,3,4,5,6,7,8,9,10,11,12,13],[]),(15,[0,1,2,3,4,5,6,7,8,9,10,11,12,13,14],[]),(16,[0,1,2,3,4,5,6,7,8,9,10,11,12,13,14],[]),(17,[0,1,2,3,4,5,6,7,8,9,10,11,12,13,14,15,16],[]),(18,[0,1,2,3,4,5,6,7,8,9,10,11,12,13,14,15,16,17],[])] else []
 | 30=>if r=2 then [(0,[],[]),(2,[],[]),(3,[],[]),(4,[3],[]),(6,[],[]),(7,[],[]),(8,[7],[]),(10,[],[]),(11,[],[]),(12,[11],[]),(14,[],[]),(15,[],[]),(16,[15],[]),(1,[],[4,8,12,16]),(5,[1,2,3,4],[8,12,16]),(9,[1,2,3,4,5,6,7,8],[12,16]),(13,[1,2,3,4,5,6,7,8,9,10,11,12],[16]),(17,[1,2,3,4,5,6,7,8,9,10,11,12,13,14,15,16],[]),(18,[1,2,3,4,5,6,7,8,9,10,11,12,13,14,15,16,17],[]),(19,[0,1,2,3,4,5,6,7,8,9,10,11,12,13,14,15,16,17,18],[]),(20,[0,1,2,3,4,5,6,7,8,9,10,11,12,13,14,15,16,17,18,19],[]),(21,[0,1,2,3,4,5,6,7,8,9,10,11,12,13,14,15,16,17,18,19],[]),(22,[0,1,2,3,4,5,6,7,8,9,10,11,12,13,14,15,16,17,18,19,20,21],[]),(23,[0,1,2,3,4,5,6,7,8,9,10,11,12,13,14,15,16,17,18,19,20,21,22],[])] else []
 | 33=>if r=7 then [(0,[],[]),(1,[],[]),(2,[1],[]),(4,[],[]),(5,[],[]),(6,[5],[]),(8,[],[]),(9,[],[]),(10,[9],[]),(12,[],[]),(13,[],[]),(14,[13],[]),(16,[],[]),(17,[],[]),(18,[17],[]),(3,[1,2],[6,10,14,18]),(7,[1,2,3,4,5,6],[10,14,18]),(11,[1,2,3,4,5,6,7,8,9,10],[14,18]),(15,[1,2,3,4,5,6,7,8,9,10,11,12,13,14],[18]),(19,[1,2,3,4,5,6,7,8,9,10,11,12,13,14,15,16,17,18],[]),(20,[1,2,3,4,5,6,7,8,9,10,11,12,13,14,15,16,17,18,19],[]),(21,[1,2,3,4,5,6,7,8,9,10,11,12,13,14,15,16,17,18,19,20],[]),(22,[1,2,3,4,5,6,7,8,9,10,11,12,13,14,15,16,17,18,19,20,21],[]),(23,[0,1,2,3,4,5,6,7,8,9,10,11,12,13,14,15,16,17,18,19,20,21,22],[]),(24,[0,1,2,3,4,5,6,7,8,9,10,11,12,13,14,15,16,17,18,19,20,21,22,23],[])] else if r=8 then [(0,[],[]),(2,[],[]),(4,[],[]),(5,[],[]),(6,[5],[]),(8,[],[]),(9,[],[]),(10,[9],[]),(12,[],[]),(13,[],[]),(14,[13],[]),(16,[],[]),(17,[],[]),(18,[17],[]),(20,[],[]),(21,[],[]),(22,[21],[]),(24,[],[]),(25,[],[]),(26,[25],[]),(28,[],[]),(29,[],[]),(30,[29],[]),(32,[],[]),(33,[],[]),(34,[33],[]),(35,[33,34],[]),(36,[],[]),(37,[36],[]),(38,[36,37],[]),(39,[33,34,35,36,37,38],[]),(41,[],[]),(42,[],[]),(43,[42],[]),(1,[],[6,10,14,18,22,26,30,35,38,39,43]),(3,[1,2],[6,10,14,18,22,26,30,35,38,39,43]),(7,[1,2,3,4,5,6],[10,14,18,22,26,30,35,38,39,43]),(11,[1,2,3,4,5,6,7,8,9,10],[14,18,22,26,30,35,38,39,43]),(15,[1,2,3,4,5,6,7,8,9,10,11,12,13,14],[18,22,26,30,35,38,39,43]),(19,[1,2,3,4,5,6,7,8,9,10,11,12,13,14,15,16,17,18],[22,26,30,35,38,39,43]),(23,[1,2,3,4,5,6,7,8,9,10,11,12,13,14,15,16,17,18,19,20,21,22],[26,30,35,38,39,43]),(27,[1,2,3,4,5,6,7,8,9,10,11,12,13,14,15,16,17,18,19,20,21,22,23,24,25,26],[30,35,38,39,43]),(31,[1,2,3,4,5,6,7,8,9,10,11,12,13,14,15,16,17,18,19,20,21,22,23,24,25,26,27,28,29,30],[35,38,39,43]),(40,[1,2,3,4,5,6,7,8,9,10,11,12,13,14,15,16,17,18,19,20,21,22,23,24,25,26,27,28,29,30,31,32,33,34,35,36,37,38,39],[43]),(44,[1,2,3,4,5,6,7,8,9,10,11,12,13,14,15,16,17,18,19,20,21,22,23,24,25,26,27,28,29,30,31,32,33,34,35,36,37,38,39,40,41,42,43],[]),(45,[1,2,3,4,5,6,7,8,9,10,11,12,13,14,15,16,17,18,19,20,21,22,23,24,25,26,27,28,29,30,31,32,33,34,35,36,37,38,39,40,41,42,43,44],[]),(46,[0,1,2,3,4,5,6,7,8,9,10,11,12,13,14,15,16,17,18,19,20,21,22,23,24,25,26,27,28,29,30,31,32,33,34,35,36,37,38,39,40,41,42,43,44,45],[]),(47,[0,1,2,3,4,5,6,7,8,9,10,11,12,13,14,15,16,17,18,19,20,21,22,23,24,25,26,27,28,29,30,31,32,33,34,35,36,37,38,39,40,41,42,43,44,45,46],[]),(48,[0,1,2,3,4,5,6,7,8,9,10,11,12,13,14,15,16,17,18,19,20,21,22,23,24,25,26,27,28,29,30,31,32,33,34,35,36,37,38,39,40,41,42,43,44,45,46],[]),(49,[0,1,2,3,4,5,6,7,8,9,10,11,12,13,14,15,16,17,18,19,20,21,22,23,24,25,26,27,28,29,30,31,32,33,34,35,36,37,38,39,40,41,42,43,44,45,46,47,48],[]),(50,[0,1,2,3,4,5,6,7,8,9,10,11,12,13,14,15,16,17,18,19,20,21,22,23,24,25,26,27,28,29,30,31,32,33,34,35,36,37,38,39,40,41,42,43,44,45,46,47,48,49],[])] else []
 | 38=>if r=4 then [(0,[],[]),(1,[],[]),(2,[0],[1]),(3,[0,1,2],[])] else []
 | 45=>if r=1 then [(0,[],[]),(1,[0],[]),(2,[0,1],[]),(3,[0,1,2],[]),(4,[0,1,2,3],[]),(5,[0,1,2,3,4],[]),(6,[0,1,2,3,4,5],[]),(7,[0,1,2,3,4,5,6],[]),(8,[0,1,2,3,4,5,6,7],[]),(9,[0,1,2,3,4],[]),(10,[0,1,2,3,4,9],[]),(11,[0,1,2,3,4,9,10],[]),(12,[0,1,2,3,4,9,10,11],[]),(13,[0,1,2,3,4,9,10,11,12],[]),(14,[0,1,2,3,4,5,6,7,8,9,10,11,12,13],[]),(15,[0,1,2,3,4,5,6,7,8,9,10,11,12,13,14],[])] else []
 | 46=>if r=4 then [(0,[],[]),(1,[],[]),(2,[0],[1]),(3,[0,1,2],[])] else []
 | 51=>if r=4 then [(0,[],[]),(1,[0],[]),(2,[0,1],[]),(3,[0,1,2],[]),(4,[],[]),(5,[4],[]),(6,[4,5],[]),(7,[4,5,6],[]),(8,[4,5,6,7],[]),(9,[0,1,2,3,4,5,6,7,8],[]),(10,[0,1,2,3,4,5,6,7,8,9],[]),(11,[0,1,2,3,4,5,6,7,8,9,10],[]),(12,[0,1,2,3,4,5,6,7,8,9,10,11],[]),(13,[0,1,2,3,4,5,6,7,8,9,10,11,12],[]),(14,[0,1,2,3,4,5,6,7,8,9,10,11,12,13],[]),(15,[0,1,2,3,4,5,6,7,8,9,10,11,12,13,14],[]),(16,[0,1,2,3,4,5,6,7,8,9,10,11,12,13,14,15],[])] else if r=5 then [(0,[],[]),(1,[0],[]),(2,[],[]),(3,[2],[1]),(4,[2,3],[]),(5,[0,1,2,3,4],[]),(6,[0,1,2,3,4,5],[]),(7,[0,1,2,3,4,5,6],[])] else []
 | 52=>if r=6 then [(0,[],[]),(1,[0],[]),(2,[],[]),(3,[0,1,2],[]),(4,[0,1,2,3],[]),(5,[],[]),(6,[5],[]),(7,[],[]),(8,[5,6,7],[]),(9,[5,6,7,8],[]),(10,[0,1,2,3,4,5,6,7,8,9],[]),(11,[0,1,2,3,4,5,6,7,8,9,10],[])] else []
 | 53=>if r=4 then [(0,[],[]),(1,[],[]),(2,[0],[1]),(3,[0,1,2],[])] else []
 | 57=>if r=3 then [(0,[],[]),(1,[0],[]),(2,[0,1],[]),(3,[0,1,2],[]),(4,[],[]),(5,[4],[]),(6,[4,5],[]),(7,[4,5,6],[]),(8,[4,5,6,7],[]),(9,[0,1,2,3,4,5,6,7,8],[]),(10,[0,1,2,3,4,5,6,7,8,9],[]),(11,[0,1,2,3,4,5,6,7,8,9,10],[]),(12,[0,1,2,3,4,5,6,7,8,9,10,11],[]),(13,[0,1,2,3,4,5,6,7,8,9,10,11,12],[]),(14,[0,1,2,3,4,5,6,7,8,9,10,11,12,13],[]),(15,[0,1,2,3,4,5,6,7,8,9,10,11,12,13,14],[]),(16,[0,1,2,3,4,5,6,7,8,9,10,11,12,13,14,15],[])] else []
 | 58=>if r=2 then [(0,[],[]),(1,[0],[]),(2,[0,1],[]),(3,[],[]),(4,[3],[]),(5,[3,4],[]),(6,[],[]),(7,[6],[]),(8,[6,7],[]),(9,[0,1,2,3,4,5,6,7,8],[]),(10,[0,1,2,3,4,5,6,7,8,9],[])] else []
 | 59=>if r=6 then [(0,[],[]),(1,[],[]),(2,[0,1],[]),(3,[0,1,2],[]),(4,[],[]),(5,[],[]),(6,[4,5],[]),(7,[4,5,6],[]),(8,[0,1,2,3,4,5,6,7],[])] else []
 | 60=>if r=4 then [(0,[],[]),(1,[],[]),(2,[0],[1]),(3,[0,1,2],[])] else []
 | 61=>if r=2 then [(0,[],[]),(1,[],[]),(3,[],[]),(2,[1],[0]),(4,[1,2,3],[0]),(5,[0,1,2,3,4],[]),(6,[0,1,2,3,4,5],[])] else []
 | 62=>if r=4 then [(0,[],[]),(1,[],[]),(2,[0],[1]),(3,[0,1,2],[])] else []
 | 66=>if r=4 then [(0,[],[]),(1,[],[]),(2,[0],[1]),(3,[0,1,2],[])] else []
 | 72=>if r=0 then [(0,[],[]),(1,[],[]),(2,[1],[]),(3,[1,2],[]),(4,[1,2,3],[]),(5,[1,2,3,4],[]),(6,[1,2,3,4,5],[]),(7,[1,2,3,4,5,6],[]),(8,[1,2,3,4,5,6,7],[]),(9,[1,2,3,4,5,6,7,8],[]),(10,[1,2,3,4,5,6,7,8,9],[]),(11,[1,2,3,4,5,6,7,8,9,10],[]),(12,[1,2,3,4,5,6,7,8,9,10,11],[]),(13,[1,2,3,4,5,6,7,8,9,10,11,12],[]),(14,[1,2,3,4,5,6,7,8,9,10,11,12,13],[]),(15,[1,2,3,4,5,6,7,8,9,10,11,12,13,14],[]),(16,[1,2,3,4,5,6,7,8,9,10,11],[]),(17,[1,2,3,4,5,6,7,8,9,10,11,16],[]),(18,[1,2,3,4,5,6,7,8,9,10,11,16,17],[]),(19,[1,2,3,4,5,6,7,8,9,10,11,16,17,18],[]),(20,[1,2,3,4,5,6,7,8,9,10,11,16,17,18,19],[]),(21,[1,2,3,4,5,6,7,8,9,10,11,12,13,14,15,16,17,18,19,20],[]),(22,[1,2,3,4,5,6,7,8,9,10,11,12,13,14,15,16,17,18,19,20,21],[]),(23,[0,1,2,3,4,5,6,7,8,9,10,11,12,13,14,15,16,17,18,19,20,21,22],[]),(24,[0,1,2,3,4,5,6,7,8,9,10,11,12,13,14,15,16,17,18,19,20,21,22,23],[]),(25,[0,1,2,3,4,5,6,7,8,9,10,11,12,13,14,15,16,17,18,19,20,21,22,23,24],[])] else []
 | 73=>if r=3 then [(0,[],[]),(1,[0],[]),(2,[0,1],[]),(3,[0,1,2],[]),(4,[],[]),(5,[4],[]),(6,[4,5],[]),(7,[4,5,6],[]),(8,[4,5,6,7],[]),(9,[0,1,2,3,4,5,6,7,8],[]),(10,[0,1,2,3,4,5,6,7,8,9],[]),(11,[0,1,2,3,4,5,6,7,8,9,10],[]),(12,[0,1,2,3,4,5,6,7,8,9,10,11],[]),(13,[0,1,2,3,4,5,6,7,8,9,10,11,12],[]),(14,[0,1,2,3,4,5,6,7,8,9,10,11,12,13],[]),(15,[0,1,2,3,4,5,6,7,8,9,10,11,12,13,14],[]),(16,[0,1,2,3,4,5,6,7,8,9,10,11,12,13,14,15],[])] else []
 | 74=>if r=6 then [(0,[],[]),(1,[],[]),(2,[0,1],[]),(3,[0,1,2],[]),(4,[],[]),(5,[],[]),(6,[4,5],[]),(7,[4,5,6],[]),(8,[0,1,2,3,4,5,6,7],[]),(9,[0,1,2,3,4,5,6,7,8],[])] else []
 | 77=>if r=1 then [(0,[],[]),(1,[],[]),(2,[1],[]),(4,[],[]),(5,[4],[]),(7,[],[]),(8,[],[]),(9,[8],[]),(3,[0,1,2],[5,9]),(6,[0,1,2,3,4,5],[9]),(10,[0,1,2,3,4,5,6,7,8,9],[]),(11,[0,1,2,3,4,5,6,7,8,9,10],[]),(12,[0,1,2,3,4,5,6,7,8,9,10,11],[])] else []
 | 80=>if r=1 then [(0,[],[]),(1,[],[]),(2,[1],[]),(4,[],[]),(5,[],[]),(6,[5],[]),(8,[],[]),(9,[],[]),(10,[9],[]),(12,[],[]),(13,[12],[]),(14,[],[]),(15,[14],[]),(3,[0,1,2],[6,10,13]),(7,[0,1,2,3,4,5,6],[10,13]),(11,[0,1,2,3,4,5,6,7,8,9,10],[13]),(16,[0,1,2,3,4,5,6,7,8,9,10,11,12,13,14,15],[]),(17,[0,1,2,3,4,5,6,7,8,9,10,11,12,13,14,15,16],[]),(18,[0,1,2,3,4,5,6,7,8,9,10,11,12,13,14,15,16,17],[]),(19,[0,1,2,3,4,5,6,7,8,9,10,11,12,13,14,15,16,17,18],[])] else []
 | 84=>if r=6 then [(0,[],[]),(1,[],[]),(2,[1],[]),(4,[],[]),(5,[],[]),(6,[5],[]),(8,[],[]),(9,[],[]),(10,[9],[]),(12,[],[]),(3,[0,1,2],[6,10]),(7,[0,1,2,3,4,5,6],[10]),(11,[0,1,2,3,4,5,6,7,8,9,10],[]),(13,[0,1,2,3,4,5,6,7,8,9,10,11,12],[]),(14,[0,1,2,3,4,5,6,7,8,9,10,11,12,13],[]),(15,[0,1,2,3,4,5,6,7,8,9,10,11,12,13,14],[]),(16,[0,1,2,3,4,5,6,7,8,9,10,11,12,13,14,15],[])] else []
 | 85=>if r=1 then [(0,[],[]),(1,[],[]),(2,[1],[]),(4,[],[]),(5,[],[]),(6,[5],[]),(8,[],[]),(9,[],[]),(10,[9],[]),(12,[],[]),(13,[],[]),(14,[13],[]),(3,[0,1,2],[6,10,14]),(7,[0,1,2,3,4,5,6],[10,14]),(11,[0,1,2,3,4,5,6,7,8,9,10],[14]),(15,[0,1,2,3,4,5,6,7,8,9,10,11,12,13,14],[]),(16,[0,1,2,3,4,5,6,7,8,9,10,11,12,13,14,15],[]),(17,[0,1,2,3,4,5,6,7,8,9,10,11,12,13,14,15,16],[])] else []
 | 92=>if r=1 then [(0,[],[]),(1,[0],[]),(2,[],[]),(3,[2],[]),(5,[],[]),(6,[],[]),(7,[6],[]),(9,[],[]),(10,[9],[]),(11,[],[]),(12,[11],[]),(14,[],[]),(15,[14],[]),(16,[],[]),(17,[16],[]),(19,[],[]),(20,[],[]),(21,[20],[]),(23,[],[]),(24,[],[]),(25,[24],[]),(27,[],[]),(28,[],[]),(29,[28],[]),(31,[],[]),(32,[],[]),(33,[32],[]),(35,[],[]),(36,[],[]),(37,[36],[]),(38,[36,37],[]),(39,[],[]),(40,[39],[]),(41,[39,40],[]),(42,[36,37,38,39,40,41],[]),(44,[],[]),(45,[],[]),(46,[45],[]),(4,[0,1,2,3],[7,10,15,21,25,29,33,38,41,42,46]),(8,[0,1,2,3,4,5,6,7],[10,15,21,25,29,33,38,41,42,46]),(13,[0,1,2,3,4,5,6,7,8,9,10,11,12],[15,21,25,29,33,38,41,42,46]),(18,[0,1,2,3,4,5,6,7,8,9,10,11,12,13,14,15,16,17],[21,25,29,33,38,41,42,46]),(22,[0,1,2,3,4,5,6,7,8,9,10,11,12,13,14,15,16,17,18,19,20,21],[25,29,33,38,41,42,46]),(26,[0,1,2,3,4,5,6,7,8,9,10,11,12,13,14,15,16,17,18,19,20,21,22,23,24,25],[29,33,38,41,42,46]),(30,[0,1,2,3,4,5,6,7,8,9,10,11,12,13,14,15,16,17,18,19,20,21,22,23,24,25,26,27,28,29],[33,38,41,42,46]),(34,[0,1,2,3,4,5,6,7,8,9,10,11,12,13,14,15,16,17,18,19,20,21,22,23,24,25,26,27,28,29,30,31,32,33],[38,41,42,46]),(43,[0,1,2,3,4,5,6,7,8,9,10,11,12,13,14,15,16,17,18,19,20,21,22,23,24,25,26,27,28,29,30,31,32,33,34,35,36,37,38,39,40,41,42],[46]),(47,[0,1,2,3,4,5,6,7,8,9,10,11,12,13,14,15,16,17,18,19,20,21,22,23,24,25,26,27,28,29,30,31,32,33,34,35,36,37,38,39,40,41,42,43,44,45,46],[]),(48,[0,1,2,3,4,5,6,7,8,9,10,11,12,13,14,15,16,17,18,19,20,21,22,23,24,25,26,27,28,29,30,31,32,33,34,35,36,37,38,39,40,41,42,43,44,45,46,47],[]),(49,[0,1,2,3,4,5,6,7,8,9,10,11,12,13,14,15,16,17,18,19,20,21,22,23,24,25,26,27,28,29,30,31,32,33,34,35,36,37,38,39,40,41,42,43,44,45,46,47,48],[])] else []
 | 94=>if r=1 then [(0,[],[]),(1,[0],[]),(3,[],[]),(4,[],[]),(5,[4],[]),(7,[],[]),(8,[],[]),(9,[8],[]),(11,[],[]),(12,[],[]),(13,[12],[]),(15,[],[]),(16,[],[]),(17,[16],[]),(2,[0,1],[5,9,13,17]),(6,[0,1,2,3,4,5],[9,13,17]),(10,[0,1,2,3,4,5,6,7,8,9],[13,17]),(14,[0,1,2,3,4,5,6,7,8,9,10,11,12,13],[17]),(18,[0,1,2,3,4,5,6,7,8,9,10,11,12,13,14,15,16,17],[]),(19,[0,1,2,3,4,5,6,7,8,9,10,11,12,13,14,15,16,17,18],[]),(20,[0,1,2,3,4,5,6,7,8,9,10,11,12,13,14,15,16,17,18,19],[]),(21,[0,1,2,3,4,5,6,7,8,9,10,11,12,13,14,15,16,17,18,19,20],[])] else []
 | 98=>if r=1 then [(0,[],[]),(1,[0],[]),(3,[],[]),(4,[3],[]),(6,[],[]),(7,[6],[]),(9,[],[]),(10,[],[]),(11,[10],[]),(13,[],[]),(14,[],[]),(15,[14],[]),(2,[0,1],[4,7,11,15]),(5,[0,1,2,3,4],[7,11,15]),(8,[0,1,2,3,4,5,6,7],[11,15]),(12,[0,1,2,3,4,5,6,7,8,9,10,11],[15]),(16,[0,1,2,3,4,5,6,7,8,9,10,11,12,13,14,15],[]),(17,[0,1,2,3,4,5,6,7,8,9,10,11,12,13,14,15,16],[]),(18,[0,1,2,3,4,5,6,7,8,9,10,11,12,13,14,15,16,17],[])] else []
 | 99=>if r=1 then [(0,[],[]),(1,[0],[]),(3,[],[]),(4,[3],[]),(6,[],[]),(7,[],[]),(8,[7],[]),(10,[],[]),(11,[],[]),(12,[11],[]),(14,[],[]),(15,[],[]),(16,[15],[]),(18,[],[]),(19,[],[]),(20,[19],[]),(22,[],[]),(23,[],[]),(24,[23],[]),(2,[0,1],[4,8,12,16,20,24]),(5,[0,1,2,3,4],[8,12,16,20,24]),(9,[0,1,2,3,4,5,6,7,8],[12,16,20,24]),(13,[0,1,2,3,4,5,6,7,8,9,10,11,12],[16,20,24]),(17,[0,1,2,3,4,5,6,7,8,9,10,11,12,13,14,15,16],[20,24]),(21,[0,1,2,3,4,5,6,7,8,9,10,11,12,13,14,15,16,17,18,19,20],[24]),(25,[0,1,2,3,4,5,6,7,8,9,10,11,12,13,14,15,16,17,18,19,20,21,22,23,24],[]),(26,[0,1,2,3,4,5,6,7,8,9,10,11,12,13,14,15,16,17,18,19,20,21,22,23,24,25],[]),(27,[0,1,2,3,4,5,6,7,8,9,10,11,12,13,14,15,16,17,18,19,20,21,22,23,24,25,26],[])] else []
 | 100=>if r=1 then [(0,[],[]),(1,[],[]),(2,[1],[]),(4,[],[]),(5,[],[]),(6,[5],[]),(8,[],[]),(9,[],[]),(10,[9],[]),(12,[],[]),(13,[],[]),(14,[13],[]),(16,[],[]),(17,[],[]),(18,[17],[]),(20,[],[]),(21,[],[]),(22,[21],[]),(24,[],[]),(25,[],[]),(26,[25],[]),(27,[25,26],[]),(28,[],[]),(29,[28],[]),(30,[28,29],[]),(31,[25,26,27,28,29,30],[]),(3,[0,1,2],[6,10,14,18,22,27,30,31]),(7,[0,1,2,3,4,5,6],[10,14,18,22,27,30,31]),(11,[0,1,2,3,4,5,6,7,8,9,10],[14,18,22,27,30,31]),(15,[0,1,2,3,4,5,6,7,8,9,10,11,12,13,14],[18,22,27,30,31]),(19,[0,1,2,3,4,5,6,7,8,9,10,11,12,13,14,15,16,17,18],[22,27,30,31]),(23,[0,1,2,3,4,5,6,7,8,9,10,11,12,13,14,15,16,17,18,19,20,21,22],[27,30,31]),(32,[0,1,2,3,4,5,6,7,8,9,10,11,12,13,14,15,16,17,18,19,20,21,22,23,24,25,26,27,28,29,30,31],[]),(33,[0,1,2,3,4,5,6,7,8,9,10,11,12,13,14,15,16,17,18,19,20,21,22,23,24,25,26,27,28,29,30,31,32],[]),(34,[0,1,2,3,4,5,6,7,8,9,10,11,12,13,14,15,16,17,18,19,20,21,22,23,24,25,26,27,28,29,30,31,32,33],[])] else []
 | 103=>if r=1 then [(0,[],[]),(3,[],[]),(4,[3],[]),(5,[3,4],[]),(6,[3,4,5],[]),(1,[0],[6]),(2,[0,1],[]),(7,[0,1,2,3,4,5,6],[]),(8,[0,1,2,3,4,5,6,7],[]),(9,[0,1,2,3,4,5,6,7,8],[])] else []
 | 104=>if r=1 then [(0,[],[]),(2,[],[]),(1,[0],[2]),(3,[0,1,2],[])] else []
 | 108=>if r=1 then [(0,[],[]),(1,[0],[]),(2,[0,1],[]),(3,[0,1,2],[]),(4,[],[]),(5,[4],[]),(6,[4,5],[]),(7,[4,5,6],[]),(8,[4,5,6,7],[]),(9,[0,1,2,3,4,5,6,7,8],[]),(10,[0,1,2,3,4,5,6,7,8,9],[]),(11,[0,1,2,3,4,5,6,7,8,9,10],[]),(12,[0,1,2,3,4,5,6,7,8,9,10,11],[]),(13,[0,1,2,3,4,5,6,7,8,9,10,11,12],[]),(14,[0,1,2,3,4,5,6,7,8,9,10,11,12,13],[]),(15,[0,1,2,3,4,5,6,7,8,9,10],[]),(16,[0,1,2,3,4,5,6,7,8,9,10,15],[]),(17,[0,1,2,3,4,5,6,7,8,9,10,15,16],[]),(18,[0,1,2,3,4,5,6,7,8,9,10,15,16,17],[]),(19,[0,1,2,3,4,5,6,7,8,9,10,11,12,13,14,15,16,17,18],[]),(20,[0,1,2,3,4,5,6,7,8,9,10,11,12,13,14,15,16,17,18,19],[]),(21,[0,1,2,3,4,5,6,7,8,9,10,11,12,13,14,15,16,17,18,19,20],[]),(22,[0,1,2,3,4,5,6,7,8,9,10],[]),(23,[0,1,2,3,4,5,6,7,8,9,10,11,12,13,14,15,16,17,18,19,20,21,22],[]),(24,[0,1,2,3,4,5,6,7,8,9,10,11,12,13,14,15,16,17,18,19,20,21,22,23],[])] else if r=5 then [(0,[],[]),(1,[0],[]),(2,[0,1],[]),(3,[0,1,2],[]),(4,[],[]),(5,[4],[]),(6,[4,5],[]),(7,[4,5,6],[]),(8,[4,5,6,7],[]),(9,[0,1,2,3,4,5,6,7,8],[]),(10,[0,1,2,3,4,5,6,7,8,9],[]),(11,[0,1,2,3,4,5,6,7,8,9,10],[])] else []
 | 111=>if r=1 then [(0,[],[]),(3,[],[]),(4,[3],[]),(5,[3,4],[]),(6,[3,4,5],[]),(1,[0],[6]),(2,[0,1],[]),(7,[0,1,2,3,4,5,6],[]),(8,[0,1,2,3,4,5,6,7],[]),(9,[0,1,2,3,4,5,6,7,8],[])] else []
 | 112=>if r=1 then [(0,[],[]),(2,[],[]),(1,[0],[2]),(3,[0,1,2],[])] else []
 | 113=>if r=1 then [(0,[],[]),(3,[],[]),(4,[3],[]),(5,[3,4],[]),(6,[3,4,5],[]),(1,[0],[6]),(2,[0,1],[]),(7,[0,1,2,3,4,5,6],[]),(8,[0,1,2,3,4,5,6,7],[]),(9,[0,1,2,3,4,5,6,7,8],[])] else []
 | 117=>if r=3 then [(0,[],[]),(1,[0],[]),(2,[0,1],[]),(3,[0,1,2],[]),(4,[],[]),(5,[4],[]),(6,[4,5],[]),(7,[4,5,6],[]),(8,[4,5,6,7],[]),(9,[0,1,2,3,4,5,6,7,8],[]),(10,[0,1,2,3,4,5,6,7,8,9],[]),(11,[0,1,2,3,4,5,6,7,8,9,10],[]),(12,[0,1,2,3,4,5,6,7,8,9,10,11],[]),(13,[0,1,2,3,4,5,6,7,8,9,10,11,12],[]),(14,[0,1,2,3,4,5,6,7,8,9,10,11,12,13],[]),(15,[0,1,2,3,4,5,6,7,8,9,10,11,12,13,14],[]),(16,[0,1,2,3,4,5,6,7,8,9,10,11,12,13,14,15],[])] else []
 | 118=>if r=6 then [(0,[],[]),(1,[],[]),(2,[0,1],[]),(3,[0,1,2],[]),(4,[],[]),(5,[],[]),(6,[4,5],[]),(7,[4,5,6],[]),(8,[0,1,2,3,4,5,6,7],[])] else []
 | 120=>if r=1 then [(0,[],[]),(3,[],[]),(4,[3],[]),(5,[3,4],[]),(6,[3,4,5],[]),(1,[0],[6]),(2,[0,1],[]),(7,[0,1,2,3,4,5,6],[]),(8,[0,1,2,3,4,5,6,7],[]),(9,[0,1,2,3,4,5,6,7,8],[])] else []
 | 121=>if r=1 then [(0,[],[]),(2,[],[]),(1,[0],[2]),(3,[0,1,2],[])] else []
 | 123=>if r=1 then [(0,[],[]),(3,[],[]),(4,[3],[]),(5,[3,4],[]),(6,[3,4,5],[]),(1,[0],[6]),(2,[0,1],[]),(7,[0,1,2,3,4,5,6],[]),(8,[0,1,2,3,4,5,6,7],[]),(9,[0,1,2,3,4,5,6,7,8],[])] else []
 | 126=>if r=1 then [(0,[],[]),(3,[],[]),(4,[3],[]),(5,[3,4],[]),(6,[3,4,5],[]),(1,[0],[6]),(2,[0,1],[]),(7,[0,1,2,3,4,5,6],[]),(8,[0,1,2,3,4,5,6,7],[]),(9,[0,1,2,3,4,5,6,7,8],[])] else []
 | 127=>if r=1 then [(0,[],[]),(2,[],[]),(1,[0],[2]),(3,[0,1,2],[])] else []
 | 129=>if r=1 then [(0,[],[]),(3,[],[]),(4,[3],[]),(5,[3,4],[]),(6,[3,4,5],[]),(1,[0],[6]),(2,[0,1],[]),(7,[0,1,2,3,4,5,6],[]),(8,[0,1,2,3,4,5,6,7],[]),(9,[0,1,2,3,4,5,6,7,8],[])] else []
 | 130=>if r=1 then [(0,[],[]),(2,[],[]),(1,[0],[2]),(3,[0,1,2],[])] else []
 | 131=>if r=1 then [(0,[],[]),(3,[],[]),(4,[3],[]),(5,[3,4],[]),(6,[3,4,5],[]),(1,[0],[6]),(2,[0,1],[]),(7,[0,1,2,3,4,5,6],[]),(8,[0,1,2,3,4,5,6,7],[]),(9,[0,1,2,3,4,5,6,7,8],[])] else []
 | 134=>if r=1 then [(0,[],[]),(3,[],[]),(4,[3],[]),(5,[3,4],[]),(6,[3,4,5],[]),(1,[0],[6]),(2,[0,1],[]),(7,[0,1,2,3,4,5,6],[]),(8,[0,1,2,3,4,5,6,7],[]),(9,[0,1,2,3,4,5,6,7,8],[])] else []
 | 135=>if r=1 then [(0,[],[]),(2,[],[]),(1,[0],[2]),(3,[0,1,2],[])] else []
 | 136=>if r=1 then [(0,[],[]),(3,[],[]),(4,[3],[]),(5,[3,4],[]),(6,[3,4,5],[]),(1,[0],[6]),(2,[0,1],[]),(7,[0,1,2,3,4,5,6],[]),(8,[0,1,2,3,4,5,6,7],[]),(9,[0,1,2,3,4,5,6,7,8],[])] else []
 | 138=>if r=1 then [(0,[],[]),(3,[],[]),(4,[3],[]),(5,[3,4],[]),(6,[3,4,5],[]),(1,[0],[6]),(2,[0,1],[]),(7,[0,1,2,3,4,5,6],[]),(8,[0,1,2,3,4,5,6,7],[]),(9,[0,1,2,3,4,5,6,7,8],[])] else []
 | 140=>if r=1 then [(0,[],[]),(3,[],[]),(4,[3],[]),(5,[3,4],[]),(6,[3,4,5],[]),(1,[0],[6]),(2,[0,1],[]),(7,[0,1,2,3,4,5,6],[]),(8,[0,1,2,3,4,5,6,7],[]),(9,[0,1,2,3,4,5,6,7,8],[])] else []
 | 143=>if r=5 then [(0,[],[]),(1,[0],[]),(2,[],[]),(3,[2],[1]),(4,[2,3],[]),(5,[0,1,2,3,4],[]),(6,[0,1,2,3,4,5],[]),(7,[0,1,2,3,4,5,6],[])] else []
 | 156=>if r=6 then [(0,[],[]),(1,[],[]),(2,[1],[]),(3,[1,2],[]),(4,[1,2,3],[]),(5,[0],[4]),(6,[0,1,2,3,4,5],[]),(7,[0,1,2,3,4,5,6],[])] else []
 | 161=>if r=1 then [(0,[],[]),(3,[],[]),(4,[3],[]),(5,[3,4],[]),(6,[3,4,5],[]),(1,[0],[6]),(2,[0,1],[]),(7,[0,1,2,3,4,5,6],[]),(8,[0,1,2,3,4,5,6,7],[]),(9,[0,1,2,3,4,5,6,7,8],[])] else []
 | 163=>if r=3 then [(0,[],[]),(1,[0],[]),(2,[0,1],[]),(3,[0,1,2],[]),(4,[0,1,2,3],[]),(5,[],[]),(6,[5],[]),(7,[5,6],[]),(8,[5,6,7],[]),(9,[5,6,7,8],[]),(10,[0,1,2,3,4],[]),(11,[0,1,2,3,4,5,6,7,8,9,10],[])] else []
 | 164=>if r=1 then [(0,[],[]),(3,[],[]),(4,[3],[]),(5,[3,4],[]),(6,[3,4,5],[]),(1,[0],[6]),(2,[0,1],[]),(7,[0,1,2,3,4,5,6],[]),(8,[0,1,2,3,4,5,6,7],[]),(9,[0,1,2,3,4,5,6,7,8],[])] else []
 | 168=>if r=9 then [(0,[],[]),(1,[0],[]),(2,[0,1],[]),(3,[0,1,2],[]),(4,[0,1,2,3],[]),(5,[],[1,3,4]),(6,[5],[1,3,4]),(7,[0,1,2,3,4,5,6],[]),(8,[5,6],[1,3,4]),(9,[0,1,2,3,4,5,6,7,8],[]),(10,[0,1,2,3,4,5,6,7,8,9],[])] else []
 | 169=>if r=5 then [(0,[],[]),(1,[0],[]),(2,[],[]),(3,[2],[1]),(4,[2,3],[]),(5,[0,1,2,3,4],[]),(6,[0,1,2,3,4,5],[]),(7,[0,1,2,3,4,5,6],[])] else []
 | 174=>if r=6 then [(0,[],[]),(1,[0],[]),(2,[0,1],[]),(3,[0,1,2],[]),(4,[0,1,2,3],[]),(5,[],[]),(6,[5],[]),(9,[],[]),(7,[5,6],[1,3,4]),(8,[0,1,2,3,4,5,6,7],[]),(10,[0,1,2,3,4,5,6,7,8,9],[]),(11,[0,1,2,3,4,5,6,7,8,9,10],[])] else []
 | 176=>if r=4 then [(0,[],[]),(2,[],[]),(3,[2],[]),(1,[0],[3]),(4,[0,1,2,3],[]),(5,[0,1,2,3,4],[]),(6,[0,1,2,3,4,5],[]),(7,[0,1,2,3,4,5,6],[])] else []
 | 180=>if r=1 then [(0,[],[]),(1,[0],[]),(2,[0,1],[]),(3,[0,1,2],[]),(4,[],[]),(5,[0,1,2,3,4],[]),(6,[0,1,2,3,4,5],[]),(7,[0,1,2,3,4,5,6],[]),(8,[0,1,2,3,4,5,6,7],[]),(9,[0,1,2,3,4,5,6,7,8],[]),(10,[0,1,2,3,4,5,6,7,8,9],[]),(11,[0,1,2,3,4,5,6],[]),(12,[0,1,2,3,4,5,6,11],[]),(13,[0,1,2,3,4,5,6,11,12],[]),(14,[0,1,2,3,4,5,6,11,12,13],[]),(15,[0,1,2,3,4,5,6,7,8,9,10,11,12,13,14],[]),(16,[0,1,2,3,4,5,6,7,8,9,10,11,12,13,14,15],[]),(17,[0,1,2,3,4,5,6,7,8,9,10,11,12,13,14,15,16],[])] else if r=3 then [(0,[],[]),(1,[0],[]),(2,[0,1],[]),(3,[0,1,2],[]),(4,[],[]),(5,[4],[]),(6,[4,5],[]),(7,[4,5,6],[]),(8,[0,1,2,3,4,5,6,7],[]),(9,[0,1,2,3,4,5,6,7,8],[]),(10,[0,1,2,3,4,5,6,7,8,9],[]),(11,[],[3,7]),(12,[0,1,2,3,4,5,6,7,8,9,10,11],[])] else if r=13 then [(0,[],[]),(1,[0],[]),(2,[0,1],[]),(3,[0,1,2],[]),(4,[],[]),(5,[4],[]),(6,[4,5],[]),(7,[4,5,6],[]),(8,[],[]),(9,[0,1,2,3,4,5,6,7,8],[]),(10,[0,1,2,3,4,5,6,7,8,9],[]),(11,[0,1,2,3,4,5,6,7,8,9,10],[])] else if r=17 then [(0,[],[]),(1,[0],[]),(2,[0,1],[]),(3,[0,1,2],[]),(4,[],[]),(5,[4],[]),(6,[4,5],[]),(7,[4,5,6],[]),(8,[],[]),(9,[0,1,2,3,4,5,6,7,8],[]),(10,[0,1,2,3,4,5,6,7,8,9],[]),(11,[0,1,2,3,4,5,6,7,8,9,10],[])] else if r=11 then [(0,[],[]),(1,[0],[]),(2,[],[]),(3,[],[]),(4,[],[]),(5,[4],[]),(6,[2,3,4,5],[1]),(7,[2,3,4,5,6],[]),(8,[0,1,2,3,4,5,6,7],[]),(9,[0,1,2,3,4,5,6,7,8],[]),(10,[0,1,2,3,4,5,6,7,8,9],[])] else []
 | 182=>if r=1 then [(0,[],[]),(3,[],[]),(4,[3],[]),(5,[3,4],[]),(6,[3,4,5],[]),(1,[0],[6]),(2,[0,1],[]),(7,[0,1,2,3,4,5,6],[]),(8,[0,1,2,3,4,5,6,7],[]),(9,[0,1,2,3,4,5,6,7,8],[])] else []
 | 184=>if r=3 then [(0,[],[]),(1,[0],[]),(2,[0,1],[]),(3,[0,1,2],[]),(4,[0,1,2,3],[]),(5,[],[]),(6,[5],[]),(7,[5,6],[]),(8,[5,6,7],[]),(9,[5,6,7,8],[]),(10,[0,1,2,3,4],[]),(11,[0,1,2,3,4,5,6,7,8,9,10],[])] else []
 | 188=>if r=1 then [(0,[],[]),(1,[0],[]),(2,[0,1],[]),(3,[0,1,2],[]),(4,[0,1,2,3],[]),(5,[],[]),(6,[5],[]),(7,[5,6],[]),(8,[5,6,7],[]),(9,[5,6,7,8],[]),(10,[0,1,2,3,4,5,6,7,8,9],[]),(11,[0,1,2,3,4,5,6,7,8,9,10],[])] else []
 | 190=>if r=4 then [(0,[],[]),(2,[],[]),(3,[2],[]),(1,[0],[3]),(4,[0,1,2,3],[]),(5,[0,1,2,3,4],[]),(6,[0,1,2,3,4,5],[]),(7,[0,1,2,3,4,5,6],[])] else []
 | 193=>if r=6 then [(0,[],[]),(1,[0],[]),(2,[0,1],[]),(3,[0,1,2],[]),(4,[],[]),(5,[4],[]),(6,[4,5],[]),(7,[4,5,6],[]),(8,[0,1,2,3,4,5,6,7],[]),(9,[0,1,2,3,4,5,6,7,8],[]),(10,[0,1,2,3,4,5,6,7,8,9],[])] else []
 | _=>[]
def dfrH (f:Nat):Bool:=f == 38 || f == 46 || f == 53 || f == 60 || f == 62 || f == 66 || f == 156
def matH (f d:Nat):Bool:=(f == 143 && d == 3) || (f == 169 && d == 3) || (f == 180 && d == 7) || (f == 89 && d == 5) || (f == 93 && d == 5) || (f == 95 && d == 5) || (f == 153 && d == 5) || (f == 147 && d == 5) || (f == 170 && d == 5) || (f == 165 && d == 4) || (f == 33 && d == 5) || (f == 57 && d == 3) || (f == 73 && d == 3) || (f == 84 && d == 5) || (f == 97 && d == 5) || (f == 117 && d == 3) || (f == 137 && d == 4) || (f == 141 && d == 4) || (f == 152 && d == 5) || (f == 162 && d == 4) || (f == 183 && d == 4) || (f == 23 && d == 6) || (f == 51 && d == 4) || (f == 181 && d == 11)
def ownH (f d:Nat):Bool:=(f == 168 && d == 3) || (f == 76 && d == 12)
theorem noEsc_ok:∀ s,some Tryz.f195.name=some s→NoEsc s:=fun s h=>by
 injection h with h
 subst h
 exact ⟨by kernel_rfl,by kernel_rfl,by kernel_rfl,by kernel_rfl,by kernel_rfl⟩
noncomputable def H:Hints:={ noEsc:=some Tryz.f195.name,noEscOk:=noEsc_ok,mat:=matH,own:=ownH,quiet:=fun _=>false,live:=liveH,draw:=drawH,dfr:=dfrH }
noncomputable def K:Cfg:={ X:=fun _ _ _=>none,fns:=cFun Tryz.prog H,lend:=fun _=>true,dfn:=dFun Tryz.prog H }
theorem sound:FnSound Tryz.prog (mu K):=(mu_sound rfl rfl fun f args h out e=>by cases e).1
end Go.Ab.WireG
/-
  The evaluator in use: what simp unfolds.
-/
namespace Go.Ab
theorem fn_code {K:Cfg} {f:FuncId} {args:List AV} {h:Heap} {cf:CFun} {c:CC} (hX:K.X f args h=none) (hc:K.fns f=some cf) (hb:cf.body=.code c) (ha:args.length≤cf.nt) :
  (mu K).fn f args h=match evC K (mu K) c { env:=envOf 0 args,h:=[] :: h } with
   | some (.norm,s)=>finish cf.res s
   | some (.ret,s)=>finish cf.res s
   | some (.pan v,s)=>(match pop v s.h with
    | some (v',h')=>some (.pan v' h')
    | none=>none)
   | _=>none:=by
 rw [step_mu_fn]
 simp only [step,stepFn,hX,hc,hb,if_pos ha,evB]
 cases evC K (mu K) c { env:=envOf 0 args,h:=[] :: h } with
 | none=>rfl
 | some r=>
  obtain ⟨ex,s⟩:=r
  cases ex<;>rfl
theorem loop_at {K:Cfg} {n:Nat} {live:List Nat} {a:CC} {s:St}:(mu K).code (.loopAt n live a) s=match evC K (mu K) a s with
  | some (.norm,s1)=>(match cut n live s1 with
   | some s2=>(mu K).code (.loopAt n live a) s2
   | none=>none)
  | r=>r:=by rw [step_mu_code];rfl
section
variable (k:IntKind) (a b:Int)
@[simp] theorem evInt_add:evInt .add k a b=some (.int k (k.wrap (a+b))):=rfl
@[simp] theorem evInt_sub:evInt .sub k a b=some (.int k (k.wrap (a - b))):=rfl
@[simp] theorem evInt_mul:evInt .mul k a b=some (.int k (k.wrap (a * b))):=rfl
@[simp] theorem evInt_quo:evInt .quo k a b=if b=0 then none else some (.int k (k.wrap (a.tdiv b))):=rfl
@[simp] theorem evInt_rem:evInt .rem k a b=if b=0 then none else some (.int k (a.tmod b)):=rfl
@[simp] theorem evInt_and:evInt .and k a b=some (.int k (k.wrap ((BitVec.ofInt k.bits a &&& BitVec.ofInt k.bits b).toNat:Int))):=rfl
@[simp] theorem evInt_or:evInt .or k a b=some (.int k (k.wrap ((BitVec.ofInt k.bits a ||| BitVec.ofInt k.bits b).toNat:Int))):=rfl
@[simp] theorem evInt_eql:evInt .eql k a b=some (.bool (decide (a=b))):=rfl
@[simp] theorem evInt_neq:evInt .neq k a b=some (.bool (!(decide (a=b)))):=rfl
@[simp] theorem evInt_lss:evInt .lss k a b=some (.bool (decide (a < b))):=rfl
@[simp] theorem evInt_leq:evInt .leq k a b=some (.bool (decide (a≤b))):=rfl
@[simp] theorem evInt_gtr:evInt .gtr k a b=some (.bool (decide (b < a))):=rfl
@[simp] theorem evInt_geq:evInt .geq k a b=some (.bool (decide (b≤a))):=rfl
@[simp] theorem evInt_shl:evInt .shl k a b=if b < 0 then none else some (.int k (k.wrap (a * 2 ^ (min b.toNat k.bits)))):=rfl
@[simp] theorem evInt_shr:evInt .shr k a b=if b < 0 then none else some (.int k (a.fdiv (2 ^ (min b.toNat k.bits)))):=rfl
end
section
variable (a b:List UInt8)
theorem beq_dec:(a == b)=decide (a=b):=by
 by_cases h:a=b
 ·simp [h]
 ·simp [h]
@[simp] theorem evStr_add:evStr .add a b=if a.length+b.length≤strBound then some (.str (a++b)) else none:=rfl
@[simp] theorem evStr_eql:evStr .eql a b=some (.bool (decide (a=b))):=by simp only [evStr,beq_dec]
@[simp] theorem evStr_neq:evStr .neq a b=some (.bool (!(decide (a=b)))):=by simp only [evStr,beq_dec]
end
@[simp] theorem slLen_lst (es:List AV):slLen (.lst es)=some es.length:=rfl
@[simp] theorem slLen_nils:slLen .nils=some 0:=rfl
@[simp] theorem slLen_own (a:Loc) (n:Nat):slLen (.own a n)=some n:=rfl
theorem wrap64 {n:Int} (h1:-9223372036854775808≤n) (h2:n≤9223372036854775807):IntKind.i64.wrap n=n:=by
 have e1:IntKind.i64.bits=64:=rfl
 have e2:IntKind.i64.signed=true:=rfl
 unfold IntKind.wrap
 simp only [e1,e2,Bool.true_and,decide_eq_true_eq]
 have e3:(2:Int) ^ 64=18446744073709551616:=by decide
 have e4:(2:Int) ^ (64 - 1)=9223372036854775808:=by decide
 rw [e3,e4]
 split<;>omega
theorem wrapU8 (n:Int):IntKind.u8.wrap n=n % 256:=by
 have e1:IntKind.u8.bits=8:=rfl
 have e2:IntKind.u8.signed=false:=rfl
 unfold IntKind.wrap
 simp only [e1,e2,Bool.false_and,Bool.false_eq_true,if_false]
 rfl
@[simp] theorem cells_agg (cs:List AV):(AV.agg cs).cells=cs:=rfl
@[simp] theorem isAgg_agg (cs:List AV):(AV.agg cs).isAgg=true:=rfl
@[simp] theorem cells_tup (cs:List AV):(AV.tup cs).cells=[]:=rfl
@[simp] theorem isAgg_tup (cs:List AV):(AV.tup cs).isAgg=false:=rfl
@[simp] theorem cells_top:AV.top.cells=[]:=rfl
@[simp] theorem cells_bool (b:Bool):(AV.bool b).cells=[(AV.bool b)]:=rfl
@[simp] theorem isAgg_bool (b:Bool):(AV.bool b).isAgg=false:=rfl
@[simp] theorem cells_int (k:IntKind) (n:Int):(AV.int k n).cells=[(AV.int k n)]:=rfl
@[simp] theorem isAgg_int (k:IntKind) (n:Int):(AV.int k n).isAgg=false:=rfl
@[simp] theorem cells_str (s:List UInt8):(AV.str s).cells=[(AV.str s)]:=rfl
@[simp] theorem isAgg_str (s:List UInt8):(AV.str s).isAgg=false:=rfl
@[simp] theorem cells_nils :AV.nils.cells=[AV.nils]:=rfl
@[simp] theorem isAgg_nils :AV.nils.isAgg=false:=rfl
@[simp] theorem cells_emp :AV.emp.cells=[AV.emp]:=rfl
@[simp] theorem isAgg_emp :AV.emp.isAgg=false:=rfl
@[simp] theorem cells_lst (es:List AV):(AV.lst es).cells=[(AV.lst es)]:=rfl
@[simp] theorem isAgg_lst (es:List AV):(AV.lst es).isAgg=false:=rfl
@[simp] theorem cells_own (a:Loc) (n:Nat):(AV.own a n).cells=[(AV.own a n)]:=rfl
@[simp] theorem isAgg_own (a:Loc) (n:Nat):(AV.own a n).isAgg=false:=rfl
@[simp] theorem cells_ptr (a:Loc) (o:Nat):(AV.ptr a o).cells=[(AV.ptr a o)]:=rfl
@[simp] theorem isAgg_ptr (a:Loc) (o:Nat):(AV.ptr a o).isAgg=false:=rfl
@[simp] theorem cells_eptr (a:Loc) (n s i o:Nat):(AV.eptr a n s i o).cells=[(AV.eptr a n s i o)]:=rfl
@[simp] theorem isAgg_eptr (a:Loc) (n s i o:Nat):(AV.eptr a n s i o).isAgg=false:=rfl
@[simp] theorem cells_iptr (e:AV) (o:Nat):(AV.iptr e o).cells=[(AV.iptr e o)]:=rfl
@[simp] theorem isAgg_iptr (e:AV) (o:Nat):(AV.iptr e o).isAgg=false:=rfl
@[simp] theorem cells_nilp :AV.nilp.cells=[AV.nilp]:=rfl
@[simp] theorem isAgg_nilp :AV.nilp.isAgg=false:=rfl
@[simp] theorem cells_fn (f:Fn) (x y:List AV):(AV.fn f x y).cells=[(AV.fn f x y)]:=rfl
@[simp] theorem isAgg_fn (f:Fn) (x y:List AV):(AV.fn f x y).isAgg=false:=rfl
@[simp] theorem cells_nilf :AV.nilf.cells=[AV.nilf]:=rfl
@[simp] theorem isAgg_nilf :AV.nilf.isAgg=false:=rfl
@[simp] theorem cells_iface (t:TypeId) (v:AV):(AV.iface t v).cells=[(AV.iface t v)]:=rfl
@[simp] theorem isAgg_iface (t:TypeId) (v:AV):(AV.iface t v).isAgg=false:=rfl
@[simp] theorem cells_nili :AV.nili.cells=[AV.nili]:=rfl
@[simp] theorem isAgg_nili :AV.nili.isAgg=false:=rfl
@[simp] theorem cells_mp (a:Loc):(AV.mp a).cells=[(AV.mp a)]:=rfl
@[simp] theorem isAgg_mp (a:Loc):(AV.mp a).isAgg=false:=rfl
@[simp] theorem cells_nilm :AV.nilm.cells=[AV.nilm]:=rfl
@[simp] theorem isAgg_nilm :AV.nilm.isAgg=false:=rfl
@[simp] theorem cells_anyp :AV.anyp.cells=[AV.anyp]:=rfl
@[simp] theorem isAgg_anyp :AV.anyp.isAgg=false:=rfl
def iaF (sz:Nat) (v:AV) (j:AV):Option AV:=match v,j with
 | .lst es,.int _ j=>if 0≤j then (match es[j.toNat]? with
  | some v=>if v.cells.length=sz then some (.iptr v 0) else none
  | none=>none) else none
 | .own a n,.int _ j=>if 0≤j∧j < n then some (.eptr a n sz j.toNat 0) else none
 | _,_=>none
@[simp] theorem ev_iaS (sz:Nat) (x i:Opd) (e:Env):evP (.iaS sz x i) e=iaF sz (x.ev e) (i.ev e):=rfl
@[simp] theorem iaF_own (sz:Nat) (a:Loc) (n:Nat) (k:IntKind) (j:Int):iaF sz (.own a n) (.int k j)=if 0≤j∧j < n then some (.eptr a n sz j.toNat 0) else none:=rfl
@[simp] theorem iaF_lst_ (sz:Nat) (es:List AV) (k:IntKind) (j:Int):iaF sz (.lst es) (.int k j)=if 0≤j then (match es[j.toNat]? with
  | some v=>if v.cells.length=sz then some (.iptr v 0) else none
  | none=>none) else none:=rfl
attribute [simp] evP.eq_1 evP.eq_2 evP.eq_3 evP.eq_4 evP.eq_5 evP.eq_6 evP.eq_8 evP.eq_9 evP.eq_10 evP.eq_11 evP.eq_12 evP.eq_13 evP.eq_14 evP.eq_15 evP.eq_16 evP.eq_17 evP.eq_18 evP.eq_19 evP.eq_20 evP.eq_21 evP.eq_22 evP.eq_23 evP.eq_24 evP.eq_25 evP.eq_26 evP.eq_27
attribute [simp] storeToV viewK toV appToV asV viewF1 viewC viewE viewF isE ldQ stQ toQ appToQ bareK wanted evM outVal evQ quietM loud quietC Opd.ev oev get set put envOf keep evBin BinOp.shifts isNil finish evRes evResL evRes1 keepR popK pop merge moved AV.ren AV.rens Blk.ren AV.refOk AV.refOks AV.view AV.views hget hset hnext hnew hlen
 getE setE loadFrom storeTo bnds bHi bLo elemsOf.eq_1 elemsOf.eq_2 elemsOf.eq_3 elemsOf.eq_4 recheck same1
end Go.Ab
/-
  The chapter's examples, by the kernel.
-/
namespace Go.Ab.WireG
set_option maxRecDepth 100000
theorem awake_run (f:List Blk):(evF K 80).fn 7 [] [f]=some (.val (.bool true) [f]):=by kernel_rfl
theorem awake (f:List Blk):(mu K).fn 7 [] [f]=some (.val (.bool true) [f]):=(evF_le K 80).fn _ _ _ _ (awake_run f)
abbrev yP (d:Nat) (x:POp):CO:=.mk (some d) none (.p x)
abbrev yM (d:Nat) (x:MOp):CO:=.mk (some d) none (.m x)
abbrev yV (d x:Nat):CO:=.mk (some d) none (.p (.mv (.t x)))
abbrev yF (d k x:Nat):CO:=.mk (some d) none (.p (.fa k (.t x)))
abbrev yL (d x:Nat):CO:=.mk (some d) none (.m (.load false 1 (.t x)))
abbrev yI (n:Int):Opd:=.c (.int .i64 n)
abbrev yS (n a b:Nat):CO:=.mk none none (.m (.store n false (.t a) (.t b)))
abbrev yR (d n x:Nat):CO:=.mk (some d) none (.m (.load true n (.t x)))
abbrev yC (d:Nat) (f:FuncId) (l:List Opd):CO:=.mk (some d) none (.m (.call (.c (.fn (.func f) [] [])) l))
abbrev yG (d g:Nat) (b:Bool) (x:POp):CO:=.mk (some d) (some (g, b)) (.p x)
abbrev yN (d g:Nat) (b:Bool) (x:MOp):CO:=.mk (some d) (some (g, b)) (.m x)
abbrev yX (l:List CO) (a:CB):CB:=.seq (.reg l) a
abbrev yQ (l:List CO) (a:CC):CC:=.seq (.reg l) a
abbrev yB (d:Nat) (o:BinOp) (a b:Opd):CO:=.mk (some d) none (.p (.bin o a b))
abbrev yA (d n a b:Nat):CO:=.mk (some d) none (.p (.iaS n (.t a) (.t b)))
abbrev yK (x:Nat) (a b:CC):CC:=.cond (.t x) a b
abbrev yD (c:CO) (i:Nat) (l:List Nat):DO:=.mk c i l [] []
end Go.Ab.WireG

/-
  Functions: deferred calls, results; the evaluator grows with its oracle.
-/
import Derived.Test.YtjnomgdildcbhaaGreatDoorAbSound
import Derived.Recover
set_option linter.unusedVariables false
set_option linter.unusedSimpArgs false
namespace Go.Ab
open Go.RowKit
variable {P:Program}
def wK (w:World) (G:Gm) (L:Loc->Prop) (dv:Option (FuncId×List AV)) (ds:List Deferred):Prop:=
 match dv with
 | none=>ds=[]
 | some (g,cap)=>∃ va:Array Value,bD w G L cap va∧ds=[{ target:=.fn (.func g) va,args:=#[] }]
def UG (w:World) (G:Gm) (L:Loc->Prop) (ex:Ex) (e:Exit):Prop:=
 match ex with
 | .norm=>e=.normal
 | .exit id=>e=.exit id
 | .ret=>e=.ret
 | .pan v=>∃ x,e=.panic [{ v:=x,recovered:=false }]∧az w G L v x
def ow (N:Nat) (w:World) (G:Gm) (h:aj) (ex:Ex) (s:St) (dv:Option (FuncId×List AV)):Exit->Act->World->Prop:=fun e a' w'=>
 ∃ G',Sim w' G' s.h∧aH w G h w' G' s.h∧aD w' G' (dom s.h) s.env a'∧a'.tmps.size=N∧UG w' G' (dom s.h) ex e∧wK w' G' (dom s.h) dv a'.defers
theorem ow.of {N:Nat} {w:World} {G:Gm} {h:aj} {ex:Ex} {s:St} {e:Exit} {a:Act} {w':World} (p:Post N [] w G h ex s e a w'):ow N w G h ex s none e a w':=by
 obtain ⟨G',q1,q2,q3,q4,q5,q6⟩:=p
 exact ⟨G',q1,q2,q3,q4,q6,q5⟩
theorem Hi {O:Orc} (hO:bX P O) {H:Hints} (hL:eV P H O) {K:Cfg} {f:FuncId} {N:Nat} {x y:Code}
  (ih:∀ (st:St) (ex:Ex) (st':St) (dv:Option (FuncId×List AV)),evB K O (lJ P H f N y) st=some (ex,st',dv)->∀ (w0:World) (G0:Gm) (h0:aj) (w:World) (G:Gm) (a:Act),aH w0 G0 h0 w G st.h->Sim w G st.h->st.h≠[] ->
   aD w G (dom st.h) st.env a->a.tmps.size=N->a.defers=[]->y.wp P (ow N w0 G0 h0 ex st' dv) a w)
  {st:St} {ex:Ex} {st':St} {dv:Option (FuncId×List AV)} (he:evB K O (.seq (cP P H f N x) (lJ P H f N y)) st=some (ex,st',dv)) {w0:World} {G0:Gm} {h0:aj} {w:World} {G:Gm} {a:Act} (g:aH w0 G0 h0 w G st.h) (s:Sim w G st.h)
  (hn:st.h≠[]) (r:aD w G (dom st.h) st.env a) (hN:a.tmps.size=N) (hd:a.defers=[]):(Code.seq x y).wp P (ow N w0 G0 h0 ex st' dv) a w:=by
 have hx:=jh hO hL (K:=K) (f:=f) (N:=N) (D:=[]) x st
 simp only [evB] at he
 refine wp_seq ?_
 split at he
 ·rename_i s1 h1
  refine wp_mono (hx _ _ h1 w0 G0 h0 w G a g s hn r hN hd) fun e a' w' p=>?_
  have hne:s1.h≠[]:=by
   obtain ⟨G',q1,q2,_⟩:=p
   intro e0
   have h1:=q2.depth;have h2:=g.depth
   rw [e0] at h1
   cases hs:st.h with
   | nil=>exact hn hs
   | cons q t=>rw [hs] at h2;simp at h1 h2;omega
  obtain ⟨G',q1,q2,q3,q4,q5,rfl⟩:=p
  exact ih s1 ex st' dv he w0 G0 h0 w' G' a' q2 q1 hne q3 q4 q5
 ·rename_i ex1 s1 hnn h1
  simp only [Option.some.injEq,Prod.mk.injEq] at he
  obtain ⟨rfl,rfl,rfl⟩:=he
  refine wp_mono (hx _ _ h1 w0 G0 h0 w G a g s hn r hN hd) fun e a' w' p=>?_
  have p':=ow.of p
  cases ex1 with
  | norm=>exact absurd rfl hnn
  | exit id=>obtain ⟨G',q1,q2,q3,q4,q5,rfl⟩:=p;exact p'
  | ret=>obtain ⟨G',q1,q2,q3,q4,q5,rfl⟩:=p;exact p'
  | pan v=>obtain ⟨G',q1,q2,q3,q4,q5,x,rfl,_⟩:=p;exact p'
 ·cases he
theorem xL {H:Hints} {f:FuncId} {N:Nat} {ops:Array Oper} {d:Nat} {q:POp} (h:uF P H f N ops=some (d,q)) :
  ∃ o1 o2 c,ops.toList=[o1,o2]∧o1.dst=some d∧o1.guard=none∧cOp P H f o1=.p q∧o2.op=.defer c∧o2.guard=none∧o2.dst=none∧c.callee=.value (.tmp d)∧c.args.toList=[]∧d < N:=by
 unfold uF at h
 split at h
 ·rename_i o1 o2 Bc
  split at h
  ·rename_i d' q' c h1 h2 h3 h4 h5 h6
   split at h
   ·rename_i d2 h7 h8
    split at h
    ·rename_i hc
     simp only [Option.some.injEq,Prod.mk.injEq] at h
     obtain ⟨rfl,rfl⟩:=h
     obtain ⟨rfl,hc⟩:=hc
     exact ⟨o1,o2,c,Bc,h1,h2,h3,h4,h5,h6,h7,h8,hc⟩
    ·cases h
   ·cases h
  ·cases h
 ·cases h
theorem cG {O:Orc} (hO:bX P O) {H:Hints} (hL:eV P H O) {K:Cfg} {f:FuncId} {N:Nat} {c:Code} {st:St} {ex:Ex} {st':St} {dv:Option (FuncId×List AV)}
  (he:evB K O (.code (cP P H f N c)) st=some (ex,st',dv)) {w0:World} {G0:Gm} {h0:aj} {w:World} {G:Gm} {a:Act} (g:aH w0 G0 h0 w G st.h) (s:Sim w G st.h)
  (hn:st.h≠[]) (r:aD w G (dom st.h) st.env a) (hN:a.tmps.size=N) (hd:a.defers=[]):c.wp P (ow N w0 G0 h0 ex st' dv) a w:=by
 simp only [evB] at he
 split at he
 ·rename_i ex1 s1 h1
  simp only [Option.some.injEq,Prod.mk.injEq] at he
  obtain ⟨rfl,rfl,rfl⟩:=he
  exact wp_mono (jh hO hL (K:=K) (f:=f) (N:=N) (D:=[]) c st _ _ h1 w0 G0 h0 w G a g s hn r hN hd) fun e a' w' p=>ow.of p
 ·cases he
theorem CR {O:Orc} (hO:bX P O) {H:Hints} (hL:eV P H O) {K:Cfg} {f:FuncId} {N:Nat}:∀ (c:Code) (st:St) (ex:Ex) (st':St) (dv:Option (FuncId×List AV)),evB K O (lJ P H f N c) st=some (ex,st',dv) ->
  ∀ (w0:World) (G0:Gm) (h0:aj) (w:World) (G:Gm) (a:Act),aH w0 G0 h0 w G st.h->Sim w G st.h->st.h≠[]->aD w G (dom st.h) st.env a->a.tmps.size=N->a.defers=[]->c.wp P (ow N w0 G0 h0 ex st' dv) a w
 | .seq x y,st,ex,st',dv,he,w0,G0,h0,w,G,a,g,s,hn,r,hN,hd=>by
  have ih:=CR hO hL (K:=K) (f:=f) (N:=N) y
  have gen:evB K O (.seq (cP P H f N x) (lJ P H f N y)) st=some (ex,st',dv)->(Code.seq x y).wp P (ow N w0 G0 h0 ex st' dv) a w:=fun he=>Hi hO hL ih he g s hn r hN hd
  cases x with
  | region id ops draw=>
   cases draw with
   | true=>exact gen he
   | false=>
    simp only [lJ] at he
    cases hdf:uF P H f N ops with
    | none=>rw [hdf] at he;exact gen he
    | some dq=>
     obtain ⟨d,q⟩:=dq
     rw [hdf] at he
     simp only [evB] at he
     obtain ⟨o1,o2,c,Bc,h1,h2,h3,h4,h5,h6,h7,h8,hdN⟩:=xL hdf
     split at he
     ·rename_i gid cap hv
      split at he
      ·rename_i ex1 s1 hc
       simp only [Option.some.injEq,Prod.mk.injEq] at he
       obtain ⟨rfl,rfl,rfl⟩:=he
       refine wp_seq (wp_region_list ?_)
       rw [Bc]
       unfold wpList
       rw [if_pos (by unfold Region.wanted;rw [h2])]
       refine .inl (FC h3 r hv fun x hx=>?_)
       have hd':d < a.tmps.size:=by rw [hN];exact hdN
       have hA:c.args=#[]:=by rw [<-Array.toArray_toList (xs:=c.args),h8]
       have hev:(a.put o1.dst x).eval (.tmp d)=x:=by rw [h1];simp [Act.put,Act.eval,hd']
       obtain ⟨va,vb,rfl,ha1,hb1,_,hb2⟩:=CM hx
       have hva:va=#[]:=Array.eq_empty_of_size_eq_zero (by simpa using ha1)
       subst hva
       unfold wpList
       rw [if_pos (by unfold Region.wanted;rw [h5])]
       refine .inl ?_
       have hrun:(execOp (a.put o1.dst (.func (.func gid) #[] vb)).eval o2).run P w=.ok (.defer { target:=.fn (.func gid) vb,args:=#[] }) w:=by
        simp only [execOp,h4,resolve,h7,hA,hev,List.map_toArray,List.map_nil,Deferred.ofValue,Sem.run_bind,Sem.run_pure,Result.andThen_ok]
        rfl
       unfold Oper.wp
       rw [hrun,Oper.upon_defer,h6]
       simp only [Act.put]
       unfold wpList
       simp only [Exit.then]
       have FH:=jh hO hL (K:=K) (f:=f) (N:=N) (D:=[{ target:=.fn (.func gid) vb,args:=#[] }]) y _ _ _ hc
       have r':aD w G (dom st.h) (set st.env d (.fn (.func gid) [] cap)) (a.put (some d) (.func (.func gid) #[] vb)):=r.JI (d:=some d) hx (by simp [inN,hd'])
       rw [h1]
       refine wp_mono (FH w G st.h w G _ (aH.refl _ _ _) s hn r' (by simp [Act.put,hN]) (by simp [Act.put,hd])) fun e a' w' p=>?_
       obtain ⟨G',q1,q2,q3,q4,q5,q6⟩:=p
       exact ⟨G',q1,g.trans q2,q3,q4,q6,vb,⟨hb1,fun i hi=>(hb2 i hi).along q2⟩,q5⟩
      ·cases he
     ·cases he
  | _=>exact gen he
 | .skip,st,ex,st',dv,he,w0,G0,h0,w,G,a,g,s,hn,r,hN,hd=>cG hO hL he g s hn r hN hd
 | .label _,st,ex,st',dv,he,w0,G0,h0,w,G,a,g,s,hn,r,hN,hd=>cG hO hL he g s hn r hN hd
 | .region _ _ _,st,ex,st',dv,he,w0,G0,h0,w,G,a,g,s,hn,r,hN,hd=>cG hO hL he g s hn r hN hd
 | .cond _ _ _,st,ex,st',dv,he,w0,G0,h0,w,G,a,g,s,hn,r,hN,hd=>cG hO hL he g s hn r hN hd
 | .block _ _,st,ex,st',dv,he,w0,G0,h0,w,G,a,g,s,hn,r,hN,hd=>cG hO hL he g s hn r hN hd
 | .loop _,st,ex,st',dv,he,w0,G0,h0,w,G,a,g,s,hn,r,hN,hd=>cG hO hL he g s hn r hN hd
 | .exit _,st,ex,st',dv,he,w0,G0,h0,w,G,a,g,s,hn,r,hN,hd=>cG hO hL he g s hn r hN hd
 | .ret,st,ex,st',dv,he,w0,G0,h0,w,G,a,g,s,hn,r,hN,hd=>cG hO hL he g s hn r hN hd
 | .scope _,st,ex,st',dv,he,w0,G0,h0,w,G,a,g,s,hn,r,hN,hd=>cG hO hL he g s hn r hN hd
 | .rangeFunc _ _ _ _,st,ex,st',dv,he,w0,G0,h0,w,G,a,g,s,hn,r,hN,hd=>cG hO hL he g s hn r hN hd
 | .goto _,st,ex,st',dv,he,w0,G0,h0,w,G,a,g,s,hn,r,hN,hd=>cG hO hL he g s hn r hN hd
 | .refuse _,st,ex,st',dv,he,w0,G0,h0,w,G,a,g,s,hn,r,hN,hd=>cG hO hL he g s hn r hN hd
theorem CallsD.mono' {f:FuncId} {args:Array Value} {u:FrameMode} {w:World} {R R':Ending->FrameMode->World->Prop} (h:CallsD P f args u w R) (k:∀ e u' w',R e u' w'->R' e u' w'):CallsD P f args u w R':=
 fun c cs hc=>let ⟨e,u',w',fr,h1,h2⟩:=h c cs hc;⟨e,u',w',fr,k _ _ _ h1,h2⟩
theorem CS {w:World} {G:Gm} {h:aj} {args:List AV} {xs:Array Value} (hargs:bD w G (dom h) args xs) (n:Nat) (D:List Deferred) :
  aD w G (dom ([] :: h)) (cQ 0 args) { tmps:=xs++Array.replicate (n - xs.size) undef,defers:=D }:=fun t=>by
 rw [zU,if_pos (Nat.zero_le t),Nat.sub_zero]
 by_cases c:t < args.length
 ·have:=hargs.2 t c
  have e1:(xs++Array.replicate (n - xs.size) undef).getD t undef=xs.getD t undef:=by
   simp only [Array.getD_eq_getD_getElem?]
   rw [Array.getElem?_append_left (by rw [hargs.1];exact c)]
  rw [e1]
  exact this.wider fun q hq=>(iy q).2 hq
 ·have:args.getD t .top=.top:=by simp [List.getD_eq_getElem?_getD,List.getElem?_eq_none (Nat.le_of_not_lt c)]
  rw [this]
  exact .top _ _
theorem D6 {H:Hints} {g:FuncId} {df:Ln} (h:BA P H g=some df):∃ fn id ops y o1 o2 c,P.funcs[g]?=some fn∧fn.body=some (.seq (.region id ops false) y)∧fn.results.toList=[]∧ops.toList=[o1,o2] ∧
  o1.dst=some df.d1∧o1.guard=none∧o1.op=.call c∧c.callee=.builtin .recover∧c.args.toList=[]∧o2.dst=some df.d2∧o2.guard=none∧o2.op=.assign (.tmp df.d1)∧df.d1 < fn.ntmps∧df.d2 < fn.ntmps ∧
  (fn.name == "runtime.NumGoroutine") = false ∧ df.rest = cP P H g fn.ntmps y ∧ df.nt = fn.ntmps := by
 unfold BA at h
 split at h
 ·cases h
 ·rename_i fn hfn
  split at h
  ·rename_i id ops y hbody hres
   split at h
   ·rename_i o1 o2 Bc
    split at h
    ·rename_i d1 c d2 d h1 h2 h3 h4 h5 h6
     split at h
     ·rename_i h7 h8
      split at h
      ·rename_i hc
       obtain ⟨rfl,hc1,hc2,hc3⟩:=hc
       injection h with h
       subst h
       exact ⟨fn,id,ops,y,o1,o2,c,hfn,hbody,hres,Bc,h1,h2,h3,h7,h8,h4,h5,h6,hc1,hc2,hc3,rfl,rfl⟩
      ·cases h
     ·cases h
    ·cases h
   ·cases h
  ·cases h
theorem PE {O:Orc} (hO:bX P O) {H:Hints} (hL:eV P H O) {K:Cfg} (hK:K.dfn=BA P H) {g:FuncId} {cap:List AV} {pv:Option AV} {h h2:aj} (he:mJ K O g cap pv h=some h2)
  {w:World} {G:Gm} {xs:Array Value} (s:Sim w G h) (hargs:bD w G (dom h) cap xs) {u:FrameMode}
  (hu:(pv=none∧u=.returning)∨∃ v x,pv=some v∧az w G (dom h) v x∧u=.panicking [{ v:=x,recovered:=false }]) :
  (∀ w,(callFunc g xs).run P w=.ok (.enter g xs) w) ∧
  CallsD P g xs u w (fun e u' w'=>∃ G',Sim w' G' h2∧aH w G h w' G' h2∧(∃ v,e=.returned v)∧settle u'=.returning):=by
 unfold mJ at he
 rw [hK] at he
 cases hdf:BA P H g with
 | none=>rw [hdf] at he;cases he
 | some df=>
  rw [hdf] at he
  simp only at he
  obtain ⟨fn,id,ops,y,o1,o2,c,hfn,hbody,hres,Bc,h1,h2',h3,h4,h5,h6,h7,h8,hd1,hd2,hnm,tS,hnt⟩:=D6 hdf
  split at he
  case isFalse=>cases he
  rename_i hle
  refine ⟨fun w=>?_,callsD_of_wpS hfn hbody fun c₀ cs hc=>?_⟩
  ·unfold callFunc
   simp only [Sem.run_bind,run_program,Result.andThen_ok,hfn]
   rw [hnm]
   simp [hbody]
  ·have hN:(xs++Array.replicate (fn.ntmps - xs.size) undef).size=fn.ntmps:=by
    have:=hargs.1
    rw [hnt] at hle
    simp;omega
   obtain ⟨rv,cs1,PF,hrv,aS⟩:∃ rv cs1,(match recoverD (c₀ :: cs) with | some (v,cs')=>(v,cs') | none=>(Value.nilIface,c₀ :: cs))=(rv,cs1)∧az w G (dom ([] :: h)) (pv.getD .cN) rv ∧
     ∃ u',cs1={ c₀ with mode:=u' } :: cs∧settle u'=.returning:=by
    rcases hu with ⟨rfl,rfl⟩ | ⟨v,x,rfl,hx,rfl⟩
    ·refine ⟨.nilIface,c₀ :: cs,by simp [recoverD,hc],.cN _,.returning,?_,rfl⟩
     cases c₀;simp_all
    ·refine ⟨x,{ c₀ with mode:=.panicking [{ v:=x,recovered:=true }] } :: cs,by simp [recoverD,hc],?_,_,rfl,rfl⟩
     exact hx.wider fun q hq=>(iy q).2 hq
   obtain ⟨u',UH,aS⟩:=aS
   have hsz:ops.size=2:=by rw [<-Array.length_toList,Bc];rfl
   have WJ:ops[0]?=some o1:=by rw [<-Array.getElem?_toList,Bc];rfl
   have WK:ops[1]?=some o2:=by rw [<-Array.getElem?_toList,Bc];rfl
   have hA:c.args=#[]:=by rw [<-Array.toArray_toList (xs:=c.args),h5]
   have WL:List.range ops.size=[0,1]:=by rw [hsz];rfl
   refine wpS_seq (wpS_region ?_)
   rw [WL]
   generalize hR:(fun (e:Ending) (u':FrameMode) (w':World)=>∃ G',Sim w' G' h2∧aH w G h w' G' h2∧(∃ v,e=.returned v)∧settle u'=.returning)=R
   have r0:=CS (D:=[]) hargs fn.ntmps
   generalize ha:({ tmps:=xs++Array.replicate (fn.ntmps - xs.size) undef,defers:=[] }:Act)=a0 at r0
   have ha1:a0.tmps.size=fn.ntmps:=by rw [<-ha];exact hN
   have ha2:a0.defers=[]:=by rw [<-ha]
   have FI:(execOp a0.eval o1).run P w=.ok .recover w:=by
    simp only [execOp,h3,resolve,h4,hA,List.map_toArray,List.map_nil,Sem.run_bind,Sem.run_pure,Result.andThen_ok,invoke]
    rfl
   have last:∀ cs',cs'=cs1->wpOpsS P ops (Exit.thenS (y.wpS P (bodyPostS P fn c₀ cs R)) (bodyPostS P fn c₀ cs R)) [1] (a0.put o1.dst rv) cs' w:=by
    rintro cs' rfl
    have WM:df.d1 < a0.tmps.size:=by omega
    have hev:(a0.put o1.dst rv).eval (.tmp df.d1)=rv:=by rw [h1];simp [Act.put,Act.eval,WM]
    have UI:(execOp (a0.put o1.dst rv).eval o2).run P w=.ok (.value rv) w:=by
     simp only [execOp,h8,hev,Sem.run_pure]
    simp only [wpOpsS,WK]
    rw [if_pos (by unfold Region.wanted;rw [h7])]
    rw [UI]
    simp only [Oper.upon_value,Exit.thenS]
    refine wpS_of_wp ?_
    have r2:aD w G (dom ([] :: h)) (set (set (cQ 0 cap) df.d1 (pv.getD .cN)) df.d2 (pv.getD .cN)) ((a0.put o1.dst rv).put o2.dst rv):=by
     rw [h1,h6]
     exact (r0.JI (d:=some df.d1) hrv (by simp [inN,ha1,hd1])).JI (d:=some df.d2) hrv (by simp [inN,Act.put,ha1,hd2])
    have UJ:((a0.put o1.dst rv).put o2.dst rv).tmps.size=fn.ntmps:=by rw [mQ,mQ,ha1]
    have UK:((a0.put o1.dst rv).put o2.dst rv).defers=[]:=by rw [put_defers,put_defers,ha2]
    have FH:=jh hO hL (K:=K) (f:=g) (N:=fn.ntmps) (D:=[]) y { env:=set (set (cQ 0 cap) df.d1 (pv.getD .cN)) df.d2 (pv.getD .cN),h:=[] :: h }
    have res:∀ (tmps:Array Value) (w':World),∃ v,(results fn tmps).run P w'=.ok v w':=fun tmps w'=>by
     have:=mS (P:=P) (fn:=fn) (tmps:=tmps) (w:=w') (xs:=[]) (by rw [hres];rfl)
     exact ⟨_,this⟩
    rw [tS] at he
    split at he
    ·rename_i st hst
     refine wp_mono (FH _ _ hst w G ([] :: h) w G _ (aH.refl _ _ _) s.push (by simp) r2 UJ UK) fun e a' w' p=>?_
     obtain ⟨G',q1,q2,q3,q4,q5,rfl⟩:=p
     split at he
     ·rename_i v' h' D7
      injection he with he;subst he
      obtain ⟨G2,l1,l2,_⟩:=Bd q1 q2 (x:=.tuple #[]) (.tup _ _ _ rfl fun i hi=>by simp at hi) D7
      obtain ⟨v,hv⟩:=res a'.tmps w'
      refine ⟨q5,u',UH,v,hv,?_⟩
      rw [<-hR]
      exact ⟨G2,l1,l2,⟨v,rfl⟩,aS⟩
     ·cases he
    ·rename_i st hst
     refine wp_mono (FH _ _ hst w G ([] :: h) w G _ (aH.refl _ _ _) s.push (by simp) r2 UJ UK) fun e a' w' p=>?_
     obtain ⟨G',q1,q2,q3,q4,q5,rfl⟩:=p
     split at he
     ·rename_i v' h' D7
      injection he with he;subst he
      obtain ⟨G2,l1,l2,_⟩:=Bd q1 q2 (x:=.tuple #[]) (.tup _ _ _ rfl fun i hi=>by simp at hi) D7
      obtain ⟨v,hv⟩:=res a'.tmps w'
      refine ⟨q5,u',UH,v,hv,?_⟩
      rw [<-hR]
      exact ⟨G2,l1,l2,⟨v,rfl⟩,aS⟩
     ·cases he
    ·cases he
   rw [wpOpsS]
   simp only [WJ]
   rw [if_pos (by unfold Region.wanted;rw [h2'])]
   rw [FI]
   simp only
   split at PF
   ·rename_i v cs' hrc
    injection PF with e1 e2
    subst e1
    rw [hrc]
    exact last _ e2
   ·rename_i hrc
    injection PF with e1 e2
    subst e1
    rw [hrc]
    exact last _ e2
theorem Hj {g:FuncId} {va:Array Value} {w:World} (h:(callFunc g va).run P w=.ok (.enter g va) w):(invoke (.fn (.func g) va) #[]).run P w=.ok (.enter g va) w:=by
 simpa [invoke] using h
theorem sV {N:Nat} {w0:World} {G0:Gm} {h0:aj} {w:World} {G:Gm} {s:St} {a:Act} (sm:Sim w G s.h) (g:aH w0 G0 ([] :: h0) w G s.h) (r:aD w G (dom s.h) s.env a) {fn:Func} {cr:List gG}
  (hcr:Be P N fn.results.toList=some cr) {kk:Bool} {out:Out} (he:finish (CL kk cr) s=some out):∃ v,(results fn a.tmps).run P w=.ok v w∧dz w0 G0 h0 out (.returned v) w:=by
 unfold finish at he
 split at he
 ·rename_i v hv
  split at he
  ·rename_i v' h' D7
   injection he with he;subst he
   rw [D8] at hv
   obtain ⟨x,k1,k2⟩:=JS sm r hcr hv
   obtain ⟨G2,l1,l2,l3⟩:=My sm g k2 D7
   exact ⟨x,k1,G2,l1,l2,x,rfl,l3⟩
  ·cases he
 ·cases he
theorem Bf {O:Orc} (hO:bX P O) {H:Hints} (hL:eV P H O) {K:Cfg} (hK:K.fns=HG P H) (hKd:K.dfn=BA P H)
  (hX:∀ f args h out,K.X f args h=some out->dj P f∧∀ (w:World) (G:Gm) (xs:Array Value),Sim w G h->bD w G (dom h) args xs->Calls P f xs w (dz w G h out)):bX P (step K O):=by
 intro f args h out he
 simp only [step,fm] at he
 split at he
 ·rename_i r hr
  injection he with he;subst he
  exact hX f args h _ hr
 ·rw [hK] at he
  split at he
  ·cases he
  ·rename_i cf hcf
   unfold HG at hcf
   split at hcf
   ·cases hcf
   ·rename_i fn hfn
    split at hcf
    ·rename_i c cr hbody hcr
     split at hcf
     ·cases hcf
     ·rename_i hname
      injection hcf with hcf
      subst hcf
      refine ⟨fun xs w=>?_,fun w G xs s hargs=>?_⟩
      ·unfold callFunc
       simp only [Sem.run_bind,run_program,Result.andThen_ok,hfn]
       rw [if_neg hname]
       simp [hbody]
      ·simp only at he
       generalize hbd:(if H.dfr f=true then lJ P H f fn.ntmps c else CB.code (cP P H f fn.ntmps c))=bd at he
       split at he
       case isFalse=>cases he
       rename_i hle
       have hN:(xs++Array.replicate (fn.ntmps - xs.size) undef).size=fn.ntmps:=by
        have:=hargs.1
        simp;omega
       have r0:=CS (D:=[]) hargs fn.ntmps
       refine calls_of_wp_defers hfn hbody ?_
       have body:∀ ex st dv,evB K O bd { env:=cQ 0 args,h:=[] :: h }=some (ex,st,dv) ->
         c.wp P (ow fn.ntmps w G ([] :: h) ex st dv) { tmps:=xs++Array.replicate (fn.ntmps - xs.size) undef,defers:=[] } w:=fun ex st dv hb=>by
        rw [<-hbd] at hb
        split at hb
        ·exact CR hO hL c _ ex st dv hb w G ([] :: h) w G _ (aH.refl _ _ _) s.push (by simp) r0 hN rfl
        ·exact cG hO hL hb (aH.refl _ _ _) s.push (by simp) r0 hN rfl
       have deferred:∀ {gid:FuncId} {cap:List AV} {pv:Option AV} {st:St} {w1:World} {G1:Gm} {a1:Act} {u:FrameMode},qF K O (CL (H.kept f) cr) gid cap pv st=some out->Sim w1 G1 st.h->aH w G ([] :: h) w1 G1 st.h->aD w1 G1 (dom st.h) st.env a1 ->
         wK w1 G1 (dom st.h) (some (gid,cap)) a1.defers->((pv=none∧u=.returning)∨∃ v x,pv=some v∧az w1 G1 (dom st.h) v x∧u=.panicking [{ v:=x,recovered:=false }]) ->
         Leaves P fn a1.tmps (dz w G h out) a1.defers u w1:=fun {gid cap pv st w1 G1 a1 u} hf q1 q2 q3 q6 hu=>by
        unfold qF at hf
        split at hf
        ·rename_i h2 WN
         obtain ⟨va,hva,hds⟩:=q6
         rw [hds]
         obtain ⟨k1,k2⟩:=PE hO hL hKd WN q1 hva hu
         refine ⟨by rcases hu with ⟨_,rfl⟩ | ⟨_,_,_,_,rfl⟩<;>simp,.func gid,va,gid,va,rfl,Hj (k1 w1),CallsD.mono' k2 ?_⟩
         rintro e u' w' ⟨G',l1,l2,⟨v,rfl⟩,aS⟩
         simp only
         rw [aS]
         obtain ⟨x,m1,m2⟩:=sV (s:={ st with h:=h2 }) l1 (q2.trans l2) (q3.along l2) hcr hf
         exact ⟨x,m1,m2⟩
        ·cases hf
       split at he
       ·rename_i st hst
        refine wp_mono (body _ _ _ hst) fun e a' w' p=>?_
        obtain ⟨G',q1,q2,q3,q4,rfl,q6⟩:=p
        obtain ⟨v,k1,k2⟩:=sV q1 q2 q3 hcr he
        simp only [wK] at q6
        simp only [bodyPostD,q6]
        exact ⟨v,k1,k2⟩
       ·rename_i st hst
        refine wp_mono (body _ _ _ hst) fun e a' w' p=>?_
        obtain ⟨G',q1,q2,q3,q4,rfl,q6⟩:=p
        obtain ⟨v,k1,k2⟩:=sV q1 q2 q3 hcr he
        simp only [wK] at q6
        simp only [bodyPostD,q6]
        exact ⟨v,k1,k2⟩
       ·rename_i v st hst
        refine wp_mono (body _ _ _ hst) fun e a' w' p=>?_
        obtain ⟨G',q1,q2,q3,q4,⟨x,rfl,hvx⟩,q6⟩:=p
        split at he
        ·rename_i v' h' D7
         injection he with he;subst he
         obtain ⟨G2,l1,l2,l3⟩:=Bd q1 q2 hvx D7
         simp only [wK] at q6
         simp only [bodyPostD,q6]
         exact ⟨G2,l1,l2,x,rfl,l3⟩
        ·cases he
       ·rename_i st gid cap hst
        refine wp_mono (body _ _ _ hst) fun e a' w' p=>?_
        obtain ⟨G',q1,q2,q3,q4,rfl,q6⟩:=p
        simp only [bodyPostD]
        exact deferred he q1 q2 q3 q6 (.inl ⟨rfl,rfl⟩)
       ·rename_i st gid cap hst
        refine wp_mono (body _ _ _ hst) fun e a' w' p=>?_
        obtain ⟨G',q1,q2,q3,q4,rfl,q6⟩:=p
        simp only [bodyPostD]
        exact deferred he q1 q2 q3 q6 (.inl ⟨rfl,rfl⟩)
       ·rename_i v st gid cap hst
        refine wp_mono (body _ _ _ hst) fun e a' w' p=>?_
        obtain ⟨G',q1,q2,q3,q4,⟨x,rfl,hvx⟩,q6⟩:=p
        simp only [bodyPostD]
        exact deferred he q1 q2 q3 q6 (.inr ⟨v,x,rfl,hvx,rfl⟩)
       ·cases he
    ·cases hcf
/- The evaluator grows with its oracle. -/
structure Orc.le (O O':Orc):Prop where
 fn:∀ f a h r,O.fn f a h=some r->O'.fn f a h=some r
 code:∀ c s r,O.code c s=some r->O'.code c s=some r
theorem qV {K:Cfg} {O O':Orc} (hl:O.le O') {o:MOp} {e:Env} {h:aj} {r:Out} (he:evM K O o e h=some r):evM K O' o e h=some r:=by
 cases o with
 | call f args=>
  simp only [evM] at he ⊢
  split at he
  ·split at he
   ·exact hl.fn _ _ _ _ he
   ·cases he
  ·cases he
 | inv tbl x args=>
  simp only [evM] at he ⊢
  split at he
  ·split at he
   ·split at he
    ·exact hl.fn _ _ _ _ he
    ·cases he
   ·cases he
  ·cases he
 | _=>exact he
theorem lK {K:Cfg} {O O':Orc} (hl:O.le O'):∀ (l:List CO) (s:St) (r:Ex×St),cI K O l s=some r->cI K O' l s=some r
 | [],s,r,he=>he
 | o :: l,s,r,he=>by
  simp only [cI] at he ⊢
  split at he
  ·cases he
  ·exact lK hl l _ r he
  ·split at he
   ·split at he
    ·exact lK hl l _ r he
    ·cases he
   ·split at he
    ·rename_i v h hev
     rw [qV hl hev]
     exact lK hl l _ r he
    ·rename_i v h hev
     rw [qV hl hev]
     exact he
    ·cases he
   ·cases he
theorem mT {K:Cfg} {O O':Orc} (hl:O.le O'):∀ (l:List DO) (pd:pe) (s:St) (r:Ex×St),evD K O l pd s=some r->evD K O' l pd s=some r
 | [],pd,s,r,he=>he
 | d :: l,pd,s,r,he=>by
  have hq:∀ q e h,evQ K O' q e h=evQ K O q e h:=fun q e h=>JO q e h
  have hr:∀ re pd h,recheck K O' re pd h=recheck K O re pd h:=fun re pd h=>by unfold recheck;simp only [hq]
  simp only [evD,hq,hr] at he ⊢
  split at he
  ·cases he
  ·rename_i hw
   split at he
   ·cases he
   ·rename_i hre
    rw [if_neg hre]
    exact mT hl l pd _ r he
  ·split at he
   ·split at he
    ·exact mT hl l pd _ r he
    ·cases he
   ·split at he
    ·rename_i hqt
     rw [if_pos hqt]
     split at he
     ·exact mT hl l _ _ r he
     ·cases he
    ·rename_i hqt
     rw [if_neg hqt]
     split at he
     ·rename_i v h hev
      rw [qV hl hev]
      simp only
      split at he
      ·rename_i hrc
       rw [if_pos hrc]
       exact mT hl l pd _ r he
      ·cases he
     ·rename_i v h hev
      rw [qV hl hev]
      exact he
     ·cases he
   ·cases he
theorem cM {K:Cfg} {O O':Orc} (hl:O.le O'):∀ (c:CC) (s:St) (r:Ex×St),evC K O c s=some r->evC K O' c s=some r
 | .skip,s,r,he=>he
 | .reg ops,s,r,he=>lK hl ops s r he
 | .draw ds,s,r,he=>mT hl ds [] s r he
 | .seq a b,s,r,he=>by
  simp only [evC] at he ⊢
  split at he
  ·rename_i s1 h1
   rw [cM hl a s _ h1]
   exact cM hl b s1 r he
  ·rename_i hnn
   rw [cM hl a s r he]
   split
   ·rename_i s1 h1
    injection h1 with h1
    exact absurd (h1▸he) (hnn s1)
   ·rfl
 | .cond x a b,s,r,he=>by
  simp only [evC] at he ⊢
  split at he
  ·rename_i t ht
   cases t with
   | true=>simp only [if_true] at he ⊢;exact cM hl a s r he
   | false=>simp only [Bool.false_eq_true,if_false] at he ⊢;exact cM hl b s r he
  ·cases he
 | .block id a,s,r,he=>by
  simp only [evC] at he ⊢
  split at he
  ·rename_i j s1 h1
   rw [cM hl a s _ h1]
   exact he
  ·rename_i hnn
   rw [cM hl a s r he]
   split
   ·rename_i j s1 h1
    injection h1 with h1
    exact absurd (h1▸he) (hnn j s1)
   ·rfl
 | .loop live a,s,r,he=>by
  simp only [evC] at he ⊢
  exact hl.code _ _ _ he
 | .ak n live a,s,r,he=>by
  simp only [evC] at he ⊢
  split at he
  ·rename_i s1 h1
   rw [cM hl a s _ h1]
   simp only
   split at he
   ·exact hl.code _ _ _ he
   ·cases he
  ·rename_i hnn
   rw [cM hl a s r he]
   split
   ·rename_i s1 h1
    injection h1 with h1
    exact absurd (h1▸he) (hnn s1)
   ·rfl
 | .exit id,s,r,he=>he
 | .ret,s,r,he=>he
 | .scope a,s,r,he=>by
  simp only [evC] at he ⊢
  exact cM hl a s r he
 | .bad,s,r,he=>he
theorem ji {K:Cfg} {O O':Orc} (hl:O.le O'):∀ (b:CB) (s:St) (r:Ex×St×Option (FuncId×List AV)),evB K O b s=some r->evB K O' b s=some r
 | .code c,s,r,he=>by
  simp only [evB] at he ⊢
  split at he
  ·rename_i ex s' h1
   rw [cM hl c s _ h1]
   exact he
  ·cases he
 | .seq c b,s,r,he=>by
  simp only [evB] at he ⊢
  split at he
  ·rename_i s1 h1
   rw [cM hl c s _ h1]
   exact ji hl b s1 r he
  ·rename_i ex s1 hn h1
   rw [cM hl c s _ h1]
   cases ex with
   | norm=>exact absurd rfl hn
   | _=>exact he
  ·cases he
 | .dfr d q c,s,r,he=>by
  simp only [evB] at he ⊢
  split at he
  ·split at he
   ·rename_i ex s' h1
    rw [cM hl c _ _ h1]
    exact he
   ·cases he
  ·cases he
theorem D9 {K:Cfg} {O O':Orc} (hl:O.le O') {g:FuncId} {cap:List AV} {pv:Option AV} {h:aj} {r:aj} (he:mJ K O g cap pv h=some r):mJ K O' g cap pv h=some r:=by
 unfold mJ at he ⊢
 split at he
 ·cases he
 ·split at he
  ·rename_i hle
   rw [if_pos hle]
   split at he
   ·rename_i s h1
    rw [cM hl _ _ _ h1]
    exact he
   ·rename_i s h1
    rw [cM hl _ _ _ h1]
    exact he
   ·cases he
  ·cases he
theorem sW {K:Cfg} {O O':Orc} (hl:O.le O') {rs:List gG} {g:FuncId} {cap:List AV} {pv:Option AV} {s:St} {r:Out} (he:qF K O rs g cap pv s=some r):qF K O' rs g cap pv s=some r:=by
 unfold qF at he ⊢
 split at he
 ·rename_i h2 h1
  rw [D9 hl h1]
  exact he
 ·cases he
theorem gi {K:Cfg} {O O':Orc} (hl:O.le O'):(step K O).le (step K O'):=by
 refine ⟨fun f a h r he=>?_,fun c s r he=>cM hl c s r he⟩
 simp only [step,fm] at he ⊢
 split at he
 ·exact he
 ·split at he
  ·cases he
  ·split at he
   ·rename_i hle
    rw [if_pos hle]
    split at he
    ·rename_i s hs
     rw [ji hl _ _ _ hs]
     exact he
    ·rename_i s hs
     rw [ji hl _ _ _ hs]
     exact he
    ·rename_i v s hs
     rw [ji hl _ _ _ hs]
     exact he
    ·rename_i s g cap hs
     rw [ji hl _ _ _ hs]
     exact sW hl he
    ·rename_i s g cap hs
     rw [ji hl _ _ _ hs]
     exact sW hl he
    ·rename_i v s g cap hs
     rw [ji hl _ _ _ hs]
     exact sW hl he
    ·cases he
   ·cases he
end Go.Ab
/-
  The least evaluator that is its own step: 'mu'. Its equations;it is sound;what runs with fuel is its word.
-/
namespace Go.Ab
structure Rl where
 fn:FuncId->List AV->aj->Out->Prop
 code:CC->St->Ex×St->Prop
structure Orc.sub (O:Orc) (R:Rl):Prop where
 fn:∀ f a h r,O.fn f a h=some r->R.fn f a h r
 code:∀ c s r,O.code c s=some r->R.code c s r
def qW (K:Cfg) (R:Rl):Rl where
 fn f a h r:=∃ O:Orc,O.sub R∧(step K O).fn f a h=some r
 code c s r:=∃ O:Orc,O.sub R∧(step K O).code c s=some r
structure Rl.le (R S:Rl):Prop where
 fn:∀ f a h r,R.fn f a h r->S.fn f a h r
 code:∀ c s r,R.code c s r->S.code c s r
theorem Orc.sub.le {O:Orc} {R S:Rl} (h:O.sub R) (k:R.le S):O.sub S:=⟨fun f a g r e=>k.fn _ _ _ _ (h.fn _ _ _ _ e),fun c s r e=>k.code _ _ _ (h.code _ _ _ e)⟩
theorem jj {K:Cfg} {R S:Rl} (k:R.le S):(qW K R).le (qW K S):=
 ⟨fun _ _ _ _ ⟨O,h,e⟩=>⟨O,h.le k,e⟩,fun _ _ _ ⟨O,h,e⟩=>⟨O,h.le k,e⟩⟩
def muR (K:Cfg):Rl where
 fn f a h r:=∀ R:Rl,(qW K R).le R->R.fn f a h r
 code c s r:=∀ R:Rl,(qW K R).le R->R.code c s r
theorem kR {K:Cfg} {R:Rl} (h:(qW K R).le R):(muR K).le R:=⟨fun _ _ _ _ k=>k R h,fun _ _ _ k=>k R h⟩
theorem iH (K:Cfg):(qW K (muR K)).le (muR K):=
 ⟨fun f a h r k R hR=>hR.fn _ _ _ _ ((jj (kR hR)).fn _ _ _ _ k),fun c s r k R hR=>hR.code _ _ _ ((jj (kR hR)).code _ _ _ k)⟩
theorem qX (K:Cfg):(muR K).le (qW K (muR K)):=kR (jj (iH K))
theorem pz {K:Cfg} {R:Rl} (h:(qW K ⟨fun f a g r=>(muR K).fn f a g r∧R.fn f a g r,fun c s r=>(muR K).code c s r∧R.code c s r⟩).le R):(muR K).le R:=by
 have hsub:Rl.le ⟨fun f a g r=>(muR K).fn f a g r∧R.fn f a g r,fun c s r=>(muR K).code c s r∧R.code c s r⟩ (muR K):=⟨fun _ _ _ _ e=>e.1,fun _ _ _ e=>e.1⟩
 have key:(qW K ⟨fun f a g r=>(muR K).fn f a g r∧R.fn f a g r,fun c s r=>(muR K).code c s r∧R.code c s r⟩).le ⟨fun f a g r=>(muR K).fn f a g r∧R.fn f a g r,fun c s r=>(muR K).code c s r∧R.code c s r⟩:=
  ⟨fun f a g r k=>⟨(iH K).fn _ _ _ _ ((jj hsub).fn _ _ _ _ k),h.fn _ _ _ _ k⟩,fun c s r k=>⟨(iH K).code _ _ _ ((jj hsub).code _ _ _ k),h.code _ _ _ k⟩⟩
 exact ⟨fun f a g r k=>((kR key).fn _ _ _ _ k).2,fun c s r k=>((kR key).code _ _ _ k).2⟩
theorem joined {O O':Orc} (h:∀ f a g r r',O.fn f a g=some r->O'.fn f a g=some r'->r=r') (k:∀ c s r r',O.code c s=some r->O'.code c s=some r'->r=r'):∃ J:Orc,O.le J∧O'.le J:=by
 refine ⟨⟨fun f a g=>(O.fn f a g).or (O'.fn f a g),fun c s=>(O.code c s).or (O'.code c s)⟩,⟨fun f a g r e=>by simp [e],fun c s r e=>by simp [e]⟩,⟨fun f a g r e=>?_,fun c s r e=>?_⟩⟩
 ·cases e1:O.fn f a g with
  | none=>simp [e1,e]
  | some q=>simp [e1,h f a g q r e1 e]
 ·cases e1:O.code c s with
  | none=>simp [e1,e]
  | some q=>simp [e1,k c s q r e1 e]
theorem FL (K:Cfg):(muR K).le ⟨fun f a g r=>∀ r',(muR K).fn f a g r'->r=r',fun c s r=>∀ r',(muR K).code c s r'->r=r'⟩:=by
 refine pz ⟨fun f a g r k r' h'=>?_,fun c s r k r' h'=>?_⟩
 ·obtain ⟨O,hO,e⟩:=k
  obtain ⟨O',hO',e'⟩:=(qX K).fn _ _ _ _ h'
  obtain ⟨J,j1,j2⟩:=joined (O:=O) (O':=O') (fun f a g r r' q q'=>(hO.fn _ _ _ _ q).2 r' (hO'.fn _ _ _ _ q')) (fun c s r r' q q'=>(hO.code _ _ _ q).2 r' (hO'.code _ _ _ q'))
  have e1:=(gi (K:=K) j1).fn _ _ _ _ e
  have e2:=(gi (K:=K) j2).fn _ _ _ _ e'
  rw [e1] at e2
  injection e2
 ·obtain ⟨O,hO,e⟩:=k
  obtain ⟨O',hO',e'⟩:=(qX K).code _ _ _ h'
  obtain ⟨J,j1,j2⟩:=joined (O:=O) (O':=O') (fun f a g r r' q q'=>(hO.fn _ _ _ _ q).2 r' (hO'.fn _ _ _ _ q')) (fun c s r r' q q'=>(hO.code _ _ _ q).2 r' (hO'.code _ _ _ q'))
  have e1:=(gi (K:=K) j1).code _ _ _ e
  have e2:=(gi (K:=K) j2).code _ _ _ e'
  rw [e1] at e2
  injection e2
open Classical in
noncomputable def mu (K:Cfg):Orc where
 fn f a h:=if k:∃ r,(muR K).fn f a h r then some (Classical.choose k) else none
 code c s:=if k:∃ r,(muR K).code c s r then some (Classical.choose k) else none
theorem tJ {K:Cfg} {f:FuncId} {a:List AV} {h:aj} {r:Out}:(mu K).fn f a h=some r↔(muR K).fn f a h r:=by
 constructor
 ·intro e
  unfold mu at e
  simp only at e
  split at e
  ·rename_i k
   injection e with e
   rw [<-e]
   exact Classical.choose_spec k
  ·cases e
 ·intro e
  unfold mu
  simp only
  have k:∃ r,(muR K).fn f a h r:=⟨r,e⟩
  rw [dif_pos k,(FL K).fn _ _ _ _ (Classical.choose_spec k) r e]
theorem lE {K:Cfg} {c:CC} {s:St} {r:Ex×St}:(mu K).code c s=some r↔(muR K).code c s r:=by
 constructor
 ·intro e
  unfold mu at e
  simp only at e
  split at e
  ·rename_i k
   injection e with e
   rw [<-e]
   exact Classical.choose_spec k
  ·cases e
 ·intro e
  unfold mu
  simp only
  have k:∃ r,(muR K).code c s r:=⟨r,e⟩
  rw [dif_pos k,(FL K).code _ _ _ (Classical.choose_spec k) r e]
theorem JT (K:Cfg):(mu K).sub (muR K):=⟨fun _ _ _ _ e=>tJ.1 e,fun _ _ _ e=>lE.1 e⟩
theorem JU {K:Cfg} {O:Orc} (h:O.sub (muR K)):O.le (mu K):=⟨fun _ _ _ _ e=>tJ.2 (h.fn _ _ _ _ e),fun _ _ _ e=>lE.2 (h.code _ _ _ e)⟩
theorem dy (K:Cfg) (f:FuncId) (a:List AV) (h:aj):(mu K).fn f a h=(step K (mu K)).fn f a h:=by
 apply Option.ext
 intro r
 constructor
 ·intro e
  obtain ⟨O,hO,e'⟩:=(qX K).fn _ _ _ _ (tJ.1 e)
  exact (gi (JU hO)).fn _ _ _ _ e'
 ·intro e
  exact tJ.2 ((iH K).fn _ _ _ _ ⟨mu K,JT K,e⟩)
theorem qY (K:Cfg) (c:CC) (s:St):(mu K).code c s=(step K (mu K)).code c s:=by
 apply Option.ext
 intro r
 constructor
 ·intro e
  obtain ⟨O,hO,e'⟩:=(qX K).code _ _ _ (lE.1 e)
  exact (gi (JU hO)).code _ _ _ e'
 ·intro e
  exact lE.2 ((iH K).code _ _ _ ⟨mu K,JT K,e⟩)
theorem oY (K:Cfg):∀ n,(evF K n).le (mu K)
 | 0=>⟨fun _ _ _ _ e=>by simp [evF] at e,fun _ _ _ e=>by simp [evF] at e⟩
 | n+1=>⟨fun f a h r e=>by rw [dy];exact (gi (oY K n)).fn _ _ _ _ e,fun c s r e=>by rw [qY];exact (gi (oY K n)).code _ _ _ e⟩
theorem uJ {P:Program} {H:Hints} {K:Cfg} (hK:K.fns=HG P H) (hKd:K.dfn=BA P H)
  (hX:∀ f args h out,K.X f args h=some out->dj P f∧∀ (w:World) (G:Gm) (xs:Array Value),Sim w G h->bD w G (dom h) args xs->Calls P f xs w (dz w G h out)) :
  bX P (mu K)∧eV P H (mu K):=by
 have key:(muR K).le ⟨fun f args h out=>dj P f∧∀ (w:World) (G:Gm) (xs:Array Value),Sim w G h->bD w G (dom h) args xs->Calls P f xs w (dz w G h out),
   fun cc st r=>∀ (f:FuncId) (N:Nat) (D:List Deferred) (c:Code) (n:Nat) (live:List Nat),cc=.ak n live (cP P H f N c) ->
    ∀ (w0:World) (G0:Gm) (h0:aj) (w:World) (G:Gm) (a:Act),aH w0 G0 h0 w G st.h->Sim w G st.h->st.h≠[]->aD w G (dom st.h) st.env a->a.tmps.size=N->a.defers=D->hlen h0<=n ->
     CT P c (Post N D w0 G0 h0 r.1 r.2) a w⟩:=by
  refine pz ⟨fun f a h r k=>?_,fun cc st r k=>?_⟩
  ·obtain ⟨O,hO,e⟩:=k
   exact Bf (fun f a h r e=>(hO.fn _ _ _ _ e).2) (H:=H) (fun f N D c n live st ex st' e=>(hO.code _ _ _ e).2 f N D c n live rfl) hK hKd hX f a h r e
  ·obtain ⟨O,hO,e⟩:=k
   intro f N D c n live hcc
   subst hcc
   exact wL (fun f a h r e=>(hO.fn _ _ _ _ e).2) (H:=H) (fun f N D c n live st ex st' e=>(hO.code _ _ _ e).2 f N D c n live rfl) K f N D c n live st r.1 r.2 e
 exact ⟨fun f a h r e=>key.fn _ _ _ _ (tJ.1 e),fun f N D c n live st ex st' e=>key.code _ _ _ (lE.1 e) f N D c n live rfl⟩
end Go.Ab
